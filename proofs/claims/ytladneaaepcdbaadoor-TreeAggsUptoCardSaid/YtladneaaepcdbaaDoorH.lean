/- spoil: what it writes are rows that were made, and they stay trees. -/
import Derived.Test.YtladneaaepcdbaaDoorB
import Derived.Test.YtladneaaepcdbaaDoorQ
import Derived.Deep.RegionWith
import Derived.OrdersHeld
namespace Go.Proofs.YtladneaaepcdbaaDoor.H
open Go.RowKit Go.Proofs.YtladneaaepcdbaaDoorW.PrintWords Go.Proofs.YtladneaaepcdbaaDoorW.PrintLast Go.Proofs.YtladneaaepcdbaaDoorW.PrintMore
open Go.Proofs.YtladneaaepcdbaaDoor.PTree Go.Proofs.YtladneaaepcdbaaDoor.B
set_option linter.unusedVariables false
set_option linter.unusedSimpArgs false

/-- Cells that are a tree of depth at most d, its rows between base and N. -/
def T (base N : Nat) : Nat → World → List Value → Prop
  | 0, _, cs => ∃ a b c e A cp, cs = [.int .i64 a, .string b, .int .i64 c, .int .i64 e, .slice A 0 cp]
  | d + 1, W, cs => ∃ a b c e A n cp, cs = [.int .i64 a, .string b, .int .i64 c, .int .i64 e, .slice A n cp] ∧ (0 < n → n ≤ 1152921504606846976 ∧ ∃ g cells, A = some ⟨g, 0, none⟩ ∧ base ≤ g ∧ g < N ∧ W.heap[g]? = some (.cells cells 24 (0, 0)) ∧ n * 5 ≤ cells.size ∧
      ∀ i, i < n → T base N d W ((cells.toList.drop (i * 5)).take 5))

theorem T.same {base N : Nat} {W W' : World} (h : ∀ g, base ≤ g → g < N → W'.heap[g]? = W.heap[g]?) : ∀ (d : Nat) (cs : List Value), T base N d W cs → T base N d W' cs
  | 0, _, h0 => h0
  | d + 1, cs, ⟨a, b, c, e, A, n, cp, h1, h2⟩ => ⟨a, b, c, e, A, n, cp, h1, fun hn => by
      obtain ⟨hm, g, cells, k1, k2, k3, k4, k5, k6⟩ := h2 hn
      exact ⟨hm, g, cells, k1, k2, k3, (h g k2 k3).trans k4, k5, fun i hi => T.same h d _ (k6 i hi)⟩⟩

structure Eff (base N : Nat) (W W' : World) : Prop where
  os : W'.os = W.os
  tape : W'.tape = W.tape
  output : W'.output = W.output
  size : W.heap.size ≤ W'.heap.size
  block : ∀ i, i < W.heap.size → (i < base ∨ N ≤ i) → W'.heap[i]? = W.heap[i]?
  tree : ∀ d cs, T base N d W cs → T base N d W' cs

theorem Eff.trans {base N : Nat} {A B C : World} (h : Eff base N A B) (k : Eff base N B C) : Eff base N A C :=
  ⟨k.os.trans h.os, k.tape.trans h.tape, k.output.trans h.output, Nat.le_trans h.size k.size, fun i hi hb => (k.block i (Nat.lt_of_lt_of_le hi h.size) hb).trans (h.block i hi hb), fun d cs ht => k.tree d cs (h.tree d cs ht)⟩
theorem Eff.of_below {base N : Nat} {A B : World} (h : Below A.heap.size A B) (hN : N ≤ A.heap.size) : Eff base N A B :=
  ⟨h.os, h.tape, h.output, h.size, fun i hi _ => h.block i hi, fun d cs ht => T.same (fun g _ hg => h.block g (by omega)) d cs ht⟩
theorem Eff.below {base N : Nat} {A B : World} (h : Eff base N A B) {m : Nat} (hm : m ≤ base) (ha : m ≤ A.heap.size) : Below m A B :=
  ⟨h.os, h.tape, h.output, h.size, fun i hi => h.block i (by omega) (.inl (by omega))⟩

theorem seg_same (L leaf : List Value) (i j : Nat) (hl : leaf.length = 5) (hj : j * 5 + 5 ≤ L.length) (h : i = j) : ((L.take (j * 5) ++ leaf ++ L.drop (j * 5 + leaf.length)).drop (i * 5)).take 5 = leaf := by
  subst h
  rw [List.append_assoc, List.drop_append_of_le_length (by simp; omega)]
  rw [List.drop_eq_nil_of_le (by simp; omega), List.nil_append, List.take_append_of_le_length (by omega), List.take_of_length_le (by omega)]
theorem seg_other (L leaf : List Value) (i j : Nat) (hl : leaf.length = 5) (hj : j * 5 + 5 ≤ L.length) (h : i ≠ j) : ((L.take (j * 5) ++ leaf ++ L.drop (j * 5 + leaf.length)).drop (i * 5)).take 5 = (L.drop (i * 5)).take 5 := by
  apply List.ext_getElem?
  intro k
  rw [List.getElem?_take, List.getElem?_take]
  by_cases hk : k < 5
  · rw [if_pos hk, if_pos hk, List.getElem?_drop, List.getElem?_drop, List.append_assoc]
    by_cases h1 : i * 5 + k < j * 5
    · rw [List.getElem?_append_left (by simp; omega), List.getElem?_take, if_pos h1]
    · rw [List.getElem?_append_right (by simp; omega), List.getElem?_append_right (by simp; omega), List.getElem?_drop]
      congr 1
      simp only [List.length_take]
      omega
  · rw [if_neg hk, if_neg hk]

def leafCells (v : Int) : List Value := [.int .i64 v, .string ⟨#[]⟩, .int .i64 0, .int .i64 0, .slice none 0 0]
theorem leaf_T (base N : Nat) (W : World) (v : Int) : ∀ d, T base N d W (leafCells v)
  | 0 => ⟨_, _, _, _, _, _, rfl⟩
  | d + 1 => ⟨_, _, _, _, _, 0, _, rfl, fun h => absurd h (by omega)⟩
theorem eff_store {base N : Nat} {W : World} {g j : Nat} {cells : Array Value} (hb : base ≤ g) (hN : g < N) (v : Int) (hh : W.heap[g]? = some (.cells cells 24 (0, 0))) (hf : j * 5 + 5 ≤ cells.size) : Eff base N W (W.setCells g (j * 5) (leafCells v)) := by
  obtain ⟨cur', h3, h4, h5⟩ := setCells_row (leafCells v) (j * 5) W cells hh (by simpa [leafCells] using hf)
  obtain ⟨s1, s2, s3, s4⟩ := setCells_same g (leafCells v) (j * 5) W
  refine ⟨s1, s2, s3, by rw [s4]; exact Nat.le_refl _, fun i hi hb' => setCells_far _ _ i (by omega), fun d => ?_⟩
  induction d with
  | zero => intro cs h; unfold T at h ⊢; exact h
  | succ d ih =>
    rintro cs ⟨a, b, c, e, A, n, cp, h1, h2⟩
    refine ⟨a, b, c, e, A, n, cp, h1, fun hn => ?_⟩
    obtain ⟨hm, g', cells', k1, k2, k3, k4, k5, k6⟩ := h2 hn
    by_cases hgg : g' = g
    · subst hgg
      rw [hh] at k4
      injection k4 with k4
      injection k4 with k4
      subst k4
      refine ⟨hm, g', cur', k1, k2, k3, h3, by omega, fun i hi => ?_⟩
      rw [h5]
      by_cases hij : i = j
      · rw [seg_same _ _ _ _ rfl (by simpa using hf) hij]
        exact leaf_T _ _ _ _ _
      · rw [seg_other _ _ _ _ rfl (by simpa using hf) hij]
        exact ih _ (k6 i hi)
    · exact ⟨hm, g', cells', k1, k2, k3, (setCells_far _ _ g' hgg).trans k4, k5, fun i hi => ih _ (k6 i hi)⟩

theorem cells_of_seg {W : World} {g m : Nat} {cells : Array Value} {vs : List Value} (hh : W.heap[g]? = some (.cells cells 24 (0, 0))) (h : (cells.toList.drop m).take 5 = vs) : ∀ j u, vs[j]? = some u → W.cell? ⟨g, m + j, none⟩ = some u := by
  intro j u hu
  rw [← h, List.getElem?_take] at hu
  split at hu
  · rw [List.getElem?_drop] at hu
    rw [cell_of_row W g _ cells 24 (0, 0) hh]
    simpa using hu
  · cases hu

theorem store_list {P : Program} {ops : Array Oper} {rest : List Oper} {o : Oper} {a : Act} {Q : Exit → Act → World → Prop} {w w' : World} (t : TypeId) (p x : Operand) (hgd : o.guard = none) (ho : o.op = .store t p x) (hd : o.dst = none) {u v : Value} (hp : a.eval p = u) (hx : a.eval x = v)
    (hrun : (Instr.storeAt t u v).run P w = .ok () w') (h : wpList P ops Q rest a w') : wpList P ops Q (o :: rest) a w := by
  refine wpList_plain hgd fun K hK => ?_
  unfold Oper.wp execOp
  simp only [ho, hp, hx, Sem.run_bind, Sem.run_pure, Result.andThen_ok, hrun]
  have : a.put o.dst undef = a := by rw [hd]; rfl
  rw [← this] at h
  exact hK _ _ h

set_option maxHeartbeats 4000000 in
theorem spoil_calls (base N : Nat) (hbN : base ≤ N) (d : Nat) : ∀ (cs : List Value) (w : World), T base N d w cs → N ≤ w.heap.size →
    Calls Tryd.prog 11 #[.agg cs.toArray] w fun e w' => (∃ v, e = .returned v) ∧ Eff base N w w' := by
  induction d with
  | zero =>
    rintro cs w ⟨a, b, c, e, A, cp, rfl⟩ hN
    go_enter Tryd.func11, Tryd.ntmps11
    go_wp2_with fail
    obtain ⟨w1, hw1⟩ : ∃ w1 : World, w1 = w.alloc (.cells #[.int .i64 a, .string b, .int .i64 c, .int .i64 e, .slice A 0 cp] 24) := ⟨_, rfl⟩
    have hB1 : Below w.heap.size w w1 := by rw [hw1]; exact (Below.refl _ _).alloc (Nat.le_refl _) _
    have hbx1 : w1.heap[w.heap.size]? = some (.cells #[.int .i64 a, .string b, .int .i64 c, .int .i64 e, .slice A 0 cp] 24 (0, 0)) := by rw [hw1]; exact blk_new _ _
    rw [← hw1]
    have HB1 := Aside0.mk (Eff.of_below (base := base) hB1 hN)
    have h4 : w1.cell? ⟨w.heap.size, 4, none⟩ = some (.slice A 0 cp) := (blk_cell hbx1 4).trans rfl
    clear hw1 hB1 hbx1
    go_loopw [2] (fun t2 wr => t2 = .int .i64 0 ∧ wr = w1) (fun t2 _ => 0)
    case atStart => exact ⟨rfl, rfl⟩
    case round =>
      obtain ⟨rfl, rfl⟩ := hrel
      go_wp2_with fail
      go_end0
      exact ⟨⟨_, rfl⟩, HB1.out⟩
  | succ d ih =>
    intro cs w hT hN
    have HT := Aside0.mk hT
    obtain ⟨a, b, c, e, A, n, cp, rfl, _⟩ := hT
    go_enter Tryd.func11, Tryd.ntmps11
    go_wp2_with fail
    obtain ⟨w1, hw1⟩ : ∃ w1 : World, w1 = w.alloc (.cells #[.int .i64 a, .string b, .int .i64 c, .int .i64 e, .slice A n cp] 24) := ⟨_, rfl⟩
    have hB1 : Below w.heap.size w w1 := by rw [hw1]; exact (Below.refl _ _).alloc (Nat.le_refl _) _
    have hbx1 : w1.heap[w.heap.size]? = some (.cells #[.int .i64 a, .string b, .int .i64 c, .int .i64 e, .slice A n cp] 24 (0, 0)) := by rw [hw1]; exact blk_new _ _
    have hs1 : w1.heap.size = w.heap.size + 1 := by rw [hw1]; simp
    rw [← hw1]
    have HB1 := Aside0.mk (Eff.of_below (base := base) hB1 hN)
    have HBX : ∀ {V : World}, Eff base N w1 V → V.heap[w.heap.size]? = some (.cells #[.int .i64 a, .string b, .int .i64 c, .int .i64 e, .slice A n cp] 24 (0, 0)) := fun h => (h.block _ (by omega) (.inr hN)).trans hbx1
    replace HBX := Aside0.mk @HBX
    have E0 := Aside0.mk (Eff.of_below (base := base) (N := N) (Below.refl w1.heap.size w1) (by omega))
    clear hw1 hB1 hbx1
    go_loopw [2] (fun t2 wr => ∃ k : Nat, k ≤ n ∧ t2 = .int .i64 k ∧ Aside0 (Eff base N w1 wr)) (fun t2 _ => n - (intOf t2).toNat)
    case atStart => exact ⟨0, Nat.zero_le _, rfl, E0⟩
    case round =>
      obtain ⟨k, hk, rfl, hef⟩ := hrel
      have hx := HBX.out hef.out
      have h4 : wr.cell? ⟨w.heap.size, 4, none⟩ = some (.slice A n cp) := (blk_cell hx 4).trans rfl
      clear hx
      by_cases hlt : k < n
      · obtain ⟨a', b', c', e', A', n', cp', hcs, hrow⟩ := hef.out.tree _ _ (HB1.out.tree _ _ HT.out)
        injection hcs with i0 hcs; injection hcs with i1 hcs; injection hcs with i2 hcs; injection hcs with i3 hcs; injection hcs with i4 hcs
        injection i4 with i4 i5 i6
        subst i4 i5 i6
        clear hcs i0 i1 i2 i3
        obtain ⟨hm, g, cells, rfl, hgb, hgN, hh, hsz, hkids⟩ := hrow (by omega)
        have hkid := hkids k hlt
        obtain ⟨ka, kb, kc, ke, kA, kn, kcp, hkc⟩ : ∃ a b c e A n cp, ((cells.toList.drop (k * 5)).take 5) = [.int .i64 a, .string b, .int .i64 c, .int .i64 e, .slice A n cp] := by
          cases d with
          | zero => obtain ⟨a, b, c, e, A, cp, h⟩ := hkid; exact ⟨a, b, c, e, A, 0, cp, h⟩
          | succ d => obtain ⟨a, b, c, e, A, n, cp, h, _⟩ := hkid; exact ⟨a, b, c, e, A, n, cp, h⟩
        have hcell := cells_of_seg hh hkc
        have g0 : wr.cell? ⟨g, k * 5, none⟩ = some _ := hcell 0 _ rfl
        have g1 : wr.cell? ⟨g, k * 5 + 1, none⟩ = some _ := hcell 1 _ rfl
        have g2 : wr.cell? ⟨g, k * 5 + 2, none⟩ = some _ := hcell 2 _ rfl
        have g3 : wr.cell? ⟨g, k * 5 + 3, none⟩ = some _ := hcell 3 _ rfl
        have g4 : wr.cell? ⟨g, k * 5 + 4, none⟩ = some _ := hcell 4 _ rfl
        rw [hkc] at hkid
        have IHC := Aside0.mk (ih _ wr hkid (Nat.le_trans hN (Nat.le_trans HB1.out.size hef.out.size)))
        clear hkid hkids hcell hkc hrow
        go_wp2_with fail
        refine IHC.out.mono ?_
        rintro e5 W5 ⟨⟨v5, rfl⟩, he5⟩
        have hef5 := hef.out.trans he5
        have hx5 := HBX.out hef5
        have h45 : W5.cell? ⟨w.heap.size, 4, none⟩ = some (.slice (some ⟨g, 0, none⟩) n cp) := (blk_cell hx5 4).trans rfl
        obtain ⟨a', b', c', e', A', n', cp', hcs, hrow5⟩ := hef5.tree _ _ (HB1.out.tree _ _ HT.out)
        injection hcs with i0 hcs; injection hcs with i1 hcs; injection hcs with i2 hcs; injection hcs with i3 hcs; injection hcs with i4 hcs
        injection i4 with i4 i5 i6
        subst i5
        obtain ⟨hm5, g5, cells5, hg5, hgb5, hgN5, hh5, hsz5, _⟩ := hrow5 (by omega)
        rw [← i4] at hg5
        injection hg5 with hg5; injection hg5 with hg5
        subst hg5
        have HH5 := Aside0.mk hh5
        have HEF5 := Aside0.mk hef5
        have hst := Aside0.mk (eff_store (base := base) (N := N) (j := k) hgb hgN 77 hh5 (by omega))
        have hrun := Aside0.mk (run_store_run (P := Tryd.prog) (o := k * 5) 24 (.agg #[.int .i64 77, .string ⟨#[]⟩, .int .i64 0, .int .i64 0, .slice none 0 0]) (leafCells 77) hh5 rfl (by kernel_rfl) (by simp [leafCells]; omega) (by simp [leafCells, Value.oneCell']))
        clear hef5 hx5 hrow5 hcs i0 i1 i2 i3 i4 i6 hh5 he5
        go_wp2_with ((with_reducible refine gate_ (.store 24 (.tmp 20) (.tmp 19)) rfl ?_); refine store_list 24 (.tmp 20) (.tmp 19) rfl rfl rfl rfl rfl hrun.out ?_)
        go_roundw
        case rel => exact ⟨k + 1, hlt, rfl, ⟨HEF5.out.trans hst.out⟩⟩
        case measure => simp [intOf]; omega
      · go_wp2_with fail
        go_end0
        exact ⟨⟨_, rfl⟩, HB1.out.trans hef.out⟩

theorem len_le {w : World} {base : Nat} {ok : Nat → Prop} {v : Value} {xs : List S24} (h : Kd.R k24 24 w base ok v xs) : xs.length ≤ maxLen := by
  obtain ⟨_, inner, hown, _⟩ := h
  rcases hown.2 with ⟨_, h0⟩ | ⟨g, cap, cur, _, _, _, h1, h2, _⟩
  · rw [h0]; exact Nat.zero_le _
  · omega

/-- What was made is a tree in this sense. -/
theorem T_of_M {base : Nat} {w : World} (x : S24) (hok : Q.okT x) : ∀ (ok : Nat → Prop) (cs : List Value), k24.M w base ok x cs → ∃ d, ∀ d', d ≤ d' → T base w.heap.size d' w cs := by
  intro ok cs h
  obtain ⟨v4, rfl, hR⟩ := k24_openM h
  have hlt := Kd.R_lt hR
  obtain ⟨_, inner, hown, hlen, hrep⟩ := hR
  have hl := hok.len
  have hD : ∃ D, ∀ (j : Nat) (y : S24), x.f4[j]? = some y → ∀ d', D ≤ d' → T base w.heap.size d' w ((inner.drop (j * 5)).take 5) := by
    have : ∀ m, m ≤ x.f4.length → ∃ D, ∀ (j : Nat) (y : S24), j < m → x.f4[j]? = some y → ∀ d', D ≤ d' → T base w.heap.size d' w ((inner.drop (j * 5)).take 5) := by
      intro m
      induction m with
      | zero => exact fun _ => ⟨0, fun j y h => absurd h (by omega)⟩
      | succ m ih =>
        intro hm
        obtain ⟨D, hD⟩ := ih (by omega)
        have hjm : x.f4[m]? = some x.f4[m] := List.getElem?_eq_getElem (by omega)
        obtain ⟨D2, hD2⟩ := T_of_M x.f4[m] (hok.kid (List.getElem_mem (by omega))) _ _ (hrep m _ hjm)
        refine ⟨D + D2, fun j y hj hy d' hd => ?_⟩
        by_cases h : j = m
        · subst h; exact hD2 d' (by omega)
        · exact hD j y (by omega) hy d' (by omega)
    obtain ⟨D, hD⟩ := this x.f4.length (Nat.le_refl _)
    refine ⟨D, fun j y hy => hD j y ?_ hy⟩
    by_cases hj : j < x.f4.length
    · exact hj
    · rw [List.getElem?_eq_none (by omega)] at hy; cases hy
  obtain ⟨D, hD⟩ := hD
  refine ⟨D + 1, fun d' hd' => ?_⟩
  obtain ⟨d', rfl⟩ : ∃ e, d' = e + 1 := ⟨d' - 1, by omega⟩
  rcases hown.2 with ⟨rfl, h0⟩ | ⟨g, cap, cur, rfl, hbg, hh, hnc, hcm, hcs, htk⟩
  · exact ⟨_, _, _, _, _, _, _, rfl, fun h => absurd h (by omega)⟩
  · refine ⟨_, _, _, _, _, _, _, rfl, fun hn => ⟨by omega, g, cur, rfl, hbg, hlt g rfl, hh, by rw [hcs]; exact Nat.mul_le_mul_right _ hnc, fun i hi => ?_⟩⟩
    have := hD i x.f4[i] (List.getElem?_eq_getElem hi) d' (by omega)
    rw [← htk, List.drop_take, List.take_take] at this
    have h5 : min 5 (x.f4.length * k24.sz - i * 5) = 5 := by
      show min 5 (x.f4.length * 5 - i * 5) = 5
      omega
    rw [h5] at this
    exact this
termination_by SizeOf.sizeOf x
decreasing_by exact Q.kid_lt (List.getElem_mem _)
end Go.Proofs.YtladneaaepcdbaaDoor.H
