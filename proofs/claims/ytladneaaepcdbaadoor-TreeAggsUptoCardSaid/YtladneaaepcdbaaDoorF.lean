/- The reference's aggs: behind those that were found. -/
import Derived.Test.YtladneaaepcdbaaDoorC
import Derived.Deep.RegionWith
import Derived.OrdersHeld
namespace Go.Proofs.YtladneaaepcdbaaDoor.F
open Go.RowKit Go.Proofs.YtladneaaepcdbaaDoorW.PrintWords Go.Proofs.YtladneaaepcdbaaDoorW.PrintLast Go.Proofs.YtladneaaepcdbaaDoorW.PrintMore
open Go.Proofs.YtladneaaepcdbaaDoor.PTree Go.Proofs.YtladneaaepcdbaaDoor.B
open Go.Proofs.YtladneaaepcdbaaDoor.C (preo preo_eq deep)
open Go.Proofs.YtladneaaepcdbaaDoor.Q (okT sameT refSame_some refCopy_some)
set_option linter.unusedVariables false
set_option linter.unusedSimpArgs false

def refA (x : S24) (out : List S24) : List S24 :=
  if x.f0 = 14 then (if (out.any fun o => sameT o x) = true then out else out ++ [x]) else x.f4.attach.foldl (fun o y => refA y.1 o) out
termination_by SizeOf.sizeOf x
decreasing_by exact Q.kid_lt y.2
theorem foldl_attach {β : Type} (f : β → S24 → β) : ∀ (l : List S24) (b : β), l.attach.foldl (fun o y => f o y.1) b = l.foldl f b := by
  intro l b
  conv => rhs; rw [← List.attach_map_subtype_val l]
  rw [List.foldl_map]
theorem refA_eq (x : S24) (out : List S24) : refA x out = if x.f0 = 14 then (if (out.any fun o => sameT o x) = true then out else out ++ [x]) else x.f4.foldl (fun o y => refA y o) out := by
  rw [refA, foldl_attach (fun o y => refA y o)]
/-- How many nodes a tree has. -/
def nodes (x : S24) : Nat := (preo 0 x).length
theorem preo_nodes (x : S24) : ∀ wi : Int, (preo wi x).length = nodes x := by
  intro wi
  unfold nodes
  rw [preo_eq, preo_eq 0]
  simp only [List.length_cons, List.length_flatMap]
  congr 2
  apply List.map_congr_left
  intro y hy
  rw [preo_nodes y (deep wi x), preo_nodes y (deep 0 x)]
termination_by SizeOf.sizeOf x
decreasing_by all_goals exact Q.kid_lt hy
theorem nodes_eq (x : S24) : nodes x = 1 + (x.f4.map nodes).sum := by
  unfold nodes
  rw [preo_eq]
  simp only [List.length_cons, List.length_flatMap]
  rw [Nat.add_comm]
  congr 2
  apply List.map_congr_left
  intro y hy
  exact preo_nodes y _
theorem nodes_pos (x : S24) : 0 < nodes x := by rw [nodes_eq]; omega
theorem refA_len (d : Nat) : ∀ (x : S24) (out : List S24), SizeOf.sizeOf x ≤ d → (refA x out).length ≤ out.length + nodes x := by
  induction d with
  | zero => intro x out h; have : 0 < SizeOf.sizeOf x := by cases x; simp; omega
            omega
  | succ d ih =>
    intro x out h
    rw [refA_eq]
    have h0 := nodes_eq x
    split
    · split <;> simp <;> omega
    · have : ∀ (l : List S24) (o : List S24), (∀ y ∈ l, SizeOf.sizeOf y ≤ d) → (l.foldl (fun o y => refA y o) o).length ≤ o.length + (l.map nodes).sum := by
        intro l
        induction l with
        | nil => intro o _; simp
        | cons a l ihl =>
          intro o hl
          rw [List.foldl_cons]
          have h1 := ihl (refA a o) (fun y hy => hl y (by simp [hy]))
          have h2 := ih a o (hl a (by simp))
          simp
          omega
      have h3 := this x.f4 out (fun y hy => by have := Q.kid_lt hy; omega)
      omega

/-- What a call that adds to out leaves. -/
def Added (base : Nat) (v : Value) (w w' : World) (v' : Value) (ys : List S24) : Prop :=
  Kd.R k24 24 w' base (fun _ => True) v' ys ∧ w.grownBy w' v.ownBlock ∧ (v'.ownBlock = v.ownBlock ∨ ∃ b, v'.ownBlock = some b ∧ w.heap.size ≤ b)

theorem Added.trans {base : Nat} {v v1 v2 : Value} {a b c : World} {ys zs : List S24} (h : Added base v a b v1 ys) (k : Added base v1 b c v2 zs) : Added base v a c v2 zs := by
  obtain ⟨_, h2, h3⟩ := h
  obtain ⟨k1, k2, k3⟩ := k
  refine ⟨k1, ⟨k2.os.trans h2.os, k2.tape.trans h2.tape, k2.output.trans h2.output, Nat.le_trans h2.size k2.size, fun i hi hne => ?_⟩, ?_⟩
  · refine (k2.block i (Nat.lt_of_lt_of_le hi h2.size) (fun e => ?_)).trans (h2.block i hi hne)
    rcases h3 with h3 | ⟨b', h3, h4⟩
    · exact hne (e.trans h3)
    · rw [h3] at e; injection e with e; omega
  · rcases k3 with k3 | ⟨b', k3, k4⟩
    · rw [k3]; exact h3
    · exact .inr ⟨b', k3, Nat.le_trans h2.size k4⟩
theorem Added.below {base : Nat} {v : Value} {a b : World} {ys : List S24} {xs : List S24} (h : Kd.R k24 24 a base (fun _ => True) v xs) (hb : Below a.heap.size a b) (he : ys = xs) : Added base v a b v ys := by
  subst he
  exact ⟨Kd.R_below h hb, grown_of_below hb _, .inl rfl⟩

theorem foldA_len : ∀ (l : List S24) (o : List S24), (l.foldl (fun o y => refA y o) o).length ≤ o.length + (l.map nodes).sum := by
  intro l
  induction l with
  | nil => intro o; simp
  | cons a l ihl =>
    intro o
    rw [List.foldl_cons]
    have h1 := ihl (refA a o)
    have h2 := refA_len _ a o (Nat.le_refl _)
    simp
    omega
theorem take_size : ∀ (l : List S24) (k : Nat) (h : k < l.length), ((l.take k).map nodes).sum + nodes l[k] ≤ (l.map nodes).sum
  | a :: l, 0, _ => by simp
  | a :: l, k + 1, h => by
    have := take_size l k (by simpa using h)
    simp only [List.take_succ_cons, List.map_cons, List.sum_cons, List.getElem_cons_succ]
    omega
theorem refA_ok (d : Nat) : ∀ (x : S24) (out : List S24), SizeOf.sizeOf x ≤ d → okT x → (∀ y ∈ out, okT y) → ∀ y ∈ refA x out, okT y := by
  induction d with
  | zero => intro x out h; have : 0 < SizeOf.sizeOf x := by cases x; simp; omega
            omega
  | succ d ih =>
    intro x out h hx ho
    rw [refA_eq]
    split
    · split
      · exact ho
      · intro y hy
        rcases List.mem_append.1 hy with hy | hy
        · exact ho y hy
        · rw [List.mem_singleton.1 hy]; exact hx
    · have : ∀ (l : List S24) (o : List S24), (∀ y ∈ l, y ∈ x.f4) → (∀ y ∈ o, okT y) → ∀ y ∈ l.foldl (fun o y => refA y o) o, okT y := by
        intro l
        induction l with
        | nil => intro o _ ho; exact ho
        | cons a l ihl =>
          intro o hl ho
          exact ihl _ (fun y hy => hl y (by simp [hy])) (ih a o (by have := Q.kid_lt (hl a (by simp)); omega) (hx.kid (hl a (by simp))) ho)
      exact this _ _ (fun _ hy => hy) ho
theorem foldA_ok : ∀ (l : List S24) (o : List S24), (∀ y ∈ l, okT y) → (∀ y ∈ o, okT y) → ∀ y ∈ l.foldl (fun o y => refA y o) o, okT y := by
  intro l
  induction l with
  | nil => intro o _ ho; exact ho
  | cons a l ihl => exact fun o hl ho => ihl _ (fun y hy => hl y (by simp [hy])) (refA_ok _ a o (Nat.le_refl _) (hl a (by simp)) ho)
theorem Added.frame {base : Nat} {v v' : Value} {a b : World} {ys : List S24} (h : Added base v a b v' ys) (hb : ∀ k, v.ownBlock = some k → base ≤ k) {m : Nat} (hm : m ≤ base) (ha : m ≤ a.heap.size) : Below m a b :=
  ⟨h.2.1.os, h.2.1.tape, h.2.1.output, h.2.1.size, fun i hi => h.2.1.block i (by omega) (fun e => by have := hb i e.symm; omega)⟩

set_option maxHeartbeats 4000000 in
theorem aggs_in (d : Nat) : ∀ (x : S24) (cs : List Value) (v : Value) (xs : List S24) (base : Nat) (w0 w : World), SizeOf.sizeOf x ≤ d → k24.K w0 x cs → okT x → (∀ y ∈ xs, okT y) → w0.heap.size ≤ base → base ≤ w.heap.size → Below w0.heap.size w0 w →
    Kd.R k24 24 w base (fun _ => True) v xs → xs.length + nodes x ≤ 1073741824 →
    Calls Tryd.prog 22 #[.agg cs.toArray, v] w fun e w' => ∃ v', e = .returned v' ∧ Added base v w w' v' (refA x xs) := by
  induction d with
  | zero => intro x; intros; have : 0 < SizeOf.sizeOf x := by cases x; simp; omega
            omega
  | succ d ih =>
    intro x cs v xs base w0 w hsz hK hok hoks hb0 hbase hb hR hlen
    have HK := Aside0.mk hK
    obtain ⟨A, c, rfl, hl, hC⟩ := k24_open hK
    have HR := Aside0.mk hR
    obtain ⟨Ao, co, rfl, hlo, hCo⟩ := Kd.R_reads hR
    have hmx : x.f4.length ≤ 9223372036854775807 := hC.2.1
    by_cases h14 : x.f0 = 14
    · have hb14 : (x.f0 == 14) = true := beq_iff_eq.2 h14
      have hspec : refA x xs = if (xs.any fun o => sameT o x) = true then xs else xs ++ [x] := by rw [refA_eq, if_pos h14]
      have HSP := Aside0.mk hspec
      clear hspec h14 hR
      go_enter Tryd.func22, Tryd.ntmps22
      go_wp2_with fail
      obtain ⟨w1, hw1⟩ : ∃ w1 : World, w1 = w.alloc (.cells #[.int .i64 x.f0, .string x.f1, .int .i64 x.f2, .int .i64 x.f3, .slice A x.f4.length c] 24) := ⟨_, rfl⟩
      have hB1 : Below w.heap.size w w1 := by rw [hw1]; exact (Below.refl _ _).alloc (Nat.le_refl _) _
      have hbx1 : w1.heap[w.heap.size]? = some (.cells #[.int .i64 x.f0, .string x.f1, .int .i64 x.f2, .int .i64 x.f3, .slice A x.f4.length c] 24 (0, 0)) := by rw [hw1]; exact blk_new _ _
      have hs1 : w1.heap.size = w.heap.size + 1 := by rw [hw1]; simp
      rw [← hw1]
      have HC := Aside0.mk hC
      have HCO := Aside0.mk (Kd.C_below hCo hB1)
      have HBX := Aside0.mk hbx1
      have HB1 := Aside0.mk hB1
      clear hw1 hC hCo hbx1 hB1 hb14
      go_loopw [5] (fun t5 wr => ∃ k : Nat, k ≤ xs.length ∧ t5 = .int .i64 k ∧ Aside0 (((xs.take k).any fun o => sameT o x) = false) ∧ Aside0 (Below w1.heap.size w1 wr)) (fun t5 _ => xs.length - (intOf t5).toNat)
      case atStart => exact ⟨0, Nat.zero_le _, rfl, ⟨by simp⟩, ⟨Below.refl _ _⟩⟩
      case round =>
        obtain ⟨k, hk, rfl, hany, hbr⟩ := hrel
        by_cases hlt : k < xs.length
        · obtain ⟨y, ad, A4, c4, hyk, rfl, g0, g1, g2, g3, g4, hl4, hC4⟩ := at24 HCO.out k hlt
          have hym : y = xs[k] := by rw [← hyk.out]; simp [List.getD_eq_getElem?_getD, List.getElem?_eq_getElem hlt]
          have HY := Aside0.mk hym
          have HC4 := Aside0.mk hC4
          have HG := Aside0.mk (And.intro g0 (And.intro g1 (And.intro g2 (And.intro g3 g4))))
          clear hym hC4 g0 g1 g2 g3 g4
          go_wp2_with fail
          have HS : ∀ V, Below w1.heap.size w1 V → (V.cell? ⟨w.heap.size, 0, none⟩ = some (.int .i64 x.f0) ∧ V.cell? ⟨w.heap.size, 1, none⟩ = some (.string x.f1) ∧ V.cell? ⟨w.heap.size, 2, none⟩ = some (.int .i64 x.f2) ∧ V.cell? ⟨w.heap.size, 3, none⟩ = some (.int .i64 x.f3) ∧ V.cell? ⟨w.heap.size, 4, none⟩ = some (.slice A x.f4.length c)) ∧
              V.cell? (ad.add (k * 5)) = some (.int .i64 y.f0) ∧ V.cell? ⟨(ad.add (k * 5)).block, (ad.add (k * 5)).off + 1, none⟩ = some (.string y.f1) ∧ V.cell? ⟨(ad.add (k * 5)).block, (ad.add (k * 5)).off + 2, none⟩ = some (.int .i64 y.f2) ∧ V.cell? ⟨(ad.add (k * 5)).block, (ad.add (k * 5)).off + 3, none⟩ = some (.int .i64 y.f3) ∧ V.cell? ⟨(ad.add (k * 5)).block, (ad.add (k * 5)).off + 4, none⟩ = some (.slice A4 y.f4.length c4) := by
            intro V hV
            have hx := blk_below HBX.out hV
            obtain ⟨g0, g1, g2, g3, g4⟩ := HG.out
            exact ⟨⟨(blk_cell hx 0).trans rfl, (blk_cell hx 1).trans rfl, (blk_cell hx 2).trans rfl, (blk_cell hx 3).trans rfl, (blk_cell hx 4).trans rfl⟩, pw_cell_below hV g0, pw_cell_below hV g1, pw_cell_below hV g2, pw_cell_below hV g3, pw_cell_below hV g4⟩
          refine wp_region_held (S := fun V => (V.cell? ⟨w.heap.size, 0, none⟩ = some (.int .i64 x.f0) ∧ V.cell? ⟨w.heap.size, 1, none⟩ = some (.string x.f1) ∧ V.cell? ⟨w.heap.size, 2, none⟩ = some (.int .i64 x.f2) ∧ V.cell? ⟨w.heap.size, 3, none⟩ = some (.int .i64 x.f3) ∧ V.cell? ⟨w.heap.size, 4, none⟩ = some (.slice A x.f4.length c)) ∧
              V.cell? (ad.add (k * 5)) = some (.int .i64 y.f0) ∧ V.cell? ⟨(ad.add (k * 5)).block, (ad.add (k * 5)).off + 1, none⟩ = some (.string y.f1) ∧ V.cell? ⟨(ad.add (k * 5)).block, (ad.add (k * 5)).off + 2, none⟩ = some (.int .i64 y.f2) ∧ V.cell? ⟨(ad.add (k * 5)).block, (ad.add (k * 5)).off + 3, none⟩ = some (.int .i64 y.f3) ∧ V.cell? ⟨(ad.add (k * 5)).block, (ad.add (k * 5)).off + 4, none⟩ = some (.slice A4 y.f4.length c4)) (by kernel_rfl) ?_
          obtain ⟨V0, hV0⟩ : ∃ V0 : World, V0 = { wr with drawn := wr.drawn + 1 } := ⟨_, rfl⟩
          have hB0 : Below w1.heap.size w1 V0 := by rw [hV0]; exact ⟨hbr.out.os, hbr.out.tape, hbr.out.output, hbr.out.size, hbr.out.block⟩
          rw [← hV0]
          have HSS := Aside0.mk HS
          have HB0 := Aside0.mk hB0
          clear hV0 HS hB0
          refine wpAnyH_take (i := 0) (v := .slice (some ad) xs.length co) rfl (by kernel_rfl) (by kernel_rfl) (by kernel_rfl) (fun _ _ _ h => h) (Or.inl ⟨rfl, fun V hV => ?_⟩) (HSS.out _ HB0.out) ?_
          · go_simp
          refine wpAnyH_take (i := 1) (v := .int .i64 k) rfl (by kernel_rfl) (by kernel_rfl) (by kernel_rfl) (fun _ _ _ h => h) (Or.inl ⟨rfl, fun V hV => ?_⟩) (HSS.out _ HB0.out) ?_
          · go_simp
          refine wpAnyH_take (i := 2) (v := .pointer (some (ad.add (k * 5)))) rfl (by kernel_rfl) (by kernel_rfl) (by kernel_rfl) (fun _ _ _ h => h) (Or.inl ⟨rfl, fun V hV => ?_⟩) (HSS.out _ HB0.out) ?_
          · go_simp
          refine wpAnyH_take (i := 3) (v := .agg #[.int .i64 y.f0, .string y.f1, .int .i64 y.f2, .int .i64 y.f3, .slice A4 y.f4.length c4]) rfl (by kernel_rfl) (by kernel_rfl) (by kernel_rfl) (fun _ _ _ h => h) (Or.inl ⟨rfl, fun V hV => ?_⟩) (HSS.out _ HB0.out) ?_
          · obtain ⟨_, g0, g1, g2, g3, g4⟩ := hV
            go_simp
          refine wpAnyH_take (i := 4) (v := .agg #[.int .i64 x.f0, .string x.f1, .int .i64 x.f2, .int .i64 x.f3, .slice A x.f4.length c]) rfl (by kernel_rfl) (by kernel_rfl) (by kernel_rfl) (fun _ _ _ h => h) (Or.inl ⟨rfl, fun V hV => ?_⟩) (HSS.out _ HB0.out) ?_
          · obtain ⟨⟨g0, g1, g2, g3, g4⟩, _⟩ := hV
            go_simp
          go_simp
          refine wpAnyH_all (rs := [5]) (by kernel_rfl) (by simp) ?_
          intro i hi
          obtain rfl : i = 5 := by simpa using hi
          refine wpOp_step rfl (fun K hK => ?_)
          go_simp
          obtain ⟨kq, hkq⟩ := refSame_some _ y x (Nat.le_refl _) (hoks y (by rw [HY.out]; exact List.getElem_mem hlt))
          refine (marqueeref06_Same.calls kq y.f0 y.f1 y.f2 y.f3 A4 c4 y.f4 x.f0 x.f1 x.f2 x.f3 A c x.f4 _ V0 (Kd.C_below HC4.out HB0.out) hl4 (Kd.C_below (Kd.C_below HC.out (hb.trans (HB1.out.mono hb.size))) (HB0.out.mono (by have := hb.size; omega))) hl (hkq kq (Nat.le_refl _))).mono ?_
          rintro e W5 ⟨rfl, hW5⟩
          have hB5 := below_then HB0.out HB0.out.size hW5
          refine hK _ _ ⟨HSS.out _ hB5, ?_⟩
          clear hK
          refine wpAnyH_done (by kernel_rfl) ?_ _
          cases hs : sameT y x with
          | true =>
            have HSM := Aside0.mk hs
            clear hs
            go_wp2_with fail
            go_ret
            refine ⟨_, rfl, ?_⟩
            refine Added.below HR.out (HB1.out.trans (hB5.mono (by have := HB1.out.size; omega))) ?_
            rw [HSP.out, if_pos]
            rw [List.any_eq_true]
            exact ⟨y, by rw [HY.out]; exact List.getElem_mem hlt, HSM.out⟩
          | false =>
            have HSM := Aside0.mk hs
            clear hs
            go_wp2_with fail
            go_roundw
            case rel =>
              refine ⟨k + 1, hlt, ?_, ⟨?_⟩, ⟨hB5⟩⟩
              · rfl
              · rw [List.take_succ_eq_append_getElem hlt, List.any_append, hany.out, ← HY.out]
                simp [HSM.out]
            case measure => simp [intOf]; omega
        · have hx := blk_below HBX.out hbr.out
          have h0 : wr.cell? ⟨w.heap.size, 0, none⟩ = some (.int .i64 x.f0) := (blk_cell hx 0).trans rfl
          have h1 : wr.cell? ⟨w.heap.size, 1, none⟩ = some (.string x.f1) := (blk_cell hx 1).trans rfl
          have h2 : wr.cell? ⟨w.heap.size, 2, none⟩ = some (.int .i64 x.f2) := (blk_cell hx 2).trans rfl
          have h3 : wr.cell? ⟨w.heap.size, 3, none⟩ = some (.int .i64 x.f3) := (blk_cell hx 3).trans rfl
          have h4 : wr.cell? ⟨w.heap.size, 4, none⟩ = some (.slice A x.f4.length c) := (blk_cell hx 4).trans rfl
          obtain ⟨kc, hkc⟩ := refCopy_some _ x (Nat.le_refl _) hok
          have HCP := Aside0.mk (marqueeref06_Copy.calls kc x.f0 x.f1 x.f2 x.f3 A c x.f4 _ _ _ _ _ wr (Kd.C_below (Kd.C_below HC.out (hb.trans (HB1.out.mono hb.size))) (hbr.out.mono (by have := hb.size; omega))) hl (hkc kc (Nat.le_refl _)))
          have hbw : Below w.heap.size w wr := HB1.out.trans (hbr.out.mono (by omega))
          have HBW := Aside0.mk hbw
          clear hx hkc hbw
          go_wp2_with fail
          refine HCP.out.mono ?_
          rintro e W5 ⟨v4, rfl, hR4, hB4⟩
          obtain ⟨A4, c4, rfl⟩ := Kd.R_slice hR4
          have HR4 := Aside0.mk hR4
          have HB4 := Aside0.mk hB4
          clear hR4 hB4 h0 h1 h2 h3 h4
          have hRw := Kd.R_below (HR.out) ((Below.refl _ _).trans (HBW.out))
          have HRW := Aside0.mk hRw
          have hlt : ∀ k, (Value.slice Ao xs.length co).ownBlock = some k → k < wr.heap.size := Kd.R_lt hRw
          have hR5 := Kd.R_new' HR4.out hlt
          have hR6 : Kd.R k24 24 W5 base (fun _ => True) (.slice Ao xs.length co) xs := Kd.R_below hRw HB4.out
          have HR5 := Aside0.mk (Kd.R_lower hR5 (Nat.le_trans hbase HBW.out.size))
          have HR6 := Aside0.mk hR6
          have hsx : xs.length ≤ 1073741823 := by
            have h0x := nodes_pos x
            omega
          have hbW5 : base ≤ W5.heap.size := Nat.le_trans hbase (Nat.le_trans HBW.out.size HB4.out.size)
          clear hRw hlt hR5 hR6
          go_wp2_with (at_builtin; refine Kd.R_append k24 (w0 := w) base rfl (.tmp 23) (.tmp 26) 22 24 (.agg #[(.int .i64 0), (.string ⟨#[]⟩), (.int .i64 0), (.int .i64 0), (.slice none 0 0)]) 64 rfl Tryd.underlying22 info24 rfl (by decide) (by omega) (.slice Ao xs.length co) xs x [.int .i64 x.f0, .string x.f1, .int .i64 x.f2, .int .i64 x.f3, .slice A4 x.f4.length c4] (fun _ => True) (fun k => True ∧ some k ≠ (Value.slice Ao xs.length co).ownBlock) rfl rfl (k24_mkM _ _ _ x HR5.out) (fun _ h => h) (fun _ _ => trivial) HR6.out ?_ hbW5 (by omega) ?_)
          · exact (HBW.out.mono hbase).trans (HB4.out.mono (Nat.le_trans hbase HBW.out.size))
          · intro v1 W6 ho hb6 hg hat
            have HO := Aside0.mk ho
            have HGR := Aside0.mk (And.intro hg hat)
            clear ho hb6 hg hat
            go_wp2_with fail
            go_ret
            refine ⟨_, rfl, ?_⟩
            have hk0 : k = xs.length := by omega
            have ha := hany.out
            rw [hk0, List.take_length] at ha
            rw [HSP.out, ha]
            have hG5 : World.grownBy w W5 (Value.slice Ao xs.length co).ownBlock := grown_of_below (HBW.out.trans (HB4.out.mono HBW.out.size)) _
            refine Added.trans (v1 := .slice Ao xs.length co) (ys := xs) ⟨HR6.out, hG5, .inl rfl⟩ ⟨HO.out, HGR.out.1, HGR.out.2⟩
    · have hb14 : (x.f0 == 14) = false := beq_eq_false_iff_ne.2 h14
      have hspec : refA x xs = x.f4.foldl (fun o y => refA y o) xs := by rw [refA_eq, if_neg h14]
      have HSP := Aside0.mk hspec
      clear hspec h14
      go_enter Tryd.func22, Tryd.ntmps22
      go_wp2_with fail
      obtain ⟨w1, hw1⟩ : ∃ w1 : World, w1 = w.alloc (.cells #[.int .i64 x.f0, .string x.f1, .int .i64 x.f2, .int .i64 x.f3, .slice A x.f4.length c] 24) := ⟨_, rfl⟩
      have hB1 : Below w.heap.size w w1 := by rw [hw1]; exact (Below.refl _ _).alloc (Nat.le_refl _) _
      have hbx1 : w1.heap[w.heap.size]? = some (.cells #[.int .i64 x.f0, .string x.f1, .int .i64 x.f2, .int .i64 x.f3, .slice A x.f4.length c] 24 (0, 0)) := by rw [hw1]; exact blk_new _ _
      have hs1 : w1.heap.size = w.heap.size + 1 := by rw [hw1]; simp
      rw [← hw1]
      have hvlt : ∀ k, (Value.slice Ao xs.length co).ownBlock = some k → k < w.heap.size := Kd.R_lt hR
      have hvb : ∀ k, (Value.slice Ao xs.length co).ownBlock = some k → base ≤ k := Kd.R_base hR
      have hR1 : Kd.R k24 24 w1 base (fun _ => True) (.slice Ao xs.length co) xs := Kd.R_below hR hB1
      have BX : ∀ {b : World} {v' : Value} {ys : List S24}, Added base (.slice Ao xs.length co) w1 b v' ys → b.heap[w.heap.size]? = some (.cells #[.int .i64 x.f0, .string x.f1, .int .i64 x.f2, .int .i64 x.f3, .slice A x.f4.length c] 24 (0, 0)) := fun h => (h.2.1.block _ (by omega) (fun e => by have := hvlt _ e.symm; omega)).trans hbx1
      have FR : ∀ {b : World} {v' : Value} {ys : List S24}, Added base (.slice Ao xs.length co) w1 b v' ys → Below w0.heap.size w0 b := fun h => hb.trans ((hB1.mono hb.size).trans (h.frame hvb hb0 (Nat.le_trans hb.size hB1.size)))
      have HC := Aside0.mk hC
      have HBX := Aside0.mk @BX
      have HFR := Aside0.mk @FR
      have HB1 := Aside0.mk hB1
      have HAD := Aside0.mk (Added.below hR1 (Below.refl _ _) rfl)
      clear hw1 hC hCo hbx1 hB1 hb14 BX FR hR1 hR
      go_loopw [6, 1] (fun t6 t1 wr => ∃ k : Nat, k ≤ x.f4.length ∧ t6 = .int .i64 k ∧ Aside0 (Added base (.slice Ao xs.length co) w1 wr t1 ((x.f4.take k).foldl (fun o y => refA y o) xs))) (fun t6 _ _ => x.f4.length - (intOf t6).toNat)
      case atStart => exact ⟨0, Nat.zero_le _, rfl, HAD⟩
      case round =>
        obtain ⟨k, hk, rfl, had⟩ := hrel
        have hx := HBX.out had.out
        have h4 : wr.cell? ⟨w.heap.size, 4, none⟩ = some (.slice A x.f4.length c) := (blk_cell hx 4).trans rfl
        clear hx
        by_cases hlt : k < x.f4.length
        · obtain ⟨y, ad, A4, c4, hyk, rfl, g0, g1, g2, g3, g4, hl4, hC4⟩ := at24 HC.out k hlt
          have hym : y = x.f4[k] := by rw [← hyk.out]; simp [List.getD_eq_getElem?_getD, List.getElem?_eq_getElem hlt]
          have HY := Aside0.mk hym
          have hfr := HFR.out had.out
          replace g0 := pw_cell_below hfr g0
          replace g1 := pw_cell_below hfr g1
          replace g2 := pw_cell_below hfr g2
          replace g3 := pw_cell_below hfr g3
          replace g4 := pw_cell_below hfr g4
          have hyx : y ∈ x.f4 := by rw [hym]; exact List.getElem_mem hlt
          have hlen2 : ((x.f4.take k).foldl (fun o y => refA y o) xs).length + nodes y ≤ 1073741824 := by
            have h1 := foldA_len (x.f4.take k) xs
            have h2 := take_size x.f4 k hlt
            have h3 := nodes_eq x
            rw [← hym] at h2
            omega
          have IHC := Aside0.mk (ih y _ _ _ base w0 wr (by have := Q.kid_lt hyx; omega) (k24_mk w0 y hl4 hC4) (hok.kid hyx) (foldA_ok _ xs (fun y hy => hok.kid (List.mem_of_mem_take hy)) hoks) hb0 (Nat.le_trans hbase (Nat.le_trans HB1.out.size had.out.2.1.size)) hfr had.out.1 hlen2)
          clear hym hC4 hfr hlen2
          go_wp2_with fail
          refine IHC.out.mono ?_
          rintro e W5 ⟨v5, rfl, hA5⟩
          have HA5 := Aside0.mk hA5
          clear hA5
          go_wp2_with fail
          go_roundw
          case rel =>
            refine ⟨k + 1, hlt, rfl, ⟨?_⟩⟩
            rw [List.take_succ_eq_append_getElem hlt, List.foldl_append, List.foldl_cons, List.foldl_nil, ← HY.out]
            exact had.out.trans HA5.out
          case measure => simp [intOf]; omega
        · go_wp2_with fail
          go_ret
          refine ⟨_, rfl, ?_⟩
          have hk0 : k = x.f4.length := by omega
          have ha := had.out
          rw [hk0, List.take_length, ← HSP.out] at ha
          exact (Added.below HR.out HB1.out rfl).trans ha
end Go.Proofs.YtladneaaepcdbaaDoor.F
