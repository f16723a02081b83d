/- The iterator tree.walk: what it hands to yield, in what order; the recursive closure by induction on the tree. -/
import Derived.Test.YtladneaaepcdbaaDoorB
import Derived.Test.YtladneaaepcdbaaDoorQ
import Derived.Laws.EntriesVeiled
namespace Go.Proofs.YtladneaaepcdbaaDoor.C
open Go.RowKit Go.Shelf Go.Proofs.YtladneaaepcdbaaDoorW.PrintWords Go.Proofs.YtladneaaepcdbaaDoorW.PrintLast Go.Proofs.YtladneaaepcdbaaDoorW.PrintMore
open Go.Proofs.YtladneaaepcdbaaDoor.PTree Go.Proofs.YtladneaaepcdbaaDoor.B
open Go.Proofs.YtladneaaepcdbaaDoor.Q (okT)

attribute [local go_sem] Oper.semAt_some
set_option linter.unusedVariables false
set_option linter.unusedSimpArgs false

/-! ### The blocks that a loop's body may write: the box bo, and the row of the slice in it -/
def Fp (bo t : Nat) (W : World) (k : Nat) : Prop := k = bo ∨ ∃ v, W.heap[bo]? = some (.cells #[v] t (0, 0)) ∧ v.ownBlock = some k
def OkFp (bo t : Nat) (W : World) : Prop := ∀ v k, W.heap[bo]? = some (.cells #[v] t (0, 0)) → v.ownBlock = some k → k < W.heap.size
structure KpB (bo t : Nat) (W W' : World) : Prop where
  ok : OkFp bo t W'
  same : ∀ k c e f, W.heap[k]? = some (.cells c e f) → ¬ Fp bo t W k → W'.heap[k]? = some (.cells c e f) ∧ ¬ Fp bo t W' k
structure Kp (n₀ bo t : Nat) (W W' : World) : Prop where
  below : Below n₀ W W'
  rest : OkFp bo t W → KpB bo t W W'

theorem Kp.trans {n₀ bo t : Nat} {A B C : World} (h : Kp n₀ bo t A B) (k : Kp n₀ bo t B C) : Kp n₀ bo t A C :=
  ⟨h.below.trans k.below, fun hA => by
    have h1 := h.rest hA
    have h2 := k.rest h1.ok
    exact ⟨h2.ok, fun i c e f hc hn => by
      obtain ⟨a, b⟩ := h1.same i c e f hc hn
      exact h2.same i c e f a b⟩⟩
theorem Kp.refl (n₀ bo t : Nat) (A : World) : Kp n₀ bo t A A := ⟨Below.refl _ _, fun h => ⟨h, fun _ _ _ _ hc hn => ⟨hc, hn⟩⟩⟩
theorem fp_below {bo t : Nat} {W W' : World} (hb : Below W.heap.size W W') (hlt : bo < W.heap.size) {k : Nat} : Fp bo t W' k ↔ Fp bo t W k := by
  unfold Fp
  rw [hb.block bo hlt]
theorem okFp_below {bo t : Nat} {W W' : World} (hb : Below W.heap.size W W') (hlt : bo < W.heap.size) (h : OkFp bo t W) : OkFp bo t W' := by
  intro v k hv hk
  rw [hb.block bo hlt] at hv
  exact Nat.lt_of_lt_of_le (h v k hv hk) hb.size
theorem Kp.of_below {n₀ bo t : Nat} {W W' : World} (hb : Below W.heap.size W W') (hlt : bo < W.heap.size) (hn : n₀ ≤ W.heap.size) : Kp n₀ bo t W W' :=
  ⟨hb.mono hn, fun h => ⟨okFp_below hb hlt h, fun k c e f hc hn => ⟨(hb.block k (blk_lt hc)).trans hc, fun hh => hn ((fp_below hb hlt).1 hh)⟩⟩⟩
theorem Kp.putObj {n₀ bo t : Nat} {w W : World} {l : Nat} {o o' : Obj} (hn : n₀ ≤ w.heap.size) (hlt : bo < w.heap.size) (hl : w.heap.size ≤ l) (h : W.heap[l]? = some o) (hc : o.isCells = false) : Kp n₀ bo t W (W.putObj l o') := by
  have hg := grownBy_putObj' W l o'
  have hbo : (W.putObj l o').heap[bo]? = W.heap[bo]? := hg.block bo (by have := blk_lt h; omega) (fun e => by injection e with e; omega)
  refine ⟨(Below.refl n₀ W).grown hg (by have := blk_lt h; omega) (fun k e => by injection e with e; omega), fun hok => ⟨fun v k hv hk => ?_, fun k c e f hk hn => ⟨?_, ?_⟩⟩⟩
  · rw [hbo] at hv
    exact Nat.lt_of_lt_of_le (hok v k hv hk) hg.size
  · refine (hg.block k (blk_lt hk) (fun e => ?_)).trans hk
    injection e with e
    subst e
    rw [h] at hk
    injection hk with hk
    rw [hk] at hc
    cases hc
  · unfold Fp
    rw [hbo]
    exact hn

theorem Kp.step {n₀ bo t : Nat} {W W' : World} {v' : Value} (hb : Below n₀ W W') (hbo : W'.heap[bo]? = some (.cells #[v'] t (0, 0))) (hv : ∀ k, v'.ownBlock = some k → k < W'.heap.size ∧ (Fp bo t W k ∨ W.heap.size ≤ k))
    (hs : ∀ k, k < W.heap.size → ¬ Fp bo t W k → W'.heap[k]? = W.heap[k]?) : Kp n₀ bo t W W' := by
  have hval : ∀ v, W'.heap[bo]? = some (.cells #[v] t (0, 0)) → v = v' := by
    intro v h
    rw [hbo] at h
    injection h with h
    injection h with h
    injection h with h
    injection h with h
    exact h.symm
  refine ⟨hb, fun _ => ⟨fun v k h hk => ?_, fun k c e f hc hn => ⟨(hs k (blk_lt hc) hn).trans hc, ?_⟩⟩⟩
  · obtain rfl := hval v h
    exact (hv k hk).1
  · rintro (h | ⟨v, h, hk⟩)
    · exact hn (.inl h)
    · obtain rfl := hval v h
      rcases (hv k hk).2 with h' | h'
      · exact hn h'
      · have := blk_lt hc
        omega

/-! ### What comes -/
/-- A tree that stands in w0, with how many aggregates it stands in. -/
abbrev El (w0 : World) := { p : Int × S24 × List Value // k24.K w0 p.2.1 p.2.2 ∧ okT p.2.1 }
abbrev elv {w0 : World} (p : El w0) : Array Value := #[.int .i64 p.1.1, .agg p.1.2.2.toArray]
def deep (wi : Int) (x : S24) : Int := if x.f0 = 14 then wrap64 (wi + 1) else wi
def preo (wi : Int) (x : S24) : List (Int × S24) :=
  (wi, x) :: x.f4.attach.flatMap fun y => preo (deep wi x) y.1
termination_by SizeOf.sizeOf x
decreasing_by
  have := y.2
  have h1 := List.sizeOf_lt_of_mem this
  cases x
  simp at h1 ⊢
  omega
theorem preo_eq (wi : Int) (x : S24) : preo wi x = (wi, x) :: x.f4.flatMap (preo (deep wi x)) := by
  rw [preo]
  congr 1
  exact List.flatMap_subtype (fun _ _ => rfl) |>.trans (by simp)
def view {w0 : World} (p : El w0) : Int × S24 := (p.1.1, p.1.2.1)

theorem room_of_none {F : Fence} (hd : F.depth = none) (k : Nat) : F.room k := fun d h => by rw [hd] at h; cases h
theorem RoundIn.anyDepth {F : Fence} (hd : F.depth = none) {m m' : Nat} {P : Program} {l : Nat} {f : FuncId} {tmps : Array Value} {assign body : Code} {w : World} {R : Ending → World → Prop}
    (h : RoundIn F m P l f tmps assign body w R) : RoundIn F m' P l f tmps assign body w R := ⟨h.1, fun c cs _ => h.2 c cs (room_of_none hd _)⟩
theorem YieldAt.anyDepth {F : Fence} (hd : F.depth = none) {m : Nat} (m' : Nat) {P : Program} {l : Nat} {args : Array Value} {W : World} {R : Ending → World → Prop} (h : YieldAt F m P l args W R) : YieldAt F m' P l args W R := by
  obtain ⟨fn, tmps, assign, body, hy, hR⟩ := h
  exact ⟨fn, tmps, assign, body, hy, RoundIn.anyDepth hd hR⟩

theorem getD_mem (x y : S24) (k : Nat) (h : x.f4.getD k z24 = y) (hk : k < x.f4.length) : x.f4[k] = y := by
  rw [← h]; simp [List.getD_eq_getElem?_getD, List.getElem?_eq_getElem hk]
theorem kid_lt (x y : S24) (k : Nat) (h : x.f4.getD k z24 = y) (hk : k < x.f4.length) : SizeOf.sizeOf y < SizeOf.sizeOf x := by
  have h1 := List.sizeOf_lt_of_mem (List.getElem_mem hk)
  rw [getD_mem x y k h hk] at h1
  cases x
  simp at h1 ⊢
  omega
theorem take_flat (dv : Int) (x y : S24) (k : Nat) (h : x.f4.getD k z24 = y) (hk : k < x.f4.length) : (x.f4.take (k + 1)).flatMap (preo dv) = (x.f4.take k).flatMap (preo dv) ++ preo dv y := by
  rw [List.take_succ_eq_append_getElem hk, getD_mem x y k h hk]
  simp
theorem preo_len (wi : Int) (x y : S24) (k : Nat) (h : x.f4.getD k z24 = y) (hk : k < x.f4.length) : 1 + ((x.f4.take k).flatMap (preo (deep wi x))).length + (preo (deep wi x) y).length ≤ (preo wi x).length := by
  have h1 : x.f4 = x.f4.take (k + 1) ++ x.f4.drop (k + 1) := (List.take_append_drop _ _).symm
  have h2 : x.f4.flatMap (preo (deep wi x)) = (x.f4.take k).flatMap (preo (deep wi x)) ++ preo (deep wi x) y ++ (x.f4.drop (k + 1)).flatMap (preo (deep wi x)) := by
    conv => lhs; rw [h1]
    rw [List.flatMap_append, take_flat _ x y k h hk]
  rw [preo_eq wi x, h2]
  simp only [List.length_cons, List.length_append]
  omega

def IntoPost (w0 : World) (bo t : Nat) (J Jx : List (El w0) → World → Prop) (pre : List (El w0)) (L : List (Int × S24)) (W : World) (e : Ending) (W' : World) : Prop :=
  (e = .returned (.bool true) ∧ ∃ ys : List (El w0), ys.map view = L ∧ J (pre ++ ys) W' ∧ Kp w0.heap.size bo t W W') ∨ (e = .returned (.bool false) ∧ ∃ ys : List (El w0), ys.map view <+: L ∧ Jx (pre ++ ys) W')

def Boxes (l bo t yb ib : Nat) (W : World) : Prop :=
  bo < W.heap.size ∧ OkFp bo t W ∧ W.heap[yb]? = some (.cells #[.func (.yield l) #[] #[]] 42 (0, 0)) ∧ ¬ Fp bo t W yb ∧
    W.heap[ib]? = some (.cells #[.func (.func 27) #[] #[.pointer (some ⟨yb, 0, none⟩), .pointer (some ⟨ib, 0, none⟩)]] 43 (0, 0)) ∧ ¬ Fp bo t W ib

theorem Boxes.kept {n₀ l bo t yb ib : Nat} {W W' : World} (h : Boxes l bo t yb ib W) (k : Kp n₀ bo t W W') : Boxes l bo t yb ib W' := by
  obtain ⟨h1, h2, h3, h4, h5, h6⟩ := h
  have kb := k.rest h2
  obtain ⟨a, b⟩ := kb.same yb _ _ _ h3 h4
  obtain ⟨c, d⟩ := kb.same ib _ _ _ h5 h6
  exact ⟨Nat.lt_of_lt_of_le h1 k.below.size, kb.ok, a, b, c, d⟩

set_option maxRecDepth 100000 in
set_option maxHeartbeats 2000000 in
theorem into_in (F : Fence) (hd : F.depth = none) (h27 : F.fn 27) (hro : F.round = none) (l N bo t yb ib : Nat) (w0 : World) (J Jx : List (El w0) → World → Prop)
    (hJ : ∀ s W W', J s W → Below W.heap.size W W' → J s W')
    (hY : ∀ m pre (x : El w0) W, J pre W → pre.length < N → YieldAt F m Tryd.prog l (elv x) W fun e W' =>
      (e = .returned (.bool true) ∧ J (pre ++ [x]) W' ∧ Kp w0.heap.size bo t W W') ∨ (e = .returned (.bool false) ∧ Jx (pre ++ [x]) W')) (d : Nat) :
    ∀ (x : S24) (cs : List Value) (wi : Int) (n : Nat) (pre : List (El w0)) (W : World), SizeOf.sizeOf x ≤ d → k24.K w0 x cs → okT x → Below w0.heap.size w0 W → Boxes l bo t yb ib W → J pre W → pre.length + (preo wi x).length ≤ N →
      CallsIn F n Tryd.prog 27 #[.agg cs.toArray, .int .i64 wi, .pointer (some ⟨yb, 0, none⟩), .pointer (some ⟨ib, 0, none⟩)] W (IntoPost w0 bo t J Jx pre (preo wi x) W) := by
  induction d with
  | zero => intro x; intros; have : 0 < SizeOf.sizeOf x := by cases x; simp; omega
            omega
  | succ d ih =>
    intro x cs wi n pre W hsz hK hok hb hB hJ0 hN
    have HK := Aside0.mk hK
    have HB0 := Aside0.mk hB
    obtain ⟨A, c, rfl, hl, hC⟩ := k24_open hK
    have hmx : x.f4.length ≤ 9223372036854775807 := hC.2.1
    have hdd : ∀ k : Nat, (F.depth.isSome = true → 1 ≤ k) := fun k h => by rw [hd] at h; cases h
    obtain ⟨hb1, hb2, hb3, hb4, hb5, hb6⟩ := hB
    have hc3 : W.cell? ⟨yb, 0, none⟩ = some (.func (.yield l) #[] #[]) := (blk_cell hb3 0).trans rfl
    have hc3l : yb < W.heap.size := blk_lt hb3
    obtain ⟨fn, tmps, assign, body, hy, hR⟩ := hY (n - 1) pre ⟨(wi, x, _), hK, hok⟩ (W.alloc (.cells #[.int .i64 x.f0, .string x.f1, .int .i64 x.f2, .int .i64 x.f3, .slice A x.f4.length c] 24)) (hJ _ _ _ hJ0 ((Below.refl _ _).alloc (Nat.le_refl _) _)) (by rw [preo_eq] at hN; simp at hN; omega)
    simp only [elv] at hy
    have HR := Aside0.mk hR
    clear hR
    refine callsIn_of_wp Tryd.func27 rfl h27 ?_ hro
    simp only [Tryd.ntmps27, List.size_toArray, List.length_cons, List.length_nil, Nat.reduceAdd, Nat.reduceSub, Array.replicate_succ, Array.replicate_zero, List.push_toArray, List.append_toArray, List.nil_append, List.cons_append]
    gi_wp2_with fail
    refine HR.out.mono ?_
    clear HR hy
    rintro e W1 (⟨rfl, hJ1, hk1⟩ | ⟨rfl, hx1⟩)
    · have HJ1 := Aside0.mk hJ1
      have HK1 := Aside0.mk ((Kp.of_below ((Below.refl _ W).alloc (Nat.le_refl _) _) hb1 hb.size).trans hk1)
      have hbx : W1.heap[W.heap.size]? = some (.cells #[.int .i64 x.f0, .string x.f1, .int .i64 x.f2, .int .i64 x.f3, .slice A x.f4.length c] 24 (0, 0)) := by
        refine ((hk1.rest (okFp_below ((Below.refl _ W).alloc (Nat.le_refl _) _) hb1 hb2)).same _ _ _ _ (heap_alloc_new W _) (fun h => ?_)).1
        rw [fp_below ((Below.refl _ W).alloc (Nat.le_refl _) _) hb1] at h
        rcases h with h | ⟨v, hv, hv'⟩
        · omega
        · have := hb2 v _ hv hv'
          omega
      have HB1 : Aside0 (Boxes l bo t yb ib W1) := ⟨Boxes.kept ⟨hb1, hb2, hb3, hb4, hb5, hb6⟩ HK1.out⟩
      have hc0 : W1.cell? ⟨W.heap.size, 0, none⟩ = some (.int .i64 x.f0) := (blk_cell hbx 0).trans rfl
      have hc4 : W1.cell? ⟨W.heap.size, 4, none⟩ = some (.slice A x.f4.length c) := (blk_cell hbx 4).trans rfl
      clear hJ1 hk1 hbx hb1 hb2 hb3 hb4 hb5 hb6 hc3 hc3l
      obtain ⟨dv, hdv⟩ : ∃ dv, deep wi x = dv := ⟨_, rfl⟩
      have HDV := Aside0.mk hdv
      unfold deep at hdv
      by_cases h14 : x.f0 = 14
      all_goals
        first
          | (have hb14 : (x.f0 == 14) = true := beq_iff_eq.2 h14; rw [if_pos h14] at hdv; clear h14)
          | (have hb14 : (x.f0 == 14) = false := beq_eq_false_iff_ne.2 h14; rw [if_neg h14] at hdv; clear h14)
        subst hdv
        gi_wp2_with fail
        clear hb14 hc0 hc4
        gi_loopw [8, 22] (fun t8 t22 wr => ∃ (k : Nat) (ys : List (El w0)), k ≤ x.f4.length ∧ t22 = .int .i64 k ∧ Aside0 (ys.map view = (wi, x) :: (x.f4.take k).flatMap (preo (deep wi x))) ∧ Aside0 (J (pre ++ ys) wr) ∧ Aside0 (Kp w0.heap.size bo t W wr)) (fun _ t22 _ => x.f4.length - (intOf t22).toNat)
        case atStart => exact ⟨0, [⟨(wi, x, _), hK, hok⟩], Nat.zero_le _, rfl, ⟨by simp [view]⟩, HJ1, HK1⟩
        case round =>
          obtain ⟨k, ys, hk, rfl, hys, hJk, hKk⟩ := hrel
          by_cases hlt : k < x.f4.length
          · obtain ⟨y, ad, A4, c4, hyk, rfl, g0, g1, g2, g3, g4, hl4, hC4⟩ := at24 hC k hlt
            have hbwr := hb.trans hKk.out.below
            replace g0 := pw_cell_below hbwr g0
            replace g1 := pw_cell_below hbwr g1
            replace g2 := pw_cell_below hbwr g2
            replace g3 := pw_cell_below hbwr g3
            replace g4 := pw_cell_below hbwr g4
            have hBr : Boxes l bo t yb ib wr := Boxes.kept HB0.out hKk.out
            have hci : wr.cell? ⟨ib, 0, none⟩ = some (.func (.func 27) #[] #[.pointer (some ⟨yb, 0, none⟩), .pointer (some ⟨ib, 0, none⟩)]) := (blk_cell hBr.2.2.2.2.1 0).trans rfl
            have hil : ib < wr.heap.size := blk_lt hBr.2.2.2.2.1
            have hbw : Below wr.heap.size wr (wr.alloc (.cells #[.int .i64 y.f0, .string y.f1, .int .i64 y.f2, .int .i64 y.f3, .slice A4 y.f4.length c4] 24)) := (Below.refl _ _).alloc (Nat.le_refl _) _
            have hpl := preo_len wi x y k hyk.out hlt
            have hyl : (pre ++ ys).length + (preo (deep wi x) y).length ≤ N := by
              have := congrArg List.length hys.out
              simp at this
              simp [this] at hpl ⊢
              omega
            have HI := Aside0.mk (ih y _ (deep wi x) (n - 1) (pre ++ ys) _ (by have := kid_lt x y k hyk.out hlt; omega) (k24_mk w0 y hl4 hC4) (hok.kid (by rw [← getD_mem x y k hyk.out hlt]; exact List.getElem_mem hlt)) ((hb.trans hKk.out.below).trans (hbw.mono (Nat.le_trans hb.size hKk.out.below.size))) (Boxes.kept hBr (Kp.of_below (n₀ := w0.heap.size) hbw hBr.1 (Nat.le_trans hb.size hKk.out.below.size))) (hJ _ _ _ hJk.out hbw) hyl)
            have HT := Aside0.mk (take_flat (deep wi x) x y k hyk.out hlt)
            clear hpl hyl
            rw [HDV.out] at HI
            have HLr : Aside0 (bo < wr.heap.size ∧ w0.heap.size ≤ wr.heap.size) := ⟨hBr.1, hbwr.size⟩
            clear hBr hbw hC4 hbwr
            gi_wp2_with fail
            refine HI.out.mono ?_
            rintro e W2 (⟨rfl, zs, hz, hJ2, hk2⟩ | ⟨rfl, zs, hz, hx2⟩)
            · gi_wp2_with fail
              go_roundw
              case rel =>
                refine ⟨k + 1, ys ++ zs, by omega, by go_num, ⟨?_⟩, ⟨?_⟩, ⟨?_⟩⟩
                · rw [List.map_append, hys.out, hz, HT.out, HDV.out]; simp
                · rw [← List.append_assoc]; exact hJ2
                · exact hKk.out.trans ((Kp.of_below ((Below.refl _ wr).alloc (Nat.le_refl _) _) HLr.out.1 HLr.out.2).trans hk2)
              case measure => simp [intOf]; omega
            · gi_wp2_with fail
              go_ret
              refine .inr ⟨rfl, ys ++ zs, ?_, by rw [← List.append_assoc]; exact hx2⟩
              obtain ⟨q, hq⟩ := hz
              rw [List.map_append, hys.out, preo_eq]
              have h1 : x.f4 = x.f4.take (k + 1) ++ x.f4.drop (k + 1) := (List.take_append_drop _ _).symm
              refine ⟨q ++ (x.f4.drop (k + 1)).flatMap (preo (deep wi x)), ?_⟩
              conv => rhs; rw [h1, List.flatMap_append]
              rw [HT.out, HDV.out, ← hq]
              simp
          · gi_wp2_with fail
            go_ret
            refine .inl ⟨rfl, ys, ?_, hJk.out, hKk.out⟩
            rw [hys.out, preo_eq, List.take_of_length_le (by omega)]
    · gi_wp2_with fail
      go_ret
      refine .inr ⟨rfl, [⟨(wi, x, _), HK.out, hok⟩], ?_, hx1⟩
      rw [preo_eq]
      exact ⟨x.f4.flatMap (preo (deep wi x)), by simp [view]⟩

set_option maxHeartbeats 1000000 in
theorem walk1_in (F : Fence) (hd : F.depth = none) (n : Nat) (h26 : F.fn 26) (h27 : F.fn 27) (hro : F.round = none) (l N bo t Bn : Nat) (w0 : World) (x : S24) (cs : List Value) (hK : k24.K w0 x cs) (hokT : okT x) (J Jx : List (El w0) → World → Prop)
    (hJ : ∀ s W W', J s W → Below W.heap.size W W' → J s W')
    (hY : ∀ pre (x : El w0) W, J pre W → pre.length < N → YieldAt F (n - 1) Tryd.prog l (elv x) W fun e W' =>
      (e = .returned (.bool true) ∧ J (pre ++ [x]) W' ∧ Kp w0.heap.size bo t W W') ∨ (e = .returned (.bool false) ∧ Jx (pre ++ [x]) W'))
    (hN : (preo 0 x).length ≤ N) (W : World) (hb : Below w0.heap.size w0 W) (hbo : bo < W.heap.size) (hok : OkFp bo t W) (hbx : W.heap[Bn]? = some (.cells cs.toArray 24 (0, 0))) (h0 : J [] W) :
    CallsIn F n Tryd.prog 26 #[.func (.yield l) #[] #[], .pointer (some ⟨Bn, 0, none⟩)] W fun e W' => (∃ v, e = .returned v) ∧
      ((∃ ys : List (El w0), ys.map view = preo 0 x ∧ J ys W') ∨ (∃ pre : List (El w0), pre.map view <+: preo 0 x ∧ Jx pre W')) := by
  have hdd : ∀ k : Nat, (F.depth.isSome = true → 1 ≤ k) := fun k h => by rw [hd] at h; cases h
  have HK := Aside0.mk hK
  obtain ⟨A, c, rfl, hl, hC⟩ := k24_open hK
  have hc0 : W.cell? ⟨Bn, 0, none⟩ = some (.int .i64 x.f0) := (blk_cell hbx 0).trans rfl
  have hc1 : W.cell? ⟨Bn, 1, none⟩ = some (.string x.f1) := (blk_cell hbx 1).trans rfl
  have hc2 : W.cell? ⟨Bn, 2, none⟩ = some (.int .i64 x.f2) := (blk_cell hbx 2).trans rfl
  have hc3 : W.cell? ⟨Bn, 3, none⟩ = some (.int .i64 x.f3) := (blk_cell hbx 3).trans rfl
  have hc4 : W.cell? ⟨Bn, 4, none⟩ = some (.slice A x.f4.length c) := (blk_cell hbx 4).trans rfl
  have hcl : Bn < W.heap.size := blk_lt hbx
  have hi := into_in F hd h27 hro l N bo t W.heap.size (W.heap.size + 1) w0 J Jx hJ (fun m pre x W hj hl => YieldAt.anyDepth hd m (hY pre x W hj hl)) (SizeOf.sizeOf x) x _ 0 (n - 1) []
    ((W.alloc (.cells #[.func (.yield l) #[] #[]] 42)).alloc (.cells #[.func (.func 27) #[] #[.pointer (some ⟨W.heap.size, 0, none⟩), .pointer (some ⟨W.heap.size + 1, 0, none⟩)]] 43)) (Nat.le_refl _) hK hokT
  have hbw : Below W.heap.size W ((W.alloc (.cells #[.func (.yield l) #[] #[]] 42)).alloc (.cells #[.func (.func 27) #[] #[.pointer (some ⟨W.heap.size, 0, none⟩), .pointer (some ⟨W.heap.size + 1, 0, none⟩)]] 43)) :=
    ((Below.refl _ _).alloc (Nat.le_refl _) _).alloc (by simp) _
  have nofp : ∀ k, W.heap.size ≤ k → ¬ Fp bo t W k := by
    rintro k hk (h | ⟨v, hv, hv'⟩)
    · omega
    · have := hok v k hv hv'; omega
  have HI := Aside0.mk (hi (hb.trans (hbw.mono hb.size)) ⟨Nat.lt_of_lt_of_le hbo hbw.size, okFp_below hbw hbo hok, blk_alloc (blk_new W _) _, fun h => nofp _ (Nat.le_refl _) ((fp_below hbw hbo).1 h), by have := blk_new (W.alloc (.cells #[.func (.yield l) #[] #[]] 42)) (.cells #[.func (.func 27) #[] #[.pointer (some ⟨W.heap.size, 0, none⟩), .pointer (some ⟨W.heap.size + 1, 0, none⟩)]] 43); simpa using this, fun h => nofp _ (Nat.le_succ _) ((fp_below hbw hbo).1 h)⟩ (hJ _ _ _ h0 hbw) (by simpa using hN))
  clear hi hbw nofp hK hC
  refine callsIn_of_wp Tryd.func26 rfl h26 ?_ hro
  simp only [Tryd.ntmps26, List.size_toArray, List.length_cons, List.length_nil, Nat.reduceAdd, Nat.reduceSub, Array.replicate_succ, Array.replicate_zero, List.push_toArray, List.append_toArray, List.nil_append, List.cons_append]
  gi_wp2_with fail
  refine HI.out.mono ?_
  rintro e W1 (⟨rfl, ys, hy, hJ1, _⟩ | ⟨rfl, ys, hy, hx⟩)
  · gi_wp2_with fail
    go_end0
    exact ⟨⟨_, rfl⟩, .inl ⟨ys, hy, by simpa using hJ1⟩⟩
  · gi_wp2_with fail
    go_end0
    exact ⟨⟨_, rfl⟩, .inr ⟨ys, hy, by simpa using hx⟩⟩

theorem walk_stops (F : Fence) (hd : F.depth = none) (n : Nat) (h26 : F.fn 26) (h27 : F.fn 27) (hro : F.round = none) (N bo t Bn : Nat) (w0 w : World) (x : S24) (cs : List Value) (hK : k24.K w0 x cs) (hokT : okT x)
    (hN : (preo 0 x).length ≤ N) (hb : Below w0.heap.size w0 w) (hbo : bo < w.heap.size) (hok : OkFp bo t w) (hbx : w.heap[Bn]? = some (.cells cs.toArray 24 (0, 0))) :
    SeqStopsK F n Tryd.prog 26 #[.pointer (some ⟨Bn, 0, none⟩)] (elv (w0 := w0)) (Kp w0.heap.size bo t) (fun ys => ys.map view = preo 0 x) (fun pre => pre.map view <+: preo 0 x) N w :=
  fun l J Jx W hW hJ _ hY h0 =>
    walk1_in F hd n h26 h27 hro l N bo t Bn w0 x cs hK hokT J Jx
      (fun s A B hs hAB => hJ s A B none hs (grown_of_below hAB none) (fun r e => by cases e))
      (fun pre y W1 hj hl => hY pre y W1 hj hl) hN W (hb.trans (hW.mono hb.size)) (Nat.lt_of_lt_of_le hbo hW.size) (okFp_below hW hbo hok) (blk_below hbx hW) h0

theorem walk_in (F : Fence) (n : Nat) (h18 : F.fn 18) (hro : F.round = none) (x : S24) (cs : List Value) (w : World) (hK : k24.K w x cs) :
    CallsIn F n Tryd.prog 18 #[.agg cs.toArray] w fun e w' => e = .returned (.func (.func 26) #[] #[.pointer (some ⟨w.heap.size, 0, none⟩)]) ∧ w' = w.alloc (.cells cs.toArray 24) := by
  obtain ⟨A, c, rfl, hl, hC⟩ := k24_open hK
  refine callsIn_of_wp Tryd.func18 rfl h18 ?_ hro
  simp only [Tryd.ntmps18, List.size_toArray, List.length_cons, List.length_nil, Nat.reduceAdd, Nat.reduceSub, Array.replicate_succ, Array.replicate_zero, List.push_toArray, List.append_toArray, List.nil_append, List.cons_append]
  gi_wp2
  go_ret
  exact ⟨rfl, rfl⟩
end Go.Proofs.YtladneaaepcdbaaDoor.C
