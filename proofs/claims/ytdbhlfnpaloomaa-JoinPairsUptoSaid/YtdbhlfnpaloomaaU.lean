/- marqueelaw19.awake: chapter 19's example holds. -/
import Derived.Test.YtdbhlfnpaloomaaQ
namespace Go.Proofs.Ytdbhlfnpaloomaa.U
open Go.RowKit Go.Proofs.YtdbhlfnpaloomaaW.PrintWords Go.Proofs.YtdbhlfnpaloomaaW.PrintLast Go.Proofs.YtdbhlfnpaloomaaW.PrintMore
open Go.Proofs.Ytdbhlfnpaloomaa.PSame Go.Proofs.Ytdbhlfnpaloomaa.A Go.Proofs.Ytdbhlfnpaloomaa.B Go.Proofs.Ytdbhlfnpaloomaa.F Go.Proofs.Ytdbhlfnpaloomaa.G Go.Proofs.Ytdbhlfnpaloomaa.H Go.Proofs.Ytdbhlfnpaloomaa.I Go.Proofs.Ytdbhlfnpaloomaa.J Go.Proofs.Ytdbhlfnpaloomaa.K Go.Proofs.Ytdbhlfnpaloomaa.L Go.Proofs.Ytdbhlfnpaloomaa.M Go.Proofs.Ytdbhlfnpaloomaa.N Go.Proofs.Ytdbhlfnpaloomaa.O Go.Proofs.Ytdbhlfnpaloomaa.Q
set_option linter.unusedVariables false
set_option linter.unusedSimpArgs false

def ar (s n : Int) : S30 := ⟨s, 0, [⟨2, n, ⟨#[]⟩⟩]⟩
def x0 : St := ⟨1, 0, 0, false, [], []⟩
def y0 : St := ⟨2, 0, 0, false, [], []⟩
def x1 : St := x0.add (ar 1 1)
def y1 : St := y0.add (ar 2 5)
def y2 : St := y1.add (ar 3 6)
def x2 : St := x1.add (ar 4 2)
def P0 : List S30 := []
def P1 : List S30 := pairs x1.H y0.H
def P2 : List S30 := pairs x1.H y1.H
def P3 : List S30 := pairs x1.H y2.H
def P4 : List S30 := pairs x2.H y2.H

theorem fine_of (l : List S30) (h : (decide (l.length ≤ 1000) && l.all fun a => decide (0 ≤ a.f0) && decide (a.f0 ≤ 1073741824) && decide (a.f2.length ≤ 2097152)) = true) : Fine l := by
  simp only [Bool.and_eq_true, decide_eq_true_eq, List.all_eq_true] at h
  exact ⟨h.1, fun a ha => ⟨(h.2 a ha).1.1, (h.2 a ha).1.2, (h.2 a ha).2⟩⟩
theorem short_of (l : List S30) (h : (decide (l.length ≤ 2000000) && l.all fun a => decide (a.f2.length ≤ 4194304)) = true) : Short l := by
  simp only [Bool.and_eq_true, decide_eq_true_eq, List.all_eq_true] at h
  exact ⟨h.1, fun a ha => h.2 a ha⟩
theorem len2 : (news P2 P1).length = 1 := by kernel_rfl
theorem len2r : ((news P2 P1).map fun a => a.f2.length) = [2] := by kernel_rfl
theorem len4i : (news P4 P3).length = 2 := by kernel_rfl
theorem len4o : (news P3 P4).length = 2 := by kernel_rfl
theorem lenC : (pairs x2.H y2.H).length = 2 := by kernel_rfl
theorem lenL : (x2.H.length : Int) + y2.H.length = 3 := by kernel_rfl

def SP (n : Int) : Array Value := #[.int .i64 2, .int .i64 n, .slice none 0 0, .bool false]

set_option maxRecDepth 100000 in
set_option maxHeartbeats 8000000 in
theorem awake_calls (w : World) : Calls Try.prog 8 #[] w fun e w' => e = .returned (.bool true) ∧ Below w.heap.size w w' := by
  go_enter Try.func8, Try.ntmps8
  go_wp2_with fail
  obtain ⟨wa, hwa⟩ : ∃ wa : World, wa = (w.alloc (.cells #[.int .i64 2, .int .i64 1, .slice none 0 0, .bool false] 37)).alloc (.cells #[.int .i64 2, .int .i64 2, .slice none 0 0, .bool false] 37) := ⟨_, rfl⟩
  have hBa : Below w.heap.size w wa := by rw [hwa]; exact below_alloc (below_alloc (Below.refl _ _) _) _
  have h0 : wa.heap[w.heap.size]? = some (.cells #[.int .i64 2, .int .i64 1, .slice none 0 0, .bool false] 37 (0, 0)) := by rw [hwa]; exact blk_alloc (blk_new _ _) _
  have h1 : wa.heap[w.heap.size + 1]? = some (.cells #[.int .i64 2, .int .i64 2, .slice none 0 0, .bool false] 37 (0, 0)) := by rw [hwa]; have := blk_new (w.alloc (.cells #[.int .i64 2, .int .i64 1, .slice none 0 0, .bool false] 37)) (.cells #[.int .i64 2, .int .i64 2, .slice none 0 0, .bool false] 37); simpa using this
  rw [← hwa]
  clear hwa
  refine (joinNew_calls w.heap.size (w.heap.size + 1) 1 2 1 1 wa h0 h1 (by omega) (by omega) (by omega) (by omega)).mono ?_
  rintro e w1 ⟨j, rfl, hj1, hb1⟩
  obtain ⟨base, hbase⟩ : ∃ base, base = wa.heap.size := ⟨_, rfl⟩
  rw [← hbase] at hj1
  have HBS := Aside0.mk (show w.heap.size ≤ base by rw [hbase]; exact hBa.size)
  have HLE1 := Aside0.mk (show base ≤ w1.heap.size by rw [hbase]; exact hb1.size)
  have HB1 := Aside0.mk (below_then hBa hBa.size hb1)
  obtain ⟨O1, hO1⟩ : ∃ O : Nat → Prop, O = (fun k => base ≤ k ∧ k < w1.heap.size) := ⟨_, rfl⟩
  rw [← hO1] at hj1
  have HJ1 : Aside0 (JoinIs w1 base O1 j x0 y0 P0) := ⟨hj1⟩
  clear hbase hBa h0 h1 hj1 hb1 hO1
  go_wp2_with fail
  refine (marqueelaw19_one.calls 1 1 1 0 (ar 1 1).f2 w1 rfl).mono ?_
  rintro e w2 ⟨v, rfl, hv, hb⟩
  obtain ⟨A0, c0, rfl⟩ := Kd.R_slice hv
  have HC0 := Aside0.mk (Kd.R_reads' hv)
  have HJo := Aside0.mk (JoinIs.below HJ1.out hb)
  have HB2 := Aside0.mk (below_then HB1.out HB1.out.size hb)
  have HLE2 := Aside0.mk (Nat.le_trans HLE1.out hb.size)
  clear hv hb
  go_wp2_with fail
  refine (joinAdd0_calls base j O1 x0 y0 P0 (ar 1 1) A0 c0 w2 HJo.out HC0.out.2.2 HC0.out.2.1 (of_decide_eq_true (by kernel_rfl)) (of_decide_eq_true (by kernel_rfl)) (of_decide_eq_true (by kernel_rfl)) (of_decide_eq_true (by kernel_rfl)) (of_decide_eq_true (by kernel_rfl)) (of_decide_eq_true (by kernel_rfl)) (short_of _ (by kernel_rfl)) (short_of _ (by kernel_rfl)) (of_decide_eq_true (by kernel_rfl)) (fine_of _ (by kernel_rfl)) (fine_of _ (by kernel_rfl)) (short_of _ (by kernel_rfl)) (short_of _ (by kernel_rfl)) HLE2.out).mono ?_
  rintro e w3 ⟨N0, B0, e0, D0, f0, rfl, hr0, hs0, hj, he, hn0, hm0⟩
  obtain ⟨O2, hO⟩ : ∃ O : Nat → Prop, O = (fun k => O1 k ∨ (w2.heap.size ≤ k ∧ k < N0)) := ⟨_, rfl⟩
  rw [← hO] at hj
  have HO0 : Aside0 (∀ k, O2 k → O1 k ∨ (w2.heap.size ≤ k ∧ k < N0)) := ⟨fun k hk => by rw [hO] at hk; exact hk⟩
  have HOL0 : Aside0 (∀ k, O1 k → k < w2.heap.size) := ⟨fun k hk => by obtain ⟨_, _, _, _, _, _, _, _, _, _, _, _, _, _, b9⟩ := HJo.out; exact (b9 k hk).2⟩
  have HJ3 : Aside0 (JoinIs w3 base O2 j x1 y0 P1) := ⟨hj⟩
  have HOB0 : Aside0 (∀ k, O1 k → base ≤ k) := ⟨fun k hk => by obtain ⟨_, _, _, _, _, _, _, _, _, _, _, _, _, _, b9⟩ := HJo.out; exact (b9 k hk).1⟩
  have HB3 := Aside0.mk (he.below HB2.out HB2.out.size (fun k hk => Nat.le_trans HBS.out (HOB0.out k hk)))
  have HLE3 := Aside0.mk (Nat.le_trans HLE2.out he.kept.1)
  have HE0 := Aside0.mk he
  clear hO hj he HJo
  clear hr0 hs0 hn0 hm0
  go_wp2_with fail
  refine (marqueelaw19_one.calls 2 5 2 0 (ar 2 5).f2 w3 rfl).mono ?_
  rintro e w4 ⟨v, rfl, hv, hb⟩
  obtain ⟨A1, c1, rfl⟩ := Kd.R_slice hv
  have HC1 := Aside0.mk (Kd.R_reads' hv)
  have HJo := Aside0.mk (JoinIs.below HJ3.out hb)
  have HB4 := Aside0.mk (below_then HB3.out HB3.out.size hb)
  have HLE4 := Aside0.mk (Nat.le_trans HLE3.out hb.size)
  clear hv hb
  go_wp2_with fail
  refine (joinAdd1_calls base j O2 x1 y0 P1 (ar 2 5) A1 c1 w4 HJo.out HC1.out.2.2 HC1.out.2.1 (of_decide_eq_true (by kernel_rfl)) (of_decide_eq_true (by kernel_rfl)) (of_decide_eq_true (by kernel_rfl)) (of_decide_eq_true (by kernel_rfl)) (of_decide_eq_true (by kernel_rfl)) (of_decide_eq_true (by kernel_rfl)) (short_of _ (by kernel_rfl)) (short_of _ (by kernel_rfl)) (of_decide_eq_true (by kernel_rfl)) (fine_of _ (by kernel_rfl)) (fine_of _ (by kernel_rfl)) (short_of _ (by kernel_rfl)) (short_of _ (by kernel_rfl)) HLE4.out).mono ?_
  rintro e w5 ⟨N1, B1, e1, D1, f1, rfl, hr1, hs1, hj, he, hn1, hm1⟩
  obtain ⟨O3, hO⟩ : ∃ O : Nat → Prop, O = (fun k => O2 k ∨ (w4.heap.size ≤ k ∧ k < N1)) := ⟨_, rfl⟩
  rw [← hO] at hj
  have HO1 : Aside0 (∀ k, O3 k → O2 k ∨ (w4.heap.size ≤ k ∧ k < N1)) := ⟨fun k hk => by rw [hO] at hk; exact hk⟩
  have HOL1 : Aside0 (∀ k, O2 k → k < w4.heap.size) := ⟨fun k hk => by obtain ⟨_, _, _, _, _, _, _, _, _, _, _, _, _, _, b9⟩ := HJo.out; exact (b9 k hk).2⟩
  have HJ5 : Aside0 (JoinIs w5 base O3 j x1 y1 P2) := ⟨hj⟩
  have HOB1 : Aside0 (∀ k, O2 k → base ≤ k) := ⟨fun k hk => by obtain ⟨_, _, _, _, _, _, _, _, _, _, _, _, _, _, b9⟩ := HJo.out; exact (b9 k hk).1⟩
  have HB5 := Aside0.mk (he.below HB4.out HB4.out.size (fun k hk => Nat.le_trans HBS.out (HOB1.out k hk)))
  have HLE5 := Aside0.mk (Nat.le_trans HLE4.out he.kept.1)
  have HE1 := Aside0.mk he
  clear hO hj he HJo
  have hl1 : (news (pairs x1.H (y0.add (ar 2 5)).H) P1).length = 1 := len2
  have HR1 : Aside0 (Kd.R k30 30 w5 N1 (fun k => N1 ≤ k ∧ k < w5.heap.size) (.slice B1 1 e1) (news P2 P1)) := ⟨by rw [hl1] at hr1; exact Kd.R_mono (Kd.R_bound hr1) (fun k hk => ⟨hk.2.1, hk.2.2.1⟩)⟩
  have HN1 := Aside0.mk (And.intro hn1 hm1)
  rw [hl1]
  obtain ⟨m1, hm⟩ : ∃ m, m = (news P1 (pairs x1.H (y0.add (ar 2 5)).H)).length := ⟨_, rfl⟩
  rw [← hm]
  clear hr1 hs1 hn1 hm1 hl1 hm
  go_wp2_with fail
  obtain ⟨w6, hw6⟩ : ∃ w6 : World, w6 = w5.alloc (.cells #[.slice B1 1 e1, .slice D1 m1 f1] 40) := ⟨_, rfl⟩
  have hb6 : Below w5.heap.size w5 w6 := by rw [hw6]; exact below_alloc (Below.refl _ _) _
  obtain ⟨da, hda⟩ : ∃ da, da = w5.heap.size := ⟨_, rfl⟩
  have hd6 : w6.heap[da]? = some (.cells #[.slice B1 1 e1, .slice D1 m1 f1] 40 (0, 0)) := by rw [hw6, hda]; exact blk_new _ _
  rw [← hw6, ← hda]
  have HDA := Aside0.mk hda
  have HJ6 := Aside0.mk (JoinIs.below HJ5.out hb6)
  have HB6 := Aside0.mk (below_then HB5.out HB5.out.size hb6)
  have HLE6 := Aside0.mk (Nat.le_trans HLE5.out hb6.size)
  have HR6 := Aside0.mk (Kd.R_below HR1.out hb6)
  have HD6 := Aside0.mk hd6
  have HOK : Aside0 (∀ k, O3 k → k < N1) := ⟨fun k hk => (HO1.out k hk).elim (fun h => by have := HOL1.out k h; have := HN1.out.1; omega) (fun h => h.2)⟩
  clear hw6 hb6 hda hd6
  go_wp2_with fail
  refine (marqueelaw19_one.calls 3 6 3 0 (ar 3 6).f2 w6 rfl).mono ?_
  rintro e w7 ⟨v, rfl, hv, hb⟩
  obtain ⟨A2, c2, rfl⟩ := Kd.R_slice hv
  have HC2 := Aside0.mk (Kd.R_reads' hv)
  have HJo := Aside0.mk (JoinIs.below HJ6.out hb)
  have HB7 := Aside0.mk (below_then HB6.out HB6.out.size hb)
  have HLE7 := Aside0.mk (Nat.le_trans HLE6.out hb.size)
  have HR7 := Aside0.mk (Kd.R_below HR6.out hb)
  have HD7 := Aside0.mk (blk_below HD6.out hb)
  have HSZ7 := Aside0.mk (And.intro (blk_lt HD6.out) hb.size)
  clear hv hb
  go_wp2_with fail
  refine (joinAdd1_calls base j O3 x1 y1 P2 (ar 3 6) A2 c2 w7 HJo.out HC2.out.2.2 HC2.out.2.1 (of_decide_eq_true (by kernel_rfl)) (of_decide_eq_true (by kernel_rfl)) (of_decide_eq_true (by kernel_rfl)) (of_decide_eq_true (by kernel_rfl)) (of_decide_eq_true (by kernel_rfl)) (of_decide_eq_true (by kernel_rfl)) (short_of _ (by kernel_rfl)) (short_of _ (by kernel_rfl)) (of_decide_eq_true (by kernel_rfl)) (fine_of _ (by kernel_rfl)) (fine_of _ (by kernel_rfl)) (short_of _ (by kernel_rfl)) (short_of _ (by kernel_rfl)) HLE7.out).mono ?_
  rintro e w8 ⟨N2, B2, e2, D2, f2, rfl, hr2, hs2, hj, he, hn2, hm2⟩
  obtain ⟨O4, hO⟩ : ∃ O : Nat → Prop, O = (fun k => O3 k ∨ (w7.heap.size ≤ k ∧ k < N2)) := ⟨_, rfl⟩
  rw [← hO] at hj
  have HO2 : Aside0 (∀ k, O4 k → O3 k ∨ (w7.heap.size ≤ k ∧ k < N2)) := ⟨fun k hk => by rw [hO] at hk; exact hk⟩
  have HOL2 : Aside0 (∀ k, O3 k → k < w7.heap.size) := ⟨fun k hk => by obtain ⟨_, _, _, _, _, _, _, _, _, _, _, _, _, _, b9⟩ := HJo.out; exact (b9 k hk).2⟩
  have HJ8 : Aside0 (JoinIs w8 base O4 j x1 y2 P3) := ⟨hj⟩
  have HOB2 : Aside0 (∀ k, O3 k → base ≤ k) := ⟨fun k hk => by obtain ⟨_, _, _, _, _, _, _, _, _, _, _, _, _, _, b9⟩ := HJo.out; exact (b9 k hk).1⟩
  have HB8 := Aside0.mk (he.below HB7.out HB7.out.size (fun k hk => Nat.le_trans HBS.out (HOB2.out k hk)))
  have HLE8 := Aside0.mk (Nat.le_trans HLE7.out he.kept.1)
  have HE2 := Aside0.mk he
  clear hO hj he HJo
  have HR8 := Aside0.mk (Kd.R_kept HR7.out HE2.out.kept (fun k hk h => by have := HOK.out k h; omega))
  have HD8 := Aside0.mk (blk_kept HD7.out HE2.out.kept (fun h => by have := HOK.out _ h; have := HN1.out.2; have := HDA.out; omega))
  have HOK4 : Aside0 (∀ k, O4 k → k < N1 ∨ da < k) := ⟨fun k hk => (HO2.out k hk).elim (fun h => .inl (HOK.out k h)) (fun h => .inr (by have := HSZ7.out; omega))⟩
  clear hr2 hs2 hn2 hm2
  go_wp2_with fail
  refine (marqueelaw19_one.calls 4 2 4 0 (ar 4 2).f2 w8 rfl).mono ?_
  rintro e w9 ⟨v, rfl, hv, hb⟩
  obtain ⟨A3, c3, rfl⟩ := Kd.R_slice hv
  have HC3 := Aside0.mk (Kd.R_reads' hv)
  have HJo := Aside0.mk (JoinIs.below HJ8.out hb)
  have HB9 := Aside0.mk (below_then HB8.out HB8.out.size hb)
  have HLE9 := Aside0.mk (Nat.le_trans HLE8.out hb.size)
  have HR9 := Aside0.mk (Kd.R_below HR8.out hb)
  have HD9 := Aside0.mk (blk_below HD8.out hb)
  clear hv hb
  go_wp2_with fail
  refine (joinAdd0_calls base j O4 x1 y2 P3 (ar 4 2) A3 c3 w9 HJo.out HC3.out.2.2 HC3.out.2.1 (of_decide_eq_true (by kernel_rfl)) (of_decide_eq_true (by kernel_rfl)) (of_decide_eq_true (by kernel_rfl)) (of_decide_eq_true (by kernel_rfl)) (of_decide_eq_true (by kernel_rfl)) (of_decide_eq_true (by kernel_rfl)) (short_of _ (by kernel_rfl)) (short_of _ (by kernel_rfl)) (of_decide_eq_true (by kernel_rfl)) (fine_of _ (by kernel_rfl)) (fine_of _ (by kernel_rfl)) (short_of _ (by kernel_rfl)) (short_of _ (by kernel_rfl)) HLE9.out).mono ?_
  rintro e w10 ⟨N3, B3, e3, D3, f3, rfl, hr3, hs3, hj, he, hn3, hm3⟩
  obtain ⟨O5, hO⟩ : ∃ O : Nat → Prop, O = (fun k => O4 k ∨ (w9.heap.size ≤ k ∧ k < N3)) := ⟨_, rfl⟩
  rw [← hO] at hj
  have HO3 : Aside0 (∀ k, O5 k → O4 k ∨ (w9.heap.size ≤ k ∧ k < N3)) := ⟨fun k hk => by rw [hO] at hk; exact hk⟩
  have HOL3 : Aside0 (∀ k, O4 k → k < w9.heap.size) := ⟨fun k hk => by obtain ⟨_, _, _, _, _, _, _, _, _, _, _, _, _, _, b9⟩ := HJo.out; exact (b9 k hk).2⟩
  have HJ10 : Aside0 (JoinIs w10 base O5 j x2 y2 P4) := ⟨hj⟩
  have HOB3 : Aside0 (∀ k, O4 k → base ≤ k) := ⟨fun k hk => by obtain ⟨_, _, _, _, _, _, _, _, _, _, _, _, _, _, b9⟩ := HJo.out; exact (b9 k hk).1⟩
  have HB10 := Aside0.mk (he.below HB9.out HB9.out.size (fun k hk => Nat.le_trans HBS.out (HOB3.out k hk)))
  have HLE10 := Aside0.mk (Nat.le_trans HLE9.out he.kept.1)
  have HE3 := Aside0.mk he
  clear hO hj he HJo
  have HR10 := Aside0.mk (Kd.R_kept HR9.out HE3.out.kept (fun k hk h => by have := HOK4.out k h; have := HDA.out; omega))
  have HD10 := Aside0.mk (blk_kept HD9.out HE3.out.kept (fun h => by have := HOK4.out _ h; have := HN1.out.2; have := HDA.out; omega))
  have hl3 : (news (pairs (x1.add (ar 4 2)).H y2.H) P3).length = 2 := len4i
  have hl4 : (news P3 (pairs (x1.add (ar 4 2)).H y2.H)).length = 2 := len4o
  rw [hl3, hl4]
  clear hl3 hl4 hr3 hs3 hn3 hm3
  obtain ⟨y, ad, A2', c2', hyx, e1', _, _, g2, _, _⟩ := at30 (Kd.R_reads' HR10.out).2.2 0 (by rw [len2]; omega)
  subst e1'
  have hy2 : y.f2.length = 2 := by
    have h := len2r
    have h1 := len2
    rw [← hyx.out]
    revert h h1
    generalize news P2 P1 = q
    intro h h1
    cases q with
    | nil => cases h1
    | cons z q => simp at h ⊢; exact h.1
  rw [hy2] at g2
  have d0 : w10.cell? ⟨da, 0, none⟩ = some (.slice (some ad) 1 e1) := (blk_cell HD10.out 0).trans rfl
  have hgw := World.block_lt_of_cell? w10 _ g2
  simp only [Nat.zero_mul, Addr.add, if_pos] at g2 hgw
  have HG2 := Aside0.mk g2
  clear hgw hy2 hyx g2
  have hal : Below w10.heap.size w10 (w10.alloc (.cells #[.slice B3 2 e3, .slice D3 2 f3] 40)) := below_alloc (Below.refl _ _) _
  have k0 : (w10.alloc (.cells #[.slice B3 2 e3, .slice D3 2 f3] 40)).cell? ⟨da, 0, none⟩ = some (.slice (some ad) 1 e1) := pw_cell_below hal d0
  have k1 : (w10.alloc (.cells #[.slice B3 2 e3, .slice D3 2 f3] 40)).cell? ⟨ad.block, ad.off + 2, none⟩ = some (.slice A2' 2 c2') := pw_cell_below hal HG2.out
  have HJF := Aside0.mk (JoinIs.below HJ10.out hal)
  have HBF := Aside0.mk (below_then HB10.out HB10.out.size hal)
  clear hal d0
  go_wp2_with fail
  refine (joinContent_calls base j _ x2 y2 _ _ HJF.out (fine_of _ (by kernel_rfl)) (fine_of _ (by kernel_rfl))).mono ?_
  rintro e w11 ⟨A, c, rfl, hb11⟩
  rw [lenC]
  have HJG := Aside0.mk (JoinIs.below HJF.out hb11)
  have HBG := Aside0.mk (below_then HBF.out HBF.out.size hb11)
  clear hb11 k0 k1
  go_wp2_with fail
  refine (joinLen_calls base j _ x2 y2 _ _ HJG.out (fine_of _ (by kernel_rfl)) (fine_of _ (by kernel_rfl))).mono ?_
  rintro e w12 ⟨rfl, hb12⟩
  rw [lenL]
  have HBH := Aside0.mk (below_then HBG.out HBG.out.size hb12)
  clear hb12
  go_wp2_with fail
  go_ret
  exact ⟨rfl, HBH.out⟩
end Go.Proofs.Ytdbhlfnpaloomaa.U
