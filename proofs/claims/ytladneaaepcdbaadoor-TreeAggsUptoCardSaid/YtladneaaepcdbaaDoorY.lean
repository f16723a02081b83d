/- TreeSame: it answers true. -/
import Derived.Test.YtladneaaepcdbaaDoorX
import Derived.Deep.RegionWith
import Derived.OrdersHeld
namespace Go.Proofs.YtladneaaepcdbaaDoor.Y
open Go.RowKit Go.Proofs.YtladneaaepcdbaaDoorW.PrintWords Go.Proofs.YtladneaaepcdbaaDoorW.PrintLast Go.Proofs.YtladneaaepcdbaaDoorW.PrintMore
open Go.Proofs.YtladneaaepcdbaaDoor.PTree Go.Proofs.YtladneaaepcdbaaDoor.B Go.Proofs.YtladneaaepcdbaaDoor.S
open Go.Proofs.YtladneaaepcdbaaDoor.Q (okT sameT sameT_eq sameT_comm sameT_refl same_some refSame_some)
set_option linter.unusedVariables false
set_option linter.unusedSimpArgs false

theorem moved_left (x : S24) (n : Int) (y : S24) : sameT ⟨x.f0, x.f1, x.f2, n, x.f4⟩ y = sameT x y := by rw [sameT_eq, sameT_eq x]
theorem moved_right (x : S24) (n : Int) (y : S24) : sameT y ⟨x.f0, x.f1, x.f2, n, x.f4⟩ = sameT y x := by rw [sameT_comm, moved_left, sameT_comm]
theorem moved_ok {x : S24} (h : okT x) (n : Int) : okT ⟨x.f0, x.f1, x.f2, n, x.f4⟩ := .mk _ h.len (fun y hy => h.kid hy)

theorem same_call (x y : S24) (A B : Option Addr) (c d : Nat) (w : World) (hx : Kd.C k24 w A x.f4.length x.f4) (hc : x.f4.length ≤ c) (hy : Kd.C k24 w B y.f4.length y.f4) (hd : y.f4.length ≤ d) (ok : okT x) :
    Calls Tryd.prog 5 #[.agg #[.int .i64 x.f0, .string x.f1, .int .i64 x.f2, .int .i64 x.f3, .slice A x.f4.length c], .agg #[.int .i64 y.f0, .string y.f1, .int .i64 y.f2, .int .i64 y.f3, .slice B y.f4.length d]] w fun e w' => e = .returned (.bool (sameT x y)) ∧ Below w.heap.size w w' := by
  obtain ⟨k, hk⟩ := same_some _ x y (Nat.le_refl _) ok
  exact tree_Same.calls k x.f0 x.f1 x.f2 x.f3 A c x.f4 y.f0 y.f1 y.f2 y.f3 B d y.f4 _ w hx hc hy hd (hk k (Nat.le_refl _))
theorem ref_call (x y : S24) (A B : Option Addr) (c d : Nat) (w : World) (hx : Kd.C k24 w A x.f4.length x.f4) (hc : x.f4.length ≤ c) (hy : Kd.C k24 w B y.f4.length y.f4) (hd : y.f4.length ≤ d) (ok : okT x) :
    Calls Tryd.prog 6 #[.agg #[.int .i64 x.f0, .string x.f1, .int .i64 x.f2, .int .i64 x.f3, .slice A x.f4.length c], .agg #[.int .i64 y.f0, .string y.f1, .int .i64 y.f2, .int .i64 y.f3, .slice B y.f4.length d]] w fun e w' => e = .returned (.bool (sameT x y)) ∧ Below w.heap.size w w' := by
  obtain ⟨k, hk⟩ := refSame_some _ x y (Nat.le_refl _) ok
  exact marqueeref06_Same.calls k x.f0 x.f1 x.f2 x.f3 A c x.f4 y.f0 y.f1 y.f2 y.f3 B d y.f4 _ w hx hc hy hd (hk k (Nat.le_refl _))

set_option maxHeartbeats 16000000 in
set_option maxRecDepth 100000 in
theorem treeSame_calls (x y : S24) (A B : Option Addr) (c d : Nat) (n : Int) (w : World) (hx : Kd.C k24 w A x.f4.length x.f4) (hc : x.f4.length ≤ c) (hy : Kd.C k24 w B y.f4.length y.f4) (hd : y.f4.length ≤ d) (okx : okT x) (oky : okT y)
    (htab : Lib.TabIs Tryd.prog w "strings.asciiSpace" .u8 Lib.asciiSpaceTab) :
    Calls Tryd.prog 3 #[.agg #[.int .i64 x.f0, .string x.f1, .int .i64 x.f2, .int .i64 x.f3, .slice A x.f4.length c], .agg #[.int .i64 y.f0, .string y.f1, .int .i64 y.f2, .int .i64 y.f3, .slice B y.f4.length d], .int .i64 n] w fun e w' => e = .returned (.bool true) ∧ Below w.heap.size w w' := by
  have HX := Aside0.mk hx
  have HY := Aside0.mk hy
  clear hx hy
  go_enter Tryd.func3, Tryd.ntmps3
  go_wp2_with fail
  obtain ⟨w3, hw3⟩ : ∃ w3 : World, w3 = ((w.alloc (.cells #[.int .i64 x.f0, .string x.f1, .int .i64 x.f2, .int .i64 x.f3, .slice A x.f4.length c] 24)).alloc (.cells #[.int .i64 y.f0, .string y.f1, .int .i64 y.f2, .int .i64 y.f3, .slice B y.f4.length d] 24)).alloc (.cells #[.int .i64 x.f0, .string x.f1, .int .i64 x.f2, .int .i64 n, .slice A x.f4.length c] 24) := ⟨_, rfl⟩
  have h0 : w3.heap[w.heap.size]? = some (.cells #[.int .i64 x.f0, .string x.f1, .int .i64 x.f2, .int .i64 x.f3, .slice A x.f4.length c] 24 (0, 0)) := by rw [hw3]; exact blk_alloc (blk_alloc (blk_new _ _) _) _
  have h1 : w3.heap[(w.heap.size + 1)]? = some (.cells #[.int .i64 y.f0, .string y.f1, .int .i64 y.f2, .int .i64 y.f3, .slice B y.f4.length d] 24 (0, 0)) := by
    have e : (w.alloc (.cells #[.int .i64 x.f0, .string x.f1, .int .i64 x.f2, .int .i64 x.f3, .slice A x.f4.length c] 24)).heap.size = w.heap.size + 1 := by simp
    rw [hw3, ← e]; exact blk_alloc (blk_new _ _) _
  have h2 : w3.heap[(w.heap.size + 1 + 1)]? = some (.cells #[.int .i64 x.f0, .string x.f1, .int .i64 x.f2, .int .i64 n, .slice A x.f4.length c] 24 (0, 0)) := by
    have e : ((w.alloc (.cells #[.int .i64 x.f0, .string x.f1, .int .i64 x.f2, .int .i64 x.f3, .slice A x.f4.length c] 24)).alloc (.cells #[.int .i64 y.f0, .string y.f1, .int .i64 y.f2, .int .i64 y.f3, .slice B y.f4.length d] 24)).heap.size = w.heap.size + 1 + 1 := by simp
    rw [hw3, ← e]; exact blk_new _ _
  have hB3 : Below w.heap.size w w3 := by rw [hw3]; exact (((Below.refl _ _).alloc (Nat.le_refl _) _).alloc (by simp) _).alloc (by simp; omega) _
  rw [← hw3]
  have HS : ∀ V, Below w3.heap.size w3 V → ((V.cell? ⟨w.heap.size, 0, none⟩ = some (.int .i64 x.f0) ∧ V.cell? ⟨w.heap.size, 1, none⟩ = some (.string x.f1) ∧ V.cell? ⟨w.heap.size, 2, none⟩ = some (.int .i64 x.f2) ∧ V.cell? ⟨w.heap.size, 3, none⟩ = some (.int .i64 x.f3) ∧ V.cell? ⟨w.heap.size, 4, none⟩ = some (.slice A x.f4.length c)) ∧ (V.cell? ⟨(w.heap.size + 1), 0, none⟩ = some (.int .i64 y.f0) ∧ V.cell? ⟨(w.heap.size + 1), 1, none⟩ = some (.string y.f1) ∧ V.cell? ⟨(w.heap.size + 1), 2, none⟩ = some (.int .i64 y.f2) ∧ V.cell? ⟨(w.heap.size + 1), 3, none⟩ = some (.int .i64 y.f3) ∧ V.cell? ⟨(w.heap.size + 1), 4, none⟩ = some (.slice B y.f4.length d)) ∧ (V.cell? ⟨(w.heap.size + 1 + 1), 0, none⟩ = some (.int .i64 x.f0) ∧ V.cell? ⟨(w.heap.size + 1 + 1), 1, none⟩ = some (.string x.f1) ∧ V.cell? ⟨(w.heap.size + 1 + 1), 2, none⟩ = some (.int .i64 x.f2) ∧ V.cell? ⟨(w.heap.size + 1 + 1), 3, none⟩ = some (.int .i64 n) ∧ V.cell? ⟨(w.heap.size + 1 + 1), 4, none⟩ = some (.slice A x.f4.length c))) := by
    intro V hV
    have g0 := blk_below h0 hV
    have g1 := blk_below h1 hV
    have g2 := blk_below h2 hV
    exact ⟨⟨(blk_cell g0 0).trans rfl, (blk_cell g0 1).trans rfl, (blk_cell g0 2).trans rfl, (blk_cell g0 3).trans rfl, (blk_cell g0 4).trans rfl⟩, ⟨(blk_cell g1 0).trans rfl, (blk_cell g1 1).trans rfl, (blk_cell g1 2).trans rfl, (blk_cell g1 3).trans rfl, (blk_cell g1 4).trans rfl⟩, ⟨(blk_cell g2 0).trans rfl, (blk_cell g2 1).trans rfl, (blk_cell g2 2).trans rfl, (blk_cell g2 3).trans rfl, (blk_cell g2 4).trans rfl⟩⟩
  refine wp_region_held (S := fun V => (V.cell? ⟨w.heap.size, 0, none⟩ = some (.int .i64 x.f0) ∧ V.cell? ⟨w.heap.size, 1, none⟩ = some (.string x.f1) ∧ V.cell? ⟨w.heap.size, 2, none⟩ = some (.int .i64 x.f2) ∧ V.cell? ⟨w.heap.size, 3, none⟩ = some (.int .i64 x.f3) ∧ V.cell? ⟨w.heap.size, 4, none⟩ = some (.slice A x.f4.length c)) ∧ (V.cell? ⟨(w.heap.size + 1), 0, none⟩ = some (.int .i64 y.f0) ∧ V.cell? ⟨(w.heap.size + 1), 1, none⟩ = some (.string y.f1) ∧ V.cell? ⟨(w.heap.size + 1), 2, none⟩ = some (.int .i64 y.f2) ∧ V.cell? ⟨(w.heap.size + 1), 3, none⟩ = some (.int .i64 y.f3) ∧ V.cell? ⟨(w.heap.size + 1), 4, none⟩ = some (.slice B y.f4.length d)) ∧ (V.cell? ⟨(w.heap.size + 1 + 1), 0, none⟩ = some (.int .i64 x.f0) ∧ V.cell? ⟨(w.heap.size + 1 + 1), 1, none⟩ = some (.string x.f1) ∧ V.cell? ⟨(w.heap.size + 1 + 1), 2, none⟩ = some (.int .i64 x.f2) ∧ V.cell? ⟨(w.heap.size + 1 + 1), 3, none⟩ = some (.int .i64 n) ∧ V.cell? ⟨(w.heap.size + 1 + 1), 4, none⟩ = some (.slice A x.f4.length c))) (by kernel_rfl) ?_
  obtain ⟨V0, hV0⟩ : ∃ V0 : World, V0 = { w3 with drawn := w3.drawn + 1 } := ⟨_, rfl⟩
  have hB0 : Below w3.heap.size w3 V0 := by rw [hV0]; exact ⟨rfl, rfl, rfl, Nat.le_refl _, fun _ _ => rfl⟩
  rw [← hV0]
  have HSS := Aside0.mk HS
  have HB0 := Aside0.mk hB0
  have HB3 := Aside0.mk hB3
  have KX : ∀ V, Below w3.heap.size w3 V → Kd.C k24 V A x.f4.length x.f4 := fun V hV => Kd.C_below HX.out (below_then hB3 hB3.size hV)
  have KY : ∀ V, Below w3.heap.size w3 V → Kd.C k24 V B y.f4.length y.f4 := fun V hV => Kd.C_below HY.out (below_then hB3 hB3.size hV)
  replace KX := Aside0.mk KX
  replace KY := Aside0.mk KY
  obtain ⟨s, hs⟩ : ∃ s, s = sameT x y := ⟨_, rfl⟩
  have hs1 : sameT ⟨x.f0, x.f1, x.f2, n, x.f4⟩ x = true := by rw [moved_left, sameT_refl]
  have hs2 : sameT y ⟨x.f0, x.f1, x.f2, n, x.f4⟩ = s := by rw [moved_right, sameT_comm, hs]
  have HS0 := Aside0.mk hs.symm
  have HS1 := Aside0.mk hs1
  have HS2 := Aside0.mk hs2
  clear hV0 HS hB0 hw3 h0 h1 h2 hB3 hs hs1 hs2
  refine wpAnyH_take (i := 0) (v := .agg #[.int .i64 x.f0, .string x.f1, .int .i64 x.f2, .int .i64 x.f3, .slice A x.f4.length c]) rfl (by kernel_rfl) (by kernel_rfl) (by kernel_rfl) (fun _ _ _ h => h) (Or.inl ⟨rfl, fun V hV => ?_⟩) (HSS.out _ HB0.out) ?_
  · obtain ⟨⟨g0, g1, g2, g3, g4⟩, ⟨p0, p1, p2, p3, p4⟩, ⟨m0, m1, m2, m3, m4⟩⟩ := hV
    go_simp
  refine wpAnyH_take (i := 1) (v := .agg #[.int .i64 y.f0, .string y.f1, .int .i64 y.f2, .int .i64 y.f3, .slice B y.f4.length d]) rfl (by kernel_rfl) (by kernel_rfl) (by kernel_rfl) (fun _ _ _ h => h) (Or.inl ⟨rfl, fun V hV => ?_⟩) (HSS.out _ HB0.out) ?_
  · obtain ⟨⟨g0, g1, g2, g3, g4⟩, ⟨p0, p1, p2, p3, p4⟩, ⟨m0, m1, m2, m3, m4⟩⟩ := hV
    go_simp
  refine wpAnyH_take (i := 3) (v := .agg #[.int .i64 x.f0, .string x.f1, .int .i64 x.f2, .int .i64 x.f3, .slice A x.f4.length c]) rfl (by kernel_rfl) (by kernel_rfl) (by kernel_rfl) (fun _ _ _ h => h) (Or.inl ⟨rfl, fun V hV => ?_⟩) (HSS.out _ HB0.out) ?_
  · obtain ⟨⟨g0, g1, g2, g3, g4⟩, ⟨p0, p1, p2, p3, p4⟩, ⟨m0, m1, m2, m3, m4⟩⟩ := hV
    go_simp
  refine wpAnyH_take (i := 4) (v := .agg #[.int .i64 y.f0, .string y.f1, .int .i64 y.f2, .int .i64 y.f3, .slice B y.f4.length d]) rfl (by kernel_rfl) (by kernel_rfl) (by kernel_rfl) (fun _ _ _ h => h) (Or.inl ⟨rfl, fun V hV => ?_⟩) (HSS.out _ HB0.out) ?_
  · obtain ⟨⟨g0, g1, g2, g3, g4⟩, ⟨p0, p1, p2, p3, p4⟩, ⟨m0, m1, m2, m3, m4⟩⟩ := hV
    go_simp
  go_simp
  refine wpAnyH_all (rs := [2]) (by kernel_rfl) (by simp) ?_
  intro i hi
  obtain rfl : i = 2 := by simpa using hi
  refine wpOp_step rfl (fun K hK => ?_)
  go_simp
  refine (same_call x y A B c d V0 (KX.out _ HB0.out) hc (KY.out _ HB0.out) hd okx).mono ?_
  rintro e W2 ⟨rfl, hb⟩
  rw [HS0.out]
  have HB2 := Aside0.mk (below_then HB0.out HB0.out.size hb)
  clear hb
  refine hK _ _ ⟨HSS.out _ HB2.out, ?_⟩
  clear hK
  go_simp
  refine wpAnyH_all (rs := [5]) (by kernel_rfl) (by simp) ?_
  intro i hi
  obtain rfl : i = 5 := by simpa using hi
  refine wpOp_step rfl (fun K hK => ?_)
  go_simp
  refine (ref_call x y A B c d W2 (KX.out _ HB2.out) hc (KY.out _ HB2.out) hd okx).mono ?_
  rintro e W5 ⟨rfl, hb⟩
  rw [HS0.out]
  have HB5 := Aside0.mk (below_then HB2.out HB2.out.size hb)
  clear hb
  refine hK _ _ ⟨HSS.out _ HB5.out, ?_⟩
  clear hK
  refine wpAnyH_take (i := 6) (v := .bool true) rfl (by kernel_rfl) (by kernel_rfl) (by kernel_rfl) (fun _ _ _ h => h) (Or.inl ⟨rfl, fun V hV => ?_⟩) (HSS.out _ HB5.out) ?_
  · cases s <;> go_simp
  refine wpAnyH_take (i := 7) (v := .bool true) rfl (by kernel_rfl) (by kernel_rfl) (by kernel_rfl) (fun _ _ _ h => h) (Or.inl ⟨rfl, fun V hV => ?_⟩) (HSS.out _ HB5.out) ?_
  · cases s <;> go_simp
  refine wpAnyH_take (i := 8) (v := .agg #[.int .i64 x.f0, .string x.f1, .int .i64 x.f2, .int .i64 n, .slice A x.f4.length c]) rfl (by kernel_rfl) (by kernel_rfl) (by kernel_rfl) (fun _ _ _ h => h) (Or.inl ⟨rfl, fun V hV => ?_⟩) (HSS.out _ HB5.out) ?_
  · obtain ⟨⟨g0, g1, g2, g3, g4⟩, ⟨p0, p1, p2, p3, p4⟩, ⟨m0, m1, m2, m3, m4⟩⟩ := hV
    go_simp
  refine wpAnyH_take (i := 9) (v := .agg #[.int .i64 x.f0, .string x.f1, .int .i64 x.f2, .int .i64 x.f3, .slice A x.f4.length c]) rfl (by kernel_rfl) (by kernel_rfl) (by kernel_rfl) (fun _ _ _ h => h) (Or.inl ⟨rfl, fun V hV => ?_⟩) (HSS.out _ HB5.out) ?_
  · obtain ⟨⟨g0, g1, g2, g3, g4⟩, ⟨p0, p1, p2, p3, p4⟩, ⟨m0, m1, m2, m3, m4⟩⟩ := hV
    go_simp
  go_simp
  refine wpAnyH_all (rs := [10]) (by kernel_rfl) (by simp) ?_
  intro i hi
  obtain rfl : i = 10 := by simpa using hi
  refine wpOp_step rfl (fun K hK => ?_)
  go_simp
  refine (same_call ⟨x.f0, x.f1, x.f2, n, x.f4⟩ x A A c c W5 (KX.out _ HB5.out) hc (KX.out _ HB5.out) hc (moved_ok okx n)).mono ?_
  rintro e W10 ⟨rfl, hb⟩
  rw [HS1.out]
  have HB10 := Aside0.mk (below_then HB5.out HB5.out.size hb)
  clear hb
  refine hK _ _ ⟨HSS.out _ HB10.out, ?_⟩
  clear hK
  refine wpAnyH_take (i := 11) (v := .bool true) rfl (by kernel_rfl) (by kernel_rfl) (by kernel_rfl) (fun _ _ _ h => h) (Or.inl ⟨rfl, fun V hV => ?_⟩) (HSS.out _ HB10.out) ?_
  · cases s <;> go_simp
  refine wpAnyH_take (i := 12) (v := .bool true) rfl (by kernel_rfl) (by kernel_rfl) (by kernel_rfl) (fun _ _ _ h => h) (Or.inl ⟨rfl, fun V hV => ?_⟩) (HSS.out _ HB10.out) ?_
  · cases s <;> go_simp
  refine wpAnyH_take (i := 13) (v := .agg #[.int .i64 x.f0, .string x.f1, .int .i64 x.f2, .int .i64 x.f3, .slice A x.f4.length c]) rfl (by kernel_rfl) (by kernel_rfl) (by kernel_rfl) (fun _ _ _ h => h) (Or.inl ⟨rfl, fun V hV => ?_⟩) (HSS.out _ HB10.out) ?_
  · obtain ⟨⟨g0, g1, g2, g3, g4⟩, ⟨p0, p1, p2, p3, p4⟩, ⟨m0, m1, m2, m3, m4⟩⟩ := hV
    go_simp
  refine wpAnyH_take (i := 14) (v := .agg #[.int .i64 y.f0, .string y.f1, .int .i64 y.f2, .int .i64 y.f3, .slice B y.f4.length d]) rfl (by kernel_rfl) (by kernel_rfl) (by kernel_rfl) (fun _ _ _ h => h) (Or.inl ⟨rfl, fun V hV => ?_⟩) (HSS.out _ HB10.out) ?_
  · obtain ⟨⟨g0, g1, g2, g3, g4⟩, ⟨p0, p1, p2, p3, p4⟩, ⟨m0, m1, m2, m3, m4⟩⟩ := hV
    go_simp
  refine wpAnyH_take (i := 16) (v := .agg #[.int .i64 y.f0, .string y.f1, .int .i64 y.f2, .int .i64 y.f3, .slice B y.f4.length d]) rfl (by kernel_rfl) (by kernel_rfl) (by kernel_rfl) (fun _ _ _ h => h) (Or.inl ⟨rfl, fun V hV => ?_⟩) (HSS.out _ HB10.out) ?_
  · obtain ⟨⟨g0, g1, g2, g3, g4⟩, ⟨p0, p1, p2, p3, p4⟩, ⟨m0, m1, m2, m3, m4⟩⟩ := hV
    go_simp
  refine wpAnyH_take (i := 17) (v := .agg #[.int .i64 x.f0, .string x.f1, .int .i64 x.f2, .int .i64 n, .slice A x.f4.length c]) rfl (by kernel_rfl) (by kernel_rfl) (by kernel_rfl) (fun _ _ _ h => h) (Or.inl ⟨rfl, fun V hV => ?_⟩) (HSS.out _ HB10.out) ?_
  · obtain ⟨⟨g0, g1, g2, g3, g4⟩, ⟨p0, p1, p2, p3, p4⟩, ⟨m0, m1, m2, m3, m4⟩⟩ := hV
    go_simp
  go_simp
  refine wpAnyH_all (rs := [15]) (by kernel_rfl) (by simp) ?_
  intro i hi
  obtain rfl : i = 15 := by simpa using hi
  refine wpOp_step rfl (fun K hK => ?_)
  go_simp
  refine (same_call x y A B c d W10 (KX.out _ HB10.out) hc (KY.out _ HB10.out) hd okx).mono ?_
  rintro e W15 ⟨rfl, hb⟩
  rw [HS0.out]
  have HB15 := Aside0.mk (below_then HB10.out HB10.out.size hb)
  clear hb
  refine hK _ _ ⟨HSS.out _ HB15.out, ?_⟩
  clear hK
  go_simp
  refine wpAnyH_all (rs := [18]) (by kernel_rfl) (by simp) ?_
  intro i hi
  obtain rfl : i = 18 := by simpa using hi
  refine wpOp_step rfl (fun K hK => ?_)
  go_simp
  refine (same_call y ⟨x.f0, x.f1, x.f2, n, x.f4⟩ B A d c W15 (KY.out _ HB15.out) hd (KX.out _ HB15.out) hc oky).mono ?_
  rintro e W18 ⟨rfl, hb⟩
  rw [HS2.out]
  have HB18 := Aside0.mk (below_then HB15.out HB15.out.size hb)
  clear hb
  refine hK _ _ ⟨HSS.out _ HB18.out, ?_⟩
  clear hK
  refine wpAnyH_take (i := 19) (v := .bool true) rfl (by kernel_rfl) (by kernel_rfl) (by kernel_rfl) (fun _ _ _ h => h) (Or.inl ⟨rfl, fun V hV => ?_⟩) (HSS.out _ HB18.out) ?_
  · cases s <;> go_simp
  refine wpAnyH_take (i := 20) (v := .bool true) rfl (by kernel_rfl) (by kernel_rfl) (by kernel_rfl) (fun _ _ _ h => h) (Or.inl ⟨rfl, fun V hV => ?_⟩) (HSS.out _ HB18.out) ?_
  · cases s <;> go_simp
  refine wpAnyH_take (i := 21) (v := .bool true) rfl (by kernel_rfl) (by kernel_rfl) (by kernel_rfl) (fun _ _ _ h => h) (Or.inl ⟨rfl, fun V hV => ?_⟩) (HSS.out _ HB18.out) ?_
  · cases s <;> go_simp
  go_simp
  refine wpAnyH_all (rs := [22]) (by kernel_rfl) (by simp) ?_
  intro i hi
  obtain rfl : i = 22 := by simpa using hi
  refine wpOp_step rfl (fun K hK => ?_)
  go_simp
  refine (X.sure_calls W18 (tab_below htab (below_then HB3.out HB3.out.size HB18.out))).mono ?_
  rintro e W22 ⟨rfl, hb⟩
  have HB22 := Aside0.mk (below_then HB18.out HB18.out.size hb)
  clear hb
  refine hK _ _ ⟨HSS.out _ HB22.out, ?_⟩
  clear hK
  refine wpAnyH_take (i := 23) (v := .bool true) rfl (by kernel_rfl) (by kernel_rfl) (by kernel_rfl) (fun _ _ _ h => h) (Or.inl ⟨rfl, fun V hV => ?_⟩) (HSS.out _ HB22.out) ?_
  · cases s <;> go_simp
  refine wpAnyH_take (i := 24) (v := .bool true) rfl (by kernel_rfl) (by kernel_rfl) (by kernel_rfl) (fun _ _ _ h => h) (Or.inl ⟨rfl, fun V hV => ?_⟩) (HSS.out _ HB22.out) ?_
  · cases s <;> go_simp
  go_simp
  refine wpAnyH_done (by kernel_rfl) ?_ _
  go_wp2_with fail
  go_ret
  exact ⟨rfl, below_then HB3.out HB3.out.size HB22.out⟩
end Go.Proofs.YtladneaaepcdbaaDoor.Y
