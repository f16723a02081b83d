/- sure: it answers true. -/
import Derived.Test.YtladneaaepcdbaaDoorV
import Derived.Test.YtladneaaepcdbaaDoorG
import Derived.Deep.RegionWith
import Derived.OrdersHeld
namespace Go.Proofs.YtladneaaepcdbaaDoor.X
open Go.RowKit Go.Proofs.YtladneaaepcdbaaDoorW.PrintWords Go.Proofs.YtladneaaepcdbaaDoorW.PrintLast Go.Proofs.YtladneaaepcdbaaDoorW.PrintMore
open Go.Proofs.YtladneaaepcdbaaDoor.PTree Go.Proofs.YtladneaaepcdbaaDoor.B Go.Proofs.YtladneaaepcdbaaDoor.S Go.Proofs.YtladneaaepcdbaaDoor.V Go.Proofs.YtladneaaepcdbaaDoor.U
open Go.Proofs.YtladneaaepcdbaaDoor.C (preo preo_eq deep)
open Go.Proofs.YtladneaaepcdbaaDoor.Q (okT sameT sameT_eq sameL)
open Go.Proofs.YtladneaaepcdbaaDoor.F (nodes nodes_eq refA refA_eq)
set_option linter.unusedVariables false
set_option linter.unusedSimpArgs false

def ta : S24 := ⟨6, ⟨#[97]⟩, 0, 0, []⟩
def t1 : S24 := ⟨14, ⟨#[115, 117, 109]⟩, 0, 0, [ta]⟩
def tc : S24 := ⟨14, ⟨#[99, 111, 117, 110, 116]⟩, 0, 0, []⟩
def t3 : S24 := ⟨8, ⟨#[43]⟩, 0, 0, [t1, tc]⟩
def t2 : S24 := ⟨8, ⟨#[43]⟩, 0, 0, [t1, t3]⟩

theorem okta : okT ta := .mk _ (by decide) (by simp [ta])
theorem ok1 : okT t1 := .mk _ (by decide) (by simp [t1]; exact okta)
theorem okc : okT tc := .mk _ (by decide) (by simp [tc])
theorem ok3 : okT t3 := .mk _ (by decide) (by simp [t3]; exact ⟨ok1, okc⟩)
theorem ok2 : okT t2 := .mk _ (by decide) (by simp [t2]; exact ⟨ok1, ok3⟩)
theorem nodes2 : nodes t2 = 7 := by
  have ha : nodes ta = 1 := by rw [nodes_eq]; rfl
  have h1 : nodes t1 = 2 := by rw [nodes_eq]; simp [t1, ha]
  have hc : nodes tc = 1 := by rw [nodes_eq]; rfl
  have h3 : nodes t3 = 4 := by rw [nodes_eq]; simp [t3, h1, hc]
  rw [nodes_eq]; simp [t2, h1, h3]
theorem len2 : (preo 0 t2).length ≤ 1048576 := by have := nodes2; unfold nodes at this; omega
theorem size2 : wrap64 (preo 0 t2).length = 7 := by have := nodes2; unfold nodes at this; rw [this]; unfold wrap64; omega
theorem same1c : sameT t1 tc = false := by rw [sameT_eq]; simp [t1, tc]
theorem aggs2 : E.aggsOf (preo 0 t2) = [t1, tc] := by
  rw [G.aggsOf_refA t2 (by rw [nodes2]; decide)]
  have h1 : refA t1 [] = [t1] := by rw [refA_eq]; rfl
  have h11 : refA t1 [t1] = [t1] := by
    rw [refA_eq, if_pos (show t1.f0 = 14 from rfl), if_pos]
    simp [Q.sameT_refl]
  have h1c : refA tc [t1] = [t1, tc] := by
    rw [refA_eq, if_pos (show tc.f0 = 14 from rfl), if_neg]
    · rfl
    · simp [same1c]
  have h3 : refA t3 [t1] = [t1, tc] := by
    rw [refA_eq, if_neg (by decide)]
    show refA tc (refA t1 [t1]) = _
    rw [h11, h1c]
  rw [refA_eq, if_neg (by decide)]
  show refA t3 (refA t1 []) = _
  rw [h1, h3]
theorem depth2 : tree_Depth.f 20 8 ⟨#[43]⟩ 0 0 t2.f4 = some 4 := by kernel_rfl
theorem same22 : tree_Same.f 40 8 ⟨#[43]⟩ 0 0 t2.f4 8 ⟨#[43]⟩ 0 0 t2.f4 = some true := by kernel_rfl
theorem same21 : tree_Same.f 40 8 ⟨#[43]⟩ 0 0 t2.f4 14 ⟨#[115, 117, 109]⟩ 0 0 t1.f4 = some false := by kernel_rfl

theorem K1_of (W : World) (b0 : Nat) (h0 : W.heap[b0]? = some (.cells #[.int .i64 6, .string ⟨#[97]⟩, .int .i64 0, .int .i64 0, .slice none 0 0] 24 (0, 0))) : k24.K W t1 [.int .i64 14, .string ⟨#[115, 117, 109]⟩, .int .i64 0, .int .i64 0, .slice (some ⟨b0, 0, none⟩) 1 1] :=
  k24_mk W t1 (A4 := some ⟨b0, 0, none⟩) (c4 := 1) (Nat.le_refl 1) (mkC k24 (g := b0) (e := 24) (cells := [.int .i64 6, .string ⟨#[97]⟩, .int .i64 0, .int .i64 0, .slice none 0 0]) h0 (Reps.snoc (ps := []) (Reps.none _ _) (k24_mk W ta (Nat.le_refl 0) (Kd.C_nil k24 W)) rfl) (of_decide_eq_true (by kernel_rfl)))
theorem K2_of (W : World) (b0 g3 g4 : Nat) (h0 : W.heap[b0]? = some (.cells #[.int .i64 6, .string ⟨#[97]⟩, .int .i64 0, .int .i64 0, .slice none 0 0] 24 (0, 0))) (h3 : W.heap[g3]? = some (.cells #[.int .i64 14, .string ⟨#[115, 117, 109]⟩, .int .i64 0, .int .i64 0, .slice (some ⟨b0, 0, none⟩) 1 1, .int .i64 14, .string ⟨#[99, 111, 117, 110, 116]⟩, .int .i64 0, .int .i64 0, .slice none 0 0] 24 (0, 0))) (h4 : W.heap[g4]? = some (.cells #[.int .i64 14, .string ⟨#[115, 117, 109]⟩, .int .i64 0, .int .i64 0, .slice (some ⟨b0, 0, none⟩) 1 1, .int .i64 8, .string ⟨#[43]⟩, .int .i64 0, .int .i64 0, .slice (some ⟨g3, 0, none⟩) 2 2] 24 (0, 0))) : k24.K W t2 [.int .i64 8, .string ⟨#[43]⟩, .int .i64 0, .int .i64 0, .slice (some ⟨g4, 0, none⟩) 2 2] := by
  have k1 := K1_of W b0 h0
  have k3 : k24.K W t3 [.int .i64 8, .string ⟨#[43]⟩, .int .i64 0, .int .i64 0, .slice (some ⟨g3, 0, none⟩) 2 2] := k24_mk W t3 (A4 := some ⟨g3, 0, none⟩) (c4 := 2) (Nat.le_refl 2) (mkC k24 (g := g3) (e := 24) (cells := [.int .i64 14, .string ⟨#[115, 117, 109]⟩, .int .i64 0, .int .i64 0, .slice (some ⟨b0, 0, none⟩) 1 1] ++ [.int .i64 14, .string ⟨#[99, 111, 117, 110, 116]⟩, .int .i64 0, .int .i64 0, .slice none 0 0]) h3 (Reps.snoc (ps := [t1]) (Reps.snoc (ps := []) (Reps.none _ _) k1 rfl) (k24_mk W tc (Nat.le_refl 0) (Kd.C_nil k24 W)) rfl) (of_decide_eq_true (by kernel_rfl)))
  exact k24_mk W t2 (A4 := some ⟨g4, 0, none⟩) (c4 := 2) (Nat.le_refl 2) (mkC k24 (g := g4) (e := 24) (cells := [.int .i64 14, .string ⟨#[115, 117, 109]⟩, .int .i64 0, .int .i64 0, .slice (some ⟨b0, 0, none⟩) 1 1] ++ [.int .i64 8, .string ⟨#[43]⟩, .int .i64 0, .int .i64 0, .slice (some ⟨g3, 0, none⟩) 2 2]) h4 (Reps.snoc (ps := [t1]) (Reps.snoc (ps := []) (Reps.none _ _) k1 rfl) k3 rfl) (of_decide_eq_true (by kernel_rfl)))

theorem fin_store (W : World) (b5 g4 : Nat) (h : W.heap[b5]? = some (.cells #[.int .i64 0, .string ⟨#[]⟩, .int .i64 0, .int .i64 0, .slice none 0 0] 24 (0, 0))) : ∃ WF : World, WF.heap[b5]? = some (.cells #[.int .i64 8, .string ⟨#[43]⟩, .int .i64 0, .int .i64 0, .slice (some ⟨g4, 0, none⟩) 2 2] 24 (0, 0)) ∧ WF.os = W.os ∧ WF.tape = W.tape ∧ WF.output = W.output ∧ WF.heap.size = W.heap.size ∧ (∀ k, k ≠ b5 → WF.heap[k]? = W.heap[k]?) ∧
    (Instr.storeAt 24 (.pointer (some ⟨b5, 0, none⟩)) (.agg #[.int .i64 8, .string ⟨#[43]⟩, .int .i64 0, .int .i64 0, .slice (some ⟨g4, 0, none⟩) 2 2])).run Tryd.prog W = .ok () WF := by
  have h1 := setCells_row [.int .i64 8, .string ⟨#[43]⟩, .int .i64 0, .int .i64 0, .slice (some ⟨g4, 0, none⟩) 2 2] 0 W #[.int .i64 0, .string ⟨#[]⟩, .int .i64 0, .int .i64 0, .slice none 0 0] h (Nat.le_refl 5)
  have h2 := setCells_same b5 [.int .i64 8, .string ⟨#[43]⟩, .int .i64 0, .int .i64 0, .slice (some ⟨g4, 0, none⟩) 2 2] 0 W
  refine ⟨W.setCells b5 0 [.int .i64 8, .string ⟨#[43]⟩, .int .i64 0, .int .i64 0, .slice (some ⟨g4, 0, none⟩) 2 2], ?_, h2.1, h2.2.1, h2.2.2.1, h2.2.2.2, fun k hk => setCells_far _ _ k hk, run_store_run (P := Tryd.prog) (o := 0) 24 (.agg #[.int .i64 8, .string ⟨#[43]⟩, .int .i64 0, .int .i64 0, .slice (some ⟨g4, 0, none⟩) 2 2]) [.int .i64 8, .string ⟨#[43]⟩, .int .i64 0, .int .i64 0, .slice (some ⟨g4, 0, none⟩) 2 2] h rfl (by kernel_rfl) (Nat.le_refl 5) (by simp [Value.oneCell'])⟩
  obtain ⟨cur', k3, k4, k5⟩ := h1
  have hcur : cur' = #[.int .i64 8, .string ⟨#[43]⟩, .int .i64 0, .int .i64 0, .slice (some ⟨g4, 0, none⟩) 2 2] := by rw [← Array.toArray_toList (xs := cur'), k5]; rfl
  rw [← hcur]; exact k3

set_option maxHeartbeats 16000000 in
set_option maxRecDepth 100000 in
theorem sure_calls (w : World) (htab : Lib.TabIs Tryd.prog w "strings.asciiSpace" .u8 Lib.asciiSpaceTab) :
    Calls Tryd.prog 7 #[] w fun e w' => e = .returned (.bool true) ∧ Below w.heap.size w w' := by
  go_enter Tryd.func7, Tryd.ntmps7
  go_wp2_with fail
  obtain ⟨w1, hw1⟩ : ∃ w1 : World, w1 = w.alloc (.cells #[.int .i64 6, .string ⟨#[97]⟩, .int .i64 0, .int .i64 0, .slice none 0 0] 24) := ⟨_, rfl⟩
  have hB1 : Below w.heap.size w w1 := by rw [hw1]; exact (Below.refl _ _).alloc (Nat.le_refl _) _
  have hbx1 : w1.heap[w.heap.size]? = some (.cells #[.int .i64 6, .string ⟨#[97]⟩, .int .i64 0, .int .i64 0, .slice none 0 0] 24 (0, 0)) := by rw [hw1]; exact blk_new _ _
  rw [← hw1]
  have HB1 := Aside0.mk hB1
  refine (agg_calls _ _ 1 1 w1).mono ?_
  rintro e w2 ⟨rfl, hb2⟩
  have HB2 := Aside0.mk (below_then hB1 hB1.size hb2)
  have hbx2 := blk_below hbx1 hb2
  clear hw1 hB1 hbx1 hb2
  go_wp2_with fail
  obtain ⟨w3, hw3⟩ : ∃ w3 : World, w3 = w2.alloc (.cells #[.int .i64 14, .string ⟨#[115, 117, 109]⟩, .int .i64 0, .int .i64 0, .slice (some ⟨w.heap.size, 0, none⟩) 1 1] 24) := ⟨_, rfl⟩
  have hB3 : Below w2.heap.size w2 w3 := by rw [hw3]; exact (Below.refl _ _).alloc (Nat.le_refl _) _
  have hbx3 : w3.heap[w2.heap.size]? = some (.cells #[.int .i64 14, .string ⟨#[115, 117, 109]⟩, .int .i64 0, .int .i64 0, .slice (some ⟨w.heap.size, 0, none⟩) 1 1] 24 (0, 0)) := by rw [hw3]; exact blk_new _ _
  rw [← hw3]
  have HB3 := Aside0.mk (below_then HB2.out HB2.out.size hB3)
  have H0 := Aside0.mk (blk_below hbx2 hB3)
  have HS : ∀ V, Below w3.heap.size w3 V → (V.cell? ⟨w2.heap.size, 0, none⟩ = some (.int .i64 14) ∧ V.cell? ⟨w2.heap.size, 1, none⟩ = some (.string ⟨#[115, 117, 109]⟩) ∧ V.cell? ⟨w2.heap.size, 2, none⟩ = some (.int .i64 0) ∧ V.cell? ⟨w2.heap.size, 3, none⟩ = some (.int .i64 0) ∧ V.cell? ⟨w2.heap.size, 4, none⟩ = some (.slice (some ⟨w.heap.size, 0, none⟩) 1 1)) := by
    intro V hV
    have hx := blk_below hbx3 hV
    exact ⟨(blk_cell hx 0).trans rfl, (blk_cell hx 1).trans rfl, (blk_cell hx 2).trans rfl, (blk_cell hx 3).trans rfl, (blk_cell hx 4).trans rfl⟩
  have HT1 := Aside0.mk hbx3
  refine wp_region_held (S := fun V => V.cell? ⟨w2.heap.size, 0, none⟩ = some (.int .i64 14) ∧ V.cell? ⟨w2.heap.size, 1, none⟩ = some (.string ⟨#[115, 117, 109]⟩) ∧ V.cell? ⟨w2.heap.size, 2, none⟩ = some (.int .i64 0) ∧ V.cell? ⟨w2.heap.size, 3, none⟩ = some (.int .i64 0) ∧ V.cell? ⟨w2.heap.size, 4, none⟩ = some (.slice (some ⟨w.heap.size, 0, none⟩) 1 1)) (by kernel_rfl) ?_
  obtain ⟨V0, hV0⟩ : ∃ V0 : World, V0 = { w3 with drawn := w3.drawn + 1 } := ⟨_, rfl⟩
  have hB0 : Below w3.heap.size w3 V0 := by rw [hV0]; exact ⟨rfl, rfl, rfl, Nat.le_refl _, fun _ _ => rfl⟩
  rw [← hV0]
  have HSS := Aside0.mk HS
  have HB0 := Aside0.mk hB0
  clear hV0 HS hB0 hw3 hB3 hbx3 hbx2
  refine wpAnyH_take (i := 0) (v := .agg #[.int .i64 14, .string ⟨#[115, 117, 109]⟩, .int .i64 0, .int .i64 0, .slice (some ⟨w.heap.size, 0, none⟩) 1 1]) rfl (by kernel_rfl) (by kernel_rfl) (by kernel_rfl) (fun _ _ _ h => h) (Or.inl ⟨rfl, fun V hV => ?_⟩) (HSS.out _ HB0.out) ?_
  · obtain ⟨g0, g1, g2, g3, g4⟩ := hV
    go_simp
  refine wpAnyH_take (i := 1) (v := .agg #[.int .i64 14, .string ⟨#[115, 117, 109]⟩, .int .i64 0, .int .i64 0, .slice (some ⟨w.heap.size, 0, none⟩) 1 1]) rfl (by kernel_rfl) (by kernel_rfl) (by kernel_rfl) (fun _ _ _ h => h) (Or.inl ⟨rfl, fun V hV => ?_⟩) (HSS.out _ HB0.out) ?_
  · obtain ⟨g0, g1, g2, g3, g4⟩ := hV
    go_simp
  go_simp
  refine wpAnyH_all (rs := [2, 5]) (by kernel_rfl) (by simp) ?_
  intro i hi
  obtain rfl | rfl : i = 2 ∨ i = 5 := by simpa using hi
  · refine wpOp_step rfl (fun K hK => ?_)
    go_simp
    refine (agg_calls _ none 0 0 V0).mono ?_
    rintro e W2 ⟨rfl, hb⟩
    have HBW2 := Aside0.mk (below_then HB0.out HB0.out.size hb)
    clear hb
    refine hK _ _ ⟨HSS.out _ HBW2.out, ?_⟩
    clear hK
    refine wpAnyH_all (rs := [3, 5]) (by kernel_rfl) (by simp) ?_
    intro i hi
    obtain rfl | rfl : i = 3 ∨ i = 5 := by simpa using hi
    · refine wpOp_step rfl (fun K hK => ?_)
      go_simp
      refine (sum_calls _ _ _ _ _ _ _ _ _ _ _ _ _ _ W2).mono ?_
      rintro e W3 ⟨g3, rfl, hge3, hg3, hb⟩
      have G3 := Aside0.mk hg3
      have hge3' : w3.heap.size ≤ g3 := Nat.le_trans HBW2.out.size hge3
      have HBW3 := Aside0.mk (below_then HBW2.out HBW2.out.size hb)
      clear hb hg3
      refine hK _ _ ⟨HSS.out _ HBW3.out, ?_⟩
      clear hK
      refine wpAnyH_all (rs := [4, 5]) (by kernel_rfl) (by simp) ?_
      intro i hi
      obtain rfl | rfl : i = 4 ∨ i = 5 := by simpa using hi
      · refine wpOp_step rfl (fun K hK => ?_)
        go_simp
        refine (sum_calls _ _ _ _ _ _ _ _ _ _ _ _ _ _ W3).mono ?_
        rintro e W4 ⟨g4, rfl, hge4, hg4, hb⟩
        have G4 := Aside0.mk hg4
        replace G3 := Aside0.mk (blk_below G3.out hb)
        have HBW4 := Aside0.mk (below_then HBW3.out HBW3.out.size hb)
        clear hb hg4
        refine hK _ _ ⟨HSS.out _ HBW4.out, ?_⟩
        clear hK
        refine wpAnyH_all (rs := [5]) (by kernel_rfl) (by simp) ?_
        intro i hi
        obtain rfl : i = 5 := by simpa using hi
        refine wpOp_step rfl (fun K hK => ?_)
        go_simp
        obtain ⟨W5, hW5⟩ : ∃ W5 : World, W5 = W4.alloc (.cells #[.int .i64 0, .string ⟨#[]⟩, .int .i64 0, .int .i64 0, .slice none 0 0] 24) := ⟨_, rfl⟩
        have hb : Below W4.heap.size W4 W5 := by rw [hW5]; exact (Below.refl _ _).alloc (Nat.le_refl _) _
        have hz : W5.heap[W4.heap.size]? = some (.cells #[.int .i64 0, .string ⟨#[]⟩, .int .i64 0, .int .i64 0, .slice none 0 0] 24 (0, 0)) := by rw [hW5]; exact blk_new _ _
        rw [← hW5]
        have HBW5 := Aside0.mk (below_then HBW4.out HBW4.out.size hb)
        have hge : w3.heap.size ≤ W4.heap.size := HBW4.out.size
        have n3 : g3 ≠ W4.heap.size := Nat.ne_of_lt (blk_lt G3.out)
        replace G3 := Aside0.mk (blk_below G3.out hb)
        have n4 : g4 ≠ W4.heap.size := Nat.ne_of_lt (blk_lt G4.out)
        replace G4 := Aside0.mk (blk_below G4.out hb)
        obtain ⟨b5, hb5⟩ : ∃ b5, b5 = W4.heap.size := ⟨_, rfl⟩
        rw [← hb5] at hz hge n3 n4 ⊢
        have HZ := Aside0.mk hz
        clear hW5 hz hb hb5
        refine hK _ _ ⟨HSS.out _ HBW5.out, ?_⟩
        clear hK
        refine wpAnyH_all (rs := [6]) (by kernel_rfl) (by simp) ?_
        intro i hi
        obtain rfl : i = 6 := by simpa using hi
        obtain ⟨WF, k3, s1, s2, s3, s4, s5, hrun⟩ := fin_store W5 b5 g4 HZ.out
        have hbs : Below w3.heap.size W5 WF := ⟨s1, s2, s3, by rw [s4]; exact Nat.le_refl _, fun k hk => s5 k (by omega)⟩
        have m3 := (s5 g3 n3).trans G3.out
        have m4 := (s5 g4 n4).trans G4.out
        have HBF : Aside0 (Below w3.heap.size w3 WF) := ⟨HBW5.out.trans hbs⟩
        have HBWF := Aside0.mk (below_then HB3.out HB3.out.size HBF.out)
        have HT2 := Aside0.mk k3
        have m0 := blk_below H0.out HBF.out
        have HTF := Aside0.mk (blk_below HT1.out HBF.out)
        have HK2 := Aside0.mk (K2_of WF w.heap.size g3 g4 m0 m3 m4)
        have HC2 : Aside0 (Kd.C k24 WF (some ⟨g4, 0, none⟩) 2 t2.f4) := ⟨by obtain ⟨A, c, he, _, hC⟩ := k24_open HK2.out; cases he; exact hC⟩
        have HC1 : Aside0 (Kd.C k24 WF (some ⟨w.heap.size, 0, none⟩) 1 t1.f4) := ⟨by obtain ⟨A, c, he, _, hC⟩ := k24_open (K1_of WF w.heap.size m0); cases he; exact hC⟩
        clear k3 s1 s2 s3 s4 s5 hbs m0 m3 m4 HZ G3 G4
        refine wpOp_step rfl (fun K hK => ?_)
        refine T.store_step rfl 24 (.tmp 2) (.tmp 11) rfl rfl hrun (hK _ _ ⟨HSS.out _ HBF.out, ?_⟩)
        clear hK hrun
        refine wpAnyH_done (by kernel_rfl) ?_ _
        have q0 : WF.cell? ⟨b5, 0, none⟩ = some (.int .i64 8) := (blk_cell HT2.out 0).trans rfl
        have q1 : WF.cell? ⟨b5, 1, none⟩ = some (.string ⟨#[43]⟩) := (blk_cell HT2.out 1).trans rfl
        have q2 : WF.cell? ⟨b5, 2, none⟩ = some (.int .i64 0) := (blk_cell HT2.out 2).trans rfl
        have q3 : WF.cell? ⟨b5, 3, none⟩ = some (.int .i64 0) := (blk_cell HT2.out 3).trans rfl
        have q4 : WF.cell? ⟨b5, 4, none⟩ = some (.slice (some ⟨g4, 0, none⟩) 2 2) := (blk_cell HT2.out 4).trans rfl
        go_wp2_with fail
        clear q0 q1 q2 q3 q4
        refine (E.aggs_calls t2 [.int .i64 8, .string ⟨#[43]⟩, .int .i64 0, .int .i64 0, .slice (some ⟨g4, 0, none⟩) 2 2] WF HK2.out ok2 len2).mono ?_
        rintro e Wa ⟨⟨v3, rfl, hR3⟩, hb⟩
        have HFa := Aside0.mk hb
        rw [aggs2] at hR3
        obtain ⟨gr, c3, he3, hg3, _⟩ := Kd.R_form hR3 (by decide)
        replace he3 : v3 = .slice (some ⟨gr, 0, none⟩) 2 c3 := he3
        subst he3
        have HC3 : Aside0 (Kd.C k24 Wa (some ⟨gr, 0, none⟩) 2 [t1, tc]) := ⟨(Kd.R_reads' hR3).2.2⟩
        have HL3 : 2 ≤ c3 := (Kd.R_reads' hR3).2.1
        clear hR3 hb hg3
        go_wp2_with fail
        refine (num_calls 5 Wa).mono ?_
        rintro e Wb ⟨rfl, hb⟩
        have HFb := Aside0.mk (below_then HFa.out HFa.out.size hb)
        have HAb := Aside0.mk hb
        clear hb
        go_wp2_with fail
        refine (form_pos 5 0 (by omega) none 0 Wb).mono ?_
        rintro e Wc ⟨rfl, hb⟩
        have HFc := Aside0.mk (below_then HFb.out HFb.out.size hb)
        have HAc := Aside0.mk (below_then HAb.out HAb.out.size hb)
        clear hb
        go_wp2_with fail
        refine (num_calls (-1) Wc).mono ?_
        rintro e Wd ⟨rfl, hb⟩
        have HFd := Aside0.mk (below_then HFc.out HFc.out.size hb)
        have HAd := Aside0.mk (below_then HAc.out HAc.out.size hb)
        clear hb
        go_wp2_with fail
        refine (form_num (-1) 0 (by omega) none 0 Wd).mono ?_
        rintro e We ⟨rfl, hb⟩
        have HFe := Aside0.mk (below_then HFd.out HFd.out.size hb)
        have HAe := Aside0.mk (below_then HAd.out HAd.out.size hb)
        clear hb
        go_wp2_with fail
        refine (form_sel none 0 We (tab_below htab (below_then HBWF.out HBWF.out.size HFe.out))).mono ?_
        rintro e Wf ⟨rfl, hb⟩
        have HFf := Aside0.mk (below_then HFe.out HFe.out.size hb)
        have HAf := Aside0.mk (below_then HAe.out HAe.out.size hb)
        clear hb
        go_wp2_with fail
        refine (agg_calls ⟨#[115, 117, 109]⟩ none 0 0 Wf).mono ?_
        rintro e Wg ⟨rfl, hb⟩
        have HFg := Aside0.mk (below_then HFf.out HFf.out.size hb)
        have HAg := Aside0.mk (below_then HAf.out HAf.out.size hb)
        clear hb
        go_wp2_with fail
        refine (form_agg none 0 Wg).mono ?_
        rintro e Wh ⟨rfl, hb⟩
        have HFh := Aside0.mk (below_then HFg.out HFg.out.size hb)
        have HAh := Aside0.mk (below_then HAg.out HAg.out.size hb)
        clear hb
        obtain ⟨yy, ad, A9, c9, hyk, hA3, f0, f1, f2, f3, f4, hl9, hC9⟩ := at24 HC3.out 1 (by decide)
        have hyt : tc = yy := hyk.out
        subst hyt
        injection hA3 with hA3
        subst hA3
        have ff : Wh.cell? ⟨gr, 6, none⟩ = some (.string ⟨#[99, 111, 117, 110, 116]⟩) := pw_cell_below HAh.out f1
        clear f0 f1 f2 f3 f4 hyk hC9 hl9
        have hx2 := blk_below HT2.out HFh.out
        have q0 : Wh.cell? ⟨b5, 0, none⟩ = some (.int .i64 8) := (blk_cell hx2 0).trans rfl
        have q1 : Wh.cell? ⟨b5, 1, none⟩ = some (.string ⟨#[43]⟩) := (blk_cell hx2 1).trans rfl
        have q2 : Wh.cell? ⟨b5, 2, none⟩ = some (.int .i64 0) := (blk_cell hx2 2).trans rfl
        have q3 : Wh.cell? ⟨b5, 3, none⟩ = some (.int .i64 0) := (blk_cell hx2 3).trans rfl
        have q4 : Wh.cell? ⟨b5, 4, none⟩ = some (.slice (some ⟨g4, 0, none⟩) 2 2) := (blk_cell hx2 4).trans rfl
        clear hx2
        go_wp2_with fail
        clear q0 q1 q2 q3 q4 ff
        refine (D.size_calls t2 [.int .i64 8, .string ⟨#[43]⟩, .int .i64 0, .int .i64 0, .slice (some ⟨g4, 0, none⟩) 2 2] Wh (k24.K_below HFh.out HK2.out) ok2).mono ?_
        rintro e Wi ⟨rfl, hb⟩
        have HFi := Aside0.mk (below_then HFh.out HFh.out.size hb)
        clear hb
        rw [size2]
        have hx2 := blk_below HT2.out HFi.out
        have q0 : Wi.cell? ⟨b5, 0, none⟩ = some (.int .i64 8) := (blk_cell hx2 0).trans rfl
        have q1 : Wi.cell? ⟨b5, 1, none⟩ = some (.string ⟨#[43]⟩) := (blk_cell hx2 1).trans rfl
        have q2 : Wi.cell? ⟨b5, 2, none⟩ = some (.int .i64 0) := (blk_cell hx2 2).trans rfl
        have q3 : Wi.cell? ⟨b5, 3, none⟩ = some (.int .i64 0) := (blk_cell hx2 3).trans rfl
        have q4 : Wi.cell? ⟨b5, 4, none⟩ = some (.slice (some ⟨g4, 0, none⟩) 2 2) := (blk_cell hx2 4).trans rfl
        clear hx2
        go_wp2_with fail
        clear q0 q1 q2 q3 q4
        refine (tree_Depth.calls 20 8 ⟨#[43]⟩ 0 0 (some ⟨g4, 0, none⟩) 2 t2.f4 4 Wi (Kd.C_below HC2.out HFi.out) (Nat.le_refl 2) depth2).mono ?_
        rintro e Wj ⟨rfl, hb⟩
        have HFj := Aside0.mk (below_then HFi.out HFi.out.size hb)
        clear hb
        have hx2 := blk_below HT2.out HFj.out
        have q0 : Wj.cell? ⟨b5, 0, none⟩ = some (.int .i64 8) := (blk_cell hx2 0).trans rfl
        have q1 : Wj.cell? ⟨b5, 1, none⟩ = some (.string ⟨#[43]⟩) := (blk_cell hx2 1).trans rfl
        have q2 : Wj.cell? ⟨b5, 2, none⟩ = some (.int .i64 0) := (blk_cell hx2 2).trans rfl
        have q3 : Wj.cell? ⟨b5, 3, none⟩ = some (.int .i64 0) := (blk_cell hx2 3).trans rfl
        have q4 : Wj.cell? ⟨b5, 4, none⟩ = some (.slice (some ⟨g4, 0, none⟩) 2 2) := (blk_cell hx2 4).trans rfl
        clear hx2
        go_wp2_with fail
        clear q0 q1 q2 q3 q4
        refine (tree_Same.calls 40 8 ⟨#[43]⟩ 0 0 (some ⟨g4, 0, none⟩) 2 t2.f4 8 ⟨#[43]⟩ 0 0 (some ⟨g4, 0, none⟩) 2 t2.f4 true Wj (Kd.C_below HC2.out HFj.out) (Nat.le_refl 2) (Kd.C_below HC2.out HFj.out) (Nat.le_refl 2) same22).mono ?_
        rintro e Wk ⟨rfl, hb⟩
        have HFk := Aside0.mk (below_then HFj.out HFj.out.size hb)
        clear hb
        have hx2 := blk_below HT2.out HFk.out
        have q0 : Wk.cell? ⟨b5, 0, none⟩ = some (.int .i64 8) := (blk_cell hx2 0).trans rfl
        have q1 : Wk.cell? ⟨b5, 1, none⟩ = some (.string ⟨#[43]⟩) := (blk_cell hx2 1).trans rfl
        have q2 : Wk.cell? ⟨b5, 2, none⟩ = some (.int .i64 0) := (blk_cell hx2 2).trans rfl
        have q3 : Wk.cell? ⟨b5, 3, none⟩ = some (.int .i64 0) := (blk_cell hx2 3).trans rfl
        have q4 : Wk.cell? ⟨b5, 4, none⟩ = some (.slice (some ⟨g4, 0, none⟩) 2 2) := (blk_cell hx2 4).trans rfl
        clear hx2
        have hx1 := blk_below HTF.out HFk.out
        have p0 : Wk.cell? ⟨w2.heap.size, 0, none⟩ = some (.int .i64 14) := (blk_cell hx1 0).trans rfl
        have p1 : Wk.cell? ⟨w2.heap.size, 1, none⟩ = some (.string ⟨#[115, 117, 109]⟩) := (blk_cell hx1 1).trans rfl
        have p2 : Wk.cell? ⟨w2.heap.size, 2, none⟩ = some (.int .i64 0) := (blk_cell hx1 2).trans rfl
        have p3 : Wk.cell? ⟨w2.heap.size, 3, none⟩ = some (.int .i64 0) := (blk_cell hx1 3).trans rfl
        have p4 : Wk.cell? ⟨w2.heap.size, 4, none⟩ = some (.slice (some ⟨w.heap.size, 0, none⟩) 1 1) := (blk_cell hx1 4).trans rfl
        clear hx1
        go_wp2_with fail
        clear q0 q1 q2 q3 q4 p0 p1 p2 p3 p4
        refine (tree_Same.calls 40 8 ⟨#[43]⟩ 0 0 (some ⟨g4, 0, none⟩) 2 t2.f4 14 ⟨#[115, 117, 109]⟩ 0 0 (some ⟨w.heap.size, 0, none⟩) 1 t1.f4 false Wk (Kd.C_below HC2.out HFk.out) (Nat.le_refl 2) (Kd.C_below HC1.out HFk.out) (Nat.le_refl 1) same21).mono ?_
        rintro e Wl ⟨rfl, hb⟩
        have HFl := Aside0.mk (below_then HFk.out HFk.out.size hb)
        clear hb
        go_wp2_with fail
        go_ret
        exact ⟨rfl, below_then HBWF.out HBWF.out.size HFl.out⟩
      · refine wpOp_step rfl (fun K hK => ?_)
        go_simp
        obtain ⟨W5, hW5⟩ : ∃ W5 : World, W5 = W3.alloc (.cells #[.int .i64 0, .string ⟨#[]⟩, .int .i64 0, .int .i64 0, .slice none 0 0] 24) := ⟨_, rfl⟩
        have hb : Below W3.heap.size W3 W5 := by rw [hW5]; exact (Below.refl _ _).alloc (Nat.le_refl _) _
        have hz : W5.heap[W3.heap.size]? = some (.cells #[.int .i64 0, .string ⟨#[]⟩, .int .i64 0, .int .i64 0, .slice none 0 0] 24 (0, 0)) := by rw [hW5]; exact blk_new _ _
        rw [← hW5]
        have HBW5 := Aside0.mk (below_then HBW3.out HBW3.out.size hb)
        have hge : w3.heap.size ≤ W3.heap.size := HBW3.out.size
        have n3 : g3 ≠ W3.heap.size := Nat.ne_of_lt (blk_lt G3.out)
        replace G3 := Aside0.mk (blk_below G3.out hb)
        obtain ⟨b5, hb5⟩ : ∃ b5, b5 = W3.heap.size := ⟨_, rfl⟩
        rw [← hb5] at hz hge n3 ⊢
        have HZ := Aside0.mk hz
        clear hW5 hz hb hb5
        refine hK _ _ ⟨HSS.out _ HBW5.out, ?_⟩
        clear hK
        refine wpAnyH_all (rs := [4]) (by kernel_rfl) (by simp) ?_
        intro i hi
        obtain rfl : i = 4 := by simpa using hi
        refine wpOp_step rfl (fun K hK => ?_)
        go_simp
        refine (sum_calls _ _ _ _ _ _ _ _ _ _ _ _ _ _ W5).mono ?_
        rintro e W4 ⟨g4, rfl, hge4, hg4, hb⟩
        have G4 := Aside0.mk hg4
        replace G3 := Aside0.mk (blk_below G3.out hb)
        have HBW4 := Aside0.mk (below_then HBW5.out HBW5.out.size hb)
        have n4 : g4 ≠ b5 := by have := blk_lt HZ.out; omega
        replace HZ := Aside0.mk (blk_below HZ.out hb)
        clear hb hg4
        refine hK _ _ ⟨HSS.out _ HBW4.out, ?_⟩
        clear hK
        refine wpAnyH_all (rs := [6]) (by kernel_rfl) (by simp) ?_
        intro i hi
        obtain rfl : i = 6 := by simpa using hi
        obtain ⟨WF, k3, s1, s2, s3, s4, s5, hrun⟩ := fin_store W4 b5 g4 HZ.out
        have hbs : Below w3.heap.size W4 WF := ⟨s1, s2, s3, by rw [s4]; exact Nat.le_refl _, fun k hk => s5 k (by omega)⟩
        have m3 := (s5 g3 n3).trans G3.out
        have m4 := (s5 g4 n4).trans G4.out
        have HBF : Aside0 (Below w3.heap.size w3 WF) := ⟨HBW4.out.trans hbs⟩
        have HBWF := Aside0.mk (below_then HB3.out HB3.out.size HBF.out)
        have HT2 := Aside0.mk k3
        have m0 := blk_below H0.out HBF.out
        have HTF := Aside0.mk (blk_below HT1.out HBF.out)
        have HK2 := Aside0.mk (K2_of WF w.heap.size g3 g4 m0 m3 m4)
        have HC2 : Aside0 (Kd.C k24 WF (some ⟨g4, 0, none⟩) 2 t2.f4) := ⟨by obtain ⟨A, c, he, _, hC⟩ := k24_open HK2.out; cases he; exact hC⟩
        have HC1 : Aside0 (Kd.C k24 WF (some ⟨w.heap.size, 0, none⟩) 1 t1.f4) := ⟨by obtain ⟨A, c, he, _, hC⟩ := k24_open (K1_of WF w.heap.size m0); cases he; exact hC⟩
        clear k3 s1 s2 s3 s4 s5 hbs m0 m3 m4 HZ G3 G4
        refine wpOp_step rfl (fun K hK => ?_)
        refine T.store_step rfl 24 (.tmp 2) (.tmp 11) rfl rfl hrun (hK _ _ ⟨HSS.out _ HBF.out, ?_⟩)
        clear hK hrun
        refine wpAnyH_done (by kernel_rfl) ?_ _
        have q0 : WF.cell? ⟨b5, 0, none⟩ = some (.int .i64 8) := (blk_cell HT2.out 0).trans rfl
        have q1 : WF.cell? ⟨b5, 1, none⟩ = some (.string ⟨#[43]⟩) := (blk_cell HT2.out 1).trans rfl
        have q2 : WF.cell? ⟨b5, 2, none⟩ = some (.int .i64 0) := (blk_cell HT2.out 2).trans rfl
        have q3 : WF.cell? ⟨b5, 3, none⟩ = some (.int .i64 0) := (blk_cell HT2.out 3).trans rfl
        have q4 : WF.cell? ⟨b5, 4, none⟩ = some (.slice (some ⟨g4, 0, none⟩) 2 2) := (blk_cell HT2.out 4).trans rfl
        go_wp2_with fail
        clear q0 q1 q2 q3 q4
        refine (E.aggs_calls t2 [.int .i64 8, .string ⟨#[43]⟩, .int .i64 0, .int .i64 0, .slice (some ⟨g4, 0, none⟩) 2 2] WF HK2.out ok2 len2).mono ?_
        rintro e Wa ⟨⟨v3, rfl, hR3⟩, hb⟩
        have HFa := Aside0.mk hb
        rw [aggs2] at hR3
        obtain ⟨gr, c3, he3, hg3, _⟩ := Kd.R_form hR3 (by decide)
        replace he3 : v3 = .slice (some ⟨gr, 0, none⟩) 2 c3 := he3
        subst he3
        have HC3 : Aside0 (Kd.C k24 Wa (some ⟨gr, 0, none⟩) 2 [t1, tc]) := ⟨(Kd.R_reads' hR3).2.2⟩
        have HL3 : 2 ≤ c3 := (Kd.R_reads' hR3).2.1
        clear hR3 hb hg3
        go_wp2_with fail
        refine (num_calls 5 Wa).mono ?_
        rintro e Wb ⟨rfl, hb⟩
        have HFb := Aside0.mk (below_then HFa.out HFa.out.size hb)
        have HAb := Aside0.mk hb
        clear hb
        go_wp2_with fail
        refine (form_pos 5 0 (by omega) none 0 Wb).mono ?_
        rintro e Wc ⟨rfl, hb⟩
        have HFc := Aside0.mk (below_then HFb.out HFb.out.size hb)
        have HAc := Aside0.mk (below_then HAb.out HAb.out.size hb)
        clear hb
        go_wp2_with fail
        refine (num_calls (-1) Wc).mono ?_
        rintro e Wd ⟨rfl, hb⟩
        have HFd := Aside0.mk (below_then HFc.out HFc.out.size hb)
        have HAd := Aside0.mk (below_then HAc.out HAc.out.size hb)
        clear hb
        go_wp2_with fail
        refine (form_num (-1) 0 (by omega) none 0 Wd).mono ?_
        rintro e We ⟨rfl, hb⟩
        have HFe := Aside0.mk (below_then HFd.out HFd.out.size hb)
        have HAe := Aside0.mk (below_then HAd.out HAd.out.size hb)
        clear hb
        go_wp2_with fail
        refine (form_sel none 0 We (tab_below htab (below_then HBWF.out HBWF.out.size HFe.out))).mono ?_
        rintro e Wf ⟨rfl, hb⟩
        have HFf := Aside0.mk (below_then HFe.out HFe.out.size hb)
        have HAf := Aside0.mk (below_then HAe.out HAe.out.size hb)
        clear hb
        go_wp2_with fail
        refine (agg_calls ⟨#[115, 117, 109]⟩ none 0 0 Wf).mono ?_
        rintro e Wg ⟨rfl, hb⟩
        have HFg := Aside0.mk (below_then HFf.out HFf.out.size hb)
        have HAg := Aside0.mk (below_then HAf.out HAf.out.size hb)
        clear hb
        go_wp2_with fail
        refine (form_agg none 0 Wg).mono ?_
        rintro e Wh ⟨rfl, hb⟩
        have HFh := Aside0.mk (below_then HFg.out HFg.out.size hb)
        have HAh := Aside0.mk (below_then HAg.out HAg.out.size hb)
        clear hb
        obtain ⟨yy, ad, A9, c9, hyk, hA3, f0, f1, f2, f3, f4, hl9, hC9⟩ := at24 HC3.out 1 (by decide)
        have hyt : tc = yy := hyk.out
        subst hyt
        injection hA3 with hA3
        subst hA3
        have ff : Wh.cell? ⟨gr, 6, none⟩ = some (.string ⟨#[99, 111, 117, 110, 116]⟩) := pw_cell_below HAh.out f1
        clear f0 f1 f2 f3 f4 hyk hC9 hl9
        have hx2 := blk_below HT2.out HFh.out
        have q0 : Wh.cell? ⟨b5, 0, none⟩ = some (.int .i64 8) := (blk_cell hx2 0).trans rfl
        have q1 : Wh.cell? ⟨b5, 1, none⟩ = some (.string ⟨#[43]⟩) := (blk_cell hx2 1).trans rfl
        have q2 : Wh.cell? ⟨b5, 2, none⟩ = some (.int .i64 0) := (blk_cell hx2 2).trans rfl
        have q3 : Wh.cell? ⟨b5, 3, none⟩ = some (.int .i64 0) := (blk_cell hx2 3).trans rfl
        have q4 : Wh.cell? ⟨b5, 4, none⟩ = some (.slice (some ⟨g4, 0, none⟩) 2 2) := (blk_cell hx2 4).trans rfl
        clear hx2
        go_wp2_with fail
        clear q0 q1 q2 q3 q4 ff
        refine (D.size_calls t2 [.int .i64 8, .string ⟨#[43]⟩, .int .i64 0, .int .i64 0, .slice (some ⟨g4, 0, none⟩) 2 2] Wh (k24.K_below HFh.out HK2.out) ok2).mono ?_
        rintro e Wi ⟨rfl, hb⟩
        have HFi := Aside0.mk (below_then HFh.out HFh.out.size hb)
        clear hb
        rw [size2]
        have hx2 := blk_below HT2.out HFi.out
        have q0 : Wi.cell? ⟨b5, 0, none⟩ = some (.int .i64 8) := (blk_cell hx2 0).trans rfl
        have q1 : Wi.cell? ⟨b5, 1, none⟩ = some (.string ⟨#[43]⟩) := (blk_cell hx2 1).trans rfl
        have q2 : Wi.cell? ⟨b5, 2, none⟩ = some (.int .i64 0) := (blk_cell hx2 2).trans rfl
        have q3 : Wi.cell? ⟨b5, 3, none⟩ = some (.int .i64 0) := (blk_cell hx2 3).trans rfl
        have q4 : Wi.cell? ⟨b5, 4, none⟩ = some (.slice (some ⟨g4, 0, none⟩) 2 2) := (blk_cell hx2 4).trans rfl
        clear hx2
        go_wp2_with fail
        clear q0 q1 q2 q3 q4
        refine (tree_Depth.calls 20 8 ⟨#[43]⟩ 0 0 (some ⟨g4, 0, none⟩) 2 t2.f4 4 Wi (Kd.C_below HC2.out HFi.out) (Nat.le_refl 2) depth2).mono ?_
        rintro e Wj ⟨rfl, hb⟩
        have HFj := Aside0.mk (below_then HFi.out HFi.out.size hb)
        clear hb
        have hx2 := blk_below HT2.out HFj.out
        have q0 : Wj.cell? ⟨b5, 0, none⟩ = some (.int .i64 8) := (blk_cell hx2 0).trans rfl
        have q1 : Wj.cell? ⟨b5, 1, none⟩ = some (.string ⟨#[43]⟩) := (blk_cell hx2 1).trans rfl
        have q2 : Wj.cell? ⟨b5, 2, none⟩ = some (.int .i64 0) := (blk_cell hx2 2).trans rfl
        have q3 : Wj.cell? ⟨b5, 3, none⟩ = some (.int .i64 0) := (blk_cell hx2 3).trans rfl
        have q4 : Wj.cell? ⟨b5, 4, none⟩ = some (.slice (some ⟨g4, 0, none⟩) 2 2) := (blk_cell hx2 4).trans rfl
        clear hx2
        go_wp2_with fail
        clear q0 q1 q2 q3 q4
        refine (tree_Same.calls 40 8 ⟨#[43]⟩ 0 0 (some ⟨g4, 0, none⟩) 2 t2.f4 8 ⟨#[43]⟩ 0 0 (some ⟨g4, 0, none⟩) 2 t2.f4 true Wj (Kd.C_below HC2.out HFj.out) (Nat.le_refl 2) (Kd.C_below HC2.out HFj.out) (Nat.le_refl 2) same22).mono ?_
        rintro e Wk ⟨rfl, hb⟩
        have HFk := Aside0.mk (below_then HFj.out HFj.out.size hb)
        clear hb
        have hx2 := blk_below HT2.out HFk.out
        have q0 : Wk.cell? ⟨b5, 0, none⟩ = some (.int .i64 8) := (blk_cell hx2 0).trans rfl
        have q1 : Wk.cell? ⟨b5, 1, none⟩ = some (.string ⟨#[43]⟩) := (blk_cell hx2 1).trans rfl
        have q2 : Wk.cell? ⟨b5, 2, none⟩ = some (.int .i64 0) := (blk_cell hx2 2).trans rfl
        have q3 : Wk.cell? ⟨b5, 3, none⟩ = some (.int .i64 0) := (blk_cell hx2 3).trans rfl
        have q4 : Wk.cell? ⟨b5, 4, none⟩ = some (.slice (some ⟨g4, 0, none⟩) 2 2) := (blk_cell hx2 4).trans rfl
        clear hx2
        have hx1 := blk_below HTF.out HFk.out
        have p0 : Wk.cell? ⟨w2.heap.size, 0, none⟩ = some (.int .i64 14) := (blk_cell hx1 0).trans rfl
        have p1 : Wk.cell? ⟨w2.heap.size, 1, none⟩ = some (.string ⟨#[115, 117, 109]⟩) := (blk_cell hx1 1).trans rfl
        have p2 : Wk.cell? ⟨w2.heap.size, 2, none⟩ = some (.int .i64 0) := (blk_cell hx1 2).trans rfl
        have p3 : Wk.cell? ⟨w2.heap.size, 3, none⟩ = some (.int .i64 0) := (blk_cell hx1 3).trans rfl
        have p4 : Wk.cell? ⟨w2.heap.size, 4, none⟩ = some (.slice (some ⟨w.heap.size, 0, none⟩) 1 1) := (blk_cell hx1 4).trans rfl
        clear hx1
        go_wp2_with fail
        clear q0 q1 q2 q3 q4 p0 p1 p2 p3 p4
        refine (tree_Same.calls 40 8 ⟨#[43]⟩ 0 0 (some ⟨g4, 0, none⟩) 2 t2.f4 14 ⟨#[115, 117, 109]⟩ 0 0 (some ⟨w.heap.size, 0, none⟩) 1 t1.f4 false Wk (Kd.C_below HC2.out HFk.out) (Nat.le_refl 2) (Kd.C_below HC1.out HFk.out) (Nat.le_refl 1) same21).mono ?_
        rintro e Wl ⟨rfl, hb⟩
        have HFl := Aside0.mk (below_then HFk.out HFk.out.size hb)
        clear hb
        go_wp2_with fail
        go_ret
        exact ⟨rfl, below_then HBWF.out HBWF.out.size HFl.out⟩
    · refine wpOp_step rfl (fun K hK => ?_)
      go_simp
      obtain ⟨W5, hW5⟩ : ∃ W5 : World, W5 = W2.alloc (.cells #[.int .i64 0, .string ⟨#[]⟩, .int .i64 0, .int .i64 0, .slice none 0 0] 24) := ⟨_, rfl⟩
      have hb : Below W2.heap.size W2 W5 := by rw [hW5]; exact (Below.refl _ _).alloc (Nat.le_refl _) _
      have hz : W5.heap[W2.heap.size]? = some (.cells #[.int .i64 0, .string ⟨#[]⟩, .int .i64 0, .int .i64 0, .slice none 0 0] 24 (0, 0)) := by rw [hW5]; exact blk_new _ _
      rw [← hW5]
      have HBW5 := Aside0.mk (below_then HBW2.out HBW2.out.size hb)
      have hge : w3.heap.size ≤ W2.heap.size := HBW2.out.size
      obtain ⟨b5, hb5⟩ : ∃ b5, b5 = W2.heap.size := ⟨_, rfl⟩
      rw [← hb5] at hz hge  ⊢
      have HZ := Aside0.mk hz
      clear hW5 hz hb hb5
      refine hK _ _ ⟨HSS.out _ HBW5.out, ?_⟩
      clear hK
      refine wpAnyH_all (rs := [3]) (by kernel_rfl) (by simp) ?_
      intro i hi
      obtain rfl : i = 3 := by simpa using hi
      refine wpOp_step rfl (fun K hK => ?_)
      go_simp
      refine (sum_calls _ _ _ _ _ _ _ _ _ _ _ _ _ _ W5).mono ?_
      rintro e W3 ⟨g3, rfl, hge3, hg3, hb⟩
      have G3 := Aside0.mk hg3
      have hge3' : w3.heap.size ≤ g3 := Nat.le_trans HBW5.out.size hge3
      have HBW3 := Aside0.mk (below_then HBW5.out HBW5.out.size hb)
      have n3 : g3 ≠ b5 := by have := blk_lt HZ.out; omega
      replace HZ := Aside0.mk (blk_below HZ.out hb)
      clear hb hg3
      refine hK _ _ ⟨HSS.out _ HBW3.out, ?_⟩
      clear hK
      refine wpAnyH_all (rs := [4]) (by kernel_rfl) (by simp) ?_
      intro i hi
      obtain rfl : i = 4 := by simpa using hi
      refine wpOp_step rfl (fun K hK => ?_)
      go_simp
      refine (sum_calls _ _ _ _ _ _ _ _ _ _ _ _ _ _ W3).mono ?_
      rintro e W4 ⟨g4, rfl, hge4, hg4, hb⟩
      have G4 := Aside0.mk hg4
      replace G3 := Aside0.mk (blk_below G3.out hb)
      have HBW4 := Aside0.mk (below_then HBW3.out HBW3.out.size hb)
      have n4 : g4 ≠ b5 := by have := blk_lt HZ.out; omega
      replace HZ := Aside0.mk (blk_below HZ.out hb)
      clear hb hg4
      refine hK _ _ ⟨HSS.out _ HBW4.out, ?_⟩
      clear hK
      refine wpAnyH_all (rs := [6]) (by kernel_rfl) (by simp) ?_
      intro i hi
      obtain rfl : i = 6 := by simpa using hi
      obtain ⟨WF, k3, s1, s2, s3, s4, s5, hrun⟩ := fin_store W4 b5 g4 HZ.out
      have hbs : Below w3.heap.size W4 WF := ⟨s1, s2, s3, by rw [s4]; exact Nat.le_refl _, fun k hk => s5 k (by omega)⟩
      have m3 := (s5 g3 n3).trans G3.out
      have m4 := (s5 g4 n4).trans G4.out
      have HBF : Aside0 (Below w3.heap.size w3 WF) := ⟨HBW4.out.trans hbs⟩
      have HBWF := Aside0.mk (below_then HB3.out HB3.out.size HBF.out)
      have HT2 := Aside0.mk k3
      have m0 := blk_below H0.out HBF.out
      have HTF := Aside0.mk (blk_below HT1.out HBF.out)
      have HK2 := Aside0.mk (K2_of WF w.heap.size g3 g4 m0 m3 m4)
      have HC2 : Aside0 (Kd.C k24 WF (some ⟨g4, 0, none⟩) 2 t2.f4) := ⟨by obtain ⟨A, c, he, _, hC⟩ := k24_open HK2.out; cases he; exact hC⟩
      have HC1 : Aside0 (Kd.C k24 WF (some ⟨w.heap.size, 0, none⟩) 1 t1.f4) := ⟨by obtain ⟨A, c, he, _, hC⟩ := k24_open (K1_of WF w.heap.size m0); cases he; exact hC⟩
      clear k3 s1 s2 s3 s4 s5 hbs m0 m3 m4 HZ G3 G4
      refine wpOp_step rfl (fun K hK => ?_)
      refine T.store_step rfl 24 (.tmp 2) (.tmp 11) rfl rfl hrun (hK _ _ ⟨HSS.out _ HBF.out, ?_⟩)
      clear hK hrun
      refine wpAnyH_done (by kernel_rfl) ?_ _
      have q0 : WF.cell? ⟨b5, 0, none⟩ = some (.int .i64 8) := (blk_cell HT2.out 0).trans rfl
      have q1 : WF.cell? ⟨b5, 1, none⟩ = some (.string ⟨#[43]⟩) := (blk_cell HT2.out 1).trans rfl
      have q2 : WF.cell? ⟨b5, 2, none⟩ = some (.int .i64 0) := (blk_cell HT2.out 2).trans rfl
      have q3 : WF.cell? ⟨b5, 3, none⟩ = some (.int .i64 0) := (blk_cell HT2.out 3).trans rfl
      have q4 : WF.cell? ⟨b5, 4, none⟩ = some (.slice (some ⟨g4, 0, none⟩) 2 2) := (blk_cell HT2.out 4).trans rfl
      go_wp2_with fail
      clear q0 q1 q2 q3 q4
      refine (E.aggs_calls t2 [.int .i64 8, .string ⟨#[43]⟩, .int .i64 0, .int .i64 0, .slice (some ⟨g4, 0, none⟩) 2 2] WF HK2.out ok2 len2).mono ?_
      rintro e Wa ⟨⟨v3, rfl, hR3⟩, hb⟩
      have HFa := Aside0.mk hb
      rw [aggs2] at hR3
      obtain ⟨gr, c3, he3, hg3, _⟩ := Kd.R_form hR3 (by decide)
      replace he3 : v3 = .slice (some ⟨gr, 0, none⟩) 2 c3 := he3
      subst he3
      have HC3 : Aside0 (Kd.C k24 Wa (some ⟨gr, 0, none⟩) 2 [t1, tc]) := ⟨(Kd.R_reads' hR3).2.2⟩
      have HL3 : 2 ≤ c3 := (Kd.R_reads' hR3).2.1
      clear hR3 hb hg3
      go_wp2_with fail
      refine (num_calls 5 Wa).mono ?_
      rintro e Wb ⟨rfl, hb⟩
      have HFb := Aside0.mk (below_then HFa.out HFa.out.size hb)
      have HAb := Aside0.mk hb
      clear hb
      go_wp2_with fail
      refine (form_pos 5 0 (by omega) none 0 Wb).mono ?_
      rintro e Wc ⟨rfl, hb⟩
      have HFc := Aside0.mk (below_then HFb.out HFb.out.size hb)
      have HAc := Aside0.mk (below_then HAb.out HAb.out.size hb)
      clear hb
      go_wp2_with fail
      refine (num_calls (-1) Wc).mono ?_
      rintro e Wd ⟨rfl, hb⟩
      have HFd := Aside0.mk (below_then HFc.out HFc.out.size hb)
      have HAd := Aside0.mk (below_then HAc.out HAc.out.size hb)
      clear hb
      go_wp2_with fail
      refine (form_num (-1) 0 (by omega) none 0 Wd).mono ?_
      rintro e We ⟨rfl, hb⟩
      have HFe := Aside0.mk (below_then HFd.out HFd.out.size hb)
      have HAe := Aside0.mk (below_then HAd.out HAd.out.size hb)
      clear hb
      go_wp2_with fail
      refine (form_sel none 0 We (tab_below htab (below_then HBWF.out HBWF.out.size HFe.out))).mono ?_
      rintro e Wf ⟨rfl, hb⟩
      have HFf := Aside0.mk (below_then HFe.out HFe.out.size hb)
      have HAf := Aside0.mk (below_then HAe.out HAe.out.size hb)
      clear hb
      go_wp2_with fail
      refine (agg_calls ⟨#[115, 117, 109]⟩ none 0 0 Wf).mono ?_
      rintro e Wg ⟨rfl, hb⟩
      have HFg := Aside0.mk (below_then HFf.out HFf.out.size hb)
      have HAg := Aside0.mk (below_then HAf.out HAf.out.size hb)
      clear hb
      go_wp2_with fail
      refine (form_agg none 0 Wg).mono ?_
      rintro e Wh ⟨rfl, hb⟩
      have HFh := Aside0.mk (below_then HFg.out HFg.out.size hb)
      have HAh := Aside0.mk (below_then HAg.out HAg.out.size hb)
      clear hb
      obtain ⟨yy, ad, A9, c9, hyk, hA3, f0, f1, f2, f3, f4, hl9, hC9⟩ := at24 HC3.out 1 (by decide)
      have hyt : tc = yy := hyk.out
      subst hyt
      injection hA3 with hA3
      subst hA3
      have ff : Wh.cell? ⟨gr, 6, none⟩ = some (.string ⟨#[99, 111, 117, 110, 116]⟩) := pw_cell_below HAh.out f1
      clear f0 f1 f2 f3 f4 hyk hC9 hl9
      have hx2 := blk_below HT2.out HFh.out
      have q0 : Wh.cell? ⟨b5, 0, none⟩ = some (.int .i64 8) := (blk_cell hx2 0).trans rfl
      have q1 : Wh.cell? ⟨b5, 1, none⟩ = some (.string ⟨#[43]⟩) := (blk_cell hx2 1).trans rfl
      have q2 : Wh.cell? ⟨b5, 2, none⟩ = some (.int .i64 0) := (blk_cell hx2 2).trans rfl
      have q3 : Wh.cell? ⟨b5, 3, none⟩ = some (.int .i64 0) := (blk_cell hx2 3).trans rfl
      have q4 : Wh.cell? ⟨b5, 4, none⟩ = some (.slice (some ⟨g4, 0, none⟩) 2 2) := (blk_cell hx2 4).trans rfl
      clear hx2
      go_wp2_with fail
      clear q0 q1 q2 q3 q4 ff
      refine (D.size_calls t2 [.int .i64 8, .string ⟨#[43]⟩, .int .i64 0, .int .i64 0, .slice (some ⟨g4, 0, none⟩) 2 2] Wh (k24.K_below HFh.out HK2.out) ok2).mono ?_
      rintro e Wi ⟨rfl, hb⟩
      have HFi := Aside0.mk (below_then HFh.out HFh.out.size hb)
      clear hb
      rw [size2]
      have hx2 := blk_below HT2.out HFi.out
      have q0 : Wi.cell? ⟨b5, 0, none⟩ = some (.int .i64 8) := (blk_cell hx2 0).trans rfl
      have q1 : Wi.cell? ⟨b5, 1, none⟩ = some (.string ⟨#[43]⟩) := (blk_cell hx2 1).trans rfl
      have q2 : Wi.cell? ⟨b5, 2, none⟩ = some (.int .i64 0) := (blk_cell hx2 2).trans rfl
      have q3 : Wi.cell? ⟨b5, 3, none⟩ = some (.int .i64 0) := (blk_cell hx2 3).trans rfl
      have q4 : Wi.cell? ⟨b5, 4, none⟩ = some (.slice (some ⟨g4, 0, none⟩) 2 2) := (blk_cell hx2 4).trans rfl
      clear hx2
      go_wp2_with fail
      clear q0 q1 q2 q3 q4
      refine (tree_Depth.calls 20 8 ⟨#[43]⟩ 0 0 (some ⟨g4, 0, none⟩) 2 t2.f4 4 Wi (Kd.C_below HC2.out HFi.out) (Nat.le_refl 2) depth2).mono ?_
      rintro e Wj ⟨rfl, hb⟩
      have HFj := Aside0.mk (below_then HFi.out HFi.out.size hb)
      clear hb
      have hx2 := blk_below HT2.out HFj.out
      have q0 : Wj.cell? ⟨b5, 0, none⟩ = some (.int .i64 8) := (blk_cell hx2 0).trans rfl
      have q1 : Wj.cell? ⟨b5, 1, none⟩ = some (.string ⟨#[43]⟩) := (blk_cell hx2 1).trans rfl
      have q2 : Wj.cell? ⟨b5, 2, none⟩ = some (.int .i64 0) := (blk_cell hx2 2).trans rfl
      have q3 : Wj.cell? ⟨b5, 3, none⟩ = some (.int .i64 0) := (blk_cell hx2 3).trans rfl
      have q4 : Wj.cell? ⟨b5, 4, none⟩ = some (.slice (some ⟨g4, 0, none⟩) 2 2) := (blk_cell hx2 4).trans rfl
      clear hx2
      go_wp2_with fail
      clear q0 q1 q2 q3 q4
      refine (tree_Same.calls 40 8 ⟨#[43]⟩ 0 0 (some ⟨g4, 0, none⟩) 2 t2.f4 8 ⟨#[43]⟩ 0 0 (some ⟨g4, 0, none⟩) 2 t2.f4 true Wj (Kd.C_below HC2.out HFj.out) (Nat.le_refl 2) (Kd.C_below HC2.out HFj.out) (Nat.le_refl 2) same22).mono ?_
      rintro e Wk ⟨rfl, hb⟩
      have HFk := Aside0.mk (below_then HFj.out HFj.out.size hb)
      clear hb
      have hx2 := blk_below HT2.out HFk.out
      have q0 : Wk.cell? ⟨b5, 0, none⟩ = some (.int .i64 8) := (blk_cell hx2 0).trans rfl
      have q1 : Wk.cell? ⟨b5, 1, none⟩ = some (.string ⟨#[43]⟩) := (blk_cell hx2 1).trans rfl
      have q2 : Wk.cell? ⟨b5, 2, none⟩ = some (.int .i64 0) := (blk_cell hx2 2).trans rfl
      have q3 : Wk.cell? ⟨b5, 3, none⟩ = some (.int .i64 0) := (blk_cell hx2 3).trans rfl
      have q4 : Wk.cell? ⟨b5, 4, none⟩ = some (.slice (some ⟨g4, 0, none⟩) 2 2) := (blk_cell hx2 4).trans rfl
      clear hx2
      have hx1 := blk_below HTF.out HFk.out
      have p0 : Wk.cell? ⟨w2.heap.size, 0, none⟩ = some (.int .i64 14) := (blk_cell hx1 0).trans rfl
      have p1 : Wk.cell? ⟨w2.heap.size, 1, none⟩ = some (.string ⟨#[115, 117, 109]⟩) := (blk_cell hx1 1).trans rfl
      have p2 : Wk.cell? ⟨w2.heap.size, 2, none⟩ = some (.int .i64 0) := (blk_cell hx1 2).trans rfl
      have p3 : Wk.cell? ⟨w2.heap.size, 3, none⟩ = some (.int .i64 0) := (blk_cell hx1 3).trans rfl
      have p4 : Wk.cell? ⟨w2.heap.size, 4, none⟩ = some (.slice (some ⟨w.heap.size, 0, none⟩) 1 1) := (blk_cell hx1 4).trans rfl
      clear hx1
      go_wp2_with fail
      clear q0 q1 q2 q3 q4 p0 p1 p2 p3 p4
      refine (tree_Same.calls 40 8 ⟨#[43]⟩ 0 0 (some ⟨g4, 0, none⟩) 2 t2.f4 14 ⟨#[115, 117, 109]⟩ 0 0 (some ⟨w.heap.size, 0, none⟩) 1 t1.f4 false Wk (Kd.C_below HC2.out HFk.out) (Nat.le_refl 2) (Kd.C_below HC1.out HFk.out) (Nat.le_refl 1) same21).mono ?_
      rintro e Wl ⟨rfl, hb⟩
      have HFl := Aside0.mk (below_then HFk.out HFk.out.size hb)
      clear hb
      go_wp2_with fail
      go_ret
      exact ⟨rfl, below_then HBWF.out HBWF.out.size HFl.out⟩
  · refine wpOp_step rfl (fun K hK => ?_)
    go_simp
    obtain ⟨W5, hW5⟩ : ∃ W5 : World, W5 = V0.alloc (.cells #[.int .i64 0, .string ⟨#[]⟩, .int .i64 0, .int .i64 0, .slice none 0 0] 24) := ⟨_, rfl⟩
    have hb : Below V0.heap.size V0 W5 := by rw [hW5]; exact (Below.refl _ _).alloc (Nat.le_refl _) _
    have hz : W5.heap[V0.heap.size]? = some (.cells #[.int .i64 0, .string ⟨#[]⟩, .int .i64 0, .int .i64 0, .slice none 0 0] 24 (0, 0)) := by rw [hW5]; exact blk_new _ _
    rw [← hW5]
    have HBW5 := Aside0.mk (below_then HB0.out HB0.out.size hb)
    have hge : w3.heap.size ≤ V0.heap.size := HB0.out.size
    obtain ⟨b5, hb5⟩ : ∃ b5, b5 = V0.heap.size := ⟨_, rfl⟩
    rw [← hb5] at hz hge  ⊢
    have HZ := Aside0.mk hz
    clear hW5 hz hb hb5
    refine hK _ _ ⟨HSS.out _ HBW5.out, ?_⟩
    clear hK
    refine wpAnyH_all (rs := [2]) (by kernel_rfl) (by simp) ?_
    intro i hi
    obtain rfl : i = 2 := by simpa using hi
    refine wpOp_step rfl (fun K hK => ?_)
    go_simp
    refine (agg_calls _ none 0 0 W5).mono ?_
    rintro e W2 ⟨rfl, hb⟩
    have HBW2 := Aside0.mk (below_then HBW5.out HBW5.out.size hb)
    replace HZ := Aside0.mk (blk_below HZ.out hb)
    clear hb
    refine hK _ _ ⟨HSS.out _ HBW2.out, ?_⟩
    clear hK
    refine wpAnyH_all (rs := [3]) (by kernel_rfl) (by simp) ?_
    intro i hi
    obtain rfl : i = 3 := by simpa using hi
    refine wpOp_step rfl (fun K hK => ?_)
    go_simp
    refine (sum_calls _ _ _ _ _ _ _ _ _ _ _ _ _ _ W2).mono ?_
    rintro e W3 ⟨g3, rfl, hge3, hg3, hb⟩
    have G3 := Aside0.mk hg3
    have hge3' : w3.heap.size ≤ g3 := Nat.le_trans HBW2.out.size hge3
    have HBW3 := Aside0.mk (below_then HBW2.out HBW2.out.size hb)
    have n3 : g3 ≠ b5 := by have := blk_lt HZ.out; omega
    replace HZ := Aside0.mk (blk_below HZ.out hb)
    clear hb hg3
    refine hK _ _ ⟨HSS.out _ HBW3.out, ?_⟩
    clear hK
    refine wpAnyH_all (rs := [4]) (by kernel_rfl) (by simp) ?_
    intro i hi
    obtain rfl : i = 4 := by simpa using hi
    refine wpOp_step rfl (fun K hK => ?_)
    go_simp
    refine (sum_calls _ _ _ _ _ _ _ _ _ _ _ _ _ _ W3).mono ?_
    rintro e W4 ⟨g4, rfl, hge4, hg4, hb⟩
    have G4 := Aside0.mk hg4
    replace G3 := Aside0.mk (blk_below G3.out hb)
    have HBW4 := Aside0.mk (below_then HBW3.out HBW3.out.size hb)
    have n4 : g4 ≠ b5 := by have := blk_lt HZ.out; omega
    replace HZ := Aside0.mk (blk_below HZ.out hb)
    clear hb hg4
    refine hK _ _ ⟨HSS.out _ HBW4.out, ?_⟩
    clear hK
    refine wpAnyH_all (rs := [6]) (by kernel_rfl) (by simp) ?_
    intro i hi
    obtain rfl : i = 6 := by simpa using hi
    obtain ⟨WF, k3, s1, s2, s3, s4, s5, hrun⟩ := fin_store W4 b5 g4 HZ.out
    have hbs : Below w3.heap.size W4 WF := ⟨s1, s2, s3, by rw [s4]; exact Nat.le_refl _, fun k hk => s5 k (by omega)⟩
    have m3 := (s5 g3 n3).trans G3.out
    have m4 := (s5 g4 n4).trans G4.out
    have HBF : Aside0 (Below w3.heap.size w3 WF) := ⟨HBW4.out.trans hbs⟩
    have HBWF := Aside0.mk (below_then HB3.out HB3.out.size HBF.out)
    have HT2 := Aside0.mk k3
    have m0 := blk_below H0.out HBF.out
    have HTF := Aside0.mk (blk_below HT1.out HBF.out)
    have HK2 := Aside0.mk (K2_of WF w.heap.size g3 g4 m0 m3 m4)
    have HC2 : Aside0 (Kd.C k24 WF (some ⟨g4, 0, none⟩) 2 t2.f4) := ⟨by obtain ⟨A, c, he, _, hC⟩ := k24_open HK2.out; cases he; exact hC⟩
    have HC1 : Aside0 (Kd.C k24 WF (some ⟨w.heap.size, 0, none⟩) 1 t1.f4) := ⟨by obtain ⟨A, c, he, _, hC⟩ := k24_open (K1_of WF w.heap.size m0); cases he; exact hC⟩
    clear k3 s1 s2 s3 s4 s5 hbs m0 m3 m4 HZ G3 G4
    refine wpOp_step rfl (fun K hK => ?_)
    refine T.store_step rfl 24 (.tmp 2) (.tmp 11) rfl rfl hrun (hK _ _ ⟨HSS.out _ HBF.out, ?_⟩)
    clear hK hrun
    refine wpAnyH_done (by kernel_rfl) ?_ _
    have q0 : WF.cell? ⟨b5, 0, none⟩ = some (.int .i64 8) := (blk_cell HT2.out 0).trans rfl
    have q1 : WF.cell? ⟨b5, 1, none⟩ = some (.string ⟨#[43]⟩) := (blk_cell HT2.out 1).trans rfl
    have q2 : WF.cell? ⟨b5, 2, none⟩ = some (.int .i64 0) := (blk_cell HT2.out 2).trans rfl
    have q3 : WF.cell? ⟨b5, 3, none⟩ = some (.int .i64 0) := (blk_cell HT2.out 3).trans rfl
    have q4 : WF.cell? ⟨b5, 4, none⟩ = some (.slice (some ⟨g4, 0, none⟩) 2 2) := (blk_cell HT2.out 4).trans rfl
    go_wp2_with fail
    clear q0 q1 q2 q3 q4
    refine (E.aggs_calls t2 [.int .i64 8, .string ⟨#[43]⟩, .int .i64 0, .int .i64 0, .slice (some ⟨g4, 0, none⟩) 2 2] WF HK2.out ok2 len2).mono ?_
    rintro e Wa ⟨⟨v3, rfl, hR3⟩, hb⟩
    have HFa := Aside0.mk hb
    rw [aggs2] at hR3
    obtain ⟨gr, c3, he3, hg3, _⟩ := Kd.R_form hR3 (by decide)
    replace he3 : v3 = .slice (some ⟨gr, 0, none⟩) 2 c3 := he3
    subst he3
    have HC3 : Aside0 (Kd.C k24 Wa (some ⟨gr, 0, none⟩) 2 [t1, tc]) := ⟨(Kd.R_reads' hR3).2.2⟩
    have HL3 : 2 ≤ c3 := (Kd.R_reads' hR3).2.1
    clear hR3 hb hg3
    go_wp2_with fail
    refine (num_calls 5 Wa).mono ?_
    rintro e Wb ⟨rfl, hb⟩
    have HFb := Aside0.mk (below_then HFa.out HFa.out.size hb)
    have HAb := Aside0.mk hb
    clear hb
    go_wp2_with fail
    refine (form_pos 5 0 (by omega) none 0 Wb).mono ?_
    rintro e Wc ⟨rfl, hb⟩
    have HFc := Aside0.mk (below_then HFb.out HFb.out.size hb)
    have HAc := Aside0.mk (below_then HAb.out HAb.out.size hb)
    clear hb
    go_wp2_with fail
    refine (num_calls (-1) Wc).mono ?_
    rintro e Wd ⟨rfl, hb⟩
    have HFd := Aside0.mk (below_then HFc.out HFc.out.size hb)
    have HAd := Aside0.mk (below_then HAc.out HAc.out.size hb)
    clear hb
    go_wp2_with fail
    refine (form_num (-1) 0 (by omega) none 0 Wd).mono ?_
    rintro e We ⟨rfl, hb⟩
    have HFe := Aside0.mk (below_then HFd.out HFd.out.size hb)
    have HAe := Aside0.mk (below_then HAd.out HAd.out.size hb)
    clear hb
    go_wp2_with fail
    refine (form_sel none 0 We (tab_below htab (below_then HBWF.out HBWF.out.size HFe.out))).mono ?_
    rintro e Wf ⟨rfl, hb⟩
    have HFf := Aside0.mk (below_then HFe.out HFe.out.size hb)
    have HAf := Aside0.mk (below_then HAe.out HAe.out.size hb)
    clear hb
    go_wp2_with fail
    refine (agg_calls ⟨#[115, 117, 109]⟩ none 0 0 Wf).mono ?_
    rintro e Wg ⟨rfl, hb⟩
    have HFg := Aside0.mk (below_then HFf.out HFf.out.size hb)
    have HAg := Aside0.mk (below_then HAf.out HAf.out.size hb)
    clear hb
    go_wp2_with fail
    refine (form_agg none 0 Wg).mono ?_
    rintro e Wh ⟨rfl, hb⟩
    have HFh := Aside0.mk (below_then HFg.out HFg.out.size hb)
    have HAh := Aside0.mk (below_then HAg.out HAg.out.size hb)
    clear hb
    obtain ⟨yy, ad, A9, c9, hyk, hA3, f0, f1, f2, f3, f4, hl9, hC9⟩ := at24 HC3.out 1 (by decide)
    have hyt : tc = yy := hyk.out
    subst hyt
    injection hA3 with hA3
    subst hA3
    have ff : Wh.cell? ⟨gr, 6, none⟩ = some (.string ⟨#[99, 111, 117, 110, 116]⟩) := pw_cell_below HAh.out f1
    clear f0 f1 f2 f3 f4 hyk hC9 hl9
    have hx2 := blk_below HT2.out HFh.out
    have q0 : Wh.cell? ⟨b5, 0, none⟩ = some (.int .i64 8) := (blk_cell hx2 0).trans rfl
    have q1 : Wh.cell? ⟨b5, 1, none⟩ = some (.string ⟨#[43]⟩) := (blk_cell hx2 1).trans rfl
    have q2 : Wh.cell? ⟨b5, 2, none⟩ = some (.int .i64 0) := (blk_cell hx2 2).trans rfl
    have q3 : Wh.cell? ⟨b5, 3, none⟩ = some (.int .i64 0) := (blk_cell hx2 3).trans rfl
    have q4 : Wh.cell? ⟨b5, 4, none⟩ = some (.slice (some ⟨g4, 0, none⟩) 2 2) := (blk_cell hx2 4).trans rfl
    clear hx2
    go_wp2_with fail
    clear q0 q1 q2 q3 q4 ff
    refine (D.size_calls t2 [.int .i64 8, .string ⟨#[43]⟩, .int .i64 0, .int .i64 0, .slice (some ⟨g4, 0, none⟩) 2 2] Wh (k24.K_below HFh.out HK2.out) ok2).mono ?_
    rintro e Wi ⟨rfl, hb⟩
    have HFi := Aside0.mk (below_then HFh.out HFh.out.size hb)
    clear hb
    rw [size2]
    have hx2 := blk_below HT2.out HFi.out
    have q0 : Wi.cell? ⟨b5, 0, none⟩ = some (.int .i64 8) := (blk_cell hx2 0).trans rfl
    have q1 : Wi.cell? ⟨b5, 1, none⟩ = some (.string ⟨#[43]⟩) := (blk_cell hx2 1).trans rfl
    have q2 : Wi.cell? ⟨b5, 2, none⟩ = some (.int .i64 0) := (blk_cell hx2 2).trans rfl
    have q3 : Wi.cell? ⟨b5, 3, none⟩ = some (.int .i64 0) := (blk_cell hx2 3).trans rfl
    have q4 : Wi.cell? ⟨b5, 4, none⟩ = some (.slice (some ⟨g4, 0, none⟩) 2 2) := (blk_cell hx2 4).trans rfl
    clear hx2
    go_wp2_with fail
    clear q0 q1 q2 q3 q4
    refine (tree_Depth.calls 20 8 ⟨#[43]⟩ 0 0 (some ⟨g4, 0, none⟩) 2 t2.f4 4 Wi (Kd.C_below HC2.out HFi.out) (Nat.le_refl 2) depth2).mono ?_
    rintro e Wj ⟨rfl, hb⟩
    have HFj := Aside0.mk (below_then HFi.out HFi.out.size hb)
    clear hb
    have hx2 := blk_below HT2.out HFj.out
    have q0 : Wj.cell? ⟨b5, 0, none⟩ = some (.int .i64 8) := (blk_cell hx2 0).trans rfl
    have q1 : Wj.cell? ⟨b5, 1, none⟩ = some (.string ⟨#[43]⟩) := (blk_cell hx2 1).trans rfl
    have q2 : Wj.cell? ⟨b5, 2, none⟩ = some (.int .i64 0) := (blk_cell hx2 2).trans rfl
    have q3 : Wj.cell? ⟨b5, 3, none⟩ = some (.int .i64 0) := (blk_cell hx2 3).trans rfl
    have q4 : Wj.cell? ⟨b5, 4, none⟩ = some (.slice (some ⟨g4, 0, none⟩) 2 2) := (blk_cell hx2 4).trans rfl
    clear hx2
    go_wp2_with fail
    clear q0 q1 q2 q3 q4
    refine (tree_Same.calls 40 8 ⟨#[43]⟩ 0 0 (some ⟨g4, 0, none⟩) 2 t2.f4 8 ⟨#[43]⟩ 0 0 (some ⟨g4, 0, none⟩) 2 t2.f4 true Wj (Kd.C_below HC2.out HFj.out) (Nat.le_refl 2) (Kd.C_below HC2.out HFj.out) (Nat.le_refl 2) same22).mono ?_
    rintro e Wk ⟨rfl, hb⟩
    have HFk := Aside0.mk (below_then HFj.out HFj.out.size hb)
    clear hb
    have hx2 := blk_below HT2.out HFk.out
    have q0 : Wk.cell? ⟨b5, 0, none⟩ = some (.int .i64 8) := (blk_cell hx2 0).trans rfl
    have q1 : Wk.cell? ⟨b5, 1, none⟩ = some (.string ⟨#[43]⟩) := (blk_cell hx2 1).trans rfl
    have q2 : Wk.cell? ⟨b5, 2, none⟩ = some (.int .i64 0) := (blk_cell hx2 2).trans rfl
    have q3 : Wk.cell? ⟨b5, 3, none⟩ = some (.int .i64 0) := (blk_cell hx2 3).trans rfl
    have q4 : Wk.cell? ⟨b5, 4, none⟩ = some (.slice (some ⟨g4, 0, none⟩) 2 2) := (blk_cell hx2 4).trans rfl
    clear hx2
    have hx1 := blk_below HTF.out HFk.out
    have p0 : Wk.cell? ⟨w2.heap.size, 0, none⟩ = some (.int .i64 14) := (blk_cell hx1 0).trans rfl
    have p1 : Wk.cell? ⟨w2.heap.size, 1, none⟩ = some (.string ⟨#[115, 117, 109]⟩) := (blk_cell hx1 1).trans rfl
    have p2 : Wk.cell? ⟨w2.heap.size, 2, none⟩ = some (.int .i64 0) := (blk_cell hx1 2).trans rfl
    have p3 : Wk.cell? ⟨w2.heap.size, 3, none⟩ = some (.int .i64 0) := (blk_cell hx1 3).trans rfl
    have p4 : Wk.cell? ⟨w2.heap.size, 4, none⟩ = some (.slice (some ⟨w.heap.size, 0, none⟩) 1 1) := (blk_cell hx1 4).trans rfl
    clear hx1
    go_wp2_with fail
    clear q0 q1 q2 q3 q4 p0 p1 p2 p3 p4
    refine (tree_Same.calls 40 8 ⟨#[43]⟩ 0 0 (some ⟨g4, 0, none⟩) 2 t2.f4 14 ⟨#[115, 117, 109]⟩ 0 0 (some ⟨w.heap.size, 0, none⟩) 1 t1.f4 false Wk (Kd.C_below HC2.out HFk.out) (Nat.le_refl 2) (Kd.C_below HC1.out HFk.out) (Nat.le_refl 1) same21).mono ?_
    rintro e Wl ⟨rfl, hb⟩
    have HFl := Aside0.mk (below_then HFk.out HFk.out.size hb)
    clear hb
    go_wp2_with fail
    go_ret
    exact ⟨rfl, below_then HBWF.out HBWF.out.size HFl.out⟩
end Go.Proofs.YtladneaaepcdbaaDoor.X
