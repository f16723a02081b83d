/- marqueelaw15.Fit: what comes out are elements of what came in, at most two hundred, their numbers in range. -/
import Derived.Test.YtdbhlfnpaloomaaD
namespace Go.Proofs.Ytdbhlfnpaloomaa.E
open Go.RowKit Go.Proofs.YtdbhlfnpaloomaaW.PrintWords Go.Proofs.YtdbhlfnpaloomaaW.PrintLast Go.Proofs.YtdbhlfnpaloomaaW.PrintMore
open Go.Proofs.Ytdbhlfnpaloomaa.PSame Go.Proofs.Ytdbhlfnpaloomaa.A Go.Proofs.Ytdbhlfnpaloomaa.B
attribute [local go_sem] max2_int min2_int max_two min_two
set_option linter.unusedVariables false
set_option linter.unusedSimpArgs false

/-- What Fit hands back of l. -/
def Fits (l os : List S30) : Prop := ∀ a ∈ os, a ∈ l ∧ 0 ≤ a.f0 ∧ a.f0 ≤ 1073741824

theorem fits_snoc {l os : List S30} {x : S30} (h : Fits l os) (hx : x ∈ l) (h0 : 0 ≤ x.f0) (h1 : x.f0 ≤ 1073741824) : Fits l (os ++ [x]) := by
  intro a ha
  rcases List.mem_append.1 ha with ha | ha
  · exact h a ha
  · rw [List.mem_singleton.1 ha]; exact ⟨hx, h0, h1⟩

set_option maxHeartbeats 16000000 in
set_option maxRecDepth 100000 in
theorem fit_calls (l : List S30) (A : Option Addr) (c : Nat) (n : Int) (w : World) (hl : Kd.C k30 w A l.length l) (hc : l.length ≤ c) :
    Calls Try.prog 4 #[.slice A l.length c, .int .i64 n] w fun e w' => ∃ v os t, e = .returned (.tuple #[v, .int .i64 t]) ∧ OwnRow (k30.K w) 30 3 w' w.heap.size v os ∧ os.length ≤ 200 ∧ Fits l os ∧ Below w.heap.size w w' := by
  have HL := Aside0.mk hl
  clear hl
  go_enter Try.func4, Try.ntmps4
  go_wp2_with fail
  go_loopw [9, 6, 7, 8] (fun t9 t6 t7 t8 wr => ∃ i os, i ≤ l.length ∧ i ≤ 200 ∧ List.length os ≤ i ∧ t9 = .int .i64 (i : Nat) ∧ (∃ sq, t7 = .int .i64 sq ∧ 0 ≤ sq) ∧ (∃ tm, t8 = .int .i64 tm) ∧ Aside0 (OwnRow (k30.K w) 30 3 wr w.heap.size t6 os) ∧ Aside0 (Fits l os) ∧ Aside0 (Below w.heap.size w wr)) (fun t9 _ _ _ _ => l.length - (intOf t9).toNat)
  case atStart => exact ⟨0, [], Nat.zero_le _, by omega, Nat.le_refl _, rfl, ⟨0, rfl, Int.le_refl _⟩, ⟨0, rfl⟩, ⟨OwnRow.none_ _ _ _ _ _⟩, ⟨fun a ha => by cases ha⟩, ⟨Below.refl _ _⟩⟩
  case round =>
    obtain ⟨i, os, hi, hi2, hoi, rfl, ⟨sq, rfl, hsq⟩, ⟨tm, rfl⟩, hR, hF, hB⟩ := hrel
    obtain ⟨Ao, co, e6, hlo, hCo⟩ := hR.out.reads
    subst e6
    have HCo := Aside0.mk hCo
    clear hCo
    by_cases hlt : i < l.length
    · by_cases hlt2 : i < 200
      · obtain ⟨x, ad, A2, c2, hxi, rfl, g0, g1, g2, hl2, hC2⟩ := at30 HL.out i hlt
        have HK2 := Aside0.mk (k30_mk w x hl2 hC2)
        replace g0 := pw_cell_below hB.out g0
        replace g1 := pw_cell_below hB.out g1
        replace g2 := pw_cell_below hB.out g2
        have hxm : x ∈ l := by rw [← hxi.out]; simp [List.getD_eq_getElem?_getD, List.getElem?_eq_getElem hlt]
        have HXM := Aside0.mk hxm
        clear hC2 hxi hxm
        go_wp2_with fail
        obtain ⟨wa, hwa⟩ : ∃ wa : World, wa = wr.alloc (.cells #[.int .i64 x.f0, .int .i64 x.f1, .slice A2 x.f2.length c2] 30) := ⟨_, rfl⟩
        have hBa : Below wr.heap.size wr wa := by rw [hwa]; exact (Below.refl _ _).alloc (Nat.le_refl _) _
        have hbx : wa.heap[wr.heap.size]? = some (.cells #[.int .i64 x.f0, .int .i64 x.f1, .slice A2 x.f2.length c2] 30 (0, 0)) := by rw [hwa]; exact blk_new _ _
        rw [← hwa]
        have HBa := Aside0.mk (below_then hB.out hB.out.size hBa)
        have HRa : Aside0 (OwnRow (k30.K w) 30 3 wa w.heap.size (.slice Ao os.length co) os) := ⟨hR.out.below hBa⟩
        have HCa : Aside0 (Kd.C k30 wa Ao os.length os) := ⟨HCo.out.imp_ hBa (fun _ _ hp => k30.K_below HBa.out hp)⟩
        have HBX := Aside0.mk hbx
        obtain ⟨gb, hgb⟩ : ∃ gb, gb = wr.heap.size := ⟨_, rfl⟩
        rw [← hgb] at HBX ⊢
        clear hwa hBa hbx hgb g0 g1 g2 HCo
        by_cases h1 : x.f0 ≤ sq
        · have HS : ∀ V, Below wa.heap.size wa V → (V.cell? ⟨gb, 0, none⟩ = some (.int .i64 x.f0) ∧ V.cell? ⟨gb, 1, none⟩ = some (.int .i64 x.f1) ∧ V.cell? ⟨gb, 2, none⟩ = some (.slice A2 x.f2.length c2)) := fun V hV => ⟨(blk_cell (blk_below HBX.out hV) 0).trans rfl, (blk_cell (blk_below HBX.out hV) 1).trans rfl, (blk_cell (blk_below HBX.out hV) 2).trans rfl⟩
          refine wp_region_held (S := fun V => V.cell? ⟨gb, 0, none⟩ = some (.int .i64 x.f0) ∧ V.cell? ⟨gb, 1, none⟩ = some (.int .i64 x.f1) ∧ V.cell? ⟨gb, 2, none⟩ = some (.slice A2 x.f2.length c2)) (by kernel_rfl) ?_
          obtain ⟨V0, hV0⟩ : ∃ V0 : World, V0 = { wa with drawn := wa.drawn + 1 } := ⟨_, rfl⟩
          have hB0 : Below wa.heap.size wa V0 := by rw [hV0]; exact ⟨rfl, rfl, rfl, Nat.le_refl _, fun _ _ => rfl⟩
          rw [← hV0]
          have HSS := Aside0.mk HS
          have HB0 := Aside0.mk hB0
          have HB1 := Aside0.mk (below_then HBa.out HBa.out.size hB0)
          have HR1 := Aside0.mk (HRa.out.below hB0)
          clear hV0 HS hB0
          refine wpAnyH_take (i := 0) (v := (.pointer (some ⟨gb, 0, none⟩))) rfl (by kernel_rfl) (by kernel_rfl) (by kernel_rfl) (fun _ _ _ h => h) (Or.inl ⟨by kernel_rfl, fun V hV => ?_⟩) (HSS.out _ HB0.out) ?_
          · obtain ⟨g0, g1, g2⟩ := hV
            go_simp
          refine wpAnyH_take (i := 1) (v := (.int .i64 x.f0)) rfl (by kernel_rfl) (by kernel_rfl) (by kernel_rfl) (fun _ _ _ h => h) (Or.inl ⟨by kernel_rfl, fun V hV => ?_⟩) (HSS.out _ HB0.out) ?_
          · obtain ⟨g0, g1, g2⟩ := hV
            go_simp
          refine wpAnyH_take (i := 2) (v := (.int .i64 sq)) rfl (by kernel_rfl) (by kernel_rfl) (by kernel_rfl) (fun _ _ _ h => h) (Or.inl ⟨by kernel_rfl, fun V hV => ?_⟩) (HSS.out _ HB0.out) ?_
          · obtain ⟨g0, g1, g2⟩ := hV
            go_simp
          refine wpAnyH_take (i := 3) (v := (.bool true)) rfl (by kernel_rfl) (by kernel_rfl) (by kernel_rfl) (fun _ _ _ h => h) (Or.inl ⟨by kernel_rfl, fun V hV => ?_⟩) (HSS.out _ HB0.out) ?_
          · obtain ⟨g0, g1, g2⟩ := hV
            go_simp
            all_goals first | done | omega | simp [h1] | exact List.eq_nil_of_length_eq_zero (by omega) | exact fun h8 => absurd (show List.length o0.f2 = 0 by rw [h8]; rfl) (by omega)
          refine wpAnyH_take (i := 4) (v := (.bool true)) rfl (by kernel_rfl) (by kernel_rfl) (by kernel_rfl) (fun _ _ _ h => h) (Or.inl ⟨by kernel_rfl, fun V hV => ?_⟩) (HSS.out _ HB0.out) ?_
          · obtain ⟨g0, g1, g2⟩ := hV
            go_simp
          refine wpAnyH_take (i := 5) (v := undef) rfl (by kernel_rfl) (by kernel_rfl) (by kernel_rfl) (fun _ _ _ h => h) (Or.inr ⟨by kernel_rfl, rfl⟩) (HSS.out _ HB0.out) ?_
          refine wpAnyH_take (i := 6) (v := undef) rfl (by kernel_rfl) (by kernel_rfl) (by kernel_rfl) (fun _ _ _ h => h) (Or.inr ⟨by kernel_rfl, rfl⟩) (HSS.out _ HB0.out) ?_
          refine wpAnyH_take (i := 7) (v := undef) rfl (by kernel_rfl) (by kernel_rfl) (by kernel_rfl) (fun _ _ _ h => h) (Or.inr ⟨by kernel_rfl, rfl⟩) (HSS.out _ HB0.out) ?_
          refine wpAnyH_take (i := 8) (v := (.bool true)) rfl (by kernel_rfl) (by kernel_rfl) (by kernel_rfl) (fun _ _ _ h => h) (Or.inl ⟨by kernel_rfl, fun V hV => ?_⟩) (HSS.out _ HB0.out) ?_
          · obtain ⟨g0, g1, g2⟩ := hV
            go_simp
          refine wpAnyH_take (i := 9) (v := (.bool true)) rfl (by kernel_rfl) (by kernel_rfl) (by kernel_rfl) (fun _ _ _ h => h) (Or.inl ⟨by kernel_rfl, fun V hV => ?_⟩) (HSS.out _ HB0.out) ?_
          · obtain ⟨g0, g1, g2⟩ := hV
            go_simp
          refine wpAnyH_take (i := 10) (v := undef) rfl (by kernel_rfl) (by kernel_rfl) (by kernel_rfl) (fun _ _ _ h => h) (Or.inr ⟨by kernel_rfl, rfl⟩) (HSS.out _ HB0.out) ?_
          refine wpAnyH_take (i := 11) (v := undef) rfl (by kernel_rfl) (by kernel_rfl) (by kernel_rfl) (fun _ _ _ h => h) (Or.inr ⟨by kernel_rfl, rfl⟩) (HSS.out _ HB0.out) ?_
          refine wpAnyH_take (i := 12) (v := undef) rfl (by kernel_rfl) (by kernel_rfl) (by kernel_rfl) (fun _ _ _ h => h) (Or.inr ⟨by kernel_rfl, rfl⟩) (HSS.out _ HB0.out) ?_
          refine wpAnyH_take (i := 13) (v := undef) rfl (by kernel_rfl) (by kernel_rfl) (by kernel_rfl) (fun _ _ _ h => h) (Or.inr ⟨by kernel_rfl, rfl⟩) (HSS.out _ HB0.out) ?_
          refine wpAnyH_take (i := 14) (v := (.bool true)) rfl (by kernel_rfl) (by kernel_rfl) (by kernel_rfl) (fun _ _ _ h => h) (Or.inl ⟨by kernel_rfl, fun V hV => ?_⟩) (HSS.out _ HB0.out) ?_
          · obtain ⟨g0, g1, g2⟩ := hV
            go_simp
          refine wpAnyH_take (i := 15) (v := (.bool true)) rfl (by kernel_rfl) (by kernel_rfl) (by kernel_rfl) (fun _ _ _ h => h) (Or.inl ⟨by kernel_rfl, fun V hV => ?_⟩) (HSS.out _ HB0.out) ?_
          · obtain ⟨g0, g1, g2⟩ := hV
            go_simp
          refine wpAnyH_take (i := 16) (v := undef) rfl (by kernel_rfl) (by kernel_rfl) (by kernel_rfl) (fun _ _ _ h => h) (Or.inr ⟨by kernel_rfl, rfl⟩) (HSS.out _ HB0.out) ?_
          refine wpAnyH_take (i := 17) (v := undef) rfl (by kernel_rfl) (by kernel_rfl) (by kernel_rfl) (fun _ _ _ h => h) (Or.inr ⟨by kernel_rfl, rfl⟩) (HSS.out _ HB0.out) ?_
          refine wpAnyH_take (i := 18) (v := undef) rfl (by kernel_rfl) (by kernel_rfl) (by kernel_rfl) (fun _ _ _ h => h) (Or.inr ⟨by kernel_rfl, rfl⟩) (HSS.out _ HB0.out) ?_
          refine wpAnyH_take (i := 19) (v := (.bool true)) rfl (by kernel_rfl) (by kernel_rfl) (by kernel_rfl) (fun _ _ _ h => h) (Or.inl ⟨by kernel_rfl, fun V hV => ?_⟩) (HSS.out _ HB0.out) ?_
          · obtain ⟨g0, g1, g2⟩ := hV
            go_simp
          refine wpAnyH_take (i := 20) (v := (.bool true)) rfl (by kernel_rfl) (by kernel_rfl) (by kernel_rfl) (fun _ _ _ h => h) (Or.inl ⟨by kernel_rfl, fun V hV => ?_⟩) (HSS.out _ HB0.out) ?_
          · obtain ⟨g0, g1, g2⟩ := hV
            go_simp
          refine wpAnyH_take (i := 21) (v := undef) rfl (by kernel_rfl) (by kernel_rfl) (by kernel_rfl) (fun _ _ _ h => h) (Or.inr ⟨by kernel_rfl, rfl⟩) (HSS.out _ HB0.out) ?_
          refine wpAnyH_take (i := 22) (v := undef) rfl (by kernel_rfl) (by kernel_rfl) (by kernel_rfl) (fun _ _ _ h => h) (Or.inr ⟨by kernel_rfl, rfl⟩) (HSS.out _ HB0.out) ?_
          refine wpAnyH_take (i := 23) (v := undef) rfl (by kernel_rfl) (by kernel_rfl) (by kernel_rfl) (fun _ _ _ h => h) (Or.inr ⟨by kernel_rfl, rfl⟩) (HSS.out _ HB0.out) ?_
          refine wpAnyH_take (i := 24) (v := undef) rfl (by kernel_rfl) (by kernel_rfl) (by kernel_rfl) (fun _ _ _ h => h) (Or.inr ⟨by kernel_rfl, rfl⟩) (HSS.out _ HB0.out) ?_
          refine wpAnyH_take (i := 25) (v := undef) rfl (by kernel_rfl) (by kernel_rfl) (by kernel_rfl) (fun _ _ _ h => h) (Or.inr ⟨by kernel_rfl, rfl⟩) (HSS.out _ HB0.out) ?_
          refine wpAnyH_take (i := 26) (v := undef) rfl (by kernel_rfl) (by kernel_rfl) (by kernel_rfl) (fun _ _ _ h => h) (Or.inr ⟨by kernel_rfl, rfl⟩) (HSS.out _ HB0.out) ?_
          refine wpAnyH_take (i := 27) (v := undef) rfl (by kernel_rfl) (by kernel_rfl) (by kernel_rfl) (fun _ _ _ h => h) (Or.inr ⟨by kernel_rfl, rfl⟩) (HSS.out _ HB0.out) ?_
          refine wpAnyH_take (i := 28) (v := undef) rfl (by kernel_rfl) (by kernel_rfl) (by kernel_rfl) (fun _ _ _ h => h) (Or.inr ⟨by kernel_rfl, rfl⟩) (HSS.out _ HB0.out) ?_
          refine wpAnyH_take (i := 29) (v := undef) rfl (by kernel_rfl) (by kernel_rfl) (by kernel_rfl) (fun _ _ _ h => h) (Or.inr ⟨by kernel_rfl, rfl⟩) (HSS.out _ HB0.out) ?_
          refine wpAnyH_take (i := 30) (v := undef) rfl (by kernel_rfl) (by kernel_rfl) (by kernel_rfl) (fun _ _ _ h => h) (Or.inr ⟨by kernel_rfl, rfl⟩) (HSS.out _ HB0.out) ?_
          refine wpAnyH_take (i := 31) (v := undef) rfl (by kernel_rfl) (by kernel_rfl) (by kernel_rfl) (fun _ _ _ h => h) (Or.inr ⟨by kernel_rfl, rfl⟩) (HSS.out _ HB0.out) ?_
          refine wpAnyH_take (i := 32) (v := undef) rfl (by kernel_rfl) (by kernel_rfl) (by kernel_rfl) (fun _ _ _ h => h) (Or.inr ⟨by kernel_rfl, rfl⟩) (HSS.out _ HB0.out) ?_
          refine wpAnyH_take (i := 33) (v := undef) rfl (by kernel_rfl) (by kernel_rfl) (by kernel_rfl) (fun _ _ _ h => h) (Or.inr ⟨by kernel_rfl, rfl⟩) (HSS.out _ HB0.out) ?_
          refine wpAnyH_take (i := 34) (v := undef) rfl (by kernel_rfl) (by kernel_rfl) (by kernel_rfl) (fun _ _ _ h => h) (Or.inr ⟨by kernel_rfl, rfl⟩) (HSS.out _ HB0.out) ?_
          refine wpAnyH_take (i := 35) (v := (.bool true)) rfl (by kernel_rfl) (by kernel_rfl) (by kernel_rfl) (fun _ _ _ h => h) (Or.inl ⟨by kernel_rfl, fun V hV => ?_⟩) (HSS.out _ HB0.out) ?_
          · obtain ⟨g0, g1, g2⟩ := hV
            go_simp
          refine wpAnyH_take (i := 36) (v := (.bool true)) rfl (by kernel_rfl) (by kernel_rfl) (by kernel_rfl) (fun _ _ _ h => h) (Or.inl ⟨by kernel_rfl, fun V hV => ?_⟩) (HSS.out _ HB0.out) ?_
          · obtain ⟨g0, g1, g2⟩ := hV
            go_simp
          refine wpAnyH_take (i := 37) (v := undef) rfl (by kernel_rfl) (by kernel_rfl) (by kernel_rfl) (fun _ _ _ h => h) (Or.inr ⟨by kernel_rfl, rfl⟩) (HSS.out _ HB0.out) ?_
          refine wpAnyH_take (i := 38) (v := undef) rfl (by kernel_rfl) (by kernel_rfl) (by kernel_rfl) (fun _ _ _ h => h) (Or.inr ⟨by kernel_rfl, rfl⟩) (HSS.out _ HB0.out) ?_
          refine wpAnyH_take (i := 39) (v := undef) rfl (by kernel_rfl) (by kernel_rfl) (by kernel_rfl) (fun _ _ _ h => h) (Or.inr ⟨by kernel_rfl, rfl⟩) (HSS.out _ HB0.out) ?_
          refine wpAnyH_take (i := 40) (v := undef) rfl (by kernel_rfl) (by kernel_rfl) (by kernel_rfl) (fun _ _ _ h => h) (Or.inr ⟨by kernel_rfl, rfl⟩) (HSS.out _ HB0.out) ?_
          refine wpAnyH_take (i := 41) (v := (.bool true)) rfl (by kernel_rfl) (by kernel_rfl) (by kernel_rfl) (fun _ _ _ h => h) (Or.inl ⟨by kernel_rfl, fun V hV => ?_⟩) (HSS.out _ HB0.out) ?_
          · obtain ⟨g0, g1, g2⟩ := hV
            go_simp
          go_simp
          refine wpAnyH_done (by kernel_rfl) ?_ _
          go_wp2_with fail
          go_roundw
          case rel => exact (⟨i + 1, os, hlt, by omega, by omega, by go_num, ⟨sq, rfl, hsq⟩, ⟨tm, rfl⟩, HR1, hF, HB1⟩)
          case measure => simp [intOf]; omega
        by_cases h2 : x.f0 > 1073741824
        · have HS : ∀ V, Below wa.heap.size wa V → (V.cell? ⟨gb, 0, none⟩ = some (.int .i64 x.f0) ∧ V.cell? ⟨gb, 1, none⟩ = some (.int .i64 x.f1) ∧ V.cell? ⟨gb, 2, none⟩ = some (.slice A2 x.f2.length c2)) := fun V hV => ⟨(blk_cell (blk_below HBX.out hV) 0).trans rfl, (blk_cell (blk_below HBX.out hV) 1).trans rfl, (blk_cell (blk_below HBX.out hV) 2).trans rfl⟩
          refine wp_region_held (S := fun V => V.cell? ⟨gb, 0, none⟩ = some (.int .i64 x.f0) ∧ V.cell? ⟨gb, 1, none⟩ = some (.int .i64 x.f1) ∧ V.cell? ⟨gb, 2, none⟩ = some (.slice A2 x.f2.length c2)) (by kernel_rfl) ?_
          obtain ⟨V0, hV0⟩ : ∃ V0 : World, V0 = { wa with drawn := wa.drawn + 1 } := ⟨_, rfl⟩
          have hB0 : Below wa.heap.size wa V0 := by rw [hV0]; exact ⟨rfl, rfl, rfl, Nat.le_refl _, fun _ _ => rfl⟩
          rw [← hV0]
          have HSS := Aside0.mk HS
          have HB0 := Aside0.mk hB0
          have HB1 := Aside0.mk (below_then HBa.out HBa.out.size hB0)
          have HR1 := Aside0.mk (HRa.out.below hB0)
          clear hV0 HS hB0
          refine wpAnyH_take (i := 0) (v := (.pointer (some ⟨gb, 0, none⟩))) rfl (by kernel_rfl) (by kernel_rfl) (by kernel_rfl) (fun _ _ _ h => h) (Or.inl ⟨by kernel_rfl, fun V hV => ?_⟩) (HSS.out _ HB0.out) ?_
          · obtain ⟨g0, g1, g2⟩ := hV
            go_simp
          refine wpAnyH_take (i := 1) (v := (.int .i64 x.f0)) rfl (by kernel_rfl) (by kernel_rfl) (by kernel_rfl) (fun _ _ _ h => h) (Or.inl ⟨by kernel_rfl, fun V hV => ?_⟩) (HSS.out _ HB0.out) ?_
          · obtain ⟨g0, g1, g2⟩ := hV
            go_simp
          refine wpAnyH_take (i := 2) (v := (.int .i64 sq)) rfl (by kernel_rfl) (by kernel_rfl) (by kernel_rfl) (fun _ _ _ h => h) (Or.inl ⟨by kernel_rfl, fun V hV => ?_⟩) (HSS.out _ HB0.out) ?_
          · obtain ⟨g0, g1, g2⟩ := hV
            go_simp
          refine wpAnyH_take (i := 3) (v := (.bool false)) rfl (by kernel_rfl) (by kernel_rfl) (by kernel_rfl) (fun _ _ _ h => h) (Or.inl ⟨by kernel_rfl, fun V hV => ?_⟩) (HSS.out _ HB0.out) ?_
          · obtain ⟨g0, g1, g2⟩ := hV
            go_simp
            all_goals first | done | omega | simp [h1] | exact List.eq_nil_of_length_eq_zero (by omega) | exact fun h8 => absurd (show List.length o0.f2 = 0 by rw [h8]; rfl) (by omega)
          refine wpAnyH_take (i := 4) (v := (.bool false)) rfl (by kernel_rfl) (by kernel_rfl) (by kernel_rfl) (fun _ _ _ h => h) (Or.inl ⟨by kernel_rfl, fun V hV => ?_⟩) (HSS.out _ HB0.out) ?_
          · obtain ⟨g0, g1, g2⟩ := hV
            go_simp
          refine wpAnyH_take (i := 5) (v := (.pointer (some ⟨gb, 0, none⟩))) rfl (by kernel_rfl) (by kernel_rfl) (by kernel_rfl) (fun _ _ _ h => h) (Or.inl ⟨by kernel_rfl, fun V hV => ?_⟩) (HSS.out _ HB0.out) ?_
          · obtain ⟨g0, g1, g2⟩ := hV
            go_simp
          refine wpAnyH_take (i := 6) (v := (.int .i64 x.f0)) rfl (by kernel_rfl) (by kernel_rfl) (by kernel_rfl) (fun _ _ _ h => h) (Or.inl ⟨by kernel_rfl, fun V hV => ?_⟩) (HSS.out _ HB0.out) ?_
          · obtain ⟨g0, g1, g2⟩ := hV
            go_simp
          refine wpAnyH_take (i := 7) (v := (.bool true)) rfl (by kernel_rfl) (by kernel_rfl) (by kernel_rfl) (fun _ _ _ h => h) (Or.inl ⟨by kernel_rfl, fun V hV => ?_⟩) (HSS.out _ HB0.out) ?_
          · obtain ⟨g0, g1, g2⟩ := hV
            go_simp
            all_goals first | done | omega | simp [h2] | exact List.eq_nil_of_length_eq_zero (by omega) | exact fun h8 => absurd (show List.length o0.f2 = 0 by rw [h8]; rfl) (by omega)
          refine wpAnyH_take (i := 8) (v := (.bool true)) rfl (by kernel_rfl) (by kernel_rfl) (by kernel_rfl) (fun _ _ _ h => h) (Or.inl ⟨by kernel_rfl, fun V hV => ?_⟩) (HSS.out _ HB0.out) ?_
          · obtain ⟨g0, g1, g2⟩ := hV
            go_simp
          refine wpAnyH_take (i := 9) (v := (.bool true)) rfl (by kernel_rfl) (by kernel_rfl) (by kernel_rfl) (fun _ _ _ h => h) (Or.inl ⟨by kernel_rfl, fun V hV => ?_⟩) (HSS.out _ HB0.out) ?_
          · obtain ⟨g0, g1, g2⟩ := hV
            go_simp
          refine wpAnyH_take (i := 10) (v := undef) rfl (by kernel_rfl) (by kernel_rfl) (by kernel_rfl) (fun _ _ _ h => h) (Or.inr ⟨by kernel_rfl, rfl⟩) (HSS.out _ HB0.out) ?_
          refine wpAnyH_take (i := 11) (v := undef) rfl (by kernel_rfl) (by kernel_rfl) (by kernel_rfl) (fun _ _ _ h => h) (Or.inr ⟨by kernel_rfl, rfl⟩) (HSS.out _ HB0.out) ?_
          refine wpAnyH_take (i := 12) (v := undef) rfl (by kernel_rfl) (by kernel_rfl) (by kernel_rfl) (fun _ _ _ h => h) (Or.inr ⟨by kernel_rfl, rfl⟩) (HSS.out _ HB0.out) ?_
          refine wpAnyH_take (i := 13) (v := undef) rfl (by kernel_rfl) (by kernel_rfl) (by kernel_rfl) (fun _ _ _ h => h) (Or.inr ⟨by kernel_rfl, rfl⟩) (HSS.out _ HB0.out) ?_
          refine wpAnyH_take (i := 14) (v := (.bool true)) rfl (by kernel_rfl) (by kernel_rfl) (by kernel_rfl) (fun _ _ _ h => h) (Or.inl ⟨by kernel_rfl, fun V hV => ?_⟩) (HSS.out _ HB0.out) ?_
          · obtain ⟨g0, g1, g2⟩ := hV
            go_simp
          refine wpAnyH_take (i := 15) (v := (.bool true)) rfl (by kernel_rfl) (by kernel_rfl) (by kernel_rfl) (fun _ _ _ h => h) (Or.inl ⟨by kernel_rfl, fun V hV => ?_⟩) (HSS.out _ HB0.out) ?_
          · obtain ⟨g0, g1, g2⟩ := hV
            go_simp
          refine wpAnyH_take (i := 16) (v := undef) rfl (by kernel_rfl) (by kernel_rfl) (by kernel_rfl) (fun _ _ _ h => h) (Or.inr ⟨by kernel_rfl, rfl⟩) (HSS.out _ HB0.out) ?_
          refine wpAnyH_take (i := 17) (v := undef) rfl (by kernel_rfl) (by kernel_rfl) (by kernel_rfl) (fun _ _ _ h => h) (Or.inr ⟨by kernel_rfl, rfl⟩) (HSS.out _ HB0.out) ?_
          refine wpAnyH_take (i := 18) (v := undef) rfl (by kernel_rfl) (by kernel_rfl) (by kernel_rfl) (fun _ _ _ h => h) (Or.inr ⟨by kernel_rfl, rfl⟩) (HSS.out _ HB0.out) ?_
          refine wpAnyH_take (i := 19) (v := (.bool true)) rfl (by kernel_rfl) (by kernel_rfl) (by kernel_rfl) (fun _ _ _ h => h) (Or.inl ⟨by kernel_rfl, fun V hV => ?_⟩) (HSS.out _ HB0.out) ?_
          · obtain ⟨g0, g1, g2⟩ := hV
            go_simp
          refine wpAnyH_take (i := 20) (v := (.bool true)) rfl (by kernel_rfl) (by kernel_rfl) (by kernel_rfl) (fun _ _ _ h => h) (Or.inl ⟨by kernel_rfl, fun V hV => ?_⟩) (HSS.out _ HB0.out) ?_
          · obtain ⟨g0, g1, g2⟩ := hV
            go_simp
          refine wpAnyH_take (i := 21) (v := undef) rfl (by kernel_rfl) (by kernel_rfl) (by kernel_rfl) (fun _ _ _ h => h) (Or.inr ⟨by kernel_rfl, rfl⟩) (HSS.out _ HB0.out) ?_
          refine wpAnyH_take (i := 22) (v := undef) rfl (by kernel_rfl) (by kernel_rfl) (by kernel_rfl) (fun _ _ _ h => h) (Or.inr ⟨by kernel_rfl, rfl⟩) (HSS.out _ HB0.out) ?_
          refine wpAnyH_take (i := 23) (v := undef) rfl (by kernel_rfl) (by kernel_rfl) (by kernel_rfl) (fun _ _ _ h => h) (Or.inr ⟨by kernel_rfl, rfl⟩) (HSS.out _ HB0.out) ?_
          refine wpAnyH_take (i := 24) (v := undef) rfl (by kernel_rfl) (by kernel_rfl) (by kernel_rfl) (fun _ _ _ h => h) (Or.inr ⟨by kernel_rfl, rfl⟩) (HSS.out _ HB0.out) ?_
          refine wpAnyH_take (i := 25) (v := undef) rfl (by kernel_rfl) (by kernel_rfl) (by kernel_rfl) (fun _ _ _ h => h) (Or.inr ⟨by kernel_rfl, rfl⟩) (HSS.out _ HB0.out) ?_
          refine wpAnyH_take (i := 26) (v := undef) rfl (by kernel_rfl) (by kernel_rfl) (by kernel_rfl) (fun _ _ _ h => h) (Or.inr ⟨by kernel_rfl, rfl⟩) (HSS.out _ HB0.out) ?_
          refine wpAnyH_take (i := 27) (v := undef) rfl (by kernel_rfl) (by kernel_rfl) (by kernel_rfl) (fun _ _ _ h => h) (Or.inr ⟨by kernel_rfl, rfl⟩) (HSS.out _ HB0.out) ?_
          refine wpAnyH_take (i := 28) (v := undef) rfl (by kernel_rfl) (by kernel_rfl) (by kernel_rfl) (fun _ _ _ h => h) (Or.inr ⟨by kernel_rfl, rfl⟩) (HSS.out _ HB0.out) ?_
          refine wpAnyH_take (i := 29) (v := undef) rfl (by kernel_rfl) (by kernel_rfl) (by kernel_rfl) (fun _ _ _ h => h) (Or.inr ⟨by kernel_rfl, rfl⟩) (HSS.out _ HB0.out) ?_
          refine wpAnyH_take (i := 30) (v := undef) rfl (by kernel_rfl) (by kernel_rfl) (by kernel_rfl) (fun _ _ _ h => h) (Or.inr ⟨by kernel_rfl, rfl⟩) (HSS.out _ HB0.out) ?_
          refine wpAnyH_take (i := 31) (v := undef) rfl (by kernel_rfl) (by kernel_rfl) (by kernel_rfl) (fun _ _ _ h => h) (Or.inr ⟨by kernel_rfl, rfl⟩) (HSS.out _ HB0.out) ?_
          refine wpAnyH_take (i := 32) (v := undef) rfl (by kernel_rfl) (by kernel_rfl) (by kernel_rfl) (fun _ _ _ h => h) (Or.inr ⟨by kernel_rfl, rfl⟩) (HSS.out _ HB0.out) ?_
          refine wpAnyH_take (i := 33) (v := undef) rfl (by kernel_rfl) (by kernel_rfl) (by kernel_rfl) (fun _ _ _ h => h) (Or.inr ⟨by kernel_rfl, rfl⟩) (HSS.out _ HB0.out) ?_
          refine wpAnyH_take (i := 34) (v := undef) rfl (by kernel_rfl) (by kernel_rfl) (by kernel_rfl) (fun _ _ _ h => h) (Or.inr ⟨by kernel_rfl, rfl⟩) (HSS.out _ HB0.out) ?_
          refine wpAnyH_take (i := 35) (v := (.bool true)) rfl (by kernel_rfl) (by kernel_rfl) (by kernel_rfl) (fun _ _ _ h => h) (Or.inl ⟨by kernel_rfl, fun V hV => ?_⟩) (HSS.out _ HB0.out) ?_
          · obtain ⟨g0, g1, g2⟩ := hV
            go_simp
          refine wpAnyH_take (i := 36) (v := (.bool true)) rfl (by kernel_rfl) (by kernel_rfl) (by kernel_rfl) (fun _ _ _ h => h) (Or.inl ⟨by kernel_rfl, fun V hV => ?_⟩) (HSS.out _ HB0.out) ?_
          · obtain ⟨g0, g1, g2⟩ := hV
            go_simp
          refine wpAnyH_take (i := 37) (v := undef) rfl (by kernel_rfl) (by kernel_rfl) (by kernel_rfl) (fun _ _ _ h => h) (Or.inr ⟨by kernel_rfl, rfl⟩) (HSS.out _ HB0.out) ?_
          refine wpAnyH_take (i := 38) (v := undef) rfl (by kernel_rfl) (by kernel_rfl) (by kernel_rfl) (fun _ _ _ h => h) (Or.inr ⟨by kernel_rfl, rfl⟩) (HSS.out _ HB0.out) ?_
          refine wpAnyH_take (i := 39) (v := undef) rfl (by kernel_rfl) (by kernel_rfl) (by kernel_rfl) (fun _ _ _ h => h) (Or.inr ⟨by kernel_rfl, rfl⟩) (HSS.out _ HB0.out) ?_
          refine wpAnyH_take (i := 40) (v := undef) rfl (by kernel_rfl) (by kernel_rfl) (by kernel_rfl) (fun _ _ _ h => h) (Or.inr ⟨by kernel_rfl, rfl⟩) (HSS.out _ HB0.out) ?_
          refine wpAnyH_take (i := 41) (v := (.bool true)) rfl (by kernel_rfl) (by kernel_rfl) (by kernel_rfl) (fun _ _ _ h => h) (Or.inl ⟨by kernel_rfl, fun V hV => ?_⟩) (HSS.out _ HB0.out) ?_
          · obtain ⟨g0, g1, g2⟩ := hV
            go_simp
          go_simp
          refine wpAnyH_done (by kernel_rfl) ?_ _
          go_wp2_with fail
          go_roundw
          case rel => exact (⟨i + 1, os, hlt, by omega, by omega, by go_num, ⟨sq, rfl, hsq⟩, ⟨tm, rfl⟩, HR1, hF, HB1⟩)
          case measure => simp [intOf]; omega
        by_cases h3 : x.f1 < tm
        · have HS : ∀ V, Below wa.heap.size wa V → (V.cell? ⟨gb, 0, none⟩ = some (.int .i64 x.f0) ∧ V.cell? ⟨gb, 1, none⟩ = some (.int .i64 x.f1) ∧ V.cell? ⟨gb, 2, none⟩ = some (.slice A2 x.f2.length c2)) := fun V hV => ⟨(blk_cell (blk_below HBX.out hV) 0).trans rfl, (blk_cell (blk_below HBX.out hV) 1).trans rfl, (blk_cell (blk_below HBX.out hV) 2).trans rfl⟩
          refine wp_region_held (S := fun V => V.cell? ⟨gb, 0, none⟩ = some (.int .i64 x.f0) ∧ V.cell? ⟨gb, 1, none⟩ = some (.int .i64 x.f1) ∧ V.cell? ⟨gb, 2, none⟩ = some (.slice A2 x.f2.length c2)) (by kernel_rfl) ?_
          obtain ⟨V0, hV0⟩ : ∃ V0 : World, V0 = { wa with drawn := wa.drawn + 1 } := ⟨_, rfl⟩
          have hB0 : Below wa.heap.size wa V0 := by rw [hV0]; exact ⟨rfl, rfl, rfl, Nat.le_refl _, fun _ _ => rfl⟩
          rw [← hV0]
          have HSS := Aside0.mk HS
          have HB0 := Aside0.mk hB0
          have HB1 := Aside0.mk (below_then HBa.out HBa.out.size hB0)
          have HR1 := Aside0.mk (HRa.out.below hB0)
          clear hV0 HS hB0
          refine wpAnyH_take (i := 0) (v := (.pointer (some ⟨gb, 0, none⟩))) rfl (by kernel_rfl) (by kernel_rfl) (by kernel_rfl) (fun _ _ _ h => h) (Or.inl ⟨by kernel_rfl, fun V hV => ?_⟩) (HSS.out _ HB0.out) ?_
          · obtain ⟨g0, g1, g2⟩ := hV
            go_simp
          refine wpAnyH_take (i := 1) (v := (.int .i64 x.f0)) rfl (by kernel_rfl) (by kernel_rfl) (by kernel_rfl) (fun _ _ _ h => h) (Or.inl ⟨by kernel_rfl, fun V hV => ?_⟩) (HSS.out _ HB0.out) ?_
          · obtain ⟨g0, g1, g2⟩ := hV
            go_simp
          refine wpAnyH_take (i := 2) (v := (.int .i64 sq)) rfl (by kernel_rfl) (by kernel_rfl) (by kernel_rfl) (fun _ _ _ h => h) (Or.inl ⟨by kernel_rfl, fun V hV => ?_⟩) (HSS.out _ HB0.out) ?_
          · obtain ⟨g0, g1, g2⟩ := hV
            go_simp
          refine wpAnyH_take (i := 3) (v := (.bool false)) rfl (by kernel_rfl) (by kernel_rfl) (by kernel_rfl) (fun _ _ _ h => h) (Or.inl ⟨by kernel_rfl, fun V hV => ?_⟩) (HSS.out _ HB0.out) ?_
          · obtain ⟨g0, g1, g2⟩ := hV
            go_simp
            all_goals first | done | omega | simp [h1] | exact List.eq_nil_of_length_eq_zero (by omega) | exact fun h8 => absurd (show List.length o0.f2 = 0 by rw [h8]; rfl) (by omega)
          refine wpAnyH_take (i := 4) (v := (.bool false)) rfl (by kernel_rfl) (by kernel_rfl) (by kernel_rfl) (fun _ _ _ h => h) (Or.inl ⟨by kernel_rfl, fun V hV => ?_⟩) (HSS.out _ HB0.out) ?_
          · obtain ⟨g0, g1, g2⟩ := hV
            go_simp
          refine wpAnyH_take (i := 5) (v := (.pointer (some ⟨gb, 0, none⟩))) rfl (by kernel_rfl) (by kernel_rfl) (by kernel_rfl) (fun _ _ _ h => h) (Or.inl ⟨by kernel_rfl, fun V hV => ?_⟩) (HSS.out _ HB0.out) ?_
          · obtain ⟨g0, g1, g2⟩ := hV
            go_simp
          refine wpAnyH_take (i := 6) (v := (.int .i64 x.f0)) rfl (by kernel_rfl) (by kernel_rfl) (by kernel_rfl) (fun _ _ _ h => h) (Or.inl ⟨by kernel_rfl, fun V hV => ?_⟩) (HSS.out _ HB0.out) ?_
          · obtain ⟨g0, g1, g2⟩ := hV
            go_simp
          refine wpAnyH_take (i := 7) (v := (.bool false)) rfl (by kernel_rfl) (by kernel_rfl) (by kernel_rfl) (fun _ _ _ h => h) (Or.inl ⟨by kernel_rfl, fun V hV => ?_⟩) (HSS.out _ HB0.out) ?_
          · obtain ⟨g0, g1, g2⟩ := hV
            go_simp
            all_goals first | done | omega | simp [h2] | exact List.eq_nil_of_length_eq_zero (by omega) | exact fun h8 => absurd (show List.length o0.f2 = 0 by rw [h8]; rfl) (by omega)
          refine wpAnyH_take (i := 8) (v := (.bool false)) rfl (by kernel_rfl) (by kernel_rfl) (by kernel_rfl) (fun _ _ _ h => h) (Or.inl ⟨by kernel_rfl, fun V hV => ?_⟩) (HSS.out _ HB0.out) ?_
          · obtain ⟨g0, g1, g2⟩ := hV
            go_simp
          refine wpAnyH_take (i := 9) (v := (.bool false)) rfl (by kernel_rfl) (by kernel_rfl) (by kernel_rfl) (fun _ _ _ h => h) (Or.inl ⟨by kernel_rfl, fun V hV => ?_⟩) (HSS.out _ HB0.out) ?_
          · obtain ⟨g0, g1, g2⟩ := hV
            go_simp
          refine wpAnyH_take (i := 10) (v := (.pointer (some ⟨gb, 1, none⟩))) rfl (by kernel_rfl) (by kernel_rfl) (by kernel_rfl) (fun _ _ _ h => h) (Or.inl ⟨by kernel_rfl, fun V hV => ?_⟩) (HSS.out _ HB0.out) ?_
          · obtain ⟨g0, g1, g2⟩ := hV
            go_simp
          refine wpAnyH_take (i := 11) (v := (.int .i64 x.f1)) rfl (by kernel_rfl) (by kernel_rfl) (by kernel_rfl) (fun _ _ _ h => h) (Or.inl ⟨by kernel_rfl, fun V hV => ?_⟩) (HSS.out _ HB0.out) ?_
          · obtain ⟨g0, g1, g2⟩ := hV
            go_simp
          refine wpAnyH_take (i := 12) (v := (.int .i64 tm)) rfl (by kernel_rfl) (by kernel_rfl) (by kernel_rfl) (fun _ _ _ h => h) (Or.inl ⟨by kernel_rfl, fun V hV => ?_⟩) (HSS.out _ HB0.out) ?_
          · obtain ⟨g0, g1, g2⟩ := hV
            go_simp
          refine wpAnyH_take (i := 13) (v := (.bool true)) rfl (by kernel_rfl) (by kernel_rfl) (by kernel_rfl) (fun _ _ _ h => h) (Or.inl ⟨by kernel_rfl, fun V hV => ?_⟩) (HSS.out _ HB0.out) ?_
          · obtain ⟨g0, g1, g2⟩ := hV
            go_simp
            all_goals first | done | omega | simp [h3] | exact List.eq_nil_of_length_eq_zero (by omega) | exact fun h8 => absurd (show List.length o0.f2 = 0 by rw [h8]; rfl) (by omega)
          refine wpAnyH_take (i := 14) (v := (.bool true)) rfl (by kernel_rfl) (by kernel_rfl) (by kernel_rfl) (fun _ _ _ h => h) (Or.inl ⟨by kernel_rfl, fun V hV => ?_⟩) (HSS.out _ HB0.out) ?_
          · obtain ⟨g0, g1, g2⟩ := hV
            go_simp
          refine wpAnyH_take (i := 15) (v := (.bool true)) rfl (by kernel_rfl) (by kernel_rfl) (by kernel_rfl) (fun _ _ _ h => h) (Or.inl ⟨by kernel_rfl, fun V hV => ?_⟩) (HSS.out _ HB0.out) ?_
          · obtain ⟨g0, g1, g2⟩ := hV
            go_simp
          refine wpAnyH_take (i := 16) (v := undef) rfl (by kernel_rfl) (by kernel_rfl) (by kernel_rfl) (fun _ _ _ h => h) (Or.inr ⟨by kernel_rfl, rfl⟩) (HSS.out _ HB0.out) ?_
          refine wpAnyH_take (i := 17) (v := undef) rfl (by kernel_rfl) (by kernel_rfl) (by kernel_rfl) (fun _ _ _ h => h) (Or.inr ⟨by kernel_rfl, rfl⟩) (HSS.out _ HB0.out) ?_
          refine wpAnyH_take (i := 18) (v := undef) rfl (by kernel_rfl) (by kernel_rfl) (by kernel_rfl) (fun _ _ _ h => h) (Or.inr ⟨by kernel_rfl, rfl⟩) (HSS.out _ HB0.out) ?_
          refine wpAnyH_take (i := 19) (v := (.bool true)) rfl (by kernel_rfl) (by kernel_rfl) (by kernel_rfl) (fun _ _ _ h => h) (Or.inl ⟨by kernel_rfl, fun V hV => ?_⟩) (HSS.out _ HB0.out) ?_
          · obtain ⟨g0, g1, g2⟩ := hV
            go_simp
          refine wpAnyH_take (i := 20) (v := (.bool true)) rfl (by kernel_rfl) (by kernel_rfl) (by kernel_rfl) (fun _ _ _ h => h) (Or.inl ⟨by kernel_rfl, fun V hV => ?_⟩) (HSS.out _ HB0.out) ?_
          · obtain ⟨g0, g1, g2⟩ := hV
            go_simp
          refine wpAnyH_take (i := 21) (v := undef) rfl (by kernel_rfl) (by kernel_rfl) (by kernel_rfl) (fun _ _ _ h => h) (Or.inr ⟨by kernel_rfl, rfl⟩) (HSS.out _ HB0.out) ?_
          refine wpAnyH_take (i := 22) (v := undef) rfl (by kernel_rfl) (by kernel_rfl) (by kernel_rfl) (fun _ _ _ h => h) (Or.inr ⟨by kernel_rfl, rfl⟩) (HSS.out _ HB0.out) ?_
          refine wpAnyH_take (i := 23) (v := undef) rfl (by kernel_rfl) (by kernel_rfl) (by kernel_rfl) (fun _ _ _ h => h) (Or.inr ⟨by kernel_rfl, rfl⟩) (HSS.out _ HB0.out) ?_
          refine wpAnyH_take (i := 24) (v := undef) rfl (by kernel_rfl) (by kernel_rfl) (by kernel_rfl) (fun _ _ _ h => h) (Or.inr ⟨by kernel_rfl, rfl⟩) (HSS.out _ HB0.out) ?_
          refine wpAnyH_take (i := 25) (v := undef) rfl (by kernel_rfl) (by kernel_rfl) (by kernel_rfl) (fun _ _ _ h => h) (Or.inr ⟨by kernel_rfl, rfl⟩) (HSS.out _ HB0.out) ?_
          refine wpAnyH_take (i := 26) (v := undef) rfl (by kernel_rfl) (by kernel_rfl) (by kernel_rfl) (fun _ _ _ h => h) (Or.inr ⟨by kernel_rfl, rfl⟩) (HSS.out _ HB0.out) ?_
          refine wpAnyH_take (i := 27) (v := undef) rfl (by kernel_rfl) (by kernel_rfl) (by kernel_rfl) (fun _ _ _ h => h) (Or.inr ⟨by kernel_rfl, rfl⟩) (HSS.out _ HB0.out) ?_
          refine wpAnyH_take (i := 28) (v := undef) rfl (by kernel_rfl) (by kernel_rfl) (by kernel_rfl) (fun _ _ _ h => h) (Or.inr ⟨by kernel_rfl, rfl⟩) (HSS.out _ HB0.out) ?_
          refine wpAnyH_take (i := 29) (v := undef) rfl (by kernel_rfl) (by kernel_rfl) (by kernel_rfl) (fun _ _ _ h => h) (Or.inr ⟨by kernel_rfl, rfl⟩) (HSS.out _ HB0.out) ?_
          refine wpAnyH_take (i := 30) (v := undef) rfl (by kernel_rfl) (by kernel_rfl) (by kernel_rfl) (fun _ _ _ h => h) (Or.inr ⟨by kernel_rfl, rfl⟩) (HSS.out _ HB0.out) ?_
          refine wpAnyH_take (i := 31) (v := undef) rfl (by kernel_rfl) (by kernel_rfl) (by kernel_rfl) (fun _ _ _ h => h) (Or.inr ⟨by kernel_rfl, rfl⟩) (HSS.out _ HB0.out) ?_
          refine wpAnyH_take (i := 32) (v := undef) rfl (by kernel_rfl) (by kernel_rfl) (by kernel_rfl) (fun _ _ _ h => h) (Or.inr ⟨by kernel_rfl, rfl⟩) (HSS.out _ HB0.out) ?_
          refine wpAnyH_take (i := 33) (v := undef) rfl (by kernel_rfl) (by kernel_rfl) (by kernel_rfl) (fun _ _ _ h => h) (Or.inr ⟨by kernel_rfl, rfl⟩) (HSS.out _ HB0.out) ?_
          refine wpAnyH_take (i := 34) (v := undef) rfl (by kernel_rfl) (by kernel_rfl) (by kernel_rfl) (fun _ _ _ h => h) (Or.inr ⟨by kernel_rfl, rfl⟩) (HSS.out _ HB0.out) ?_
          refine wpAnyH_take (i := 35) (v := (.bool true)) rfl (by kernel_rfl) (by kernel_rfl) (by kernel_rfl) (fun _ _ _ h => h) (Or.inl ⟨by kernel_rfl, fun V hV => ?_⟩) (HSS.out _ HB0.out) ?_
          · obtain ⟨g0, g1, g2⟩ := hV
            go_simp
          refine wpAnyH_take (i := 36) (v := (.bool true)) rfl (by kernel_rfl) (by kernel_rfl) (by kernel_rfl) (fun _ _ _ h => h) (Or.inl ⟨by kernel_rfl, fun V hV => ?_⟩) (HSS.out _ HB0.out) ?_
          · obtain ⟨g0, g1, g2⟩ := hV
            go_simp
          refine wpAnyH_take (i := 37) (v := undef) rfl (by kernel_rfl) (by kernel_rfl) (by kernel_rfl) (fun _ _ _ h => h) (Or.inr ⟨by kernel_rfl, rfl⟩) (HSS.out _ HB0.out) ?_
          refine wpAnyH_take (i := 38) (v := undef) rfl (by kernel_rfl) (by kernel_rfl) (by kernel_rfl) (fun _ _ _ h => h) (Or.inr ⟨by kernel_rfl, rfl⟩) (HSS.out _ HB0.out) ?_
          refine wpAnyH_take (i := 39) (v := undef) rfl (by kernel_rfl) (by kernel_rfl) (by kernel_rfl) (fun _ _ _ h => h) (Or.inr ⟨by kernel_rfl, rfl⟩) (HSS.out _ HB0.out) ?_
          refine wpAnyH_take (i := 40) (v := undef) rfl (by kernel_rfl) (by kernel_rfl) (by kernel_rfl) (fun _ _ _ h => h) (Or.inr ⟨by kernel_rfl, rfl⟩) (HSS.out _ HB0.out) ?_
          refine wpAnyH_take (i := 41) (v := (.bool true)) rfl (by kernel_rfl) (by kernel_rfl) (by kernel_rfl) (fun _ _ _ h => h) (Or.inl ⟨by kernel_rfl, fun V hV => ?_⟩) (HSS.out _ HB0.out) ?_
          · obtain ⟨g0, g1, g2⟩ := hV
            go_simp
          go_simp
          refine wpAnyH_done (by kernel_rfl) ?_ _
          go_wp2_with fail
          go_roundw
          case rel => exact (⟨i + 1, os, hlt, by omega, by omega, by go_num, ⟨sq, rfl, hsq⟩, ⟨tm, rfl⟩, HR1, hF, HB1⟩)
          case measure => simp [intOf]; omega
        by_cases h4 : x.f1 > 1099511627776
        · have HS : ∀ V, Below wa.heap.size wa V → (V.cell? ⟨gb, 0, none⟩ = some (.int .i64 x.f0) ∧ V.cell? ⟨gb, 1, none⟩ = some (.int .i64 x.f1) ∧ V.cell? ⟨gb, 2, none⟩ = some (.slice A2 x.f2.length c2)) := fun V hV => ⟨(blk_cell (blk_below HBX.out hV) 0).trans rfl, (blk_cell (blk_below HBX.out hV) 1).trans rfl, (blk_cell (blk_below HBX.out hV) 2).trans rfl⟩
          refine wp_region_held (S := fun V => V.cell? ⟨gb, 0, none⟩ = some (.int .i64 x.f0) ∧ V.cell? ⟨gb, 1, none⟩ = some (.int .i64 x.f1) ∧ V.cell? ⟨gb, 2, none⟩ = some (.slice A2 x.f2.length c2)) (by kernel_rfl) ?_
          obtain ⟨V0, hV0⟩ : ∃ V0 : World, V0 = { wa with drawn := wa.drawn + 1 } := ⟨_, rfl⟩
          have hB0 : Below wa.heap.size wa V0 := by rw [hV0]; exact ⟨rfl, rfl, rfl, Nat.le_refl _, fun _ _ => rfl⟩
          rw [← hV0]
          have HSS := Aside0.mk HS
          have HB0 := Aside0.mk hB0
          have HB1 := Aside0.mk (below_then HBa.out HBa.out.size hB0)
          have HR1 := Aside0.mk (HRa.out.below hB0)
          clear hV0 HS hB0
          refine wpAnyH_take (i := 0) (v := (.pointer (some ⟨gb, 0, none⟩))) rfl (by kernel_rfl) (by kernel_rfl) (by kernel_rfl) (fun _ _ _ h => h) (Or.inl ⟨by kernel_rfl, fun V hV => ?_⟩) (HSS.out _ HB0.out) ?_
          · obtain ⟨g0, g1, g2⟩ := hV
            go_simp
          refine wpAnyH_take (i := 1) (v := (.int .i64 x.f0)) rfl (by kernel_rfl) (by kernel_rfl) (by kernel_rfl) (fun _ _ _ h => h) (Or.inl ⟨by kernel_rfl, fun V hV => ?_⟩) (HSS.out _ HB0.out) ?_
          · obtain ⟨g0, g1, g2⟩ := hV
            go_simp
          refine wpAnyH_take (i := 2) (v := (.int .i64 sq)) rfl (by kernel_rfl) (by kernel_rfl) (by kernel_rfl) (fun _ _ _ h => h) (Or.inl ⟨by kernel_rfl, fun V hV => ?_⟩) (HSS.out _ HB0.out) ?_
          · obtain ⟨g0, g1, g2⟩ := hV
            go_simp
          refine wpAnyH_take (i := 3) (v := (.bool false)) rfl (by kernel_rfl) (by kernel_rfl) (by kernel_rfl) (fun _ _ _ h => h) (Or.inl ⟨by kernel_rfl, fun V hV => ?_⟩) (HSS.out _ HB0.out) ?_
          · obtain ⟨g0, g1, g2⟩ := hV
            go_simp
            all_goals first | done | omega | simp [h1] | exact List.eq_nil_of_length_eq_zero (by omega) | exact fun h8 => absurd (show List.length o0.f2 = 0 by rw [h8]; rfl) (by omega)
          refine wpAnyH_take (i := 4) (v := (.bool false)) rfl (by kernel_rfl) (by kernel_rfl) (by kernel_rfl) (fun _ _ _ h => h) (Or.inl ⟨by kernel_rfl, fun V hV => ?_⟩) (HSS.out _ HB0.out) ?_
          · obtain ⟨g0, g1, g2⟩ := hV
            go_simp
          refine wpAnyH_take (i := 5) (v := (.pointer (some ⟨gb, 0, none⟩))) rfl (by kernel_rfl) (by kernel_rfl) (by kernel_rfl) (fun _ _ _ h => h) (Or.inl ⟨by kernel_rfl, fun V hV => ?_⟩) (HSS.out _ HB0.out) ?_
          · obtain ⟨g0, g1, g2⟩ := hV
            go_simp
          refine wpAnyH_take (i := 6) (v := (.int .i64 x.f0)) rfl (by kernel_rfl) (by kernel_rfl) (by kernel_rfl) (fun _ _ _ h => h) (Or.inl ⟨by kernel_rfl, fun V hV => ?_⟩) (HSS.out _ HB0.out) ?_
          · obtain ⟨g0, g1, g2⟩ := hV
            go_simp
          refine wpAnyH_take (i := 7) (v := (.bool false)) rfl (by kernel_rfl) (by kernel_rfl) (by kernel_rfl) (fun _ _ _ h => h) (Or.inl ⟨by kernel_rfl, fun V hV => ?_⟩) (HSS.out _ HB0.out) ?_
          · obtain ⟨g0, g1, g2⟩ := hV
            go_simp
            all_goals first | done | omega | simp [h2] | exact List.eq_nil_of_length_eq_zero (by omega) | exact fun h8 => absurd (show List.length o0.f2 = 0 by rw [h8]; rfl) (by omega)
          refine wpAnyH_take (i := 8) (v := (.bool false)) rfl (by kernel_rfl) (by kernel_rfl) (by kernel_rfl) (fun _ _ _ h => h) (Or.inl ⟨by kernel_rfl, fun V hV => ?_⟩) (HSS.out _ HB0.out) ?_
          · obtain ⟨g0, g1, g2⟩ := hV
            go_simp
          refine wpAnyH_take (i := 9) (v := (.bool false)) rfl (by kernel_rfl) (by kernel_rfl) (by kernel_rfl) (fun _ _ _ h => h) (Or.inl ⟨by kernel_rfl, fun V hV => ?_⟩) (HSS.out _ HB0.out) ?_
          · obtain ⟨g0, g1, g2⟩ := hV
            go_simp
          refine wpAnyH_take (i := 10) (v := (.pointer (some ⟨gb, 1, none⟩))) rfl (by kernel_rfl) (by kernel_rfl) (by kernel_rfl) (fun _ _ _ h => h) (Or.inl ⟨by kernel_rfl, fun V hV => ?_⟩) (HSS.out _ HB0.out) ?_
          · obtain ⟨g0, g1, g2⟩ := hV
            go_simp
          refine wpAnyH_take (i := 11) (v := (.int .i64 x.f1)) rfl (by kernel_rfl) (by kernel_rfl) (by kernel_rfl) (fun _ _ _ h => h) (Or.inl ⟨by kernel_rfl, fun V hV => ?_⟩) (HSS.out _ HB0.out) ?_
          · obtain ⟨g0, g1, g2⟩ := hV
            go_simp
          refine wpAnyH_take (i := 12) (v := (.int .i64 tm)) rfl (by kernel_rfl) (by kernel_rfl) (by kernel_rfl) (fun _ _ _ h => h) (Or.inl ⟨by kernel_rfl, fun V hV => ?_⟩) (HSS.out _ HB0.out) ?_
          · obtain ⟨g0, g1, g2⟩ := hV
            go_simp
          refine wpAnyH_take (i := 13) (v := (.bool false)) rfl (by kernel_rfl) (by kernel_rfl) (by kernel_rfl) (fun _ _ _ h => h) (Or.inl ⟨by kernel_rfl, fun V hV => ?_⟩) (HSS.out _ HB0.out) ?_
          · obtain ⟨g0, g1, g2⟩ := hV
            go_simp
            all_goals first | done | omega | simp [h3] | exact List.eq_nil_of_length_eq_zero (by omega) | exact fun h8 => absurd (show List.length o0.f2 = 0 by rw [h8]; rfl) (by omega)
          refine wpAnyH_take (i := 14) (v := (.bool false)) rfl (by kernel_rfl) (by kernel_rfl) (by kernel_rfl) (fun _ _ _ h => h) (Or.inl ⟨by kernel_rfl, fun V hV => ?_⟩) (HSS.out _ HB0.out) ?_
          · obtain ⟨g0, g1, g2⟩ := hV
            go_simp
          refine wpAnyH_take (i := 15) (v := (.bool false)) rfl (by kernel_rfl) (by kernel_rfl) (by kernel_rfl) (fun _ _ _ h => h) (Or.inl ⟨by kernel_rfl, fun V hV => ?_⟩) (HSS.out _ HB0.out) ?_
          · obtain ⟨g0, g1, g2⟩ := hV
            go_simp
          refine wpAnyH_take (i := 16) (v := (.pointer (some ⟨gb, 1, none⟩))) rfl (by kernel_rfl) (by kernel_rfl) (by kernel_rfl) (fun _ _ _ h => h) (Or.inl ⟨by kernel_rfl, fun V hV => ?_⟩) (HSS.out _ HB0.out) ?_
          · obtain ⟨g0, g1, g2⟩ := hV
            go_simp
          refine wpAnyH_take (i := 17) (v := (.int .i64 x.f1)) rfl (by kernel_rfl) (by kernel_rfl) (by kernel_rfl) (fun _ _ _ h => h) (Or.inl ⟨by kernel_rfl, fun V hV => ?_⟩) (HSS.out _ HB0.out) ?_
          · obtain ⟨g0, g1, g2⟩ := hV
            go_simp
          refine wpAnyH_take (i := 18) (v := (.bool true)) rfl (by kernel_rfl) (by kernel_rfl) (by kernel_rfl) (fun _ _ _ h => h) (Or.inl ⟨by kernel_rfl, fun V hV => ?_⟩) (HSS.out _ HB0.out) ?_
          · obtain ⟨g0, g1, g2⟩ := hV
            go_simp
            all_goals first | done | omega | simp [h4] | exact List.eq_nil_of_length_eq_zero (by omega) | exact fun h8 => absurd (show List.length o0.f2 = 0 by rw [h8]; rfl) (by omega)
          refine wpAnyH_take (i := 19) (v := (.bool true)) rfl (by kernel_rfl) (by kernel_rfl) (by kernel_rfl) (fun _ _ _ h => h) (Or.inl ⟨by kernel_rfl, fun V hV => ?_⟩) (HSS.out _ HB0.out) ?_
          · obtain ⟨g0, g1, g2⟩ := hV
            go_simp
          refine wpAnyH_take (i := 20) (v := (.bool true)) rfl (by kernel_rfl) (by kernel_rfl) (by kernel_rfl) (fun _ _ _ h => h) (Or.inl ⟨by kernel_rfl, fun V hV => ?_⟩) (HSS.out _ HB0.out) ?_
          · obtain ⟨g0, g1, g2⟩ := hV
            go_simp
          refine wpAnyH_take (i := 21) (v := undef) rfl (by kernel_rfl) (by kernel_rfl) (by kernel_rfl) (fun _ _ _ h => h) (Or.inr ⟨by kernel_rfl, rfl⟩) (HSS.out _ HB0.out) ?_
          refine wpAnyH_take (i := 22) (v := undef) rfl (by kernel_rfl) (by kernel_rfl) (by kernel_rfl) (fun _ _ _ h => h) (Or.inr ⟨by kernel_rfl, rfl⟩) (HSS.out _ HB0.out) ?_
          refine wpAnyH_take (i := 23) (v := undef) rfl (by kernel_rfl) (by kernel_rfl) (by kernel_rfl) (fun _ _ _ h => h) (Or.inr ⟨by kernel_rfl, rfl⟩) (HSS.out _ HB0.out) ?_
          refine wpAnyH_take (i := 24) (v := undef) rfl (by kernel_rfl) (by kernel_rfl) (by kernel_rfl) (fun _ _ _ h => h) (Or.inr ⟨by kernel_rfl, rfl⟩) (HSS.out _ HB0.out) ?_
          refine wpAnyH_take (i := 25) (v := undef) rfl (by kernel_rfl) (by kernel_rfl) (by kernel_rfl) (fun _ _ _ h => h) (Or.inr ⟨by kernel_rfl, rfl⟩) (HSS.out _ HB0.out) ?_
          refine wpAnyH_take (i := 26) (v := undef) rfl (by kernel_rfl) (by kernel_rfl) (by kernel_rfl) (fun _ _ _ h => h) (Or.inr ⟨by kernel_rfl, rfl⟩) (HSS.out _ HB0.out) ?_
          refine wpAnyH_take (i := 27) (v := undef) rfl (by kernel_rfl) (by kernel_rfl) (by kernel_rfl) (fun _ _ _ h => h) (Or.inr ⟨by kernel_rfl, rfl⟩) (HSS.out _ HB0.out) ?_
          refine wpAnyH_take (i := 28) (v := undef) rfl (by kernel_rfl) (by kernel_rfl) (by kernel_rfl) (fun _ _ _ h => h) (Or.inr ⟨by kernel_rfl, rfl⟩) (HSS.out _ HB0.out) ?_
          refine wpAnyH_take (i := 29) (v := undef) rfl (by kernel_rfl) (by kernel_rfl) (by kernel_rfl) (fun _ _ _ h => h) (Or.inr ⟨by kernel_rfl, rfl⟩) (HSS.out _ HB0.out) ?_
          refine wpAnyH_take (i := 30) (v := undef) rfl (by kernel_rfl) (by kernel_rfl) (by kernel_rfl) (fun _ _ _ h => h) (Or.inr ⟨by kernel_rfl, rfl⟩) (HSS.out _ HB0.out) ?_
          refine wpAnyH_take (i := 31) (v := undef) rfl (by kernel_rfl) (by kernel_rfl) (by kernel_rfl) (fun _ _ _ h => h) (Or.inr ⟨by kernel_rfl, rfl⟩) (HSS.out _ HB0.out) ?_
          refine wpAnyH_take (i := 32) (v := undef) rfl (by kernel_rfl) (by kernel_rfl) (by kernel_rfl) (fun _ _ _ h => h) (Or.inr ⟨by kernel_rfl, rfl⟩) (HSS.out _ HB0.out) ?_
          refine wpAnyH_take (i := 33) (v := undef) rfl (by kernel_rfl) (by kernel_rfl) (by kernel_rfl) (fun _ _ _ h => h) (Or.inr ⟨by kernel_rfl, rfl⟩) (HSS.out _ HB0.out) ?_
          refine wpAnyH_take (i := 34) (v := undef) rfl (by kernel_rfl) (by kernel_rfl) (by kernel_rfl) (fun _ _ _ h => h) (Or.inr ⟨by kernel_rfl, rfl⟩) (HSS.out _ HB0.out) ?_
          refine wpAnyH_take (i := 35) (v := (.bool true)) rfl (by kernel_rfl) (by kernel_rfl) (by kernel_rfl) (fun _ _ _ h => h) (Or.inl ⟨by kernel_rfl, fun V hV => ?_⟩) (HSS.out _ HB0.out) ?_
          · obtain ⟨g0, g1, g2⟩ := hV
            go_simp
          refine wpAnyH_take (i := 36) (v := (.bool true)) rfl (by kernel_rfl) (by kernel_rfl) (by kernel_rfl) (fun _ _ _ h => h) (Or.inl ⟨by kernel_rfl, fun V hV => ?_⟩) (HSS.out _ HB0.out) ?_
          · obtain ⟨g0, g1, g2⟩ := hV
            go_simp
          refine wpAnyH_take (i := 37) (v := undef) rfl (by kernel_rfl) (by kernel_rfl) (by kernel_rfl) (fun _ _ _ h => h) (Or.inr ⟨by kernel_rfl, rfl⟩) (HSS.out _ HB0.out) ?_
          refine wpAnyH_take (i := 38) (v := undef) rfl (by kernel_rfl) (by kernel_rfl) (by kernel_rfl) (fun _ _ _ h => h) (Or.inr ⟨by kernel_rfl, rfl⟩) (HSS.out _ HB0.out) ?_
          refine wpAnyH_take (i := 39) (v := undef) rfl (by kernel_rfl) (by kernel_rfl) (by kernel_rfl) (fun _ _ _ h => h) (Or.inr ⟨by kernel_rfl, rfl⟩) (HSS.out _ HB0.out) ?_
          refine wpAnyH_take (i := 40) (v := undef) rfl (by kernel_rfl) (by kernel_rfl) (by kernel_rfl) (fun _ _ _ h => h) (Or.inr ⟨by kernel_rfl, rfl⟩) (HSS.out _ HB0.out) ?_
          refine wpAnyH_take (i := 41) (v := (.bool true)) rfl (by kernel_rfl) (by kernel_rfl) (by kernel_rfl) (fun _ _ _ h => h) (Or.inl ⟨by kernel_rfl, fun V hV => ?_⟩) (HSS.out _ HB0.out) ?_
          · obtain ⟨g0, g1, g2⟩ := hV
            go_simp
          go_simp
          refine wpAnyH_done (by kernel_rfl) ?_ _
          go_wp2_with fail
          go_roundw
          case rel => exact (⟨i + 1, os, hlt, by omega, by omega, by go_num, ⟨sq, rfl, hsq⟩, ⟨tm, rfl⟩, HR1, hF, HB1⟩)
          case measure => simp [intOf]; omega
        by_cases h5 : os.length > 0
        · obtain ⟨o0, od, A0, c0, _, e0, m0, m1, m2, hl0, hC0⟩ := at30 HCa.out 0 h5
          subst e0
          simp only [Nat.zero_mul, Addr.add, Nat.add_zero] at m2
          clear m0 m1 hC0 hl0
          have HS : ∀ V, Below wa.heap.size wa V → (V.cell? ⟨gb, 0, none⟩ = some (.int .i64 x.f0) ∧ V.cell? ⟨gb, 1, none⟩ = some (.int .i64 x.f1) ∧ V.cell? ⟨gb, 2, none⟩ = some (.slice A2 x.f2.length c2) ∧ V.cell? ⟨od.block, od.off + 2, none⟩ = some (.slice A0 o0.f2.length c0)) := fun V hV => ⟨(blk_cell (blk_below HBX.out hV) 0).trans rfl, (blk_cell (blk_below HBX.out hV) 1).trans rfl, (blk_cell (blk_below HBX.out hV) 2).trans rfl, pw_cell_below hV m2⟩
          refine wp_region_held (S := fun V => V.cell? ⟨gb, 0, none⟩ = some (.int .i64 x.f0) ∧ V.cell? ⟨gb, 1, none⟩ = some (.int .i64 x.f1) ∧ V.cell? ⟨gb, 2, none⟩ = some (.slice A2 x.f2.length c2) ∧ V.cell? ⟨od.block, od.off + 2, none⟩ = some (.slice A0 o0.f2.length c0)) (by kernel_rfl) ?_
          obtain ⟨V0, hV0⟩ : ∃ V0 : World, V0 = { wa with drawn := wa.drawn + 1 } := ⟨_, rfl⟩
          have hB0 : Below wa.heap.size wa V0 := by rw [hV0]; exact ⟨rfl, rfl, rfl, Nat.le_refl _, fun _ _ => rfl⟩
          rw [← hV0]
          have HSS := Aside0.mk HS
          have HB0 := Aside0.mk hB0
          have HB1 := Aside0.mk (below_then HBa.out HBa.out.size hB0)
          have HR1 := Aside0.mk (HRa.out.below hB0)
          clear hV0 HS hB0
          by_cases h6 : x.f2.length = o0.f2.length
          · by_cases h7 : x.f2.length = 0
            · refine wpAnyH_take (i := 0) (v := (.pointer (some ⟨gb, 0, none⟩))) rfl (by kernel_rfl) (by kernel_rfl) (by kernel_rfl) (fun _ _ _ h => h) (Or.inl ⟨by kernel_rfl, fun V hV => ?_⟩) (HSS.out _ HB0.out) ?_
              · obtain ⟨g0, g1, g2, m2⟩ := hV
                go_simp
              refine wpAnyH_take (i := 1) (v := (.int .i64 x.f0)) rfl (by kernel_rfl) (by kernel_rfl) (by kernel_rfl) (fun _ _ _ h => h) (Or.inl ⟨by kernel_rfl, fun V hV => ?_⟩) (HSS.out _ HB0.out) ?_
              · obtain ⟨g0, g1, g2, m2⟩ := hV
                go_simp
              refine wpAnyH_take (i := 2) (v := (.int .i64 sq)) rfl (by kernel_rfl) (by kernel_rfl) (by kernel_rfl) (fun _ _ _ h => h) (Or.inl ⟨by kernel_rfl, fun V hV => ?_⟩) (HSS.out _ HB0.out) ?_
              · obtain ⟨g0, g1, g2, m2⟩ := hV
                go_simp
              refine wpAnyH_take (i := 3) (v := (.bool false)) rfl (by kernel_rfl) (by kernel_rfl) (by kernel_rfl) (fun _ _ _ h => h) (Or.inl ⟨by kernel_rfl, fun V hV => ?_⟩) (HSS.out _ HB0.out) ?_
              · obtain ⟨g0, g1, g2, m2⟩ := hV
                go_simp
                all_goals first | done | omega | simp [h1] | exact List.eq_nil_of_length_eq_zero (by omega) | exact fun h8 => absurd (show List.length o0.f2 = 0 by rw [h8]; rfl) (by omega)
              refine wpAnyH_take (i := 4) (v := (.bool false)) rfl (by kernel_rfl) (by kernel_rfl) (by kernel_rfl) (fun _ _ _ h => h) (Or.inl ⟨by kernel_rfl, fun V hV => ?_⟩) (HSS.out _ HB0.out) ?_
              · obtain ⟨g0, g1, g2, m2⟩ := hV
                go_simp
              refine wpAnyH_take (i := 5) (v := (.pointer (some ⟨gb, 0, none⟩))) rfl (by kernel_rfl) (by kernel_rfl) (by kernel_rfl) (fun _ _ _ h => h) (Or.inl ⟨by kernel_rfl, fun V hV => ?_⟩) (HSS.out _ HB0.out) ?_
              · obtain ⟨g0, g1, g2, m2⟩ := hV
                go_simp
              refine wpAnyH_take (i := 6) (v := (.int .i64 x.f0)) rfl (by kernel_rfl) (by kernel_rfl) (by kernel_rfl) (fun _ _ _ h => h) (Or.inl ⟨by kernel_rfl, fun V hV => ?_⟩) (HSS.out _ HB0.out) ?_
              · obtain ⟨g0, g1, g2, m2⟩ := hV
                go_simp
              refine wpAnyH_take (i := 7) (v := (.bool false)) rfl (by kernel_rfl) (by kernel_rfl) (by kernel_rfl) (fun _ _ _ h => h) (Or.inl ⟨by kernel_rfl, fun V hV => ?_⟩) (HSS.out _ HB0.out) ?_
              · obtain ⟨g0, g1, g2, m2⟩ := hV
                go_simp
                all_goals first | done | omega | simp [h2] | exact List.eq_nil_of_length_eq_zero (by omega) | exact fun h8 => absurd (show List.length o0.f2 = 0 by rw [h8]; rfl) (by omega)
              refine wpAnyH_take (i := 8) (v := (.bool false)) rfl (by kernel_rfl) (by kernel_rfl) (by kernel_rfl) (fun _ _ _ h => h) (Or.inl ⟨by kernel_rfl, fun V hV => ?_⟩) (HSS.out _ HB0.out) ?_
              · obtain ⟨g0, g1, g2, m2⟩ := hV
                go_simp
              refine wpAnyH_take (i := 9) (v := (.bool false)) rfl (by kernel_rfl) (by kernel_rfl) (by kernel_rfl) (fun _ _ _ h => h) (Or.inl ⟨by kernel_rfl, fun V hV => ?_⟩) (HSS.out _ HB0.out) ?_
              · obtain ⟨g0, g1, g2, m2⟩ := hV
                go_simp
              refine wpAnyH_take (i := 10) (v := (.pointer (some ⟨gb, 1, none⟩))) rfl (by kernel_rfl) (by kernel_rfl) (by kernel_rfl) (fun _ _ _ h => h) (Or.inl ⟨by kernel_rfl, fun V hV => ?_⟩) (HSS.out _ HB0.out) ?_
              · obtain ⟨g0, g1, g2, m2⟩ := hV
                go_simp
              refine wpAnyH_take (i := 11) (v := (.int .i64 x.f1)) rfl (by kernel_rfl) (by kernel_rfl) (by kernel_rfl) (fun _ _ _ h => h) (Or.inl ⟨by kernel_rfl, fun V hV => ?_⟩) (HSS.out _ HB0.out) ?_
              · obtain ⟨g0, g1, g2, m2⟩ := hV
                go_simp
              refine wpAnyH_take (i := 12) (v := (.int .i64 tm)) rfl (by kernel_rfl) (by kernel_rfl) (by kernel_rfl) (fun _ _ _ h => h) (Or.inl ⟨by kernel_rfl, fun V hV => ?_⟩) (HSS.out _ HB0.out) ?_
              · obtain ⟨g0, g1, g2, m2⟩ := hV
                go_simp
              refine wpAnyH_take (i := 13) (v := (.bool false)) rfl (by kernel_rfl) (by kernel_rfl) (by kernel_rfl) (fun _ _ _ h => h) (Or.inl ⟨by kernel_rfl, fun V hV => ?_⟩) (HSS.out _ HB0.out) ?_
              · obtain ⟨g0, g1, g2, m2⟩ := hV
                go_simp
                all_goals first | done | omega | simp [h3] | exact List.eq_nil_of_length_eq_zero (by omega) | exact fun h8 => absurd (show List.length o0.f2 = 0 by rw [h8]; rfl) (by omega)
              refine wpAnyH_take (i := 14) (v := (.bool false)) rfl (by kernel_rfl) (by kernel_rfl) (by kernel_rfl) (fun _ _ _ h => h) (Or.inl ⟨by kernel_rfl, fun V hV => ?_⟩) (HSS.out _ HB0.out) ?_
              · obtain ⟨g0, g1, g2, m2⟩ := hV
                go_simp
              refine wpAnyH_take (i := 15) (v := (.bool false)) rfl (by kernel_rfl) (by kernel_rfl) (by kernel_rfl) (fun _ _ _ h => h) (Or.inl ⟨by kernel_rfl, fun V hV => ?_⟩) (HSS.out _ HB0.out) ?_
              · obtain ⟨g0, g1, g2, m2⟩ := hV
                go_simp
              refine wpAnyH_take (i := 16) (v := (.pointer (some ⟨gb, 1, none⟩))) rfl (by kernel_rfl) (by kernel_rfl) (by kernel_rfl) (fun _ _ _ h => h) (Or.inl ⟨by kernel_rfl, fun V hV => ?_⟩) (HSS.out _ HB0.out) ?_
              · obtain ⟨g0, g1, g2, m2⟩ := hV
                go_simp
              refine wpAnyH_take (i := 17) (v := (.int .i64 x.f1)) rfl (by kernel_rfl) (by kernel_rfl) (by kernel_rfl) (fun _ _ _ h => h) (Or.inl ⟨by kernel_rfl, fun V hV => ?_⟩) (HSS.out _ HB0.out) ?_
              · obtain ⟨g0, g1, g2, m2⟩ := hV
                go_simp
              refine wpAnyH_take (i := 18) (v := (.bool false)) rfl (by kernel_rfl) (by kernel_rfl) (by kernel_rfl) (fun _ _ _ h => h) (Or.inl ⟨by kernel_rfl, fun V hV => ?_⟩) (HSS.out _ HB0.out) ?_
              · obtain ⟨g0, g1, g2, m2⟩ := hV
                go_simp
                all_goals first | done | omega | simp [h4] | exact List.eq_nil_of_length_eq_zero (by omega) | exact fun h8 => absurd (show List.length o0.f2 = 0 by rw [h8]; rfl) (by omega)
              refine wpAnyH_take (i := 19) (v := (.bool false)) rfl (by kernel_rfl) (by kernel_rfl) (by kernel_rfl) (fun _ _ _ h => h) (Or.inl ⟨by kernel_rfl, fun V hV => ?_⟩) (HSS.out _ HB0.out) ?_
              · obtain ⟨g0, g1, g2, m2⟩ := hV
                go_simp
              refine wpAnyH_take (i := 20) (v := (.bool false)) rfl (by kernel_rfl) (by kernel_rfl) (by kernel_rfl) (fun _ _ _ h => h) (Or.inl ⟨by kernel_rfl, fun V hV => ?_⟩) (HSS.out _ HB0.out) ?_
              · obtain ⟨g0, g1, g2, m2⟩ := hV
                go_simp
              refine wpAnyH_take (i := 21) (v := (.slice (some od) os.length co)) rfl (by kernel_rfl) (by kernel_rfl) (by kernel_rfl) (fun _ _ _ h => h) (Or.inl ⟨by kernel_rfl, fun V hV => ?_⟩) (HSS.out _ HB0.out) ?_
              · obtain ⟨g0, g1, g2, m2⟩ := hV
                go_simp
              refine wpAnyH_take (i := 22) (v := (.int .i64 os.length)) rfl (by kernel_rfl) (by kernel_rfl) (by kernel_rfl) (fun _ _ _ h => h) (Or.inl ⟨by kernel_rfl, fun V hV => ?_⟩) (HSS.out _ HB0.out) ?_
              · obtain ⟨g0, g1, g2, m2⟩ := hV
                go_simp
              refine wpAnyH_take (i := 23) (v := (.bool true)) rfl (by kernel_rfl) (by kernel_rfl) (by kernel_rfl) (fun _ _ _ h => h) (Or.inl ⟨by kernel_rfl, fun V hV => ?_⟩) (HSS.out _ HB0.out) ?_
              · obtain ⟨g0, g1, g2, m2⟩ := hV
                go_simp
                all_goals first | done | omega | simp [h5] | exact List.eq_nil_of_length_eq_zero (by omega) | exact fun h8 => absurd (show List.length o0.f2 = 0 by rw [h8]; rfl) (by omega)
              refine wpAnyH_take (i := 24) (v := (.bool true)) rfl (by kernel_rfl) (by kernel_rfl) (by kernel_rfl) (fun _ _ _ h => h) (Or.inl ⟨by kernel_rfl, fun V hV => ?_⟩) (HSS.out _ HB0.out) ?_
              · obtain ⟨g0, g1, g2, m2⟩ := hV
                go_simp
              refine wpAnyH_take (i := 25) (v := (.pointer (some ⟨gb, 2, none⟩))) rfl (by kernel_rfl) (by kernel_rfl) (by kernel_rfl) (fun _ _ _ h => h) (Or.inl ⟨by kernel_rfl, fun V hV => ?_⟩) (HSS.out _ HB0.out) ?_
              · obtain ⟨g0, g1, g2, m2⟩ := hV
                go_simp
              refine wpAnyH_take (i := 26) (v := (.slice A2 x.f2.length c2)) rfl (by kernel_rfl) (by kernel_rfl) (by kernel_rfl) (fun _ _ _ h => h) (Or.inl ⟨by kernel_rfl, fun V hV => ?_⟩) (HSS.out _ HB0.out) ?_
              · obtain ⟨g0, g1, g2, m2⟩ := hV
                go_simp
              refine wpAnyH_take (i := 27) (v := (.int .i64 x.f2.length)) rfl (by kernel_rfl) (by kernel_rfl) (by kernel_rfl) (fun _ _ _ h => h) (Or.inl ⟨by kernel_rfl, fun V hV => ?_⟩) (HSS.out _ HB0.out) ?_
              · obtain ⟨g0, g1, g2, m2⟩ := hV
                go_simp
              refine wpAnyH_take (i := 28) (v := (.slice (some od) os.length co)) rfl (by kernel_rfl) (by kernel_rfl) (by kernel_rfl) (fun _ _ _ h => h) (Or.inl ⟨by kernel_rfl, fun V hV => ?_⟩) (HSS.out _ HB0.out) ?_
              · obtain ⟨g0, g1, g2, m2⟩ := hV
                go_simp
              refine wpAnyH_take (i := 29) (v := (.pointer (some od))) rfl (by kernel_rfl) (by kernel_rfl) (by kernel_rfl) (fun _ _ _ h => h) (Or.inl ⟨by kernel_rfl, fun V hV => ?_⟩) (HSS.out _ HB0.out) ?_
              · obtain ⟨g0, g1, g2, m2⟩ := hV
                go_simp
              refine wpAnyH_take (i := 30) (v := (.pointer (some ⟨od.block, od.off + 2, none⟩))) rfl (by kernel_rfl) (by kernel_rfl) (by kernel_rfl) (fun _ _ _ h => h) (Or.inl ⟨by kernel_rfl, fun V hV => ?_⟩) (HSS.out _ HB0.out) ?_
              · obtain ⟨g0, g1, g2, m2⟩ := hV
                go_simp
              refine wpAnyH_take (i := 31) (v := (.slice A0 o0.f2.length c0)) rfl (by kernel_rfl) (by kernel_rfl) (by kernel_rfl) (fun _ _ _ h => h) (Or.inl ⟨by kernel_rfl, fun V hV => ?_⟩) (HSS.out _ HB0.out) ?_
              · obtain ⟨g0, g1, g2, m2⟩ := hV
                go_simp
              refine wpAnyH_take (i := 32) (v := (.int .i64 o0.f2.length)) rfl (by kernel_rfl) (by kernel_rfl) (by kernel_rfl) (fun _ _ _ h => h) (Or.inl ⟨by kernel_rfl, fun V hV => ?_⟩) (HSS.out _ HB0.out) ?_
              · obtain ⟨g0, g1, g2, m2⟩ := hV
                go_simp
              refine wpAnyH_take (i := 33) (v := (.bool false)) rfl (by kernel_rfl) (by kernel_rfl) (by kernel_rfl) (fun _ _ _ h => h) (Or.inl ⟨by kernel_rfl, fun V hV => ?_⟩) (HSS.out _ HB0.out) ?_
              · obtain ⟨g0, g1, g2, m2⟩ := hV
                go_simp
                all_goals first | done | omega | simp [h6] | exact List.eq_nil_of_length_eq_zero (by omega) | exact fun h8 => absurd (show List.length o0.f2 = 0 by rw [h8]; rfl) (by omega)
              refine wpAnyH_take (i := 34) (v := (.bool false)) rfl (by kernel_rfl) (by kernel_rfl) (by kernel_rfl) (fun _ _ _ h => h) (Or.inl ⟨by kernel_rfl, fun V hV => ?_⟩) (HSS.out _ HB0.out) ?_
              · obtain ⟨g0, g1, g2, m2⟩ := hV
                go_simp
              refine wpAnyH_take (i := 35) (v := (.bool false)) rfl (by kernel_rfl) (by kernel_rfl) (by kernel_rfl) (fun _ _ _ h => h) (Or.inl ⟨by kernel_rfl, fun V hV => ?_⟩) (HSS.out _ HB0.out) ?_
              · obtain ⟨g0, g1, g2, m2⟩ := hV
                go_simp
              refine wpAnyH_take (i := 36) (v := (.bool false)) rfl (by kernel_rfl) (by kernel_rfl) (by kernel_rfl) (fun _ _ _ h => h) (Or.inl ⟨by kernel_rfl, fun V hV => ?_⟩) (HSS.out _ HB0.out) ?_
              · obtain ⟨g0, g1, g2, m2⟩ := hV
                go_simp
              refine wpAnyH_take (i := 37) (v := (.pointer (some ⟨gb, 2, none⟩))) rfl (by kernel_rfl) (by kernel_rfl) (by kernel_rfl) (fun _ _ _ h => h) (Or.inl ⟨by kernel_rfl, fun V hV => ?_⟩) (HSS.out _ HB0.out) ?_
              · obtain ⟨g0, g1, g2, m2⟩ := hV
                go_simp
              refine wpAnyH_take (i := 38) (v := (.slice A2 x.f2.length c2)) rfl (by kernel_rfl) (by kernel_rfl) (by kernel_rfl) (fun _ _ _ h => h) (Or.inl ⟨by kernel_rfl, fun V hV => ?_⟩) (HSS.out _ HB0.out) ?_
              · obtain ⟨g0, g1, g2, m2⟩ := hV
                go_simp
              refine wpAnyH_take (i := 39) (v := (.int .i64 x.f2.length)) rfl (by kernel_rfl) (by kernel_rfl) (by kernel_rfl) (fun _ _ _ h => h) (Or.inl ⟨by kernel_rfl, fun V hV => ?_⟩) (HSS.out _ HB0.out) ?_
              · obtain ⟨g0, g1, g2, m2⟩ := hV
                go_simp
              refine wpAnyH_take (i := 40) (v := (.bool true)) rfl (by kernel_rfl) (by kernel_rfl) (by kernel_rfl) (fun _ _ _ h => h) (Or.inl ⟨by kernel_rfl, fun V hV => ?_⟩) (HSS.out _ HB0.out) ?_
              · obtain ⟨g0, g1, g2, m2⟩ := hV
                go_simp
                all_goals first | done | omega | simp [h7] | exact List.eq_nil_of_length_eq_zero (by omega) | exact fun h8 => absurd (show List.length o0.f2 = 0 by rw [h8]; rfl) (by omega)
              refine wpAnyH_take (i := 41) (v := (.bool true)) rfl (by kernel_rfl) (by kernel_rfl) (by kernel_rfl) (fun _ _ _ h => h) (Or.inl ⟨by kernel_rfl, fun V hV => ?_⟩) (HSS.out _ HB0.out) ?_
              · obtain ⟨g0, g1, g2, m2⟩ := hV
                go_simp
              go_simp
              refine wpAnyH_done (by kernel_rfl) ?_ _
              go_wp2_with fail
              go_roundw
              case rel => exact (⟨i + 1, os, hlt, by omega, by omega, by go_num, ⟨sq, rfl, hsq⟩, ⟨tm, rfl⟩, HR1, hF, HB1⟩)
              case measure => simp [intOf]; omega
            · refine wpAnyH_take (i := 0) (v := (.pointer (some ⟨gb, 0, none⟩))) rfl (by kernel_rfl) (by kernel_rfl) (by kernel_rfl) (fun _ _ _ h => h) (Or.inl ⟨by kernel_rfl, fun V hV => ?_⟩) (HSS.out _ HB0.out) ?_
              · obtain ⟨g0, g1, g2, m2⟩ := hV
                go_simp
              refine wpAnyH_take (i := 1) (v := (.int .i64 x.f0)) rfl (by kernel_rfl) (by kernel_rfl) (by kernel_rfl) (fun _ _ _ h => h) (Or.inl ⟨by kernel_rfl, fun V hV => ?_⟩) (HSS.out _ HB0.out) ?_
              · obtain ⟨g0, g1, g2, m2⟩ := hV
                go_simp
              refine wpAnyH_take (i := 2) (v := (.int .i64 sq)) rfl (by kernel_rfl) (by kernel_rfl) (by kernel_rfl) (fun _ _ _ h => h) (Or.inl ⟨by kernel_rfl, fun V hV => ?_⟩) (HSS.out _ HB0.out) ?_
              · obtain ⟨g0, g1, g2, m2⟩ := hV
                go_simp
              refine wpAnyH_take (i := 3) (v := (.bool false)) rfl (by kernel_rfl) (by kernel_rfl) (by kernel_rfl) (fun _ _ _ h => h) (Or.inl ⟨by kernel_rfl, fun V hV => ?_⟩) (HSS.out _ HB0.out) ?_
              · obtain ⟨g0, g1, g2, m2⟩ := hV
                go_simp
                all_goals first | done | omega | simp [h1] | exact List.eq_nil_of_length_eq_zero (by omega) | exact fun h8 => absurd (show List.length o0.f2 = 0 by rw [h8]; rfl) (by omega)
              refine wpAnyH_take (i := 4) (v := (.bool false)) rfl (by kernel_rfl) (by kernel_rfl) (by kernel_rfl) (fun _ _ _ h => h) (Or.inl ⟨by kernel_rfl, fun V hV => ?_⟩) (HSS.out _ HB0.out) ?_
              · obtain ⟨g0, g1, g2, m2⟩ := hV
                go_simp
              refine wpAnyH_take (i := 5) (v := (.pointer (some ⟨gb, 0, none⟩))) rfl (by kernel_rfl) (by kernel_rfl) (by kernel_rfl) (fun _ _ _ h => h) (Or.inl ⟨by kernel_rfl, fun V hV => ?_⟩) (HSS.out _ HB0.out) ?_
              · obtain ⟨g0, g1, g2, m2⟩ := hV
                go_simp
              refine wpAnyH_take (i := 6) (v := (.int .i64 x.f0)) rfl (by kernel_rfl) (by kernel_rfl) (by kernel_rfl) (fun _ _ _ h => h) (Or.inl ⟨by kernel_rfl, fun V hV => ?_⟩) (HSS.out _ HB0.out) ?_
              · obtain ⟨g0, g1, g2, m2⟩ := hV
                go_simp
              refine wpAnyH_take (i := 7) (v := (.bool false)) rfl (by kernel_rfl) (by kernel_rfl) (by kernel_rfl) (fun _ _ _ h => h) (Or.inl ⟨by kernel_rfl, fun V hV => ?_⟩) (HSS.out _ HB0.out) ?_
              · obtain ⟨g0, g1, g2, m2⟩ := hV
                go_simp
                all_goals first | done | omega | simp [h2] | exact List.eq_nil_of_length_eq_zero (by omega) | exact fun h8 => absurd (show List.length o0.f2 = 0 by rw [h8]; rfl) (by omega)
              refine wpAnyH_take (i := 8) (v := (.bool false)) rfl (by kernel_rfl) (by kernel_rfl) (by kernel_rfl) (fun _ _ _ h => h) (Or.inl ⟨by kernel_rfl, fun V hV => ?_⟩) (HSS.out _ HB0.out) ?_
              · obtain ⟨g0, g1, g2, m2⟩ := hV
                go_simp
              refine wpAnyH_take (i := 9) (v := (.bool false)) rfl (by kernel_rfl) (by kernel_rfl) (by kernel_rfl) (fun _ _ _ h => h) (Or.inl ⟨by kernel_rfl, fun V hV => ?_⟩) (HSS.out _ HB0.out) ?_
              · obtain ⟨g0, g1, g2, m2⟩ := hV
                go_simp
              refine wpAnyH_take (i := 10) (v := (.pointer (some ⟨gb, 1, none⟩))) rfl (by kernel_rfl) (by kernel_rfl) (by kernel_rfl) (fun _ _ _ h => h) (Or.inl ⟨by kernel_rfl, fun V hV => ?_⟩) (HSS.out _ HB0.out) ?_
              · obtain ⟨g0, g1, g2, m2⟩ := hV
                go_simp
              refine wpAnyH_take (i := 11) (v := (.int .i64 x.f1)) rfl (by kernel_rfl) (by kernel_rfl) (by kernel_rfl) (fun _ _ _ h => h) (Or.inl ⟨by kernel_rfl, fun V hV => ?_⟩) (HSS.out _ HB0.out) ?_
              · obtain ⟨g0, g1, g2, m2⟩ := hV
                go_simp
              refine wpAnyH_take (i := 12) (v := (.int .i64 tm)) rfl (by kernel_rfl) (by kernel_rfl) (by kernel_rfl) (fun _ _ _ h => h) (Or.inl ⟨by kernel_rfl, fun V hV => ?_⟩) (HSS.out _ HB0.out) ?_
              · obtain ⟨g0, g1, g2, m2⟩ := hV
                go_simp
              refine wpAnyH_take (i := 13) (v := (.bool false)) rfl (by kernel_rfl) (by kernel_rfl) (by kernel_rfl) (fun _ _ _ h => h) (Or.inl ⟨by kernel_rfl, fun V hV => ?_⟩) (HSS.out _ HB0.out) ?_
              · obtain ⟨g0, g1, g2, m2⟩ := hV
                go_simp
                all_goals first | done | omega | simp [h3] | exact List.eq_nil_of_length_eq_zero (by omega) | exact fun h8 => absurd (show List.length o0.f2 = 0 by rw [h8]; rfl) (by omega)
              refine wpAnyH_take (i := 14) (v := (.bool false)) rfl (by kernel_rfl) (by kernel_rfl) (by kernel_rfl) (fun _ _ _ h => h) (Or.inl ⟨by kernel_rfl, fun V hV => ?_⟩) (HSS.out _ HB0.out) ?_
              · obtain ⟨g0, g1, g2, m2⟩ := hV
                go_simp
              refine wpAnyH_take (i := 15) (v := (.bool false)) rfl (by kernel_rfl) (by kernel_rfl) (by kernel_rfl) (fun _ _ _ h => h) (Or.inl ⟨by kernel_rfl, fun V hV => ?_⟩) (HSS.out _ HB0.out) ?_
              · obtain ⟨g0, g1, g2, m2⟩ := hV
                go_simp
              refine wpAnyH_take (i := 16) (v := (.pointer (some ⟨gb, 1, none⟩))) rfl (by kernel_rfl) (by kernel_rfl) (by kernel_rfl) (fun _ _ _ h => h) (Or.inl ⟨by kernel_rfl, fun V hV => ?_⟩) (HSS.out _ HB0.out) ?_
              · obtain ⟨g0, g1, g2, m2⟩ := hV
                go_simp
              refine wpAnyH_take (i := 17) (v := (.int .i64 x.f1)) rfl (by kernel_rfl) (by kernel_rfl) (by kernel_rfl) (fun _ _ _ h => h) (Or.inl ⟨by kernel_rfl, fun V hV => ?_⟩) (HSS.out _ HB0.out) ?_
              · obtain ⟨g0, g1, g2, m2⟩ := hV
                go_simp
              refine wpAnyH_take (i := 18) (v := (.bool false)) rfl (by kernel_rfl) (by kernel_rfl) (by kernel_rfl) (fun _ _ _ h => h) (Or.inl ⟨by kernel_rfl, fun V hV => ?_⟩) (HSS.out _ HB0.out) ?_
              · obtain ⟨g0, g1, g2, m2⟩ := hV
                go_simp
                all_goals first | done | omega | simp [h4] | exact List.eq_nil_of_length_eq_zero (by omega) | exact fun h8 => absurd (show List.length o0.f2 = 0 by rw [h8]; rfl) (by omega)
              refine wpAnyH_take (i := 19) (v := (.bool false)) rfl (by kernel_rfl) (by kernel_rfl) (by kernel_rfl) (fun _ _ _ h => h) (Or.inl ⟨by kernel_rfl, fun V hV => ?_⟩) (HSS.out _ HB0.out) ?_
              · obtain ⟨g0, g1, g2, m2⟩ := hV
                go_simp
              refine wpAnyH_take (i := 20) (v := (.bool false)) rfl (by kernel_rfl) (by kernel_rfl) (by kernel_rfl) (fun _ _ _ h => h) (Or.inl ⟨by kernel_rfl, fun V hV => ?_⟩) (HSS.out _ HB0.out) ?_
              · obtain ⟨g0, g1, g2, m2⟩ := hV
                go_simp
              refine wpAnyH_take (i := 21) (v := (.slice (some od) os.length co)) rfl (by kernel_rfl) (by kernel_rfl) (by kernel_rfl) (fun _ _ _ h => h) (Or.inl ⟨by kernel_rfl, fun V hV => ?_⟩) (HSS.out _ HB0.out) ?_
              · obtain ⟨g0, g1, g2, m2⟩ := hV
                go_simp
              refine wpAnyH_take (i := 22) (v := (.int .i64 os.length)) rfl (by kernel_rfl) (by kernel_rfl) (by kernel_rfl) (fun _ _ _ h => h) (Or.inl ⟨by kernel_rfl, fun V hV => ?_⟩) (HSS.out _ HB0.out) ?_
              · obtain ⟨g0, g1, g2, m2⟩ := hV
                go_simp
              refine wpAnyH_take (i := 23) (v := (.bool true)) rfl (by kernel_rfl) (by kernel_rfl) (by kernel_rfl) (fun _ _ _ h => h) (Or.inl ⟨by kernel_rfl, fun V hV => ?_⟩) (HSS.out _ HB0.out) ?_
              · obtain ⟨g0, g1, g2, m2⟩ := hV
                go_simp
                all_goals first | done | omega | simp [h5] | exact List.eq_nil_of_length_eq_zero (by omega) | exact fun h8 => absurd (show List.length o0.f2 = 0 by rw [h8]; rfl) (by omega)
              refine wpAnyH_take (i := 24) (v := (.bool true)) rfl (by kernel_rfl) (by kernel_rfl) (by kernel_rfl) (fun _ _ _ h => h) (Or.inl ⟨by kernel_rfl, fun V hV => ?_⟩) (HSS.out _ HB0.out) ?_
              · obtain ⟨g0, g1, g2, m2⟩ := hV
                go_simp
              refine wpAnyH_take (i := 25) (v := (.pointer (some ⟨gb, 2, none⟩))) rfl (by kernel_rfl) (by kernel_rfl) (by kernel_rfl) (fun _ _ _ h => h) (Or.inl ⟨by kernel_rfl, fun V hV => ?_⟩) (HSS.out _ HB0.out) ?_
              · obtain ⟨g0, g1, g2, m2⟩ := hV
                go_simp
              refine wpAnyH_take (i := 26) (v := (.slice A2 x.f2.length c2)) rfl (by kernel_rfl) (by kernel_rfl) (by kernel_rfl) (fun _ _ _ h => h) (Or.inl ⟨by kernel_rfl, fun V hV => ?_⟩) (HSS.out _ HB0.out) ?_
              · obtain ⟨g0, g1, g2, m2⟩ := hV
                go_simp
              refine wpAnyH_take (i := 27) (v := (.int .i64 x.f2.length)) rfl (by kernel_rfl) (by kernel_rfl) (by kernel_rfl) (fun _ _ _ h => h) (Or.inl ⟨by kernel_rfl, fun V hV => ?_⟩) (HSS.out _ HB0.out) ?_
              · obtain ⟨g0, g1, g2, m2⟩ := hV
                go_simp
              refine wpAnyH_take (i := 28) (v := (.slice (some od) os.length co)) rfl (by kernel_rfl) (by kernel_rfl) (by kernel_rfl) (fun _ _ _ h => h) (Or.inl ⟨by kernel_rfl, fun V hV => ?_⟩) (HSS.out _ HB0.out) ?_
              · obtain ⟨g0, g1, g2, m2⟩ := hV
                go_simp
              refine wpAnyH_take (i := 29) (v := (.pointer (some od))) rfl (by kernel_rfl) (by kernel_rfl) (by kernel_rfl) (fun _ _ _ h => h) (Or.inl ⟨by kernel_rfl, fun V hV => ?_⟩) (HSS.out _ HB0.out) ?_
              · obtain ⟨g0, g1, g2, m2⟩ := hV
                go_simp
              refine wpAnyH_take (i := 30) (v := (.pointer (some ⟨od.block, od.off + 2, none⟩))) rfl (by kernel_rfl) (by kernel_rfl) (by kernel_rfl) (fun _ _ _ h => h) (Or.inl ⟨by kernel_rfl, fun V hV => ?_⟩) (HSS.out _ HB0.out) ?_
              · obtain ⟨g0, g1, g2, m2⟩ := hV
                go_simp
              refine wpAnyH_take (i := 31) (v := (.slice A0 o0.f2.length c0)) rfl (by kernel_rfl) (by kernel_rfl) (by kernel_rfl) (fun _ _ _ h => h) (Or.inl ⟨by kernel_rfl, fun V hV => ?_⟩) (HSS.out _ HB0.out) ?_
              · obtain ⟨g0, g1, g2, m2⟩ := hV
                go_simp
              refine wpAnyH_take (i := 32) (v := (.int .i64 o0.f2.length)) rfl (by kernel_rfl) (by kernel_rfl) (by kernel_rfl) (fun _ _ _ h => h) (Or.inl ⟨by kernel_rfl, fun V hV => ?_⟩) (HSS.out _ HB0.out) ?_
              · obtain ⟨g0, g1, g2, m2⟩ := hV
                go_simp
              refine wpAnyH_take (i := 33) (v := (.bool false)) rfl (by kernel_rfl) (by kernel_rfl) (by kernel_rfl) (fun _ _ _ h => h) (Or.inl ⟨by kernel_rfl, fun V hV => ?_⟩) (HSS.out _ HB0.out) ?_
              · obtain ⟨g0, g1, g2, m2⟩ := hV
                go_simp
                all_goals first | done | omega | simp [h6] | exact List.eq_nil_of_length_eq_zero (by omega) | exact fun h8 => absurd (show List.length o0.f2 = 0 by rw [h8]; rfl) (by omega)
              refine wpAnyH_take (i := 34) (v := (.bool false)) rfl (by kernel_rfl) (by kernel_rfl) (by kernel_rfl) (fun _ _ _ h => h) (Or.inl ⟨by kernel_rfl, fun V hV => ?_⟩) (HSS.out _ HB0.out) ?_
              · obtain ⟨g0, g1, g2, m2⟩ := hV
                go_simp
              refine wpAnyH_take (i := 35) (v := (.bool false)) rfl (by kernel_rfl) (by kernel_rfl) (by kernel_rfl) (fun _ _ _ h => h) (Or.inl ⟨by kernel_rfl, fun V hV => ?_⟩) (HSS.out _ HB0.out) ?_
              · obtain ⟨g0, g1, g2, m2⟩ := hV
                go_simp
              refine wpAnyH_take (i := 36) (v := (.bool false)) rfl (by kernel_rfl) (by kernel_rfl) (by kernel_rfl) (fun _ _ _ h => h) (Or.inl ⟨by kernel_rfl, fun V hV => ?_⟩) (HSS.out _ HB0.out) ?_
              · obtain ⟨g0, g1, g2, m2⟩ := hV
                go_simp
              refine wpAnyH_take (i := 37) (v := (.pointer (some ⟨gb, 2, none⟩))) rfl (by kernel_rfl) (by kernel_rfl) (by kernel_rfl) (fun _ _ _ h => h) (Or.inl ⟨by kernel_rfl, fun V hV => ?_⟩) (HSS.out _ HB0.out) ?_
              · obtain ⟨g0, g1, g2, m2⟩ := hV
                go_simp
              refine wpAnyH_take (i := 38) (v := (.slice A2 x.f2.length c2)) rfl (by kernel_rfl) (by kernel_rfl) (by kernel_rfl) (fun _ _ _ h => h) (Or.inl ⟨by kernel_rfl, fun V hV => ?_⟩) (HSS.out _ HB0.out) ?_
              · obtain ⟨g0, g1, g2, m2⟩ := hV
                go_simp
              refine wpAnyH_take (i := 39) (v := (.int .i64 x.f2.length)) rfl (by kernel_rfl) (by kernel_rfl) (by kernel_rfl) (fun _ _ _ h => h) (Or.inl ⟨by kernel_rfl, fun V hV => ?_⟩) (HSS.out _ HB0.out) ?_
              · obtain ⟨g0, g1, g2, m2⟩ := hV
                go_simp
              refine wpAnyH_take (i := 40) (v := (.bool false)) rfl (by kernel_rfl) (by kernel_rfl) (by kernel_rfl) (fun _ _ _ h => h) (Or.inl ⟨by kernel_rfl, fun V hV => ?_⟩) (HSS.out _ HB0.out) ?_
              · obtain ⟨g0, g1, g2, m2⟩ := hV
                go_simp
                all_goals first | done | omega | simp [h7] | exact List.eq_nil_of_length_eq_zero (by omega) | exact fun h8 => absurd (show List.length o0.f2 = 0 by rw [h8]; rfl) (by omega)
              refine wpAnyH_take (i := 41) (v := (.bool false)) rfl (by kernel_rfl) (by kernel_rfl) (by kernel_rfl) (fun _ _ _ h => h) (Or.inl ⟨by kernel_rfl, fun V hV => ?_⟩) (HSS.out _ HB0.out) ?_
              · obtain ⟨g0, g1, g2, m2⟩ := hV
                go_simp
              go_simp
              refine wpAnyH_done (by kernel_rfl) ?_ _
              have H6 := Aside0.mk h6
              clear h6
              go_wp2_with fail
              have HBX1 := Aside0.mk (blk_below HBX.out HB0.out)
              have HS : ∀ V, Below V0.heap.size V0 V → (V.cell? ⟨gb, 0, none⟩ = some (.int .i64 x.f0) ∧ V.cell? ⟨gb, 1, none⟩ = some (.int .i64 x.f1)) := fun V hV => ⟨(blk_cell (blk_below HBX1.out hV) 0).trans rfl, (blk_cell (blk_below HBX1.out hV) 1).trans rfl⟩
              refine wp_region_held (S := fun V => V.cell? ⟨gb, 0, none⟩ = some (.int .i64 x.f0) ∧ V.cell? ⟨gb, 1, none⟩ = some (.int .i64 x.f1)) (by kernel_rfl) ?_
              obtain ⟨V1, hV1⟩ : ∃ V1 : World, V1 = { V0 with drawn := V0.drawn + 1 } := ⟨_, rfl⟩
              have hB2 : Below V0.heap.size V0 V1 := by rw [hV1]; exact ⟨rfl, rfl, rfl, Nat.le_refl _, fun _ _ => rfl⟩
              rw [← hV1]
              have HS1 := Aside0.mk HS
              have HB2 := Aside0.mk hB2
              have HB3 := Aside0.mk (below_then HB1.out HB1.out.size hB2)
              have HR3 := Aside0.mk (HR1.out.below hB2)
              clear hV1 HS hB2
              refine wpAnyH_take (i := 0) (v := (.pointer (some ⟨gb, 0, none⟩))) rfl (by kernel_rfl) (by kernel_rfl) (by kernel_rfl) (fun _ _ _ h => h) (Or.inl ⟨rfl, fun V hV => ?_⟩) (HS1.out _ HB2.out) ?_
              · obtain ⟨p0, p1⟩ := hV
                go_simp
              refine wpAnyH_take (i := 1) (v := (.int .i64 x.f0)) rfl (by kernel_rfl) (by kernel_rfl) (by kernel_rfl) (fun _ _ _ h => h) (Or.inl ⟨rfl, fun V hV => ?_⟩) (HS1.out _ HB2.out) ?_
              · obtain ⟨p0, p1⟩ := hV
                go_simp
              refine wpAnyH_take (i := 2) (v := (.pointer (some ⟨gb, 1, none⟩))) rfl (by kernel_rfl) (by kernel_rfl) (by kernel_rfl) (fun _ _ _ h => h) (Or.inl ⟨rfl, fun V hV => ?_⟩) (HS1.out _ HB2.out) ?_
              · obtain ⟨p0, p1⟩ := hV
                go_simp
              refine wpAnyH_take (i := 3) (v := (.int .i64 x.f1)) rfl (by kernel_rfl) (by kernel_rfl) (by kernel_rfl) (fun _ _ _ h => h) (Or.inl ⟨rfl, fun V hV => ?_⟩) (HS1.out _ HB2.out) ?_
              · obtain ⟨p0, p1⟩ := hV
                go_simp
              refine wpAnyH_take (i := 4) (v := (.int .i64 x.f0)) rfl (by kernel_rfl) (by kernel_rfl) (by kernel_rfl) (fun _ _ _ h => h) (Or.inl ⟨rfl, fun V hV => ?_⟩) (HS1.out _ HB2.out) ?_
              · obtain ⟨p0, p1⟩ := hV
                go_simp
              refine wpAnyH_take (i := 5) (v := (.int .i64 x.f1)) rfl (by kernel_rfl) (by kernel_rfl) (by kernel_rfl) (fun _ _ _ h => h) (Or.inl ⟨rfl, fun V hV => ?_⟩) (HS1.out _ HB2.out) ?_
              · obtain ⟨p0, p1⟩ := hV
                go_simp
              go_simp
              refine wpAnyH_done (by kernel_rfl) ?_ _
              have hx3 := blk_below HBX1.out HB2.out
              have q0 : V1.cell? ⟨gb, 0, none⟩ = some (.int .i64 x.f0) := (blk_cell hx3 0).trans rfl
              have q1 : V1.cell? ⟨gb, 1, none⟩ = some (.int .i64 x.f1) := (blk_cell hx3 1).trans rfl
              have q2 : V1.cell? ⟨gb, 2, none⟩ = some (.slice A2 x.f2.length c2) := (blk_cell hx3 2).trans rfl
              clear hx3
              have hs3 : w.heap.size ≤ V1.heap.size := HB3.out.size
              go_wp2_with ((with_reducible refine gate_builtin (b := .append) (xs := #[.tmp 71, .tmp 73]) rfl ?_); at_builtin; refine OwnRow.append (R := k30.K w) (w0 := w) w.heap.size rfl (.tmp 71) (.tmp 73) 22 30 (.agg #[(.int .i64 0), (.int .i64 0), (.slice none 0 0)]) 3 40 rfl Try.underlying22 inf30 rfl (by decide) (by decide) (.slice (some od) os.length co) os x [.int .i64 x.f0, .int .i64 x.f1, .slice A2 x.f2.length c2] rfl rfl HK2.out rfl (k30.K_one HK2.out) HR3.out HB3.out hs3 (by omega) ?_; intro v4 w4 ho hb hg hat; have HO4 := Aside0.mk ho; have HB4 := Aside0.mk hb; clear ho hb hg hat)
              go_roundw
              case rel => exact ⟨i + 1, os ++ [x], hlt, by omega, by simp; omega, by go_num, ⟨x.f0, rfl, by omega⟩, ⟨x.f1, rfl⟩, HO4, ⟨fits_snoc hF.out HXM.out (by omega) (by omega)⟩, HB4⟩
              case measure => simp [intOf]; omega
          · refine wpAnyH_take (i := 0) (v := (.pointer (some ⟨gb, 0, none⟩))) rfl (by kernel_rfl) (by kernel_rfl) (by kernel_rfl) (fun _ _ _ h => h) (Or.inl ⟨by kernel_rfl, fun V hV => ?_⟩) (HSS.out _ HB0.out) ?_
            · obtain ⟨g0, g1, g2, m2⟩ := hV
              go_simp
            refine wpAnyH_take (i := 1) (v := (.int .i64 x.f0)) rfl (by kernel_rfl) (by kernel_rfl) (by kernel_rfl) (fun _ _ _ h => h) (Or.inl ⟨by kernel_rfl, fun V hV => ?_⟩) (HSS.out _ HB0.out) ?_
            · obtain ⟨g0, g1, g2, m2⟩ := hV
              go_simp
            refine wpAnyH_take (i := 2) (v := (.int .i64 sq)) rfl (by kernel_rfl) (by kernel_rfl) (by kernel_rfl) (fun _ _ _ h => h) (Or.inl ⟨by kernel_rfl, fun V hV => ?_⟩) (HSS.out _ HB0.out) ?_
            · obtain ⟨g0, g1, g2, m2⟩ := hV
              go_simp
            refine wpAnyH_take (i := 3) (v := (.bool false)) rfl (by kernel_rfl) (by kernel_rfl) (by kernel_rfl) (fun _ _ _ h => h) (Or.inl ⟨by kernel_rfl, fun V hV => ?_⟩) (HSS.out _ HB0.out) ?_
            · obtain ⟨g0, g1, g2, m2⟩ := hV
              go_simp
              all_goals first | done | omega | simp [h1] | exact List.eq_nil_of_length_eq_zero (by omega) | exact fun h8 => absurd (show List.length o0.f2 = 0 by rw [h8]; rfl) (by omega)
            refine wpAnyH_take (i := 4) (v := (.bool false)) rfl (by kernel_rfl) (by kernel_rfl) (by kernel_rfl) (fun _ _ _ h => h) (Or.inl ⟨by kernel_rfl, fun V hV => ?_⟩) (HSS.out _ HB0.out) ?_
            · obtain ⟨g0, g1, g2, m2⟩ := hV
              go_simp
            refine wpAnyH_take (i := 5) (v := (.pointer (some ⟨gb, 0, none⟩))) rfl (by kernel_rfl) (by kernel_rfl) (by kernel_rfl) (fun _ _ _ h => h) (Or.inl ⟨by kernel_rfl, fun V hV => ?_⟩) (HSS.out _ HB0.out) ?_
            · obtain ⟨g0, g1, g2, m2⟩ := hV
              go_simp
            refine wpAnyH_take (i := 6) (v := (.int .i64 x.f0)) rfl (by kernel_rfl) (by kernel_rfl) (by kernel_rfl) (fun _ _ _ h => h) (Or.inl ⟨by kernel_rfl, fun V hV => ?_⟩) (HSS.out _ HB0.out) ?_
            · obtain ⟨g0, g1, g2, m2⟩ := hV
              go_simp
            refine wpAnyH_take (i := 7) (v := (.bool false)) rfl (by kernel_rfl) (by kernel_rfl) (by kernel_rfl) (fun _ _ _ h => h) (Or.inl ⟨by kernel_rfl, fun V hV => ?_⟩) (HSS.out _ HB0.out) ?_
            · obtain ⟨g0, g1, g2, m2⟩ := hV
              go_simp
              all_goals first | done | omega | simp [h2] | exact List.eq_nil_of_length_eq_zero (by omega) | exact fun h8 => absurd (show List.length o0.f2 = 0 by rw [h8]; rfl) (by omega)
            refine wpAnyH_take (i := 8) (v := (.bool false)) rfl (by kernel_rfl) (by kernel_rfl) (by kernel_rfl) (fun _ _ _ h => h) (Or.inl ⟨by kernel_rfl, fun V hV => ?_⟩) (HSS.out _ HB0.out) ?_
            · obtain ⟨g0, g1, g2, m2⟩ := hV
              go_simp
            refine wpAnyH_take (i := 9) (v := (.bool false)) rfl (by kernel_rfl) (by kernel_rfl) (by kernel_rfl) (fun _ _ _ h => h) (Or.inl ⟨by kernel_rfl, fun V hV => ?_⟩) (HSS.out _ HB0.out) ?_
            · obtain ⟨g0, g1, g2, m2⟩ := hV
              go_simp
            refine wpAnyH_take (i := 10) (v := (.pointer (some ⟨gb, 1, none⟩))) rfl (by kernel_rfl) (by kernel_rfl) (by kernel_rfl) (fun _ _ _ h => h) (Or.inl ⟨by kernel_rfl, fun V hV => ?_⟩) (HSS.out _ HB0.out) ?_
            · obtain ⟨g0, g1, g2, m2⟩ := hV
              go_simp
            refine wpAnyH_take (i := 11) (v := (.int .i64 x.f1)) rfl (by kernel_rfl) (by kernel_rfl) (by kernel_rfl) (fun _ _ _ h => h) (Or.inl ⟨by kernel_rfl, fun V hV => ?_⟩) (HSS.out _ HB0.out) ?_
            · obtain ⟨g0, g1, g2, m2⟩ := hV
              go_simp
            refine wpAnyH_take (i := 12) (v := (.int .i64 tm)) rfl (by kernel_rfl) (by kernel_rfl) (by kernel_rfl) (fun _ _ _ h => h) (Or.inl ⟨by kernel_rfl, fun V hV => ?_⟩) (HSS.out _ HB0.out) ?_
            · obtain ⟨g0, g1, g2, m2⟩ := hV
              go_simp
            refine wpAnyH_take (i := 13) (v := (.bool false)) rfl (by kernel_rfl) (by kernel_rfl) (by kernel_rfl) (fun _ _ _ h => h) (Or.inl ⟨by kernel_rfl, fun V hV => ?_⟩) (HSS.out _ HB0.out) ?_
            · obtain ⟨g0, g1, g2, m2⟩ := hV
              go_simp
              all_goals first | done | omega | simp [h3] | exact List.eq_nil_of_length_eq_zero (by omega) | exact fun h8 => absurd (show List.length o0.f2 = 0 by rw [h8]; rfl) (by omega)
            refine wpAnyH_take (i := 14) (v := (.bool false)) rfl (by kernel_rfl) (by kernel_rfl) (by kernel_rfl) (fun _ _ _ h => h) (Or.inl ⟨by kernel_rfl, fun V hV => ?_⟩) (HSS.out _ HB0.out) ?_
            · obtain ⟨g0, g1, g2, m2⟩ := hV
              go_simp
            refine wpAnyH_take (i := 15) (v := (.bool false)) rfl (by kernel_rfl) (by kernel_rfl) (by kernel_rfl) (fun _ _ _ h => h) (Or.inl ⟨by kernel_rfl, fun V hV => ?_⟩) (HSS.out _ HB0.out) ?_
            · obtain ⟨g0, g1, g2, m2⟩ := hV
              go_simp
            refine wpAnyH_take (i := 16) (v := (.pointer (some ⟨gb, 1, none⟩))) rfl (by kernel_rfl) (by kernel_rfl) (by kernel_rfl) (fun _ _ _ h => h) (Or.inl ⟨by kernel_rfl, fun V hV => ?_⟩) (HSS.out _ HB0.out) ?_
            · obtain ⟨g0, g1, g2, m2⟩ := hV
              go_simp
            refine wpAnyH_take (i := 17) (v := (.int .i64 x.f1)) rfl (by kernel_rfl) (by kernel_rfl) (by kernel_rfl) (fun _ _ _ h => h) (Or.inl ⟨by kernel_rfl, fun V hV => ?_⟩) (HSS.out _ HB0.out) ?_
            · obtain ⟨g0, g1, g2, m2⟩ := hV
              go_simp
            refine wpAnyH_take (i := 18) (v := (.bool false)) rfl (by kernel_rfl) (by kernel_rfl) (by kernel_rfl) (fun _ _ _ h => h) (Or.inl ⟨by kernel_rfl, fun V hV => ?_⟩) (HSS.out _ HB0.out) ?_
            · obtain ⟨g0, g1, g2, m2⟩ := hV
              go_simp
              all_goals first | done | omega | simp [h4] | exact List.eq_nil_of_length_eq_zero (by omega) | exact fun h8 => absurd (show List.length o0.f2 = 0 by rw [h8]; rfl) (by omega)
            refine wpAnyH_take (i := 19) (v := (.bool false)) rfl (by kernel_rfl) (by kernel_rfl) (by kernel_rfl) (fun _ _ _ h => h) (Or.inl ⟨by kernel_rfl, fun V hV => ?_⟩) (HSS.out _ HB0.out) ?_
            · obtain ⟨g0, g1, g2, m2⟩ := hV
              go_simp
            refine wpAnyH_take (i := 20) (v := (.bool false)) rfl (by kernel_rfl) (by kernel_rfl) (by kernel_rfl) (fun _ _ _ h => h) (Or.inl ⟨by kernel_rfl, fun V hV => ?_⟩) (HSS.out _ HB0.out) ?_
            · obtain ⟨g0, g1, g2, m2⟩ := hV
              go_simp
            refine wpAnyH_take (i := 21) (v := (.slice (some od) os.length co)) rfl (by kernel_rfl) (by kernel_rfl) (by kernel_rfl) (fun _ _ _ h => h) (Or.inl ⟨by kernel_rfl, fun V hV => ?_⟩) (HSS.out _ HB0.out) ?_
            · obtain ⟨g0, g1, g2, m2⟩ := hV
              go_simp
            refine wpAnyH_take (i := 22) (v := (.int .i64 os.length)) rfl (by kernel_rfl) (by kernel_rfl) (by kernel_rfl) (fun _ _ _ h => h) (Or.inl ⟨by kernel_rfl, fun V hV => ?_⟩) (HSS.out _ HB0.out) ?_
            · obtain ⟨g0, g1, g2, m2⟩ := hV
              go_simp
            refine wpAnyH_take (i := 23) (v := (.bool true)) rfl (by kernel_rfl) (by kernel_rfl) (by kernel_rfl) (fun _ _ _ h => h) (Or.inl ⟨by kernel_rfl, fun V hV => ?_⟩) (HSS.out _ HB0.out) ?_
            · obtain ⟨g0, g1, g2, m2⟩ := hV
              go_simp
              all_goals first | done | omega | simp [h5] | exact List.eq_nil_of_length_eq_zero (by omega) | exact fun h8 => absurd (show List.length o0.f2 = 0 by rw [h8]; rfl) (by omega)
            refine wpAnyH_take (i := 24) (v := (.bool true)) rfl (by kernel_rfl) (by kernel_rfl) (by kernel_rfl) (fun _ _ _ h => h) (Or.inl ⟨by kernel_rfl, fun V hV => ?_⟩) (HSS.out _ HB0.out) ?_
            · obtain ⟨g0, g1, g2, m2⟩ := hV
              go_simp
            refine wpAnyH_take (i := 25) (v := (.pointer (some ⟨gb, 2, none⟩))) rfl (by kernel_rfl) (by kernel_rfl) (by kernel_rfl) (fun _ _ _ h => h) (Or.inl ⟨by kernel_rfl, fun V hV => ?_⟩) (HSS.out _ HB0.out) ?_
            · obtain ⟨g0, g1, g2, m2⟩ := hV
              go_simp
            refine wpAnyH_take (i := 26) (v := (.slice A2 x.f2.length c2)) rfl (by kernel_rfl) (by kernel_rfl) (by kernel_rfl) (fun _ _ _ h => h) (Or.inl ⟨by kernel_rfl, fun V hV => ?_⟩) (HSS.out _ HB0.out) ?_
            · obtain ⟨g0, g1, g2, m2⟩ := hV
              go_simp
            refine wpAnyH_take (i := 27) (v := (.int .i64 x.f2.length)) rfl (by kernel_rfl) (by kernel_rfl) (by kernel_rfl) (fun _ _ _ h => h) (Or.inl ⟨by kernel_rfl, fun V hV => ?_⟩) (HSS.out _ HB0.out) ?_
            · obtain ⟨g0, g1, g2, m2⟩ := hV
              go_simp
            refine wpAnyH_take (i := 28) (v := (.slice (some od) os.length co)) rfl (by kernel_rfl) (by kernel_rfl) (by kernel_rfl) (fun _ _ _ h => h) (Or.inl ⟨by kernel_rfl, fun V hV => ?_⟩) (HSS.out _ HB0.out) ?_
            · obtain ⟨g0, g1, g2, m2⟩ := hV
              go_simp
            refine wpAnyH_take (i := 29) (v := (.pointer (some od))) rfl (by kernel_rfl) (by kernel_rfl) (by kernel_rfl) (fun _ _ _ h => h) (Or.inl ⟨by kernel_rfl, fun V hV => ?_⟩) (HSS.out _ HB0.out) ?_
            · obtain ⟨g0, g1, g2, m2⟩ := hV
              go_simp
            refine wpAnyH_take (i := 30) (v := (.pointer (some ⟨od.block, od.off + 2, none⟩))) rfl (by kernel_rfl) (by kernel_rfl) (by kernel_rfl) (fun _ _ _ h => h) (Or.inl ⟨by kernel_rfl, fun V hV => ?_⟩) (HSS.out _ HB0.out) ?_
            · obtain ⟨g0, g1, g2, m2⟩ := hV
              go_simp
            refine wpAnyH_take (i := 31) (v := (.slice A0 o0.f2.length c0)) rfl (by kernel_rfl) (by kernel_rfl) (by kernel_rfl) (fun _ _ _ h => h) (Or.inl ⟨by kernel_rfl, fun V hV => ?_⟩) (HSS.out _ HB0.out) ?_
            · obtain ⟨g0, g1, g2, m2⟩ := hV
              go_simp
            refine wpAnyH_take (i := 32) (v := (.int .i64 o0.f2.length)) rfl (by kernel_rfl) (by kernel_rfl) (by kernel_rfl) (fun _ _ _ h => h) (Or.inl ⟨by kernel_rfl, fun V hV => ?_⟩) (HSS.out _ HB0.out) ?_
            · obtain ⟨g0, g1, g2, m2⟩ := hV
              go_simp
            refine wpAnyH_take (i := 33) (v := (.bool true)) rfl (by kernel_rfl) (by kernel_rfl) (by kernel_rfl) (fun _ _ _ h => h) (Or.inl ⟨by kernel_rfl, fun V hV => ?_⟩) (HSS.out _ HB0.out) ?_
            · obtain ⟨g0, g1, g2, m2⟩ := hV
              go_simp
              all_goals first | done | omega | simp [h6] | exact List.eq_nil_of_length_eq_zero (by omega) | exact fun h8 => absurd (show List.length o0.f2 = 0 by rw [h8]; rfl) (by omega)
            refine wpAnyH_take (i := 34) (v := (.bool true)) rfl (by kernel_rfl) (by kernel_rfl) (by kernel_rfl) (fun _ _ _ h => h) (Or.inl ⟨by kernel_rfl, fun V hV => ?_⟩) (HSS.out _ HB0.out) ?_
            · obtain ⟨g0, g1, g2, m2⟩ := hV
              go_simp
            refine wpAnyH_take (i := 35) (v := (.bool true)) rfl (by kernel_rfl) (by kernel_rfl) (by kernel_rfl) (fun _ _ _ h => h) (Or.inl ⟨by kernel_rfl, fun V hV => ?_⟩) (HSS.out _ HB0.out) ?_
            · obtain ⟨g0, g1, g2, m2⟩ := hV
              go_simp
            refine wpAnyH_take (i := 36) (v := (.bool true)) rfl (by kernel_rfl) (by kernel_rfl) (by kernel_rfl) (fun _ _ _ h => h) (Or.inl ⟨by kernel_rfl, fun V hV => ?_⟩) (HSS.out _ HB0.out) ?_
            · obtain ⟨g0, g1, g2, m2⟩ := hV
              go_simp
            refine wpAnyH_take (i := 37) (v := undef) rfl (by kernel_rfl) (by kernel_rfl) (by kernel_rfl) (fun _ _ _ h => h) (Or.inr ⟨by kernel_rfl, rfl⟩) (HSS.out _ HB0.out) ?_
            refine wpAnyH_take (i := 38) (v := undef) rfl (by kernel_rfl) (by kernel_rfl) (by kernel_rfl) (fun _ _ _ h => h) (Or.inr ⟨by kernel_rfl, rfl⟩) (HSS.out _ HB0.out) ?_
            refine wpAnyH_take (i := 39) (v := undef) rfl (by kernel_rfl) (by kernel_rfl) (by kernel_rfl) (fun _ _ _ h => h) (Or.inr ⟨by kernel_rfl, rfl⟩) (HSS.out _ HB0.out) ?_
            refine wpAnyH_take (i := 40) (v := undef) rfl (by kernel_rfl) (by kernel_rfl) (by kernel_rfl) (fun _ _ _ h => h) (Or.inr ⟨by kernel_rfl, rfl⟩) (HSS.out _ HB0.out) ?_
            refine wpAnyH_take (i := 41) (v := (.bool true)) rfl (by kernel_rfl) (by kernel_rfl) (by kernel_rfl) (fun _ _ _ h => h) (Or.inl ⟨by kernel_rfl, fun V hV => ?_⟩) (HSS.out _ HB0.out) ?_
            · obtain ⟨g0, g1, g2, m2⟩ := hV
              go_simp
            go_simp
            refine wpAnyH_done (by kernel_rfl) ?_ _
            go_wp2_with fail
            go_roundw
            case rel => exact (⟨i + 1, os, hlt, by omega, by omega, by go_num, ⟨sq, rfl, hsq⟩, ⟨tm, rfl⟩, HR1, hF, HB1⟩)
            case measure => simp [intOf]; omega
        · have HS : ∀ V, Below wa.heap.size wa V → (V.cell? ⟨gb, 0, none⟩ = some (.int .i64 x.f0) ∧ V.cell? ⟨gb, 1, none⟩ = some (.int .i64 x.f1) ∧ V.cell? ⟨gb, 2, none⟩ = some (.slice A2 x.f2.length c2)) := fun V hV => ⟨(blk_cell (blk_below HBX.out hV) 0).trans rfl, (blk_cell (blk_below HBX.out hV) 1).trans rfl, (blk_cell (blk_below HBX.out hV) 2).trans rfl⟩
          refine wp_region_held (S := fun V => V.cell? ⟨gb, 0, none⟩ = some (.int .i64 x.f0) ∧ V.cell? ⟨gb, 1, none⟩ = some (.int .i64 x.f1) ∧ V.cell? ⟨gb, 2, none⟩ = some (.slice A2 x.f2.length c2)) (by kernel_rfl) ?_
          obtain ⟨V0, hV0⟩ : ∃ V0 : World, V0 = { wa with drawn := wa.drawn + 1 } := ⟨_, rfl⟩
          have hB0 : Below wa.heap.size wa V0 := by rw [hV0]; exact ⟨rfl, rfl, rfl, Nat.le_refl _, fun _ _ => rfl⟩
          rw [← hV0]
          have HSS := Aside0.mk HS
          have HB0 := Aside0.mk hB0
          have HB1 := Aside0.mk (below_then HBa.out HBa.out.size hB0)
          have HR1 := Aside0.mk (HRa.out.below hB0)
          clear hV0 HS hB0
          by_cases h7 : x.f2.length = 0
          · refine wpAnyH_take (i := 0) (v := (.pointer (some ⟨gb, 0, none⟩))) rfl (by kernel_rfl) (by kernel_rfl) (by kernel_rfl) (fun _ _ _ h => h) (Or.inl ⟨by kernel_rfl, fun V hV => ?_⟩) (HSS.out _ HB0.out) ?_
            · obtain ⟨g0, g1, g2⟩ := hV
              go_simp
            refine wpAnyH_take (i := 1) (v := (.int .i64 x.f0)) rfl (by kernel_rfl) (by kernel_rfl) (by kernel_rfl) (fun _ _ _ h => h) (Or.inl ⟨by kernel_rfl, fun V hV => ?_⟩) (HSS.out _ HB0.out) ?_
            · obtain ⟨g0, g1, g2⟩ := hV
              go_simp
            refine wpAnyH_take (i := 2) (v := (.int .i64 sq)) rfl (by kernel_rfl) (by kernel_rfl) (by kernel_rfl) (fun _ _ _ h => h) (Or.inl ⟨by kernel_rfl, fun V hV => ?_⟩) (HSS.out _ HB0.out) ?_
            · obtain ⟨g0, g1, g2⟩ := hV
              go_simp
            refine wpAnyH_take (i := 3) (v := (.bool false)) rfl (by kernel_rfl) (by kernel_rfl) (by kernel_rfl) (fun _ _ _ h => h) (Or.inl ⟨by kernel_rfl, fun V hV => ?_⟩) (HSS.out _ HB0.out) ?_
            · obtain ⟨g0, g1, g2⟩ := hV
              go_simp
              all_goals first | done | omega | simp [h1] | exact List.eq_nil_of_length_eq_zero (by omega) | exact fun h8 => absurd (show List.length o0.f2 = 0 by rw [h8]; rfl) (by omega)
            refine wpAnyH_take (i := 4) (v := (.bool false)) rfl (by kernel_rfl) (by kernel_rfl) (by kernel_rfl) (fun _ _ _ h => h) (Or.inl ⟨by kernel_rfl, fun V hV => ?_⟩) (HSS.out _ HB0.out) ?_
            · obtain ⟨g0, g1, g2⟩ := hV
              go_simp
            refine wpAnyH_take (i := 5) (v := (.pointer (some ⟨gb, 0, none⟩))) rfl (by kernel_rfl) (by kernel_rfl) (by kernel_rfl) (fun _ _ _ h => h) (Or.inl ⟨by kernel_rfl, fun V hV => ?_⟩) (HSS.out _ HB0.out) ?_
            · obtain ⟨g0, g1, g2⟩ := hV
              go_simp
            refine wpAnyH_take (i := 6) (v := (.int .i64 x.f0)) rfl (by kernel_rfl) (by kernel_rfl) (by kernel_rfl) (fun _ _ _ h => h) (Or.inl ⟨by kernel_rfl, fun V hV => ?_⟩) (HSS.out _ HB0.out) ?_
            · obtain ⟨g0, g1, g2⟩ := hV
              go_simp
            refine wpAnyH_take (i := 7) (v := (.bool false)) rfl (by kernel_rfl) (by kernel_rfl) (by kernel_rfl) (fun _ _ _ h => h) (Or.inl ⟨by kernel_rfl, fun V hV => ?_⟩) (HSS.out _ HB0.out) ?_
            · obtain ⟨g0, g1, g2⟩ := hV
              go_simp
              all_goals first | done | omega | simp [h2] | exact List.eq_nil_of_length_eq_zero (by omega) | exact fun h8 => absurd (show List.length o0.f2 = 0 by rw [h8]; rfl) (by omega)
            refine wpAnyH_take (i := 8) (v := (.bool false)) rfl (by kernel_rfl) (by kernel_rfl) (by kernel_rfl) (fun _ _ _ h => h) (Or.inl ⟨by kernel_rfl, fun V hV => ?_⟩) (HSS.out _ HB0.out) ?_
            · obtain ⟨g0, g1, g2⟩ := hV
              go_simp
            refine wpAnyH_take (i := 9) (v := (.bool false)) rfl (by kernel_rfl) (by kernel_rfl) (by kernel_rfl) (fun _ _ _ h => h) (Or.inl ⟨by kernel_rfl, fun V hV => ?_⟩) (HSS.out _ HB0.out) ?_
            · obtain ⟨g0, g1, g2⟩ := hV
              go_simp
            refine wpAnyH_take (i := 10) (v := (.pointer (some ⟨gb, 1, none⟩))) rfl (by kernel_rfl) (by kernel_rfl) (by kernel_rfl) (fun _ _ _ h => h) (Or.inl ⟨by kernel_rfl, fun V hV => ?_⟩) (HSS.out _ HB0.out) ?_
            · obtain ⟨g0, g1, g2⟩ := hV
              go_simp
            refine wpAnyH_take (i := 11) (v := (.int .i64 x.f1)) rfl (by kernel_rfl) (by kernel_rfl) (by kernel_rfl) (fun _ _ _ h => h) (Or.inl ⟨by kernel_rfl, fun V hV => ?_⟩) (HSS.out _ HB0.out) ?_
            · obtain ⟨g0, g1, g2⟩ := hV
              go_simp
            refine wpAnyH_take (i := 12) (v := (.int .i64 tm)) rfl (by kernel_rfl) (by kernel_rfl) (by kernel_rfl) (fun _ _ _ h => h) (Or.inl ⟨by kernel_rfl, fun V hV => ?_⟩) (HSS.out _ HB0.out) ?_
            · obtain ⟨g0, g1, g2⟩ := hV
              go_simp
            refine wpAnyH_take (i := 13) (v := (.bool false)) rfl (by kernel_rfl) (by kernel_rfl) (by kernel_rfl) (fun _ _ _ h => h) (Or.inl ⟨by kernel_rfl, fun V hV => ?_⟩) (HSS.out _ HB0.out) ?_
            · obtain ⟨g0, g1, g2⟩ := hV
              go_simp
              all_goals first | done | omega | simp [h3] | exact List.eq_nil_of_length_eq_zero (by omega) | exact fun h8 => absurd (show List.length o0.f2 = 0 by rw [h8]; rfl) (by omega)
            refine wpAnyH_take (i := 14) (v := (.bool false)) rfl (by kernel_rfl) (by kernel_rfl) (by kernel_rfl) (fun _ _ _ h => h) (Or.inl ⟨by kernel_rfl, fun V hV => ?_⟩) (HSS.out _ HB0.out) ?_
            · obtain ⟨g0, g1, g2⟩ := hV
              go_simp
            refine wpAnyH_take (i := 15) (v := (.bool false)) rfl (by kernel_rfl) (by kernel_rfl) (by kernel_rfl) (fun _ _ _ h => h) (Or.inl ⟨by kernel_rfl, fun V hV => ?_⟩) (HSS.out _ HB0.out) ?_
            · obtain ⟨g0, g1, g2⟩ := hV
              go_simp
            refine wpAnyH_take (i := 16) (v := (.pointer (some ⟨gb, 1, none⟩))) rfl (by kernel_rfl) (by kernel_rfl) (by kernel_rfl) (fun _ _ _ h => h) (Or.inl ⟨by kernel_rfl, fun V hV => ?_⟩) (HSS.out _ HB0.out) ?_
            · obtain ⟨g0, g1, g2⟩ := hV
              go_simp
            refine wpAnyH_take (i := 17) (v := (.int .i64 x.f1)) rfl (by kernel_rfl) (by kernel_rfl) (by kernel_rfl) (fun _ _ _ h => h) (Or.inl ⟨by kernel_rfl, fun V hV => ?_⟩) (HSS.out _ HB0.out) ?_
            · obtain ⟨g0, g1, g2⟩ := hV
              go_simp
            refine wpAnyH_take (i := 18) (v := (.bool false)) rfl (by kernel_rfl) (by kernel_rfl) (by kernel_rfl) (fun _ _ _ h => h) (Or.inl ⟨by kernel_rfl, fun V hV => ?_⟩) (HSS.out _ HB0.out) ?_
            · obtain ⟨g0, g1, g2⟩ := hV
              go_simp
              all_goals first | done | omega | simp [h4] | exact List.eq_nil_of_length_eq_zero (by omega) | exact fun h8 => absurd (show List.length o0.f2 = 0 by rw [h8]; rfl) (by omega)
            refine wpAnyH_take (i := 19) (v := (.bool false)) rfl (by kernel_rfl) (by kernel_rfl) (by kernel_rfl) (fun _ _ _ h => h) (Or.inl ⟨by kernel_rfl, fun V hV => ?_⟩) (HSS.out _ HB0.out) ?_
            · obtain ⟨g0, g1, g2⟩ := hV
              go_simp
            refine wpAnyH_take (i := 20) (v := (.bool false)) rfl (by kernel_rfl) (by kernel_rfl) (by kernel_rfl) (fun _ _ _ h => h) (Or.inl ⟨by kernel_rfl, fun V hV => ?_⟩) (HSS.out _ HB0.out) ?_
            · obtain ⟨g0, g1, g2⟩ := hV
              go_simp
            refine wpAnyH_take (i := 21) (v := (.slice Ao os.length co)) rfl (by kernel_rfl) (by kernel_rfl) (by kernel_rfl) (fun _ _ _ h => h) (Or.inl ⟨by kernel_rfl, fun V hV => ?_⟩) (HSS.out _ HB0.out) ?_
            · obtain ⟨g0, g1, g2⟩ := hV
              go_simp
            refine wpAnyH_take (i := 22) (v := (.int .i64 os.length)) rfl (by kernel_rfl) (by kernel_rfl) (by kernel_rfl) (fun _ _ _ h => h) (Or.inl ⟨by kernel_rfl, fun V hV => ?_⟩) (HSS.out _ HB0.out) ?_
            · obtain ⟨g0, g1, g2⟩ := hV
              go_simp
            refine wpAnyH_take (i := 23) (v := (.bool false)) rfl (by kernel_rfl) (by kernel_rfl) (by kernel_rfl) (fun _ _ _ h => h) (Or.inl ⟨by kernel_rfl, fun V hV => ?_⟩) (HSS.out _ HB0.out) ?_
            · obtain ⟨g0, g1, g2⟩ := hV
              go_simp
              all_goals first | done | omega | simp [h5] | exact List.eq_nil_of_length_eq_zero (by omega) | exact fun h8 => absurd (show List.length o0.f2 = 0 by rw [h8]; rfl) (by omega)
            refine wpAnyH_take (i := 24) (v := (.bool false)) rfl (by kernel_rfl) (by kernel_rfl) (by kernel_rfl) (fun _ _ _ h => h) (Or.inl ⟨by kernel_rfl, fun V hV => ?_⟩) (HSS.out _ HB0.out) ?_
            · obtain ⟨g0, g1, g2⟩ := hV
              go_simp
            refine wpAnyH_take (i := 25) (v := undef) rfl (by kernel_rfl) (by kernel_rfl) (by kernel_rfl) (fun _ _ _ h => h) (Or.inr ⟨by kernel_rfl, rfl⟩) (HSS.out _ HB0.out) ?_
            refine wpAnyH_take (i := 26) (v := undef) rfl (by kernel_rfl) (by kernel_rfl) (by kernel_rfl) (fun _ _ _ h => h) (Or.inr ⟨by kernel_rfl, rfl⟩) (HSS.out _ HB0.out) ?_
            refine wpAnyH_take (i := 27) (v := undef) rfl (by kernel_rfl) (by kernel_rfl) (by kernel_rfl) (fun _ _ _ h => h) (Or.inr ⟨by kernel_rfl, rfl⟩) (HSS.out _ HB0.out) ?_
            refine wpAnyH_take (i := 28) (v := undef) rfl (by kernel_rfl) (by kernel_rfl) (by kernel_rfl) (fun _ _ _ h => h) (Or.inr ⟨by kernel_rfl, rfl⟩) (HSS.out _ HB0.out) ?_
            refine wpAnyH_take (i := 29) (v := undef) rfl (by kernel_rfl) (by kernel_rfl) (by kernel_rfl) (fun _ _ _ h => h) (Or.inr ⟨by kernel_rfl, rfl⟩) (HSS.out _ HB0.out) ?_
            refine wpAnyH_take (i := 30) (v := undef) rfl (by kernel_rfl) (by kernel_rfl) (by kernel_rfl) (fun _ _ _ h => h) (Or.inr ⟨by kernel_rfl, rfl⟩) (HSS.out _ HB0.out) ?_
            refine wpAnyH_take (i := 31) (v := undef) rfl (by kernel_rfl) (by kernel_rfl) (by kernel_rfl) (fun _ _ _ h => h) (Or.inr ⟨by kernel_rfl, rfl⟩) (HSS.out _ HB0.out) ?_
            refine wpAnyH_take (i := 32) (v := undef) rfl (by kernel_rfl) (by kernel_rfl) (by kernel_rfl) (fun _ _ _ h => h) (Or.inr ⟨by kernel_rfl, rfl⟩) (HSS.out _ HB0.out) ?_
            refine wpAnyH_take (i := 33) (v := undef) rfl (by kernel_rfl) (by kernel_rfl) (by kernel_rfl) (fun _ _ _ h => h) (Or.inr ⟨by kernel_rfl, rfl⟩) (HSS.out _ HB0.out) ?_
            refine wpAnyH_take (i := 34) (v := (.bool false)) rfl (by kernel_rfl) (by kernel_rfl) (by kernel_rfl) (fun _ _ _ h => h) (Or.inl ⟨by kernel_rfl, fun V hV => ?_⟩) (HSS.out _ HB0.out) ?_
            · obtain ⟨g0, g1, g2⟩ := hV
              go_simp
            refine wpAnyH_take (i := 35) (v := (.bool false)) rfl (by kernel_rfl) (by kernel_rfl) (by kernel_rfl) (fun _ _ _ h => h) (Or.inl ⟨by kernel_rfl, fun V hV => ?_⟩) (HSS.out _ HB0.out) ?_
            · obtain ⟨g0, g1, g2⟩ := hV
              go_simp
            refine wpAnyH_take (i := 36) (v := (.bool false)) rfl (by kernel_rfl) (by kernel_rfl) (by kernel_rfl) (fun _ _ _ h => h) (Or.inl ⟨by kernel_rfl, fun V hV => ?_⟩) (HSS.out _ HB0.out) ?_
            · obtain ⟨g0, g1, g2⟩ := hV
              go_simp
            refine wpAnyH_take (i := 37) (v := (.pointer (some ⟨gb, 2, none⟩))) rfl (by kernel_rfl) (by kernel_rfl) (by kernel_rfl) (fun _ _ _ h => h) (Or.inl ⟨by kernel_rfl, fun V hV => ?_⟩) (HSS.out _ HB0.out) ?_
            · obtain ⟨g0, g1, g2⟩ := hV
              go_simp
            refine wpAnyH_take (i := 38) (v := (.slice A2 x.f2.length c2)) rfl (by kernel_rfl) (by kernel_rfl) (by kernel_rfl) (fun _ _ _ h => h) (Or.inl ⟨by kernel_rfl, fun V hV => ?_⟩) (HSS.out _ HB0.out) ?_
            · obtain ⟨g0, g1, g2⟩ := hV
              go_simp
            refine wpAnyH_take (i := 39) (v := (.int .i64 x.f2.length)) rfl (by kernel_rfl) (by kernel_rfl) (by kernel_rfl) (fun _ _ _ h => h) (Or.inl ⟨by kernel_rfl, fun V hV => ?_⟩) (HSS.out _ HB0.out) ?_
            · obtain ⟨g0, g1, g2⟩ := hV
              go_simp
            refine wpAnyH_take (i := 40) (v := (.bool true)) rfl (by kernel_rfl) (by kernel_rfl) (by kernel_rfl) (fun _ _ _ h => h) (Or.inl ⟨by kernel_rfl, fun V hV => ?_⟩) (HSS.out _ HB0.out) ?_
            · obtain ⟨g0, g1, g2⟩ := hV
              go_simp
              all_goals first | done | omega | simp [h7] | exact List.eq_nil_of_length_eq_zero (by omega) | exact fun h8 => absurd (show List.length o0.f2 = 0 by rw [h8]; rfl) (by omega)
            refine wpAnyH_take (i := 41) (v := (.bool true)) rfl (by kernel_rfl) (by kernel_rfl) (by kernel_rfl) (fun _ _ _ h => h) (Or.inl ⟨by kernel_rfl, fun V hV => ?_⟩) (HSS.out _ HB0.out) ?_
            · obtain ⟨g0, g1, g2⟩ := hV
              go_simp
            go_simp
            refine wpAnyH_done (by kernel_rfl) ?_ _
            go_wp2_with fail
            go_roundw
            case rel => exact (⟨i + 1, os, hlt, by omega, by omega, by go_num, ⟨sq, rfl, hsq⟩, ⟨tm, rfl⟩, HR1, hF, HB1⟩)
            case measure => simp [intOf]; omega
          · refine wpAnyH_take (i := 0) (v := (.pointer (some ⟨gb, 0, none⟩))) rfl (by kernel_rfl) (by kernel_rfl) (by kernel_rfl) (fun _ _ _ h => h) (Or.inl ⟨by kernel_rfl, fun V hV => ?_⟩) (HSS.out _ HB0.out) ?_
            · obtain ⟨g0, g1, g2⟩ := hV
              go_simp
            refine wpAnyH_take (i := 1) (v := (.int .i64 x.f0)) rfl (by kernel_rfl) (by kernel_rfl) (by kernel_rfl) (fun _ _ _ h => h) (Or.inl ⟨by kernel_rfl, fun V hV => ?_⟩) (HSS.out _ HB0.out) ?_
            · obtain ⟨g0, g1, g2⟩ := hV
              go_simp
            refine wpAnyH_take (i := 2) (v := (.int .i64 sq)) rfl (by kernel_rfl) (by kernel_rfl) (by kernel_rfl) (fun _ _ _ h => h) (Or.inl ⟨by kernel_rfl, fun V hV => ?_⟩) (HSS.out _ HB0.out) ?_
            · obtain ⟨g0, g1, g2⟩ := hV
              go_simp
            refine wpAnyH_take (i := 3) (v := (.bool false)) rfl (by kernel_rfl) (by kernel_rfl) (by kernel_rfl) (fun _ _ _ h => h) (Or.inl ⟨by kernel_rfl, fun V hV => ?_⟩) (HSS.out _ HB0.out) ?_
            · obtain ⟨g0, g1, g2⟩ := hV
              go_simp
              all_goals first | done | omega | simp [h1] | exact List.eq_nil_of_length_eq_zero (by omega) | exact fun h8 => absurd (show List.length o0.f2 = 0 by rw [h8]; rfl) (by omega)
            refine wpAnyH_take (i := 4) (v := (.bool false)) rfl (by kernel_rfl) (by kernel_rfl) (by kernel_rfl) (fun _ _ _ h => h) (Or.inl ⟨by kernel_rfl, fun V hV => ?_⟩) (HSS.out _ HB0.out) ?_
            · obtain ⟨g0, g1, g2⟩ := hV
              go_simp
            refine wpAnyH_take (i := 5) (v := (.pointer (some ⟨gb, 0, none⟩))) rfl (by kernel_rfl) (by kernel_rfl) (by kernel_rfl) (fun _ _ _ h => h) (Or.inl ⟨by kernel_rfl, fun V hV => ?_⟩) (HSS.out _ HB0.out) ?_
            · obtain ⟨g0, g1, g2⟩ := hV
              go_simp
            refine wpAnyH_take (i := 6) (v := (.int .i64 x.f0)) rfl (by kernel_rfl) (by kernel_rfl) (by kernel_rfl) (fun _ _ _ h => h) (Or.inl ⟨by kernel_rfl, fun V hV => ?_⟩) (HSS.out _ HB0.out) ?_
            · obtain ⟨g0, g1, g2⟩ := hV
              go_simp
            refine wpAnyH_take (i := 7) (v := (.bool false)) rfl (by kernel_rfl) (by kernel_rfl) (by kernel_rfl) (fun _ _ _ h => h) (Or.inl ⟨by kernel_rfl, fun V hV => ?_⟩) (HSS.out _ HB0.out) ?_
            · obtain ⟨g0, g1, g2⟩ := hV
              go_simp
              all_goals first | done | omega | simp [h2] | exact List.eq_nil_of_length_eq_zero (by omega) | exact fun h8 => absurd (show List.length o0.f2 = 0 by rw [h8]; rfl) (by omega)
            refine wpAnyH_take (i := 8) (v := (.bool false)) rfl (by kernel_rfl) (by kernel_rfl) (by kernel_rfl) (fun _ _ _ h => h) (Or.inl ⟨by kernel_rfl, fun V hV => ?_⟩) (HSS.out _ HB0.out) ?_
            · obtain ⟨g0, g1, g2⟩ := hV
              go_simp
            refine wpAnyH_take (i := 9) (v := (.bool false)) rfl (by kernel_rfl) (by kernel_rfl) (by kernel_rfl) (fun _ _ _ h => h) (Or.inl ⟨by kernel_rfl, fun V hV => ?_⟩) (HSS.out _ HB0.out) ?_
            · obtain ⟨g0, g1, g2⟩ := hV
              go_simp
            refine wpAnyH_take (i := 10) (v := (.pointer (some ⟨gb, 1, none⟩))) rfl (by kernel_rfl) (by kernel_rfl) (by kernel_rfl) (fun _ _ _ h => h) (Or.inl ⟨by kernel_rfl, fun V hV => ?_⟩) (HSS.out _ HB0.out) ?_
            · obtain ⟨g0, g1, g2⟩ := hV
              go_simp
            refine wpAnyH_take (i := 11) (v := (.int .i64 x.f1)) rfl (by kernel_rfl) (by kernel_rfl) (by kernel_rfl) (fun _ _ _ h => h) (Or.inl ⟨by kernel_rfl, fun V hV => ?_⟩) (HSS.out _ HB0.out) ?_
            · obtain ⟨g0, g1, g2⟩ := hV
              go_simp
            refine wpAnyH_take (i := 12) (v := (.int .i64 tm)) rfl (by kernel_rfl) (by kernel_rfl) (by kernel_rfl) (fun _ _ _ h => h) (Or.inl ⟨by kernel_rfl, fun V hV => ?_⟩) (HSS.out _ HB0.out) ?_
            · obtain ⟨g0, g1, g2⟩ := hV
              go_simp
            refine wpAnyH_take (i := 13) (v := (.bool false)) rfl (by kernel_rfl) (by kernel_rfl) (by kernel_rfl) (fun _ _ _ h => h) (Or.inl ⟨by kernel_rfl, fun V hV => ?_⟩) (HSS.out _ HB0.out) ?_
            · obtain ⟨g0, g1, g2⟩ := hV
              go_simp
              all_goals first | done | omega | simp [h3] | exact List.eq_nil_of_length_eq_zero (by omega) | exact fun h8 => absurd (show List.length o0.f2 = 0 by rw [h8]; rfl) (by omega)
            refine wpAnyH_take (i := 14) (v := (.bool false)) rfl (by kernel_rfl) (by kernel_rfl) (by kernel_rfl) (fun _ _ _ h => h) (Or.inl ⟨by kernel_rfl, fun V hV => ?_⟩) (HSS.out _ HB0.out) ?_
            · obtain ⟨g0, g1, g2⟩ := hV
              go_simp
            refine wpAnyH_take (i := 15) (v := (.bool false)) rfl (by kernel_rfl) (by kernel_rfl) (by kernel_rfl) (fun _ _ _ h => h) (Or.inl ⟨by kernel_rfl, fun V hV => ?_⟩) (HSS.out _ HB0.out) ?_
            · obtain ⟨g0, g1, g2⟩ := hV
              go_simp
            refine wpAnyH_take (i := 16) (v := (.pointer (some ⟨gb, 1, none⟩))) rfl (by kernel_rfl) (by kernel_rfl) (by kernel_rfl) (fun _ _ _ h => h) (Or.inl ⟨by kernel_rfl, fun V hV => ?_⟩) (HSS.out _ HB0.out) ?_
            · obtain ⟨g0, g1, g2⟩ := hV
              go_simp
            refine wpAnyH_take (i := 17) (v := (.int .i64 x.f1)) rfl (by kernel_rfl) (by kernel_rfl) (by kernel_rfl) (fun _ _ _ h => h) (Or.inl ⟨by kernel_rfl, fun V hV => ?_⟩) (HSS.out _ HB0.out) ?_
            · obtain ⟨g0, g1, g2⟩ := hV
              go_simp
            refine wpAnyH_take (i := 18) (v := (.bool false)) rfl (by kernel_rfl) (by kernel_rfl) (by kernel_rfl) (fun _ _ _ h => h) (Or.inl ⟨by kernel_rfl, fun V hV => ?_⟩) (HSS.out _ HB0.out) ?_
            · obtain ⟨g0, g1, g2⟩ := hV
              go_simp
              all_goals first | done | omega | simp [h4] | exact List.eq_nil_of_length_eq_zero (by omega) | exact fun h8 => absurd (show List.length o0.f2 = 0 by rw [h8]; rfl) (by omega)
            refine wpAnyH_take (i := 19) (v := (.bool false)) rfl (by kernel_rfl) (by kernel_rfl) (by kernel_rfl) (fun _ _ _ h => h) (Or.inl ⟨by kernel_rfl, fun V hV => ?_⟩) (HSS.out _ HB0.out) ?_
            · obtain ⟨g0, g1, g2⟩ := hV
              go_simp
            refine wpAnyH_take (i := 20) (v := (.bool false)) rfl (by kernel_rfl) (by kernel_rfl) (by kernel_rfl) (fun _ _ _ h => h) (Or.inl ⟨by kernel_rfl, fun V hV => ?_⟩) (HSS.out _ HB0.out) ?_
            · obtain ⟨g0, g1, g2⟩ := hV
              go_simp
            refine wpAnyH_take (i := 21) (v := (.slice Ao os.length co)) rfl (by kernel_rfl) (by kernel_rfl) (by kernel_rfl) (fun _ _ _ h => h) (Or.inl ⟨by kernel_rfl, fun V hV => ?_⟩) (HSS.out _ HB0.out) ?_
            · obtain ⟨g0, g1, g2⟩ := hV
              go_simp
            refine wpAnyH_take (i := 22) (v := (.int .i64 os.length)) rfl (by kernel_rfl) (by kernel_rfl) (by kernel_rfl) (fun _ _ _ h => h) (Or.inl ⟨by kernel_rfl, fun V hV => ?_⟩) (HSS.out _ HB0.out) ?_
            · obtain ⟨g0, g1, g2⟩ := hV
              go_simp
            refine wpAnyH_take (i := 23) (v := (.bool false)) rfl (by kernel_rfl) (by kernel_rfl) (by kernel_rfl) (fun _ _ _ h => h) (Or.inl ⟨by kernel_rfl, fun V hV => ?_⟩) (HSS.out _ HB0.out) ?_
            · obtain ⟨g0, g1, g2⟩ := hV
              go_simp
              all_goals first | done | omega | simp [h5] | exact List.eq_nil_of_length_eq_zero (by omega) | exact fun h8 => absurd (show List.length o0.f2 = 0 by rw [h8]; rfl) (by omega)
            refine wpAnyH_take (i := 24) (v := (.bool false)) rfl (by kernel_rfl) (by kernel_rfl) (by kernel_rfl) (fun _ _ _ h => h) (Or.inl ⟨by kernel_rfl, fun V hV => ?_⟩) (HSS.out _ HB0.out) ?_
            · obtain ⟨g0, g1, g2⟩ := hV
              go_simp
            refine wpAnyH_take (i := 25) (v := undef) rfl (by kernel_rfl) (by kernel_rfl) (by kernel_rfl) (fun _ _ _ h => h) (Or.inr ⟨by kernel_rfl, rfl⟩) (HSS.out _ HB0.out) ?_
            refine wpAnyH_take (i := 26) (v := undef) rfl (by kernel_rfl) (by kernel_rfl) (by kernel_rfl) (fun _ _ _ h => h) (Or.inr ⟨by kernel_rfl, rfl⟩) (HSS.out _ HB0.out) ?_
            refine wpAnyH_take (i := 27) (v := undef) rfl (by kernel_rfl) (by kernel_rfl) (by kernel_rfl) (fun _ _ _ h => h) (Or.inr ⟨by kernel_rfl, rfl⟩) (HSS.out _ HB0.out) ?_
            refine wpAnyH_take (i := 28) (v := undef) rfl (by kernel_rfl) (by kernel_rfl) (by kernel_rfl) (fun _ _ _ h => h) (Or.inr ⟨by kernel_rfl, rfl⟩) (HSS.out _ HB0.out) ?_
            refine wpAnyH_take (i := 29) (v := undef) rfl (by kernel_rfl) (by kernel_rfl) (by kernel_rfl) (fun _ _ _ h => h) (Or.inr ⟨by kernel_rfl, rfl⟩) (HSS.out _ HB0.out) ?_
            refine wpAnyH_take (i := 30) (v := undef) rfl (by kernel_rfl) (by kernel_rfl) (by kernel_rfl) (fun _ _ _ h => h) (Or.inr ⟨by kernel_rfl, rfl⟩) (HSS.out _ HB0.out) ?_
            refine wpAnyH_take (i := 31) (v := undef) rfl (by kernel_rfl) (by kernel_rfl) (by kernel_rfl) (fun _ _ _ h => h) (Or.inr ⟨by kernel_rfl, rfl⟩) (HSS.out _ HB0.out) ?_
            refine wpAnyH_take (i := 32) (v := undef) rfl (by kernel_rfl) (by kernel_rfl) (by kernel_rfl) (fun _ _ _ h => h) (Or.inr ⟨by kernel_rfl, rfl⟩) (HSS.out _ HB0.out) ?_
            refine wpAnyH_take (i := 33) (v := undef) rfl (by kernel_rfl) (by kernel_rfl) (by kernel_rfl) (fun _ _ _ h => h) (Or.inr ⟨by kernel_rfl, rfl⟩) (HSS.out _ HB0.out) ?_
            refine wpAnyH_take (i := 34) (v := (.bool false)) rfl (by kernel_rfl) (by kernel_rfl) (by kernel_rfl) (fun _ _ _ h => h) (Or.inl ⟨by kernel_rfl, fun V hV => ?_⟩) (HSS.out _ HB0.out) ?_
            · obtain ⟨g0, g1, g2⟩ := hV
              go_simp
            refine wpAnyH_take (i := 35) (v := (.bool false)) rfl (by kernel_rfl) (by kernel_rfl) (by kernel_rfl) (fun _ _ _ h => h) (Or.inl ⟨by kernel_rfl, fun V hV => ?_⟩) (HSS.out _ HB0.out) ?_
            · obtain ⟨g0, g1, g2⟩ := hV
              go_simp
            refine wpAnyH_take (i := 36) (v := (.bool false)) rfl (by kernel_rfl) (by kernel_rfl) (by kernel_rfl) (fun _ _ _ h => h) (Or.inl ⟨by kernel_rfl, fun V hV => ?_⟩) (HSS.out _ HB0.out) ?_
            · obtain ⟨g0, g1, g2⟩ := hV
              go_simp
            refine wpAnyH_take (i := 37) (v := (.pointer (some ⟨gb, 2, none⟩))) rfl (by kernel_rfl) (by kernel_rfl) (by kernel_rfl) (fun _ _ _ h => h) (Or.inl ⟨by kernel_rfl, fun V hV => ?_⟩) (HSS.out _ HB0.out) ?_
            · obtain ⟨g0, g1, g2⟩ := hV
              go_simp
            refine wpAnyH_take (i := 38) (v := (.slice A2 x.f2.length c2)) rfl (by kernel_rfl) (by kernel_rfl) (by kernel_rfl) (fun _ _ _ h => h) (Or.inl ⟨by kernel_rfl, fun V hV => ?_⟩) (HSS.out _ HB0.out) ?_
            · obtain ⟨g0, g1, g2⟩ := hV
              go_simp
            refine wpAnyH_take (i := 39) (v := (.int .i64 x.f2.length)) rfl (by kernel_rfl) (by kernel_rfl) (by kernel_rfl) (fun _ _ _ h => h) (Or.inl ⟨by kernel_rfl, fun V hV => ?_⟩) (HSS.out _ HB0.out) ?_
            · obtain ⟨g0, g1, g2⟩ := hV
              go_simp
            refine wpAnyH_take (i := 40) (v := (.bool false)) rfl (by kernel_rfl) (by kernel_rfl) (by kernel_rfl) (fun _ _ _ h => h) (Or.inl ⟨by kernel_rfl, fun V hV => ?_⟩) (HSS.out _ HB0.out) ?_
            · obtain ⟨g0, g1, g2⟩ := hV
              go_simp
              all_goals first | done | omega | simp [h7] | exact List.eq_nil_of_length_eq_zero (by omega) | exact fun h8 => absurd (show List.length o0.f2 = 0 by rw [h8]; rfl) (by omega)
            refine wpAnyH_take (i := 41) (v := (.bool false)) rfl (by kernel_rfl) (by kernel_rfl) (by kernel_rfl) (fun _ _ _ h => h) (Or.inl ⟨by kernel_rfl, fun V hV => ?_⟩) (HSS.out _ HB0.out) ?_
            · obtain ⟨g0, g1, g2⟩ := hV
              go_simp
            go_simp
            refine wpAnyH_done (by kernel_rfl) ?_ _
            go_wp2_with fail
            have HBX1 := Aside0.mk (blk_below HBX.out HB0.out)
            have HS : ∀ V, Below V0.heap.size V0 V → (V.cell? ⟨gb, 0, none⟩ = some (.int .i64 x.f0) ∧ V.cell? ⟨gb, 1, none⟩ = some (.int .i64 x.f1)) := fun V hV => ⟨(blk_cell (blk_below HBX1.out hV) 0).trans rfl, (blk_cell (blk_below HBX1.out hV) 1).trans rfl⟩
            refine wp_region_held (S := fun V => V.cell? ⟨gb, 0, none⟩ = some (.int .i64 x.f0) ∧ V.cell? ⟨gb, 1, none⟩ = some (.int .i64 x.f1)) (by kernel_rfl) ?_
            obtain ⟨V1, hV1⟩ : ∃ V1 : World, V1 = { V0 with drawn := V0.drawn + 1 } := ⟨_, rfl⟩
            have hB2 : Below V0.heap.size V0 V1 := by rw [hV1]; exact ⟨rfl, rfl, rfl, Nat.le_refl _, fun _ _ => rfl⟩
            rw [← hV1]
            have HS1 := Aside0.mk HS
            have HB2 := Aside0.mk hB2
            have HB3 := Aside0.mk (below_then HB1.out HB1.out.size hB2)
            have HR3 := Aside0.mk (HR1.out.below hB2)
            clear hV1 HS hB2
            refine wpAnyH_take (i := 0) (v := (.pointer (some ⟨gb, 0, none⟩))) rfl (by kernel_rfl) (by kernel_rfl) (by kernel_rfl) (fun _ _ _ h => h) (Or.inl ⟨rfl, fun V hV => ?_⟩) (HS1.out _ HB2.out) ?_
            · obtain ⟨p0, p1⟩ := hV
              go_simp
            refine wpAnyH_take (i := 1) (v := (.int .i64 x.f0)) rfl (by kernel_rfl) (by kernel_rfl) (by kernel_rfl) (fun _ _ _ h => h) (Or.inl ⟨rfl, fun V hV => ?_⟩) (HS1.out _ HB2.out) ?_
            · obtain ⟨p0, p1⟩ := hV
              go_simp
            refine wpAnyH_take (i := 2) (v := (.pointer (some ⟨gb, 1, none⟩))) rfl (by kernel_rfl) (by kernel_rfl) (by kernel_rfl) (fun _ _ _ h => h) (Or.inl ⟨rfl, fun V hV => ?_⟩) (HS1.out _ HB2.out) ?_
            · obtain ⟨p0, p1⟩ := hV
              go_simp
            refine wpAnyH_take (i := 3) (v := (.int .i64 x.f1)) rfl (by kernel_rfl) (by kernel_rfl) (by kernel_rfl) (fun _ _ _ h => h) (Or.inl ⟨rfl, fun V hV => ?_⟩) (HS1.out _ HB2.out) ?_
            · obtain ⟨p0, p1⟩ := hV
              go_simp
            refine wpAnyH_take (i := 4) (v := (.int .i64 x.f0)) rfl (by kernel_rfl) (by kernel_rfl) (by kernel_rfl) (fun _ _ _ h => h) (Or.inl ⟨rfl, fun V hV => ?_⟩) (HS1.out _ HB2.out) ?_
            · obtain ⟨p0, p1⟩ := hV
              go_simp
            refine wpAnyH_take (i := 5) (v := (.int .i64 x.f1)) rfl (by kernel_rfl) (by kernel_rfl) (by kernel_rfl) (fun _ _ _ h => h) (Or.inl ⟨rfl, fun V hV => ?_⟩) (HS1.out _ HB2.out) ?_
            · obtain ⟨p0, p1⟩ := hV
              go_simp
            go_simp
            refine wpAnyH_done (by kernel_rfl) ?_ _
            have hx3 := blk_below HBX1.out HB2.out
            have q0 : V1.cell? ⟨gb, 0, none⟩ = some (.int .i64 x.f0) := (blk_cell hx3 0).trans rfl
            have q1 : V1.cell? ⟨gb, 1, none⟩ = some (.int .i64 x.f1) := (blk_cell hx3 1).trans rfl
            have q2 : V1.cell? ⟨gb, 2, none⟩ = some (.slice A2 x.f2.length c2) := (blk_cell hx3 2).trans rfl
            clear hx3
            have hs3 : w.heap.size ≤ V1.heap.size := HB3.out.size
            go_wp2_with ((with_reducible refine gate_builtin (b := .append) (xs := #[.tmp 71, .tmp 73]) rfl ?_); at_builtin; refine OwnRow.append (R := k30.K w) (w0 := w) w.heap.size rfl (.tmp 71) (.tmp 73) 22 30 (.agg #[(.int .i64 0), (.int .i64 0), (.slice none 0 0)]) 3 40 rfl Try.underlying22 inf30 rfl (by decide) (by decide) (.slice Ao os.length co) os x [.int .i64 x.f0, .int .i64 x.f1, .slice A2 x.f2.length c2] rfl rfl HK2.out rfl (k30.K_one HK2.out) HR3.out HB3.out hs3 (by omega) ?_; intro v4 w4 ho hb hg hat; have HO4 := Aside0.mk ho; have HB4 := Aside0.mk hb; clear ho hb hg hat)
            go_roundw
            case rel => exact ⟨i + 1, os ++ [x], hlt, by omega, by simp; omega, by go_num, ⟨x.f0, rfl, by omega⟩, ⟨x.f1, rfl⟩, HO4, ⟨fits_snoc hF.out HXM.out (by omega) (by omega)⟩, HB4⟩
            case measure => simp [intOf]; omega
      · go_wp2_with fail
        all_goals (go_ret2; exact ⟨_, ⟨_, rfl⟩, os, hR.out, by omega, hF.out, hB.out⟩)
    · go_wp2_with fail
      all_goals (go_ret2; exact ⟨_, ⟨_, rfl⟩, os, hR.out, by omega, hF.out, hB.out⟩)
end Go.Proofs.Ytdbhlfnpaloomaa.E
