/- (*views.Set).Add at a set of one length view. -/
import Derived.Test.YtdbhlfnpaloomaaL
namespace Go.Proofs.Ytdbhlfnpaloomaa.M
open Go.RowKit Go.Proofs.YtdbhlfnpaloomaaW.PrintWords Go.Proofs.YtdbhlfnpaloomaaW.PrintLast Go.Proofs.YtdbhlfnpaloomaaW.PrintMore
open Go.Proofs.Ytdbhlfnpaloomaa.PSame Go.Proofs.Ytdbhlfnpaloomaa.A Go.Proofs.Ytdbhlfnpaloomaa.B Go.Proofs.Ytdbhlfnpaloomaa.F Go.Proofs.Ytdbhlfnpaloomaa.G Go.Proofs.Ytdbhlfnpaloomaa.H Go.Proofs.Ytdbhlfnpaloomaa.I Go.Proofs.Ytdbhlfnpaloomaa.J Go.Proofs.Ytdbhlfnpaloomaa.K Go.Proofs.Ytdbhlfnpaloomaa.L
set_option linter.unusedVariables false
set_option linter.unusedSimpArgs false

theorem n_advance (nb : Nat) (w : World) : (nilAhead 252 74 (.pointer (some ⟨nb, 0, none⟩)) "marquee/views.advance").run Try.prog w = .ok (some false) w := by kernel_rfl

set_option maxRecDepth 100000 in
set_option maxHeartbeats 16000000 in
theorem setAdd_calls (base s : Nat) (n now last : Int) (took : Bool) (V H : List S30) (ok : Nat → Prop) (a : S30) (A2 : Option Addr) (c2 : Nat) (w : World) (h : SetIs w base s n now last took V H ok)
    (ha : Kd.C k46 w A2 a.f2.length a.f2) (hc2 : a.f2.length ≤ c2) (h0 : last < a.f0) (h1 : now ≤ a.f1) (h2 : a.f1 ≤ 1099511627776) (hn1 : 1 ≤ n) (hn2 : n ≤ 65536)
    (hVl : V.length ≤ 999999) (hV : Short V) (hH : Short H) (har : a.f2.length ≤ 4194304) (hle : base ≤ w.heap.size) (hok : ∀ k, ok k → base ≤ k) :
    Calls Try.prog 16 #[.pointer (some ⟨s, 0, none⟩), .agg #[.int .i64 a.f0, .int .i64 a.f1, .slice A2 a.f2.length c2]] w fun e w' => (∃ v, e = .returned v) ∧ SetIs w' base s n a.f1 a.f0 true (lastn n (V ++ [a])) (lastn n (V ++ [a])) (fun k => ok k ∨ w.heap.size ≤ k) ∧ Eff ok w w' := by
  replace h := h.bound
  obtain ⟨vs, vv, nb, vl, vh, b1, b2, b3, b4, b5, b6, b7, b8, b9⟩ := h
  have HA := Aside0.mk ha
  have P1 := Aside0.mk b1
  have P2 := Aside0.mk b2
  have P3 := Aside0.mk b3
  have P4 := Aside0.mk b4
  have P5 := Aside0.mk b5
  have P6 := Aside0.mk b6
  have P7 := Aside0.mk b7
  have P8 := Aside0.mk b8
  have P9 := Aside0.mk b9
  clear b1 b2 b3 b4 b5 b6 b7 b8 b9 ha
  go_enter Try.func16, Try.ntmps16
  go_wp2_with fail
  obtain ⟨sg, sc, rfl, hsc, _⟩ := raw4_at P2.out
  obtain ⟨vb, vc, rfl, hvc, _⟩ := raw1_at P3.out
  obtain ⟨wa, hwa⟩ : ∃ wa : World, wa = (w.alloc (.cells #[.int .i64 a.f0, .int .i64 a.f1, .slice A2 a.f2.length c2] 30)).alloc (.cells #[.slice none 0 0, .slice none 0 0] 40) := ⟨_, rfl⟩
  have hBa : Below w.heap.size w wa := by rw [hwa]; exact below_alloc (below_alloc (Below.refl _ _) _) _
  have hgb : wa.heap[w.heap.size]? = some (.cells #[.int .i64 a.f0, .int .i64 a.f1, .slice A2 a.f2.length c2] 30 (0, 0)) := by rw [hwa]; exact blk_alloc (blk_new _ _) _
  have hg : wa.heap[w.heap.size + 1]? = some (.cells #[.slice none 0 0, .slice none 0 0] 40 (0, 0)) := by rw [hwa]; have := blk_new (w.alloc (.cells #[.int .i64 a.f0, .int .i64 a.f1, .slice A2 a.f2.length c2] 30)) (.cells #[.slice none 0 0, .slice none 0 0] 40); simpa using this
  rw [← hwa]
  obtain ⟨g, hge⟩ : ∃ g, g = w.heap.size + 1 := ⟨_, rfl⟩
  rw [← hge] at hg ⊢
  obtain ⟨gb, hgbe⟩ : ∃ gb, gb = w.heap.size := ⟨_, rfl⟩
  rw [← hgbe] at hgb ⊢
  have hgw : w.heap.size ≤ g := by omega
  have hgbw : w.heap.size ≤ gb := by omega
  have hggb : g ≠ gb := by omega
  have HGW := Aside0.mk hgw
  have HGBW := Aside0.mk hgbw
  have HGG := Aside0.mk hggb
  have HSL := Aside0.mk (show s ≠ gb ∧ s ≠ g by have := blk_lt P1.out; omega)
  clear hwa hge hgbe hgw hgbw hggb
  have hs := blk_below P1.out hBa
  refine wp_region_held (S := fun V' => (V'.cell? ⟨gb, 0, none⟩ = some (.int .i64 a.f0) ∧ V'.cell? ⟨gb, 1, none⟩ = some (.int .i64 a.f1)) ∧ V'.cell? ⟨s, 2, none⟩ = some (.int .i64 now) ∧ V'.cell? ⟨s, 3, none⟩ = some (.int .i64 last)) (by kernel_rfl) ?_
  obtain ⟨V1, hV1⟩ : ∃ V1 : World, V1 = { wa with drawn := wa.drawn + 1 } := ⟨_, rfl⟩
  have hB1 : Below wa.heap.size wa V1 := by rw [hV1]; exact ⟨rfl, rfl, rfl, Nat.le_refl _, fun _ _ => rfl⟩
  rw [← hV1]
  have HB1 := Aside0.mk (below_then hBa hBa.size hB1)
  have HGB1 := Aside0.mk (blk_below hgb hB1)
  have HG1 := Aside0.mk (blk_below hg hB1)
  have HS1 := Aside0.mk (blk_below hs hB1)
  clear hV1 hB1 hBa hgb hg hs
  have HQ : Aside0 ((V1.cell? ⟨gb, 0, none⟩ = some (.int .i64 a.f0) ∧ V1.cell? ⟨gb, 1, none⟩ = some (.int .i64 a.f1)) ∧ V1.cell? ⟨s, 2, none⟩ = some (.int .i64 now) ∧ V1.cell? ⟨s, 3, none⟩ = some (.int .i64 last)) := ⟨⟨(blk_cell HGB1.out 0).trans rfl, (blk_cell HGB1.out 1).trans rfl⟩, (blk_cell HS1.out 2).trans rfl, (blk_cell HS1.out 3).trans rfl⟩
  refine wpAnyH_take (i := 0) (v := (.pointer (some ⟨s, 0, none⟩))) rfl (by kernel_rfl) (by kernel_rfl) (by kernel_rfl) (fun _ _ _ h => h) (Or.inl ⟨by kernel_rfl, fun V hV => ?_⟩) (HQ.out) ?_
  · obtain ⟨⟨g0, g1⟩, g2, g3⟩ := hV
    go_simp
  refine wpAnyH_take (i := 1) (v := (.bool false)) rfl (by kernel_rfl) (by kernel_rfl) (by kernel_rfl) (fun _ _ _ h => h) (Or.inl ⟨by kernel_rfl, fun V hV => ?_⟩) (HQ.out) ?_
  · obtain ⟨⟨g0, g1⟩, g2, g3⟩ := hV
    go_simp
  refine wpAnyH_take (i := 2) (v := (.bool false)) rfl (by kernel_rfl) (by kernel_rfl) (by kernel_rfl) (fun _ _ _ h => h) (Or.inl ⟨by kernel_rfl, fun V hV => ?_⟩) (HQ.out) ?_
  · obtain ⟨⟨g0, g1⟩, g2, g3⟩ := hV
    go_simp
  refine wpAnyH_take (i := 3) (v := (.pointer (some ⟨gb, 0, none⟩))) rfl (by kernel_rfl) (by kernel_rfl) (by kernel_rfl) (fun _ _ _ h => h) (Or.inl ⟨by kernel_rfl, fun V hV => ?_⟩) (HQ.out) ?_
  · obtain ⟨⟨g0, g1⟩, g2, g3⟩ := hV
    go_simp
  refine wpAnyH_take (i := 4) (v := (.int .i64 a.f0)) rfl (by kernel_rfl) (by kernel_rfl) (by kernel_rfl) (fun _ _ _ h => h) (Or.inl ⟨by kernel_rfl, fun V hV => ?_⟩) (HQ.out) ?_
  · obtain ⟨⟨g0, g1⟩, g2, g3⟩ := hV
    go_simp
  refine wpAnyH_take (i := 5) (v := (.pointer (some ⟨s, 0, none⟩))) rfl (by kernel_rfl) (by kernel_rfl) (by kernel_rfl) (fun _ _ _ h => h) (Or.inl ⟨by kernel_rfl, fun V hV => ?_⟩) (HQ.out) ?_
  · obtain ⟨⟨g0, g1⟩, g2, g3⟩ := hV
    go_simp
  refine wpAnyH_take (i := 6) (v := (.pointer (some ⟨s, 0, none⟩))) rfl (by kernel_rfl) (by kernel_rfl) (by kernel_rfl) (fun _ _ _ h => h) (Or.inl ⟨by kernel_rfl, fun V hV => ?_⟩) (HQ.out) ?_
  · obtain ⟨⟨g0, g1⟩, g2, g3⟩ := hV
    go_simp
  refine wpAnyH_take (i := 7) (v := (.pointer (some ⟨s, 3, none⟩))) rfl (by kernel_rfl) (by kernel_rfl) (by kernel_rfl) (fun _ _ _ h => h) (Or.inl ⟨by kernel_rfl, fun V hV => ?_⟩) (HQ.out) ?_
  · obtain ⟨⟨g0, g1⟩, g2, g3⟩ := hV
    go_simp
  go_simp
  refine wpAnyH_take (i := 8) (v := (.int .i64 last)) rfl (by kernel_rfl) (by kernel_rfl) (by kernel_rfl) (fun _ _ _ h => h) (Or.inl ⟨by kernel_rfl, fun V hV => ?_⟩) (HQ.out) ?_
  · obtain ⟨⟨g0, g1⟩, g2, g3⟩ := hV
    go_simp
  refine wpAnyH_take (i := 9) (v := (.bool false)) rfl (by kernel_rfl) (by kernel_rfl) (by kernel_rfl) (fun _ _ _ h => h) (Or.inl ⟨by kernel_rfl, fun V hV => ?_⟩) (HQ.out) ?_
  · obtain ⟨⟨g0, g1⟩, g2, g3⟩ := hV
    go_simp
    all_goals first | done | omega | (simp; omega)
  refine wpAnyH_take (i := 10) (v := (.bool false)) rfl (by kernel_rfl) (by kernel_rfl) (by kernel_rfl) (fun _ _ _ h => h) (Or.inl ⟨by kernel_rfl, fun V hV => ?_⟩) (HQ.out) ?_
  · obtain ⟨⟨g0, g1⟩, g2, g3⟩ := hV
    go_simp
  refine wpAnyH_take (i := 11) (v := (.bool false)) rfl (by kernel_rfl) (by kernel_rfl) (by kernel_rfl) (fun _ _ _ h => h) (Or.inl ⟨by kernel_rfl, fun V hV => ?_⟩) (HQ.out) ?_
  · obtain ⟨⟨g0, g1⟩, g2, g3⟩ := hV
    go_simp
  refine wpAnyH_take (i := 12) (v := (.pointer (some ⟨gb, 1, none⟩))) rfl (by kernel_rfl) (by kernel_rfl) (by kernel_rfl) (fun _ _ _ h => h) (Or.inl ⟨by kernel_rfl, fun V hV => ?_⟩) (HQ.out) ?_
  · obtain ⟨⟨g0, g1⟩, g2, g3⟩ := hV
    go_simp
  refine wpAnyH_take (i := 13) (v := (.int .i64 a.f1)) rfl (by kernel_rfl) (by kernel_rfl) (by kernel_rfl) (fun _ _ _ h => h) (Or.inl ⟨by kernel_rfl, fun V hV => ?_⟩) (HQ.out) ?_
  · obtain ⟨⟨g0, g1⟩, g2, g3⟩ := hV
    go_simp
  refine wpAnyH_take (i := 14) (v := (.pointer (some ⟨s, 0, none⟩))) rfl (by kernel_rfl) (by kernel_rfl) (by kernel_rfl) (fun _ _ _ h => h) (Or.inl ⟨by kernel_rfl, fun V hV => ?_⟩) (HQ.out) ?_
  · obtain ⟨⟨g0, g1⟩, g2, g3⟩ := hV
    go_simp
  refine wpAnyH_take (i := 15) (v := (.pointer (some ⟨s, 0, none⟩))) rfl (by kernel_rfl) (by kernel_rfl) (by kernel_rfl) (fun _ _ _ h => h) (Or.inl ⟨by kernel_rfl, fun V hV => ?_⟩) (HQ.out) ?_
  · obtain ⟨⟨g0, g1⟩, g2, g3⟩ := hV
    go_simp
  go_simp
  refine wpAnyH_take (i := 16) (v := (.pointer (some ⟨s, 2, none⟩))) rfl (by kernel_rfl) (by kernel_rfl) (by kernel_rfl) (fun _ _ _ h => h) (Or.inl ⟨by kernel_rfl, fun V hV => ?_⟩) (HQ.out) ?_
  · obtain ⟨⟨g0, g1⟩, g2, g3⟩ := hV
    go_simp
  refine wpAnyH_take (i := 17) (v := (.int .i64 now)) rfl (by kernel_rfl) (by kernel_rfl) (by kernel_rfl) (fun _ _ _ h => h) (Or.inl ⟨by kernel_rfl, fun V hV => ?_⟩) (HQ.out) ?_
  · obtain ⟨⟨g0, g1⟩, g2, g3⟩ := hV
    go_simp
  refine wpAnyH_take (i := 18) (v := (.bool false)) rfl (by kernel_rfl) (by kernel_rfl) (by kernel_rfl) (fun _ _ _ h => h) (Or.inl ⟨by kernel_rfl, fun V hV => ?_⟩) (HQ.out) ?_
  · obtain ⟨⟨g0, g1⟩, g2, g3⟩ := hV
    go_simp
    all_goals first | done | omega | (simp; omega)
  refine wpAnyH_take (i := 19) (v := (.bool false)) rfl (by kernel_rfl) (by kernel_rfl) (by kernel_rfl) (fun _ _ _ h => h) (Or.inl ⟨by kernel_rfl, fun V hV => ?_⟩) (HQ.out) ?_
  · obtain ⟨⟨g0, g1⟩, g2, g3⟩ := hV
    go_simp
  refine wpAnyH_take (i := 20) (v := (.bool false)) rfl (by kernel_rfl) (by kernel_rfl) (by kernel_rfl) (fun _ _ _ h => h) (Or.inl ⟨by kernel_rfl, fun V hV => ?_⟩) (HQ.out) ?_
  · obtain ⟨⟨g0, g1⟩, g2, g3⟩ := hV
    go_simp
  refine wpAnyH_take (i := 21) (v := (.pointer (some ⟨gb, 1, none⟩))) rfl (by kernel_rfl) (by kernel_rfl) (by kernel_rfl) (fun _ _ _ h => h) (Or.inl ⟨by kernel_rfl, fun V hV => ?_⟩) (HQ.out) ?_
  · obtain ⟨⟨g0, g1⟩, g2, g3⟩ := hV
    go_simp
  refine wpAnyH_take (i := 22) (v := (.int .i64 a.f1)) rfl (by kernel_rfl) (by kernel_rfl) (by kernel_rfl) (fun _ _ _ h => h) (Or.inl ⟨by kernel_rfl, fun V hV => ?_⟩) (HQ.out) ?_
  · obtain ⟨⟨g0, g1⟩, g2, g3⟩ := hV
    go_simp
  refine wpAnyH_take (i := 23) (v := (.bool false)) rfl (by kernel_rfl) (by kernel_rfl) (by kernel_rfl) (fun _ _ _ h => h) (Or.inl ⟨by kernel_rfl, fun V hV => ?_⟩) (HQ.out) ?_
  · obtain ⟨⟨g0, g1⟩, g2, g3⟩ := hV
    go_simp
    all_goals first | done | omega | (simp; omega)
  go_simp
  refine wpAnyH_take (i := 24) (v := (.bool false)) rfl (by kernel_rfl) (by kernel_rfl) (by kernel_rfl) (fun _ _ _ h => h) (Or.inl ⟨by kernel_rfl, fun V hV => ?_⟩) (HQ.out) ?_
  · obtain ⟨⟨g0, g1⟩, g2, g3⟩ := hV
    go_simp
  go_simp
  refine wpAnyH_done (by kernel_rfl) ?_ _
  have g2 : V1.cell? ⟨gb, 2, none⟩ = some (.slice A2 a.f2.length c2) := (blk_cell HGB1.out 2).trans rfl
  clear HQ
  go_wp2_with fail
  refine (clone46_calls a.f2 A2 c2 V1 (Kd.C_below HA.out HB1.out) hc2 har).mono ?_
  rintro e w2 ⟨v6, rfl, hv6, hb2⟩
  obtain ⟨A6, c6, rfl⟩ := Kd.R_slice hv6
  have hgb2 := blk_below HGB1.out hb2
  have hs2 := blk_below HS1.out hb2
  have hg2 := blk_below HG1.out hb2
  obtain ⟨W3, hW3⟩ : ∃ W3 : World, W3 = w2.setCell ⟨gb, 2, none⟩ (.slice A6 a.f2.length c6) := ⟨_, rfl⟩
  have HGB3 : Aside0 (W3.heap[gb]? = some (.cells #[.int .i64 a.f0, .int .i64 a.f1, .slice A6 a.f2.length c6] 30 (0, 0))) := ⟨by rw [hW3]; exact blk_put hgb2 2 _ rfl⟩
  have HS3 : Aside0 (W3.heap[s]? = some (.cells #[.slice (some ⟨sg, 0, none⟩) 1 sc, .slice (some ⟨vb, 0, none⟩) 1 vc, .int .i64 now, .int .i64 last, .bool took, vh] 56 (0, 0))) := ⟨by rw [hW3]; exact blk_far hs2 (p := ⟨gb, 2, none⟩) HSL.out.1 _⟩
  have HG3 : Aside0 (W3.heap[g]? = some (.cells #[.slice none 0 0, .slice none 0 0] 40 (0, 0))) := ⟨by rw [hW3]; exact blk_far hg2 (p := ⟨gb, 2, none⟩) HGG.out _⟩
  have HB3 : Aside0 (Below w.heap.size w W3) := ⟨by rw [hW3]; exact (below_then HB1.out HB1.out.size hb2).setCell (p := ⟨gb, 2, none⟩) HGBW.out _⟩
  have HR3 : Aside0 (Kd.R k46 46 W3 w.heap.size (fun _ => True) (.slice A6 a.f2.length c6) a.f2) := ⟨by rw [hW3]; exact Kd.R_lower (Kd.R_set hv6 hgb2 (by simp [k46, Kd.iso, Kd.pair, Kd.int, Kd.string, Kd.scalar]) 2 _) HB1.out.size⟩
  have k2 : w2.cell? ⟨gb, 2, none⟩ = some (.slice A2 a.f2.length c2) := (blk_cell hgb2 2).trans rfl
  have kf : w2.frozen? ⟨gb, 2, none⟩ = false := blk_frozen hgb2 2
  have k4 : (w2.setCell ⟨gb, 2, none⟩ (.slice A6 a.f2.length c6)).cell? ⟨s, 4, none⟩ = some (.bool took) := by rw [← hW3]; exact (blk_cell HS3.out 4).trans rfl
  have k0 : (w2.setCell ⟨gb, 2, none⟩ (.slice A6 a.f2.length c6)).cell? ⟨s, 0, none⟩ = some (.slice (some ⟨sg, 0, none⟩) 1 sc) := by rw [← hW3]; exact (blk_cell HS3.out 0).trans rfl
  have HW3 := Aside0.mk hW3
  clear hgb2 hs2 hg2 hb2 hv6 g2 hW3 HGB1 HG1 HS1 HB1
  cases took
  · go_wp2_with fail
    rw [← HW3.out]
    clear k0 k2 k4 kf
    go_loopw [49] (fun t49 wr => (t49 = .int .i64 0 ∨ t49 = .int .i64 1) ∧ Aside0 (Below W3.heap.size W3 wr)) (fun t49 _ => 1 - (intOf t49).toNat)
    case atStart => exact ⟨.inl rfl, ⟨Below.refl _ _⟩⟩
    case round =>
      obtain ⟨rfl | rfl, hBL⟩ := hrel
      · obtain ⟨sg', sc', ev, _, q0, q1, q2, q3⟩ := raw4_at (Kd.R_below P2.out (below_then HB3.out HB3.out.size hBL.out))
        obtain ⟨rfl, rfl⟩ : sg = sg' ∧ sc = sc' := by injection ev with e1 _ e3; injection e1 with e1; injection e1 with e1; exact ⟨e1, e3⟩
        clear ev
        have k2 : (wr.alloc (.cells #[.int .i64 2, .int .i64 n, .slice none 0 0, .bool false] 37)).cell? ⟨gb, 2, none⟩ = some (.slice A6 a.f2.length c6) := (blk_cell (blk_alloc (blk_below HGB3.out hBL.out) _) 2).trans rfl
        go_wp2_with fail
        refine (check_calls n a.f2.length _ hn1 hn2).mono ?_
        rintro e w5 ⟨rfl, hb5⟩
        clear q0 q1 q2 q3 k2
        go_wp2_with fail
        go_roundw
        case rel => exact ⟨.inr rfl, ⟨below_then (below_then hBL.out hBL.out.size (below_alloc (Below.refl _ _) _)) (Nat.le_trans hBL.out.size (by simp)) hb5⟩⟩
        case measure => simp [intOf]
      · have HBW := Aside0.mk (below_then HB3.out HB3.out.size hBL.out)
        have HGBX := Aside0.mk (blk_below HGB3.out hBL.out)
        have HGX := Aside0.mk (blk_below HG3.out hBL.out)
        have HSX := Aside0.mk (blk_below HS3.out hBL.out)
        have HRX := Aside0.mk (Kd.R_below HR3.out hBL.out)
        clear HGB3 HG3 HS3 HB3 HR3 hBL
        go_wp2_with fail
        refine wp_region_held (S := fun V' => V'.cell? ⟨gb, 0, none⟩ = some (.int .i64 a.f0) ∧ V'.cell? ⟨gb, 1, none⟩ = some (.int .i64 a.f1)) (by kernel_rfl) ?_
        obtain ⟨V5, hV5⟩ : ∃ V5 : World, V5 = { wr with drawn := wr.drawn + 1 } := ⟨_, rfl⟩
        have hB5 : Below wr.heap.size wr V5 := by rw [hV5]; exact ⟨rfl, rfl, rfl, Nat.le_refl _, fun _ _ => rfl⟩
        rw [← hV5]
        have HB5 := Aside0.mk (below_then HBW.out HBW.out.size hB5)
        have HGB5 := Aside0.mk (blk_below HGBX.out hB5)
        have HG5 := Aside0.mk (blk_below HGX.out hB5)
        have HS5 := Aside0.mk (blk_below HSX.out hB5)
        have HR5 := Aside0.mk (Kd.R_below HRX.out hB5)
        clear hV5 hB5 HBW HGBX HGX HSX HRX
        have HQ : Aside0 (∀ V' : World, V'.heap[gb]? = some (.cells #[.int .i64 a.f0, .int .i64 a.f1, .slice A6 a.f2.length c6] 30 (0, 0)) → (V'.cell? ⟨gb, 0, none⟩ = some (.int .i64 a.f0) ∧ V'.cell? ⟨gb, 1, none⟩ = some (.int .i64 a.f1))) := ⟨fun V' h => ⟨(blk_cell h 0).trans rfl, (blk_cell h 1).trans rfl⟩⟩
        refine wpAnyH_take (i := 0) (v := (.pointer (some ⟨s, 0, none⟩))) rfl (by kernel_rfl) (by kernel_rfl) (by kernel_rfl) (fun _ _ _ h => h) (Or.inl ⟨by kernel_rfl, fun V hV => ?_⟩) (HQ.out _ HGB5.out) ?_
        · obtain ⟨g0, g1⟩ := hV
          go_simp
        refine wpAnyH_take (i := 1) (v := (.pointer (some ⟨s, 0, none⟩))) rfl (by kernel_rfl) (by kernel_rfl) (by kernel_rfl) (fun _ _ _ h => h) (Or.inl ⟨by kernel_rfl, fun V hV => ?_⟩) (HQ.out _ HGB5.out) ?_
        · obtain ⟨g0, g1⟩ := hV
          go_simp
        refine wpAnyH_take (i := 2) (v := (.pointer (some ⟨s, 0, none⟩))) rfl (by kernel_rfl) (by kernel_rfl) (by kernel_rfl) (fun _ _ _ h => h) (Or.inl ⟨by kernel_rfl, fun V hV => ?_⟩) (HQ.out _ HGB5.out) ?_
        · obtain ⟨g0, g1⟩ := hV
          go_simp
        refine wpAnyH_take (i := 3) (v := (.pointer (some ⟨gb, 0, none⟩))) rfl (by kernel_rfl) (by kernel_rfl) (by kernel_rfl) (fun _ _ _ h => h) (Or.inl ⟨by kernel_rfl, fun V hV => ?_⟩) (HQ.out _ HGB5.out) ?_
        · obtain ⟨g0, g1⟩ := hV
          go_simp
        refine wpAnyH_take (i := 4) (v := (.int .i64 a.f0)) rfl (by kernel_rfl) (by kernel_rfl) (by kernel_rfl) (fun _ _ _ h => h) (Or.inl ⟨by kernel_rfl, fun V hV => ?_⟩) (HQ.out _ HGB5.out) ?_
        · obtain ⟨g0, g1⟩ := hV
          go_simp
        refine wpAnyH_take (i := 5) (v := (.pointer (some ⟨gb, 1, none⟩))) rfl (by kernel_rfl) (by kernel_rfl) (by kernel_rfl) (fun _ _ _ h => h) (Or.inl ⟨by kernel_rfl, fun V hV => ?_⟩) (HQ.out _ HGB5.out) ?_
        · obtain ⟨g0, g1⟩ := hV
          go_simp
        refine wpAnyH_take (i := 6) (v := (.int .i64 a.f1)) rfl (by kernel_rfl) (by kernel_rfl) (by kernel_rfl) (fun _ _ _ h => h) (Or.inl ⟨by kernel_rfl, fun V hV => ?_⟩) (HQ.out _ HGB5.out) ?_
        · obtain ⟨g0, g1⟩ := hV
          go_simp
        refine wpAnyH_take (i := 7) (v := (.pointer (some ⟨s, 0, none⟩))) rfl (by kernel_rfl) (by kernel_rfl) (by kernel_rfl) (fun _ _ _ h => h) (Or.inl ⟨by kernel_rfl, fun V hV => ?_⟩) (HQ.out _ HGB5.out) ?_
        · obtain ⟨g0, g1⟩ := hV
          go_simp
        refine wpAnyH_take (i := 8) (v := (.pointer (some ⟨s, 4, none⟩))) rfl (by kernel_rfl) (by kernel_rfl) (by kernel_rfl) (fun _ _ _ h => h) (Or.inl ⟨by kernel_rfl, fun V hV => ?_⟩) (HQ.out _ HGB5.out) ?_
        · obtain ⟨g0, g1⟩ := hV
          go_simp
        go_simp
        refine wpAnyH_all (rs := [9]) (by kernel_rfl) (by simp) ?_
        intro i' hi'
        obtain rfl : i' = 9 := by simpa using hi'
        refine wpOp_step rfl (fun K hK => ?_)
        have n0 : V5.cell? ⟨s, 4, none⟩ = some (.bool false) := (blk_cell HS5.out 4).trans rfl
        have n1 : V5.frozen? ⟨s, 4, none⟩ = false := blk_frozen HS5.out 4
        go_simp
        have hgbn := blk_far HGB5.out (p := ⟨s, 4, none⟩) (Ne.symm HSL.out.1) (.bool true)
        have hgn := blk_far HG5.out (p := ⟨s, 4, none⟩) (Ne.symm HSL.out.2) (.bool true)
        have hsn : (V5.setCell ⟨s, 4, none⟩ (.bool true)).heap[s]? = some (.cells #[.slice (some ⟨sg, 0, none⟩) 1 sc, .slice (some ⟨vb, 0, none⟩) 1 vc, .int .i64 now, .int .i64 last, .bool true, vh] 56 (0, 0)) := blk_put HS5.out 4 _ rfl
        have hEn : Eff (fun k => k = s) V5 (V5.setCell ⟨s, 4, none⟩ (.bool true)) := (Eff.refl V5 (fun k => k = s)).set HS5.out (by decide) (.inl rfl) _
        refine hK _ _ ⟨HQ.out _ hgbn, ?_⟩
        clear hK n0 n1
        obtain ⟨X1, hX1⟩ : ∃ X1 : World, X1 = V5.setCell ⟨s, 4, none⟩ (.bool true) := ⟨_, rfl⟩
        rw [← hX1] at hgbn hgn hsn hEn ⊢
        have HGBX1 := Aside0.mk hgbn
        have HGX1 := Aside0.mk hgn
        have HSX1 := Aside0.mk hsn
        have HEX1 := Aside0.mk hEn
        clear hgbn hgn hsn hEn hX1
        go_simp
        refine wpAnyH_take (i := 10) (v := (.pointer (some ⟨s, 0, none⟩))) rfl (by kernel_rfl) (by kernel_rfl) (by kernel_rfl) (fun _ _ _ h => h) (Or.inl ⟨by kernel_rfl, fun V hV => ?_⟩) (HQ.out _ HGBX1.out) ?_
        · go_simp
        refine wpAnyH_take (i := 11) (v := (.pointer (some ⟨s, 3, none⟩))) rfl (by kernel_rfl) (by kernel_rfl) (by kernel_rfl) (fun _ _ _ h => h) (Or.inl ⟨by kernel_rfl, fun V hV => ?_⟩) (HQ.out _ HGBX1.out) ?_
        · go_simp
        go_simp
        refine wpAnyH_all (rs := [12]) (by kernel_rfl) (by simp) ?_
        intro i' hi'
        obtain rfl : i' = 12 := by simpa using hi'
        refine wpOp_step rfl (fun K hK => ?_)
        have n0 : X1.cell? ⟨s, 3, none⟩ = some (.int .i64 last) := (blk_cell HSX1.out 3).trans rfl
        have n1 : X1.frozen? ⟨s, 3, none⟩ = false := blk_frozen HSX1.out 3
        go_simp
        have hgbn := blk_far HGBX1.out (p := ⟨s, 3, none⟩) (Ne.symm HSL.out.1) (.int .i64 a.f0)
        have hgn := blk_far HGX1.out (p := ⟨s, 3, none⟩) (Ne.symm HSL.out.2) (.int .i64 a.f0)
        have hsn : (X1.setCell ⟨s, 3, none⟩ (.int .i64 a.f0)).heap[s]? = some (.cells #[.slice (some ⟨sg, 0, none⟩) 1 sc, .slice (some ⟨vb, 0, none⟩) 1 vc, .int .i64 now, .int .i64 a.f0, .bool true, vh] 56 (0, 0)) := blk_put HSX1.out 3 _ rfl
        have hEn : Eff (fun k => k = s) V5 (X1.setCell ⟨s, 3, none⟩ (.int .i64 a.f0)) := HEX1.out.set HSX1.out (by decide) (.inl rfl) _
        refine hK _ _ ⟨HQ.out _ hgbn, ?_⟩
        clear hK n0 n1
        obtain ⟨X2, hX2⟩ : ∃ X2 : World, X2 = X1.setCell ⟨s, 3, none⟩ (.int .i64 a.f0) := ⟨_, rfl⟩
        rw [← hX2] at hgbn hgn hsn hEn ⊢
        have HGBX2 := Aside0.mk hgbn
        have HGX2 := Aside0.mk hgn
        have HSX2 := Aside0.mk hsn
        have HEX2 := Aside0.mk hEn
        clear hgbn hgn hsn hEn hX2
        go_simp
        refine wpAnyH_take (i := 13) (v := (.pointer (some ⟨s, 0, none⟩))) rfl (by kernel_rfl) (by kernel_rfl) (by kernel_rfl) (fun _ _ _ h => h) (Or.inl ⟨by kernel_rfl, fun V hV => ?_⟩) (HQ.out _ HGBX2.out) ?_
        · go_simp
        refine wpAnyH_take (i := 14) (v := (.pointer (some ⟨s, 2, none⟩))) rfl (by kernel_rfl) (by kernel_rfl) (by kernel_rfl) (fun _ _ _ h => h) (Or.inl ⟨by kernel_rfl, fun V hV => ?_⟩) (HQ.out _ HGBX2.out) ?_
        · go_simp
        go_simp
        refine wpAnyH_all (rs := [15]) (by kernel_rfl) (by simp) ?_
        intro i' hi'
        obtain rfl : i' = 15 := by simpa using hi'
        refine wpOp_step rfl (fun K hK => ?_)
        have n0 : X2.cell? ⟨s, 2, none⟩ = some (.int .i64 now) := (blk_cell HSX2.out 2).trans rfl
        have n1 : X2.frozen? ⟨s, 2, none⟩ = false := blk_frozen HSX2.out 2
        go_simp
        have hgbn := blk_far HGBX2.out (p := ⟨s, 2, none⟩) (Ne.symm HSL.out.1) (.int .i64 a.f1)
        have hgn := blk_far HGX2.out (p := ⟨s, 2, none⟩) (Ne.symm HSL.out.2) (.int .i64 a.f1)
        have hsn : (X2.setCell ⟨s, 2, none⟩ (.int .i64 a.f1)).heap[s]? = some (.cells #[.slice (some ⟨sg, 0, none⟩) 1 sc, .slice (some ⟨vb, 0, none⟩) 1 vc, .int .i64 a.f1, .int .i64 a.f0, .bool true, vh] 56 (0, 0)) := blk_put HSX2.out 2 _ rfl
        have hEn : Eff (fun k => k = s) V5 (X2.setCell ⟨s, 2, none⟩ (.int .i64 a.f1)) := HEX2.out.set HSX2.out (by decide) (.inl rfl) _
        refine hK _ _ ⟨HQ.out _ hgbn, ?_⟩
        clear hK n0 n1
        obtain ⟨X3, hX3⟩ : ∃ X3 : World, X3 = X2.setCell ⟨s, 2, none⟩ (.int .i64 a.f1) := ⟨_, rfl⟩
        rw [← hX3] at hgbn hgn hsn hEn ⊢
        have HGBX3 := Aside0.mk hgbn
        have HGX3 := Aside0.mk hgn
        have HSX3 := Aside0.mk hsn
        have HEX3 := Aside0.mk hEn
        clear hgbn hgn hsn hEn hX3
        go_simp
        refine wpAnyH_done (by kernel_rfl) ?_ _
        clear HGBX1 HGX1 HSX1 HEX1 HGBX2 HGX2 HSX2 HEX2
        have s1 : X3.cell? ⟨s, 1, none⟩ = some (.slice (some ⟨vb, 0, none⟩) 1 vc) := (blk_cell HSX3.out 1).trans rfl
        have hXs : ∀ {ok1 : Nat → Prop} {v : Value} {xs : List S30}, Sh w base ok1 v xs → Sh X3 base ok1 v xs := fun hh => (hh.below HB5.out).move HEX3.out.k46 (fun k hk => HEX3.out.kept.2 k (Kd.R_lt (hh.below HB5.out) k hk) (fun e => Kd.R_ne (hh.below HB5.out) HS5.out (by decide) (e ▸ hk.symm)))
        have Q5 := Aside0.mk (hXs P5.out)
        have Q6 := Aside0.mk (hXs P6.out)
        have Q2 := Aside0.mk (Kd.R_mono (Kd.R_kept (Kd.R_types (Kd.R_below P2.out HB5.out) HS5.out (by simp [Kd.raw])) HEX3.out.kept (fun k hk e => hk.2 e)) (fun k hk => hk.1))
        have Q3 := Aside0.mk (Kd.R_mono (Kd.R_kept (Kd.R_types (Kd.R_below P3.out HB5.out) HS5.out (by simp [Kd.raw])) HEX3.out.kept (fun k hk e => hk.2 e)) (fun k hk => hk.1))
        have HNS : Aside0 (nb ≠ s) := ⟨blk_ne P4.out P1.out (by decide)⟩
        have Q4 := Aside0.mk (blk_kept (blk_below P4.out HB5.out) HEX3.out.kept HNS.out)
        have HMX : Aside0 (k30.M X3 base (fun _ => True) a [.int .i64 a.f0, .int .i64 a.f1, .slice A6 a.f2.length c6]) := ⟨M_at HEX3.out.k46 (k30.M_lower hle (k30_mkM _ _ _ a HR5.out))⟩
        have HEW : Aside0 (Eff ok w X3) := ⟨(Eff.of_below HB5.out ok).then_ HEX3.out (fun k hk => .inl (hk ▸ P8.out.1))⟩
        have HZ3 : Aside0 (w.heap.size ≤ X3.heap.size) := ⟨HEW.out.kept.1⟩
        obtain ⟨vb', vc', ev, _, v0⟩ := raw1_at Q3.out
        obtain ⟨rfl, rfl⟩ : vb = vb' ∧ vc = vc' := by injection ev with e1 _ e3; injection e1 with e1; injection e1 with e1; exact ⟨e1, e3⟩
        have HV0 := Aside0.mk v0
        clear v0 ev hXs HQ HS5 HG5 HGB5 HB5 HR5
        go_wp2_with fail
        go_loopw [88] (fun t88 wr => (t88 = .int .i64 0 ∧ Aside0 (wr = X3)) ∨ (t88 = .int .i64 1 ∧ Aside0 (SetIs wr base s n a.f1 a.f0 true (lastn n (V ++ [a])) H (fun k => ((ok k ∧ k < w.heap.size) ∨ w.heap.size ≤ k) ∧ k ≠ g) ∧ Eff ok w wr ∧ wr.heap[g]? = some (.cells #[.slice none 0 0, .slice none 0 0] 40 (0, 0))))) (fun t88 _ => 1 - (intOf t88).toNat)
        case atStart => exact .inl ⟨rfl, ⟨rfl⟩⟩
        case round =>
          obtain ⟨rfl, hw⟩ | ⟨rfl, hw⟩ := hrel
          · have hw := hw.out
            subst hw
            have v0 := HV0.out
            go_wp2_with fail
            refine wp_region_held (S := fun V' => V'.cell? ⟨s, 2, none⟩ = some (.int .i64 a.f1)) (by kernel_rfl) ?_
            obtain ⟨V6, hV6⟩ : ∃ V6 : World, V6 = { wr with drawn := wr.drawn + 1 } := ⟨_, rfl⟩
            have hB6 : Below wr.heap.size wr V6 := by rw [hV6]; exact ⟨rfl, rfl, rfl, Nat.le_refl _, fun _ _ => rfl⟩
            rw [← hV6]
            have HB6 := Aside0.mk hB6
            clear hV6 hB6 v0
            have HQ : Aside0 (V6.cell? ⟨s, 2, none⟩ = some (.int .i64 a.f1)) := ⟨(blk_cell (blk_below HSX3.out HB6.out) 2).trans rfl⟩
            refine wpAnyH_take (i := 0) (v := (.iface 74 (.pointer (some ⟨nb, 0, none⟩)))) rfl (by kernel_rfl) (by kernel_rfl) (by kernel_rfl) (fun _ _ _ h => h) (Or.inl ⟨by kernel_rfl, fun V hV => ?_⟩) (HQ.out) ?_
            · go_simp
            refine wpAnyH_take (i := 1) (v := (.pointer (some ⟨s, 0, none⟩))) rfl (by kernel_rfl) (by kernel_rfl) (by kernel_rfl) (fun _ _ _ h => h) (Or.inl ⟨by kernel_rfl, fun V hV => ?_⟩) (HQ.out) ?_
            · go_simp
            refine wpAnyH_take (i := 2) (v := (.pointer (some ⟨s, 0, none⟩))) rfl (by kernel_rfl) (by kernel_rfl) (by kernel_rfl) (fun _ _ _ h => h) (Or.inl ⟨by kernel_rfl, fun V hV => ?_⟩) (HQ.out) ?_
            · go_simp
            refine wpAnyH_take (i := 3) (v := (.pointer (some ⟨s, 2, none⟩))) rfl (by kernel_rfl) (by kernel_rfl) (by kernel_rfl) (fun _ _ _ h => h) (Or.inl ⟨by kernel_rfl, fun V hV => ?_⟩) (HQ.out) ?_
            · go_simp
            refine wpAnyH_take (i := 4) (v := (.int .i64 a.f1)) rfl (by kernel_rfl) (by kernel_rfl) (by kernel_rfl) (fun _ _ _ h => h) (Or.inl ⟨by kernel_rfl, fun V hV => ?_⟩) (HQ.out) ?_
            · go_simp
            have hna := n_advance nb
            refine wpAnyH_take (i := 5) (v := (.func (.method "marquee/views.advance") #[.iface 74 (.pointer (some ⟨nb, 0, none⟩))] #[])) rfl (by kernel_rfl) (by kernel_rfl) (by kernel_rfl) (fun _ _ _ h => h) (Or.inl ⟨by kernel_rfl, fun V hV => ?_⟩) (HQ.out) ?_
            · go_simp
            refine wpAnyH_take (i := 6) (v := (.func (.method "marquee/views.advance") #[.iface 74 (.pointer (some ⟨nb, 0, none⟩))] #[])) rfl (by kernel_rfl) (by kernel_rfl) (by kernel_rfl) (fun _ _ _ h => h) (Or.inl ⟨by kernel_rfl, fun V hV => ?_⟩) (HQ.out) ?_
            · go_simp
            refine wpAnyH_take (i := 7) (v := (.iface 74 (.pointer (some ⟨nb, 0, none⟩)))) rfl (by kernel_rfl) (by kernel_rfl) (by kernel_rfl) (fun _ _ _ h => h) (Or.inl ⟨by kernel_rfl, fun V hV => ?_⟩) (HQ.out) ?_
            · go_simp
            go_simp
            have hm := m_advance nb
            have hm2 := m_add nb
            refine wpAnyH_all (rs := [8]) (by kernel_rfl) (by simp) ?_
            intro i' hi'
            obtain rfl : i' = 8 := by simpa using hi'
            refine wpOp_step rfl (fun K hK => ?_)
            go_simp
            refine (advance_calls _ _ V6).mono ?_
            rintro e w6 ⟨hw6, r, rfl⟩
            rw [hw6]
            clear hw6
            refine hK _ _ ⟨HQ.out, ?_⟩
            clear hK
            refine wpAnyH_done (by kernel_rfl) ?_ _
            have g0 : V6.cell? ⟨gb, 0, none⟩ = some (.int .i64 a.f0) := (blk_cell (blk_below HGBX3.out HB6.out) 0).trans rfl
            have g1 : V6.cell? ⟨gb, 1, none⟩ = some (.int .i64 a.f1) := (blk_cell (blk_below HGBX3.out HB6.out) 1).trans rfl
            have g2 : V6.cell? ⟨gb, 2, none⟩ = some (.slice A6 a.f2.length c6) := (blk_cell (blk_below HGBX3.out HB6.out) 2).trans rfl
            clear HQ
            go_wp2_with fail
            have R4 := blk_below Q4.out HB6.out
            have R5 := Q5.out.below HB6.out
            have R6 := Q6.out.below HB6.out
            have R2 := Kd.R_below Q2.out HB6.out
            have R3 := Kd.R_below Q3.out HB6.out
            have RS := blk_below HSX3.out HB6.out
            have RG := blk_below HGX3.out HB6.out
            refine (newestAdd_calls nb base vl n V a (.slice A6 a.f2.length c6) _ V6 R4 R5 (by omega) (by omega) (M_at (fun k cells hk => blk_below hk HB6.out) HMX.out) (Nat.le_trans hle (Nat.le_trans HZ3.out HB6.out.size))).mono ?_
            rintro e w7 ⟨⟨r7, rfl⟩, v', hn7, hs7, he7⟩
            clear g0 g1 g2 hm hm2 hna
            have hz6 : w.heap.size ≤ V6.heap.size := Nat.le_trans HZ3.out HB6.out.size
            have hgl : g < V6.heap.size := blk_lt RG
            have hty : ∀ k, vl.ownBlock = some k → ∃ cells, V6.heap[k]? = some (.cells cells 30 (0, 0)) := Kd.R_typed R5
            have hns : nb ≠ s := HNS.out
            have hng : nb ≠ g := blk_ne R4 RG (by decide)
            have hfin : SetIs w7 base s n a.f1 a.f0 true (lastn n (V ++ [a])) H (fun k => ((ok k ∧ k < w.heap.size) ∨ w.heap.size ≤ k) ∧ k ≠ g) := by
              refine ⟨.slice (some ⟨sg, 0, none⟩) 1 sc, .slice (some ⟨vb, 0, none⟩) 1 vc, nb, v', vh, blk_kept RS he7.kept (fun e => e.elim (fun e => hns e.symm) (fun e => Kd.R_ne R5 RS (by decide) e.symm)), ?_, ?_, hn7, hs7.mono (fun k _ hk => ?_), ?_, ?_, ?_, ?_⟩
              · exact Kd.R_mono (Kd.R_kept (Kd.R_apart' (v := vl) (Kd.R_types R2 R4 (by simp [Kd.raw])) hty (by simp [Kd.raw])) he7.kept (fun k hk e => e.elim (fun e => hk.1.2 e) (fun e => hk.2 e.symm))) (fun k hk => ⟨.inl hk.1.1, by have := hk.1.1.2; have := HGW.out; omega⟩)
              · exact Kd.R_mono (Kd.R_kept (Kd.R_apart' (v := vl) (Kd.R_types R3 R4 (by simp [Kd.raw])) hty (by simp [Kd.raw])) he7.kept (fun k hk e => e.elim (fun e => hk.1.2 e) (fun e => hk.2 e.symm))) (fun k hk => ⟨.inl hk.1.1, by have := hk.1.1.2; have := HGW.out; omega⟩)
              · rcases hk with hk | hk
                · have := P5.out.1 k hk
                  exact ⟨.inl this, by have := this.2; have := HGW.out; omega⟩
                · exact ⟨.inr (by omega), by omega⟩
              · exact (R6.move he7.k46 (fun k hk => he7.kept.2 k (Kd.R_lt R6 k hk) (fun e => e.elim (fun e => Kd.R_ne R6 R4 (by decide) (e ▸ hk.symm)) (fun e => P7.out k e hk)))).mono (fun k hk hk2 => ⟨.inl hk2, by have := hk2.2; have := HGW.out; omega⟩)
              · intro k hk hk2
                rcases hs7.1 k hk with h | h
                · exact P7.out k h hk2
                · have := Kd.R_lt R6 k hk2; omega
              · exact ⟨.inl P8.out, by have := P8.out.2; have := HGW.out; omega⟩
              · exact ⟨.inl P9.out, by have := P9.out.2; have := HGW.out; omega⟩
            have hEf : Eff ok w w7 := ((HEW.out.then_below HB6.out)).then_ he7 (fun k hk => hk.elim (fun e => .inl (e ▸ P9.out.1)) (fun e => .inl (P5.out.1 k e).1))
            have hgf := blk_kept RG he7.kept (fun e => e.elim (fun e => hng e.symm) (fun e => Kd.R_ne R5 RG (by decide) e.symm))
            have HFIN := Aside0.mk (And.intro hfin (And.intro hEf hgf))
            clear hfin hEf hgf R2 R3 R4 R5 R6 RS RG hty hns hng hn7 hs7 he7
            go_wp2_with fail
            go_roundw
            case rel => exact .inr ⟨rfl, HFIN⟩
            case measure => simp [intOf]
          · have HW2 := Aside0.mk hw.out
            clear hw
            go_wp2_with fail
            have hll : (lastn n (V ++ [a])).length ≤ 1000000 := Nat.le_trans (by unfold lastn; rw [List.length_drop]; exact Nat.sub_le _ _) (show (V ++ [a]).length ≤ 1000000 by rw [List.length_append]; simp; omega)
            have hls : Short (lastn n (V ++ [a])) := ⟨by omega, fun x hx => by
              rcases List.mem_append.1 (List.mem_of_mem_drop hx) with hx | hx
              · exact hV.2 x hx
              · rw [List.mem_singleton.1 hx]; exact har⟩
            refine (told_calls base s n a.f1 a.f0 true (lastn n (V ++ [a])) H _ wr HW2.out.1 hls hH hll (Nat.le_trans hle HW2.out.2.1.kept.1)).mono ?_
            rintro e w8 ⟨⟨B1, m1, e1, B2, m2, e2, rfl⟩, hs8, he8⟩
            have hgs : g ≠ s := Ne.symm HSL.out.2
            have hg8 := blk_kept HW2.out.2.2 he8.kept hgs
            have hgl := blk_lt HW2.out.2.2
            have n0 : w8.cell? ⟨g, 0, none⟩ = some (.slice none 0 0) := (blk_cell hg8 0).trans rfl
            have n1 : w8.cell? ⟨g, 1, none⟩ = some (.slice none 0 0) := (blk_cell hg8 1).trans rfl
            have n2 : w8.frozen? ⟨g, 0, none⟩ = false := blk_frozen hg8 0
            have n3 : w8.frozen? ⟨g, 1, none⟩ = false := blk_frozen hg8 1
            have HS8 := Aside0.mk hs8
            have HE8 := Aside0.mk he8
            have HG8 := Aside0.mk hg8
            have HGL := Aside0.mk hgl
            clear hs8 he8 hg8 hgs hgl hll hls
            go_wp2_with fail
            have hp : ((w8.setCell ⟨g, 0, none⟩ (.slice B1 m1 e1))).heap[g]? = some (.cells #[.slice B1 m1 e1, .slice none 0 0] 40 (0, 0)) := blk_put HG8.out 0 _ rfl
            refine bodyPost_ret (results_cell_row rfl _ _ g 40 #[.slice B1 m1 e1, .slice B2 m2 e2] (0, 0) _ rfl (blk_put hp 1 _ rfl) Try.underlying40 rfl (by kernel_rfl)) rfl ?_
            have heg : Eff (fun k => k = g) w8 ((w8.setCell ⟨g, 0, none⟩ (.slice B1 m1 e1)).setCell ⟨g, 1, none⟩ (.slice B2 m2 e2)) := ((Eff.refl w8 (fun k => k = g)).set HG8.out (by decide) (.inl rfl) _).set hp (by decide) (.inl rfl) _
            refine ⟨⟨_, rfl⟩, (HS8.out.eff heg (fun k hk e => hk.elim (fun h => h.2 e) (fun h => by have := HGL.out; omega))).mono (fun k hk => ?_), ?_⟩
            · have hz := HW2.out.2.1.kept.1
              rcases hk with ⟨⟨h, _⟩ | h, _⟩ | h
              · exact .inl h
              · exact .inr h
              · exact .inr (by omega)
            · exact (HW2.out.2.1.then_ HE8.out (fun k hk => .inl (hk ▸ P8.out.1))).then_ heg (fun k hk => .inr (by have := HGW.out; omega))
  · go_wp2_with fail
    rw [← HW3.out]
    clear k0 k2 k4 kf
    have HBW := HB3
    have HGBX := HGB3
    have HGX := HG3
    have HSX := HS3
    have HRX := HR3
    clear HGB3 HG3 HS3 HB3 HR3
    refine wp_region_held (S := fun V' => V'.cell? ⟨gb, 0, none⟩ = some (.int .i64 a.f0) ∧ V'.cell? ⟨gb, 1, none⟩ = some (.int .i64 a.f1)) (by kernel_rfl) ?_
    obtain ⟨V5, hV5⟩ : ∃ V5 : World, V5 = { W3 with drawn := W3.drawn + 1 } := ⟨_, rfl⟩
    have hB5 : Below W3.heap.size W3 V5 := by rw [hV5]; exact ⟨rfl, rfl, rfl, Nat.le_refl _, fun _ _ => rfl⟩
    rw [← hV5]
    have HB5 := Aside0.mk (below_then HBW.out HBW.out.size hB5)
    have HGB5 := Aside0.mk (blk_below HGBX.out hB5)
    have HG5 := Aside0.mk (blk_below HGX.out hB5)
    have HS5 := Aside0.mk (blk_below HSX.out hB5)
    have HR5 := Aside0.mk (Kd.R_below HRX.out hB5)
    clear hV5 hB5 HBW HGBX HGX HSX HRX
    have HQ : Aside0 (∀ V' : World, V'.heap[gb]? = some (.cells #[.int .i64 a.f0, .int .i64 a.f1, .slice A6 a.f2.length c6] 30 (0, 0)) → (V'.cell? ⟨gb, 0, none⟩ = some (.int .i64 a.f0) ∧ V'.cell? ⟨gb, 1, none⟩ = some (.int .i64 a.f1))) := ⟨fun V' h => ⟨(blk_cell h 0).trans rfl, (blk_cell h 1).trans rfl⟩⟩
    refine wpAnyH_take (i := 0) (v := (.pointer (some ⟨s, 0, none⟩))) rfl (by kernel_rfl) (by kernel_rfl) (by kernel_rfl) (fun _ _ _ h => h) (Or.inl ⟨by kernel_rfl, fun V hV => ?_⟩) (HQ.out _ HGB5.out) ?_
    · obtain ⟨g0, g1⟩ := hV
      go_simp
    refine wpAnyH_take (i := 1) (v := (.pointer (some ⟨s, 0, none⟩))) rfl (by kernel_rfl) (by kernel_rfl) (by kernel_rfl) (fun _ _ _ h => h) (Or.inl ⟨by kernel_rfl, fun V hV => ?_⟩) (HQ.out _ HGB5.out) ?_
    · obtain ⟨g0, g1⟩ := hV
      go_simp
    refine wpAnyH_take (i := 2) (v := (.pointer (some ⟨s, 0, none⟩))) rfl (by kernel_rfl) (by kernel_rfl) (by kernel_rfl) (fun _ _ _ h => h) (Or.inl ⟨by kernel_rfl, fun V hV => ?_⟩) (HQ.out _ HGB5.out) ?_
    · obtain ⟨g0, g1⟩ := hV
      go_simp
    refine wpAnyH_take (i := 3) (v := (.pointer (some ⟨gb, 0, none⟩))) rfl (by kernel_rfl) (by kernel_rfl) (by kernel_rfl) (fun _ _ _ h => h) (Or.inl ⟨by kernel_rfl, fun V hV => ?_⟩) (HQ.out _ HGB5.out) ?_
    · obtain ⟨g0, g1⟩ := hV
      go_simp
    refine wpAnyH_take (i := 4) (v := (.int .i64 a.f0)) rfl (by kernel_rfl) (by kernel_rfl) (by kernel_rfl) (fun _ _ _ h => h) (Or.inl ⟨by kernel_rfl, fun V hV => ?_⟩) (HQ.out _ HGB5.out) ?_
    · obtain ⟨g0, g1⟩ := hV
      go_simp
    refine wpAnyH_take (i := 5) (v := (.pointer (some ⟨gb, 1, none⟩))) rfl (by kernel_rfl) (by kernel_rfl) (by kernel_rfl) (fun _ _ _ h => h) (Or.inl ⟨by kernel_rfl, fun V hV => ?_⟩) (HQ.out _ HGB5.out) ?_
    · obtain ⟨g0, g1⟩ := hV
      go_simp
    refine wpAnyH_take (i := 6) (v := (.int .i64 a.f1)) rfl (by kernel_rfl) (by kernel_rfl) (by kernel_rfl) (fun _ _ _ h => h) (Or.inl ⟨by kernel_rfl, fun V hV => ?_⟩) (HQ.out _ HGB5.out) ?_
    · obtain ⟨g0, g1⟩ := hV
      go_simp
    refine wpAnyH_take (i := 7) (v := (.pointer (some ⟨s, 0, none⟩))) rfl (by kernel_rfl) (by kernel_rfl) (by kernel_rfl) (fun _ _ _ h => h) (Or.inl ⟨by kernel_rfl, fun V hV => ?_⟩) (HQ.out _ HGB5.out) ?_
    · obtain ⟨g0, g1⟩ := hV
      go_simp
    refine wpAnyH_take (i := 8) (v := (.pointer (some ⟨s, 4, none⟩))) rfl (by kernel_rfl) (by kernel_rfl) (by kernel_rfl) (fun _ _ _ h => h) (Or.inl ⟨by kernel_rfl, fun V hV => ?_⟩) (HQ.out _ HGB5.out) ?_
    · obtain ⟨g0, g1⟩ := hV
      go_simp
    go_simp
    refine wpAnyH_all (rs := [9]) (by kernel_rfl) (by simp) ?_
    intro i' hi'
    obtain rfl : i' = 9 := by simpa using hi'
    refine wpOp_step rfl (fun K hK => ?_)
    have n0 : V5.cell? ⟨s, 4, none⟩ = some (.bool true) := (blk_cell HS5.out 4).trans rfl
    have n1 : V5.frozen? ⟨s, 4, none⟩ = false := blk_frozen HS5.out 4
    go_simp
    have hgbn := blk_far HGB5.out (p := ⟨s, 4, none⟩) (Ne.symm HSL.out.1) (.bool true)
    have hgn := blk_far HG5.out (p := ⟨s, 4, none⟩) (Ne.symm HSL.out.2) (.bool true)
    have hsn : (V5.setCell ⟨s, 4, none⟩ (.bool true)).heap[s]? = some (.cells #[.slice (some ⟨sg, 0, none⟩) 1 sc, .slice (some ⟨vb, 0, none⟩) 1 vc, .int .i64 now, .int .i64 last, .bool true, vh] 56 (0, 0)) := blk_put HS5.out 4 _ rfl
    have hEn : Eff (fun k => k = s) V5 (V5.setCell ⟨s, 4, none⟩ (.bool true)) := (Eff.refl V5 (fun k => k = s)).set HS5.out (by decide) (.inl rfl) _
    refine hK _ _ ⟨HQ.out _ hgbn, ?_⟩
    clear hK n0 n1
    obtain ⟨X1, hX1⟩ : ∃ X1 : World, X1 = V5.setCell ⟨s, 4, none⟩ (.bool true) := ⟨_, rfl⟩
    rw [← hX1] at hgbn hgn hsn hEn ⊢
    have HGBX1 := Aside0.mk hgbn
    have HGX1 := Aside0.mk hgn
    have HSX1 := Aside0.mk hsn
    have HEX1 := Aside0.mk hEn
    clear hgbn hgn hsn hEn hX1
    go_simp
    refine wpAnyH_take (i := 10) (v := (.pointer (some ⟨s, 0, none⟩))) rfl (by kernel_rfl) (by kernel_rfl) (by kernel_rfl) (fun _ _ _ h => h) (Or.inl ⟨by kernel_rfl, fun V hV => ?_⟩) (HQ.out _ HGBX1.out) ?_
    · go_simp
    refine wpAnyH_take (i := 11) (v := (.pointer (some ⟨s, 3, none⟩))) rfl (by kernel_rfl) (by kernel_rfl) (by kernel_rfl) (fun _ _ _ h => h) (Or.inl ⟨by kernel_rfl, fun V hV => ?_⟩) (HQ.out _ HGBX1.out) ?_
    · go_simp
    go_simp
    refine wpAnyH_all (rs := [12]) (by kernel_rfl) (by simp) ?_
    intro i' hi'
    obtain rfl : i' = 12 := by simpa using hi'
    refine wpOp_step rfl (fun K hK => ?_)
    have n0 : X1.cell? ⟨s, 3, none⟩ = some (.int .i64 last) := (blk_cell HSX1.out 3).trans rfl
    have n1 : X1.frozen? ⟨s, 3, none⟩ = false := blk_frozen HSX1.out 3
    go_simp
    have hgbn := blk_far HGBX1.out (p := ⟨s, 3, none⟩) (Ne.symm HSL.out.1) (.int .i64 a.f0)
    have hgn := blk_far HGX1.out (p := ⟨s, 3, none⟩) (Ne.symm HSL.out.2) (.int .i64 a.f0)
    have hsn : (X1.setCell ⟨s, 3, none⟩ (.int .i64 a.f0)).heap[s]? = some (.cells #[.slice (some ⟨sg, 0, none⟩) 1 sc, .slice (some ⟨vb, 0, none⟩) 1 vc, .int .i64 now, .int .i64 a.f0, .bool true, vh] 56 (0, 0)) := blk_put HSX1.out 3 _ rfl
    have hEn : Eff (fun k => k = s) V5 (X1.setCell ⟨s, 3, none⟩ (.int .i64 a.f0)) := HEX1.out.set HSX1.out (by decide) (.inl rfl) _
    refine hK _ _ ⟨HQ.out _ hgbn, ?_⟩
    clear hK n0 n1
    obtain ⟨X2, hX2⟩ : ∃ X2 : World, X2 = X1.setCell ⟨s, 3, none⟩ (.int .i64 a.f0) := ⟨_, rfl⟩
    rw [← hX2] at hgbn hgn hsn hEn ⊢
    have HGBX2 := Aside0.mk hgbn
    have HGX2 := Aside0.mk hgn
    have HSX2 := Aside0.mk hsn
    have HEX2 := Aside0.mk hEn
    clear hgbn hgn hsn hEn hX2
    go_simp
    refine wpAnyH_take (i := 13) (v := (.pointer (some ⟨s, 0, none⟩))) rfl (by kernel_rfl) (by kernel_rfl) (by kernel_rfl) (fun _ _ _ h => h) (Or.inl ⟨by kernel_rfl, fun V hV => ?_⟩) (HQ.out _ HGBX2.out) ?_
    · go_simp
    refine wpAnyH_take (i := 14) (v := (.pointer (some ⟨s, 2, none⟩))) rfl (by kernel_rfl) (by kernel_rfl) (by kernel_rfl) (fun _ _ _ h => h) (Or.inl ⟨by kernel_rfl, fun V hV => ?_⟩) (HQ.out _ HGBX2.out) ?_
    · go_simp
    go_simp
    refine wpAnyH_all (rs := [15]) (by kernel_rfl) (by simp) ?_
    intro i' hi'
    obtain rfl : i' = 15 := by simpa using hi'
    refine wpOp_step rfl (fun K hK => ?_)
    have n0 : X2.cell? ⟨s, 2, none⟩ = some (.int .i64 now) := (blk_cell HSX2.out 2).trans rfl
    have n1 : X2.frozen? ⟨s, 2, none⟩ = false := blk_frozen HSX2.out 2
    go_simp
    have hgbn := blk_far HGBX2.out (p := ⟨s, 2, none⟩) (Ne.symm HSL.out.1) (.int .i64 a.f1)
    have hgn := blk_far HGX2.out (p := ⟨s, 2, none⟩) (Ne.symm HSL.out.2) (.int .i64 a.f1)
    have hsn : (X2.setCell ⟨s, 2, none⟩ (.int .i64 a.f1)).heap[s]? = some (.cells #[.slice (some ⟨sg, 0, none⟩) 1 sc, .slice (some ⟨vb, 0, none⟩) 1 vc, .int .i64 a.f1, .int .i64 a.f0, .bool true, vh] 56 (0, 0)) := blk_put HSX2.out 2 _ rfl
    have hEn : Eff (fun k => k = s) V5 (X2.setCell ⟨s, 2, none⟩ (.int .i64 a.f1)) := HEX2.out.set HSX2.out (by decide) (.inl rfl) _
    refine hK _ _ ⟨HQ.out _ hgbn, ?_⟩
    clear hK n0 n1
    obtain ⟨X3, hX3⟩ : ∃ X3 : World, X3 = X2.setCell ⟨s, 2, none⟩ (.int .i64 a.f1) := ⟨_, rfl⟩
    rw [← hX3] at hgbn hgn hsn hEn ⊢
    have HGBX3 := Aside0.mk hgbn
    have HGX3 := Aside0.mk hgn
    have HSX3 := Aside0.mk hsn
    have HEX3 := Aside0.mk hEn
    clear hgbn hgn hsn hEn hX3
    go_simp
    refine wpAnyH_done (by kernel_rfl) ?_ _
    clear HGBX1 HGX1 HSX1 HEX1 HGBX2 HGX2 HSX2 HEX2
    have s1 : X3.cell? ⟨s, 1, none⟩ = some (.slice (some ⟨vb, 0, none⟩) 1 vc) := (blk_cell HSX3.out 1).trans rfl
    have hXs : ∀ {ok1 : Nat → Prop} {v : Value} {xs : List S30}, Sh w base ok1 v xs → Sh X3 base ok1 v xs := fun hh => (hh.below HB5.out).move HEX3.out.k46 (fun k hk => HEX3.out.kept.2 k (Kd.R_lt (hh.below HB5.out) k hk) (fun e => Kd.R_ne (hh.below HB5.out) HS5.out (by decide) (e ▸ hk.symm)))
    have Q5 := Aside0.mk (hXs P5.out)
    have Q6 := Aside0.mk (hXs P6.out)
    have Q2 := Aside0.mk (Kd.R_mono (Kd.R_kept (Kd.R_types (Kd.R_below P2.out HB5.out) HS5.out (by simp [Kd.raw])) HEX3.out.kept (fun k hk e => hk.2 e)) (fun k hk => hk.1))
    have Q3 := Aside0.mk (Kd.R_mono (Kd.R_kept (Kd.R_types (Kd.R_below P3.out HB5.out) HS5.out (by simp [Kd.raw])) HEX3.out.kept (fun k hk e => hk.2 e)) (fun k hk => hk.1))
    have HNS : Aside0 (nb ≠ s) := ⟨blk_ne P4.out P1.out (by decide)⟩
    have Q4 := Aside0.mk (blk_kept (blk_below P4.out HB5.out) HEX3.out.kept HNS.out)
    have HMX : Aside0 (k30.M X3 base (fun _ => True) a [.int .i64 a.f0, .int .i64 a.f1, .slice A6 a.f2.length c6]) := ⟨M_at HEX3.out.k46 (k30.M_lower hle (k30_mkM _ _ _ a HR5.out))⟩
    have HEW : Aside0 (Eff ok w X3) := ⟨(Eff.of_below HB5.out ok).then_ HEX3.out (fun k hk => .inl (hk ▸ P8.out.1))⟩
    have HZ3 : Aside0 (w.heap.size ≤ X3.heap.size) := ⟨HEW.out.kept.1⟩
    obtain ⟨vb', vc', ev, _, v0⟩ := raw1_at Q3.out
    obtain ⟨rfl, rfl⟩ : vb = vb' ∧ vc = vc' := by injection ev with e1 _ e3; injection e1 with e1; injection e1 with e1; exact ⟨e1, e3⟩
    have HV0 := Aside0.mk v0
    clear v0 ev hXs HQ HS5 HG5 HGB5 HB5 HR5
    go_wp2_with fail
    go_loopw [88] (fun t88 wr => (t88 = .int .i64 0 ∧ Aside0 (wr = X3)) ∨ (t88 = .int .i64 1 ∧ Aside0 (SetIs wr base s n a.f1 a.f0 true (lastn n (V ++ [a])) H (fun k => ((ok k ∧ k < w.heap.size) ∨ w.heap.size ≤ k) ∧ k ≠ g) ∧ Eff ok w wr ∧ wr.heap[g]? = some (.cells #[.slice none 0 0, .slice none 0 0] 40 (0, 0))))) (fun t88 _ => 1 - (intOf t88).toNat)
    case atStart => exact .inl ⟨rfl, ⟨rfl⟩⟩
    case round =>
      obtain ⟨rfl, hw⟩ | ⟨rfl, hw⟩ := hrel
      · have hw := hw.out
        subst hw
        have v0 := HV0.out
        go_wp2_with fail
        refine wp_region_held (S := fun V' => V'.cell? ⟨s, 2, none⟩ = some (.int .i64 a.f1)) (by kernel_rfl) ?_
        obtain ⟨V6, hV6⟩ : ∃ V6 : World, V6 = { wr with drawn := wr.drawn + 1 } := ⟨_, rfl⟩
        have hB6 : Below wr.heap.size wr V6 := by rw [hV6]; exact ⟨rfl, rfl, rfl, Nat.le_refl _, fun _ _ => rfl⟩
        rw [← hV6]
        have HB6 := Aside0.mk hB6
        clear hV6 hB6 v0
        have HQ : Aside0 (V6.cell? ⟨s, 2, none⟩ = some (.int .i64 a.f1)) := ⟨(blk_cell (blk_below HSX3.out HB6.out) 2).trans rfl⟩
        refine wpAnyH_take (i := 0) (v := (.iface 74 (.pointer (some ⟨nb, 0, none⟩)))) rfl (by kernel_rfl) (by kernel_rfl) (by kernel_rfl) (fun _ _ _ h => h) (Or.inl ⟨by kernel_rfl, fun V hV => ?_⟩) (HQ.out) ?_
        · go_simp
        refine wpAnyH_take (i := 1) (v := (.pointer (some ⟨s, 0, none⟩))) rfl (by kernel_rfl) (by kernel_rfl) (by kernel_rfl) (fun _ _ _ h => h) (Or.inl ⟨by kernel_rfl, fun V hV => ?_⟩) (HQ.out) ?_
        · go_simp
        refine wpAnyH_take (i := 2) (v := (.pointer (some ⟨s, 0, none⟩))) rfl (by kernel_rfl) (by kernel_rfl) (by kernel_rfl) (fun _ _ _ h => h) (Or.inl ⟨by kernel_rfl, fun V hV => ?_⟩) (HQ.out) ?_
        · go_simp
        refine wpAnyH_take (i := 3) (v := (.pointer (some ⟨s, 2, none⟩))) rfl (by kernel_rfl) (by kernel_rfl) (by kernel_rfl) (fun _ _ _ h => h) (Or.inl ⟨by kernel_rfl, fun V hV => ?_⟩) (HQ.out) ?_
        · go_simp
        refine wpAnyH_take (i := 4) (v := (.int .i64 a.f1)) rfl (by kernel_rfl) (by kernel_rfl) (by kernel_rfl) (fun _ _ _ h => h) (Or.inl ⟨by kernel_rfl, fun V hV => ?_⟩) (HQ.out) ?_
        · go_simp
        have hna := n_advance nb
        refine wpAnyH_take (i := 5) (v := (.func (.method "marquee/views.advance") #[.iface 74 (.pointer (some ⟨nb, 0, none⟩))] #[])) rfl (by kernel_rfl) (by kernel_rfl) (by kernel_rfl) (fun _ _ _ h => h) (Or.inl ⟨by kernel_rfl, fun V hV => ?_⟩) (HQ.out) ?_
        · go_simp
        refine wpAnyH_take (i := 6) (v := (.func (.method "marquee/views.advance") #[.iface 74 (.pointer (some ⟨nb, 0, none⟩))] #[])) rfl (by kernel_rfl) (by kernel_rfl) (by kernel_rfl) (fun _ _ _ h => h) (Or.inl ⟨by kernel_rfl, fun V hV => ?_⟩) (HQ.out) ?_
        · go_simp
        refine wpAnyH_take (i := 7) (v := (.iface 74 (.pointer (some ⟨nb, 0, none⟩)))) rfl (by kernel_rfl) (by kernel_rfl) (by kernel_rfl) (fun _ _ _ h => h) (Or.inl ⟨by kernel_rfl, fun V hV => ?_⟩) (HQ.out) ?_
        · go_simp
        go_simp
        have hm := m_advance nb
        have hm2 := m_add nb
        refine wpAnyH_all (rs := [8]) (by kernel_rfl) (by simp) ?_
        intro i' hi'
        obtain rfl : i' = 8 := by simpa using hi'
        refine wpOp_step rfl (fun K hK => ?_)
        go_simp
        refine (advance_calls _ _ V6).mono ?_
        rintro e w6 ⟨hw6, r, rfl⟩
        rw [hw6]
        clear hw6
        refine hK _ _ ⟨HQ.out, ?_⟩
        clear hK
        refine wpAnyH_done (by kernel_rfl) ?_ _
        have g0 : V6.cell? ⟨gb, 0, none⟩ = some (.int .i64 a.f0) := (blk_cell (blk_below HGBX3.out HB6.out) 0).trans rfl
        have g1 : V6.cell? ⟨gb, 1, none⟩ = some (.int .i64 a.f1) := (blk_cell (blk_below HGBX3.out HB6.out) 1).trans rfl
        have g2 : V6.cell? ⟨gb, 2, none⟩ = some (.slice A6 a.f2.length c6) := (blk_cell (blk_below HGBX3.out HB6.out) 2).trans rfl
        clear HQ
        go_wp2_with fail
        have R4 := blk_below Q4.out HB6.out
        have R5 := Q5.out.below HB6.out
        have R6 := Q6.out.below HB6.out
        have R2 := Kd.R_below Q2.out HB6.out
        have R3 := Kd.R_below Q3.out HB6.out
        have RS := blk_below HSX3.out HB6.out
        have RG := blk_below HGX3.out HB6.out
        refine (newestAdd_calls nb base vl n V a (.slice A6 a.f2.length c6) _ V6 R4 R5 (by omega) (by omega) (M_at (fun k cells hk => blk_below hk HB6.out) HMX.out) (Nat.le_trans hle (Nat.le_trans HZ3.out HB6.out.size))).mono ?_
        rintro e w7 ⟨⟨r7, rfl⟩, v', hn7, hs7, he7⟩
        clear g0 g1 g2 hm hm2 hna
        have hz6 : w.heap.size ≤ V6.heap.size := Nat.le_trans HZ3.out HB6.out.size
        have hgl : g < V6.heap.size := blk_lt RG
        have hty : ∀ k, vl.ownBlock = some k → ∃ cells, V6.heap[k]? = some (.cells cells 30 (0, 0)) := Kd.R_typed R5
        have hns : nb ≠ s := HNS.out
        have hng : nb ≠ g := blk_ne R4 RG (by decide)
        have hfin : SetIs w7 base s n a.f1 a.f0 true (lastn n (V ++ [a])) H (fun k => ((ok k ∧ k < w.heap.size) ∨ w.heap.size ≤ k) ∧ k ≠ g) := by
          refine ⟨.slice (some ⟨sg, 0, none⟩) 1 sc, .slice (some ⟨vb, 0, none⟩) 1 vc, nb, v', vh, blk_kept RS he7.kept (fun e => e.elim (fun e => hns e.symm) (fun e => Kd.R_ne R5 RS (by decide) e.symm)), ?_, ?_, hn7, hs7.mono (fun k _ hk => ?_), ?_, ?_, ?_, ?_⟩
          · exact Kd.R_mono (Kd.R_kept (Kd.R_apart' (v := vl) (Kd.R_types R2 R4 (by simp [Kd.raw])) hty (by simp [Kd.raw])) he7.kept (fun k hk e => e.elim (fun e => hk.1.2 e) (fun e => hk.2 e.symm))) (fun k hk => ⟨.inl hk.1.1, by have := hk.1.1.2; have := HGW.out; omega⟩)
          · exact Kd.R_mono (Kd.R_kept (Kd.R_apart' (v := vl) (Kd.R_types R3 R4 (by simp [Kd.raw])) hty (by simp [Kd.raw])) he7.kept (fun k hk e => e.elim (fun e => hk.1.2 e) (fun e => hk.2 e.symm))) (fun k hk => ⟨.inl hk.1.1, by have := hk.1.1.2; have := HGW.out; omega⟩)
          · rcases hk with hk | hk
            · have := P5.out.1 k hk
              exact ⟨.inl this, by have := this.2; have := HGW.out; omega⟩
            · exact ⟨.inr (by omega), by omega⟩
          · exact (R6.move he7.k46 (fun k hk => he7.kept.2 k (Kd.R_lt R6 k hk) (fun e => e.elim (fun e => Kd.R_ne R6 R4 (by decide) (e ▸ hk.symm)) (fun e => P7.out k e hk)))).mono (fun k hk hk2 => ⟨.inl hk2, by have := hk2.2; have := HGW.out; omega⟩)
          · intro k hk hk2
            rcases hs7.1 k hk with h | h
            · exact P7.out k h hk2
            · have := Kd.R_lt R6 k hk2; omega
          · exact ⟨.inl P8.out, by have := P8.out.2; have := HGW.out; omega⟩
          · exact ⟨.inl P9.out, by have := P9.out.2; have := HGW.out; omega⟩
        have hEf : Eff ok w w7 := ((HEW.out.then_below HB6.out)).then_ he7 (fun k hk => hk.elim (fun e => .inl (e ▸ P9.out.1)) (fun e => .inl (P5.out.1 k e).1))
        have hgf := blk_kept RG he7.kept (fun e => e.elim (fun e => hng e.symm) (fun e => Kd.R_ne R5 RG (by decide) e.symm))
        have HFIN := Aside0.mk (And.intro hfin (And.intro hEf hgf))
        clear hfin hEf hgf R2 R3 R4 R5 R6 RS RG hty hns hng hn7 hs7 he7
        go_wp2_with fail
        go_roundw
        case rel => exact .inr ⟨rfl, HFIN⟩
        case measure => simp [intOf]
      · have HW2 := Aside0.mk hw.out
        clear hw
        go_wp2_with fail
        have hll : (lastn n (V ++ [a])).length ≤ 1000000 := Nat.le_trans (by unfold lastn; rw [List.length_drop]; exact Nat.sub_le _ _) (show (V ++ [a]).length ≤ 1000000 by rw [List.length_append]; simp; omega)
        have hls : Short (lastn n (V ++ [a])) := ⟨by omega, fun x hx => by
          rcases List.mem_append.1 (List.mem_of_mem_drop hx) with hx | hx
          · exact hV.2 x hx
          · rw [List.mem_singleton.1 hx]; exact har⟩
        refine (told_calls base s n a.f1 a.f0 true (lastn n (V ++ [a])) H _ wr HW2.out.1 hls hH hll (Nat.le_trans hle HW2.out.2.1.kept.1)).mono ?_
        rintro e w8 ⟨⟨B1, m1, e1, B2, m2, e2, rfl⟩, hs8, he8⟩
        have hgs : g ≠ s := Ne.symm HSL.out.2
        have hg8 := blk_kept HW2.out.2.2 he8.kept hgs
        have hgl := blk_lt HW2.out.2.2
        have n0 : w8.cell? ⟨g, 0, none⟩ = some (.slice none 0 0) := (blk_cell hg8 0).trans rfl
        have n1 : w8.cell? ⟨g, 1, none⟩ = some (.slice none 0 0) := (blk_cell hg8 1).trans rfl
        have n2 : w8.frozen? ⟨g, 0, none⟩ = false := blk_frozen hg8 0
        have n3 : w8.frozen? ⟨g, 1, none⟩ = false := blk_frozen hg8 1
        have HS8 := Aside0.mk hs8
        have HE8 := Aside0.mk he8
        have HG8 := Aside0.mk hg8
        have HGL := Aside0.mk hgl
        clear hs8 he8 hg8 hgs hgl hll hls
        go_wp2_with fail
        have hp : ((w8.setCell ⟨g, 0, none⟩ (.slice B1 m1 e1))).heap[g]? = some (.cells #[.slice B1 m1 e1, .slice none 0 0] 40 (0, 0)) := blk_put HG8.out 0 _ rfl
        refine bodyPost_ret (results_cell_row rfl _ _ g 40 #[.slice B1 m1 e1, .slice B2 m2 e2] (0, 0) _ rfl (blk_put hp 1 _ rfl) Try.underlying40 rfl (by kernel_rfl)) rfl ?_
        have heg : Eff (fun k => k = g) w8 ((w8.setCell ⟨g, 0, none⟩ (.slice B1 m1 e1)).setCell ⟨g, 1, none⟩ (.slice B2 m2 e2)) := ((Eff.refl w8 (fun k => k = g)).set HG8.out (by decide) (.inl rfl) _).set hp (by decide) (.inl rfl) _
        refine ⟨⟨_, rfl⟩, (HS8.out.eff heg (fun k hk e => hk.elim (fun h => h.2 e) (fun h => by have := HGL.out; omega))).mono (fun k hk => ?_), ?_⟩
        · have hz := HW2.out.2.1.kept.1
          rcases hk with ⟨⟨h, _⟩ | h, _⟩ | h
          · exact .inl h
          · exact .inr h
          · exact .inr (by omega)
        · exact (HW2.out.2.1.then_ HE8.out (fun k hk => .inl (hk ▸ P8.out.1))).then_ heg (fun k hk => .inr (by have := HGW.out; omega))
end Go.Proofs.Ytdbhlfnpaloomaa.M
