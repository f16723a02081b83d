/- (*join.Join).turn, Add, Content, Len. -/
import Derived.Test.YtdbhlfnpaloomaaN
namespace Go.Proofs.Ytdbhlfnpaloomaa.O
open Go.RowKit Go.Proofs.YtdbhlfnpaloomaaW.PrintWords Go.Proofs.YtdbhlfnpaloomaaW.PrintLast Go.Proofs.YtdbhlfnpaloomaaW.PrintMore
open Go.Proofs.Ytdbhlfnpaloomaa.PSame Go.Proofs.Ytdbhlfnpaloomaa.A Go.Proofs.Ytdbhlfnpaloomaa.B Go.Proofs.Ytdbhlfnpaloomaa.F Go.Proofs.Ytdbhlfnpaloomaa.G Go.Proofs.Ytdbhlfnpaloomaa.H Go.Proofs.Ytdbhlfnpaloomaa.I Go.Proofs.Ytdbhlfnpaloomaa.J Go.Proofs.Ytdbhlfnpaloomaa.K Go.Proofs.Ytdbhlfnpaloomaa.L Go.Proofs.Ytdbhlfnpaloomaa.M Go.Proofs.Ytdbhlfnpaloomaa.N
set_option linter.unusedVariables false
set_option linter.unusedSimpArgs false

theorem Fine.len {l : List S30} (h : Fine l) : l.length ≤ 1000000 := by have := h.1; omega
theorem Fine.row {l : List S30} (h : Fine l) : ∀ a ∈ l, a.f2.length ≤ 4194304 := fun a ha => by have := (h.2 a ha).2.2; omega

set_option maxRecDepth 100000 in
set_option maxHeartbeats 8000000 in
theorem turn_calls (base j : Nat) (okA : Nat → Prop) (x y : St) (P : List S30) (w : World) (h : JoinIs w base okA j x y P) (fx : Fine x.H) (fy : Fine y.H) (sP : Short P) (sQ : Short (pairs x.H y.H)) (hle : base ≤ w.heap.size) :
    Calls Try.prog 17 #[.pointer (some ⟨j, 0, none⟩)] w fun e w' => ∃ N' A1 c1 A2 c2, e = .returned (.agg #[.slice A1 (news (pairs x.H y.H) P).length c1, .slice A2 (news P (pairs x.H y.H)).length c2]) ∧ Kd.R k30 30 w' N' (fun _ => True) (.slice A1 (news (pairs x.H y.H) P).length c1) (news (pairs x.H y.H) P) ∧ Kd.R k30 30 w' N' (fun _ => True) (.slice A2 (news P (pairs x.H y.H)).length c2) (news P (pairs x.H y.H)) ∧ JoinIs w' base (fun k => okA k ∨ (w.heap.size ≤ k ∧ k < N')) j x y (pairs x.H y.H) ∧ Eff (fun k => k = j) w w' ∧ w.heap.size ≤ N' ∧ N' ≤ w'.heap.size := by
  obtain ⟨s0, s1, vh, ok0, ok1, okj, b1, b2, b3, b4, b5, b6, b7, b8, b9⟩ := h
  obtain ⟨A, c, rfl, hlc, _⟩ := b4.reads
  have P1 := Aside0.mk b1
  have P2 := Aside0.mk b2
  have P3 := Aside0.mk b3
  have P4 := Aside0.mk b4
  have P5 := Aside0.mk b5
  have P6 := Aside0.mk b6
  have P7 := Aside0.mk b7
  have P8 := Aside0.mk b8
  have P9 := Aside0.mk b9
  clear b1 b2 b3 b4 b5 b6 b7 b8 b9
  obtain ⟨Q, hQ⟩ : ∃ Q, Q = pairs x.H y.H := ⟨_, rfl⟩
  rw [← hQ] at sQ ⊢
  have HQE := Aside0.mk hQ
  clear hQ
  have j2 : (w.alloc (.cells #[.slice none 0 0, .slice none 0 0] 40)).cell? ⟨j, 2, none⟩ = some (.slice A P.length c) := (blk_cell (blk_alloc P1.out _) 2).trans rfl
  go_enter Try.func17, Try.ntmps17
  go_wp2_with fail
  clear j2
  obtain ⟨wa, hwa⟩ : ∃ wa : World, wa = w.alloc (.cells #[.slice none 0 0, .slice none 0 0] 40) := ⟨_, rfl⟩
  have hBa : Below w.heap.size w wa := by rw [hwa]; exact below_alloc (Below.refl _ _) _
  have hg : wa.heap[w.heap.size]? = some (.cells #[.slice none 0 0, .slice none 0 0] 40 (0, 0)) := by rw [hwa]; exact blk_new _ _
  rw [← hwa]
  obtain ⟨g, hge⟩ : ∃ g, g = w.heap.size := ⟨_, rfl⟩
  rw [← hge] at hg ⊢
  have HGE := Aside0.mk hge
  clear hwa hge
  refine wp_region_held (S := fun V' => V'.cell? ⟨j, 0, none⟩ = some (.pointer (some ⟨s0, 0, none⟩)) ∧ V'.cell? ⟨j, 1, none⟩ = some (.pointer (some ⟨s1, 0, none⟩))) (by kernel_rfl) ?_
  obtain ⟨V1, hV1⟩ : ∃ V1 : World, V1 = { wa with drawn := wa.drawn + 1 } := ⟨_, rfl⟩
  have hB1 : Below wa.heap.size wa V1 := by rw [hV1]; exact ⟨rfl, rfl, rfl, Nat.le_refl _, fun _ _ => rfl⟩
  rw [← hV1]
  have HB1 := Aside0.mk (below_then hBa hBa.size hB1)
  have HG1 := Aside0.mk (blk_below hg hB1)
  have HJ1 := Aside0.mk (blk_below P1.out HB1.out)
  clear hV1 hB1 hBa hg
  have HQ : Aside0 (∀ (V' : World) (u : Value), V'.heap[j]? = some (.cells #[.pointer (some ⟨s0, 0, none⟩), .pointer (some ⟨s1, 0, none⟩), u] 51 (0, 0)) → (V'.cell? ⟨j, 0, none⟩ = some (.pointer (some ⟨s0, 0, none⟩)) ∧ V'.cell? ⟨j, 1, none⟩ = some (.pointer (some ⟨s1, 0, none⟩)))) := ⟨fun V' u h => ⟨(blk_cell h 0).trans rfl, (blk_cell h 1).trans rfl⟩⟩
  refine wpAnyH_take (i := 0) (v := (.pointer (some ⟨j, 0, none⟩))) rfl (by kernel_rfl) (by kernel_rfl) (by kernel_rfl) (fun _ _ _ h => h) (Or.inl ⟨by kernel_rfl, fun V hV => ?_⟩) (HQ.out _ _ HJ1.out) ?_
  · obtain ⟨g0, g1⟩ := hV
    go_simp
  refine wpAnyH_take (i := 1) (v := (.pointer (some ⟨j, 0, none⟩))) rfl (by kernel_rfl) (by kernel_rfl) (by kernel_rfl) (fun _ _ _ h => h) (Or.inl ⟨by kernel_rfl, fun V hV => ?_⟩) (HQ.out _ _ HJ1.out) ?_
  · obtain ⟨g0, g1⟩ := hV
    go_simp
  refine wpAnyH_take (i := 2) (v := (.pointer (some ⟨j, 0, none⟩))) rfl (by kernel_rfl) (by kernel_rfl) (by kernel_rfl) (fun _ _ _ h => h) (Or.inl ⟨by kernel_rfl, fun V hV => ?_⟩) (HQ.out _ _ HJ1.out) ?_
  · obtain ⟨g0, g1⟩ := hV
    go_simp
  refine wpAnyH_take (i := 3) (v := (.pointer (some ⟨j, 0, none⟩))) rfl (by kernel_rfl) (by kernel_rfl) (by kernel_rfl) (fun _ _ _ h => h) (Or.inl ⟨by kernel_rfl, fun V hV => ?_⟩) (HQ.out _ _ HJ1.out) ?_
  · obtain ⟨g0, g1⟩ := hV
    go_simp
  refine wpAnyH_take (i := 4) (v := (.pointer (some ⟨j, 0, none⟩))) rfl (by kernel_rfl) (by kernel_rfl) (by kernel_rfl) (fun _ _ _ h => h) (Or.inl ⟨by kernel_rfl, fun V hV => ?_⟩) (HQ.out _ _ HJ1.out) ?_
  · obtain ⟨g0, g1⟩ := hV
    go_simp
  refine wpAnyH_take (i := 5) (v := (.pointer (some ⟨s0, 0, none⟩))) rfl (by kernel_rfl) (by kernel_rfl) (by kernel_rfl) (fun _ _ _ h => h) (Or.inl ⟨by kernel_rfl, fun V hV => ?_⟩) (HQ.out _ _ HJ1.out) ?_
  · obtain ⟨g0, g1⟩ := hV
    go_simp
  refine wpAnyH_take (i := 7) (v := (.pointer (some ⟨j, 0, none⟩))) rfl (by kernel_rfl) (by kernel_rfl) (by kernel_rfl) (fun _ _ _ h => h) (Or.inl ⟨by kernel_rfl, fun V hV => ?_⟩) (HQ.out _ _ HJ1.out) ?_
  · obtain ⟨g0, g1⟩ := hV
    go_simp
  refine wpAnyH_take (i := 8) (v := (.pointer (some ⟨j, 0, none⟩))) rfl (by kernel_rfl) (by kernel_rfl) (by kernel_rfl) (fun _ _ _ h => h) (Or.inl ⟨by kernel_rfl, fun V hV => ?_⟩) (HQ.out _ _ HJ1.out) ?_
  · obtain ⟨g0, g1⟩ := hV
    go_simp
  refine wpAnyH_take (i := 9) (v := (.pointer (some ⟨j, 0, none⟩))) rfl (by kernel_rfl) (by kernel_rfl) (by kernel_rfl) (fun _ _ _ h => h) (Or.inl ⟨by kernel_rfl, fun V hV => ?_⟩) (HQ.out _ _ HJ1.out) ?_
  · obtain ⟨g0, g1⟩ := hV
    go_simp
  refine wpAnyH_take (i := 10) (v := (.pointer (some ⟨j, 1, none⟩))) rfl (by kernel_rfl) (by kernel_rfl) (by kernel_rfl) (fun _ _ _ h => h) (Or.inl ⟨by kernel_rfl, fun V hV => ?_⟩) (HQ.out _ _ HJ1.out) ?_
  · obtain ⟨g0, g1⟩ := hV
    go_simp
  refine wpAnyH_take (i := 11) (v := (.pointer (some ⟨s1, 0, none⟩))) rfl (by kernel_rfl) (by kernel_rfl) (by kernel_rfl) (fun _ _ _ h => h) (Or.inl ⟨by kernel_rfl, fun V hV => ?_⟩) (HQ.out _ _ HJ1.out) ?_
  · obtain ⟨g0, g1⟩ := hV
    go_simp
  go_simp
  refine wpAnyH_all (rs := [6]) (by kernel_rfl) (by simp) ?_
  intro i' hi'
  obtain rfl : i' = 6 := by simpa using hi'
  refine wpOp_step rfl (fun K hK => ?_)
  go_simp
  refine (content_calls base s0 _ _ _ _ _ _ _ V1 (SetIs.below P2.out HB1.out) (Fine.len fx) (Fine.row fx)).mono ?_
  rintro e w2 ⟨v2, rfl, hv2, hb2⟩
  obtain ⟨A2, c2, rfl⟩ := Kd.R_slice hv2
  have hj2 := blk_below HJ1.out hb2
  refine hK _ _ ⟨HQ.out _ _ hj2, ?_⟩
  clear hK
  have HB2 := Aside0.mk (below_then HB1.out HB1.out.size hb2)
  have HG2 := Aside0.mk (blk_below HG1.out hb2)
  have HJ2 := Aside0.mk hj2
  have HV2 := Aside0.mk hv2
  clear hb2 hj2 hv2 HG1
  go_simp
  refine wpAnyH_all (rs := [12]) (by kernel_rfl) (by simp) ?_
  intro i' hi'
  obtain rfl : i' = 12 := by simpa using hi'
  refine wpOp_step rfl (fun K hK => ?_)
  go_simp
  refine (content_calls base s1 _ _ _ _ _ _ _ w2 (SetIs.below P3.out HB2.out) (Fine.len fy) (Fine.row fy)).mono ?_
  rintro e w3 ⟨v3, rfl, hv3, hb3⟩
  obtain ⟨A3, c3, rfl⟩ := Kd.R_slice hv3
  have hj3 := blk_below HJ2.out hb3
  refine hK _ _ ⟨HQ.out _ _ hj3, ?_⟩
  clear hK
  have HB3 := Aside0.mk (below_then HB2.out HB2.out.size hb3)
  have HG3 := Aside0.mk (blk_below HG2.out hb3)
  have HJ3 := Aside0.mk hj3
  have HV23 := Aside0.mk (Kd.R_below HV2.out hb3)
  have HV3 := Aside0.mk hv3
  clear hb3 hj3 hv3 HG2 HV2
  go_simp
  refine wpAnyH_all (rs := [13]) (by kernel_rfl) (by simp) ?_
  intro i' hi'
  obtain rfl : i' = 13 := by simpa using hi'
  refine wpOp_step rfl (fun K hK => ?_)
  go_simp
  refine (pairs_calls x.H y.H A2 A3 c2 c3 w3 (Kd.R_reads' HV23.out).2.2 (Kd.R_reads' HV23.out).2.1 (Kd.R_reads' HV3.out).2.2 (Kd.R_reads' HV3.out).2.1 fx fy).mono ?_
  rintro e w4 ⟨v4, rfl, hv4, hb4⟩
  rw [← HQE.out] at hv4
  obtain ⟨A4, c4, rfl⟩ := Kd.R_slice hv4
  have hj4 := blk_below HJ3.out hb4
  refine hK _ _ ⟨HQ.out _ _ hj4, ?_⟩
  clear hK
  have HB4 := Aside0.mk (below_then HB3.out HB3.out.size hb4)
  have HG4 := Aside0.mk (blk_below HG3.out hb4)
  have HJ4 := Aside0.mk hj4
  have HV4 := Aside0.mk hv4
  have HZ4 := Aside0.mk HB3.out.size
  clear hb4 hj4 hv4 HG3
  go_simp
  refine wpAnyH_take (i := 14) (v := (.pointer (some ⟨j, 0, none⟩))) rfl (by kernel_rfl) (by kernel_rfl) (by kernel_rfl) (fun _ _ _ h => h) (Or.inl ⟨by kernel_rfl, fun V hV => ?_⟩) (HQ.out _ _ HJ4.out) ?_
  · go_simp
  refine wpAnyH_take (i := 15) (v := (.pointer (some ⟨j, 2, none⟩))) rfl (by kernel_rfl) (by kernel_rfl) (by kernel_rfl) (fun _ _ _ h => h) (Or.inl ⟨by kernel_rfl, fun V hV => ?_⟩) (HQ.out _ _ HJ4.out) ?_
  · go_simp
  go_simp
  refine wpAnyH_all (rs := [16]) (by kernel_rfl) (by simp) ?_
  intro i' hi'
  obtain rfl : i' = 16 := by simpa using hi'
  refine wpOp_step rfl (fun K hK => ?_)
  have n0 : w4.cell? ⟨j, 2, none⟩ = some (.slice A P.length c) := (blk_cell HJ4.out 2).trans rfl
  have n1 : w4.frozen? ⟨j, 2, none⟩ = false := blk_frozen HJ4.out 2
  go_simp
  have hj5 : (w4.setCell ⟨j, 2, none⟩ (.slice A4 Q.length c4)).heap[j]? = some (.cells #[.pointer (some ⟨s0, 0, none⟩), .pointer (some ⟨s1, 0, none⟩), .slice A4 Q.length c4] 51 (0, 0)) := blk_put HJ4.out 2 _ rfl
  refine hK _ _ ⟨HQ.out _ _ hj5, ?_⟩
  clear hK n0 n1
  refine wpAnyH_done (by kernel_rfl) ?_ _
  have hgj : g ≠ j := blk_ne HG4.out HJ4.out (by decide)
  have hg5 := blk_far HG4.out (p := ⟨j, 2, none⟩) hgj (.slice A4 Q.length c4)
  have hE5 : Eff (fun k => k = j) w (w4.setCell ⟨j, 2, none⟩ (.slice A4 Q.length c4)) := (Eff.of_below HB4.out (fun k => k = j)).set HJ4.out (by decide) (.inl rfl) _
  have hr5 : Kd.R k30 30 (w4.setCell ⟨j, 2, none⟩ (.slice A4 Q.length c4)) w.heap.size (fun _ => True) (.slice A4 Q.length c4) Q := Kd.R_lower (Kd.R_set HV4.out HJ4.out (by simp [k30, k46, Kd.iso, Kd.pair, Kd.slice, Kd.int, Kd.string, Kd.scalar]) 2 _) HZ4.out
  obtain ⟨X5, hX5⟩ : ∃ X5 : World, X5 = w4.setCell ⟨j, 2, none⟩ (.slice A4 Q.length c4) := ⟨_, rfl⟩
  rw [← hX5] at hj5 hg5 hE5 hr5 ⊢
  have HJ5 := Aside0.mk hj5
  have HG5 := Aside0.mk hg5
  have HE5 := Aside0.mk hE5
  have HR5 := Aside0.mk hr5
  have HGJ := Aside0.mk hgj
  have HP5 : Aside0 (Sh X5 base okj (.slice A P.length c) P) := ⟨P4.out.move hE5.k46 (fun k hk => hE5.kept.2 k (Kd.R_lt P4.out k hk) (fun e => Kd.R_ne P4.out P1.out (by decide) (e ▸ hk.symm)))⟩
  have m2 : X5.cell? ⟨j, 2, none⟩ = some (.slice A4 Q.length c4) := (blk_cell hj5 2).trans rfl
  clear hX5 hj5 hg5 hE5 hr5 hgj HJ1 HJ2 HJ3 HJ4 HG4 HV4 HV23 HV3 HQ HB1 HB2 HB3 HB4 HZ4
  go_wp2_with fail
  obtain ⟨A', c', ev, hlA, hCA⟩ := HP5.out.reads
  obtain ⟨rfl, rfl⟩ : A = A' ∧ c = c' := by injection ev with e1 _ e3; exact ⟨e1, e3⟩
  refine (diff_calls P Q A A4 c c4 X5 (C_of_at hCA) hlA (Kd.R_reads' HR5.out).2.2 (Kd.R_reads' HR5.out).2.1 sP sQ).mono ?_
  rintro e w6 ⟨d1, d2, rfl, hd1, hd2, hb6⟩
  obtain ⟨D1, e1, rfl⟩ := Kd.R_slice hd1
  obtain ⟨D2, e2, rfl⟩ := Kd.R_slice hd2
  clear ev hlA hCA m2
  obtain ⟨N1, hN1⟩ : ∃ X, X = news Q P := ⟨_, rfl⟩
  obtain ⟨N2, hN2⟩ : ∃ X, X = news P Q := ⟨_, rfl⟩
  rw [← hN1] at hd1 ⊢
  rw [← hN2] at hd2 ⊢
  have HN1 := Aside0.mk hN1
  have HN2 := Aside0.mk hN2
  have HD1 := Aside0.mk hd1
  have HD2 := Aside0.mk hd2
  have HG6 := Aside0.mk (blk_below HG5.out hb6)
  have HJ6 := Aside0.mk (blk_below HJ5.out hb6)
  have HE6 := Aside0.mk (HE5.out.then_below hb6)
  have HR6 := Aside0.mk (Kd.R_below HR5.out hb6)
  have HGL := Aside0.mk (blk_lt HG5.out)
  have HZ6 := Aside0.mk hb6.size
  clear hN1 hN2 hd1 hd2 hb6
  have n0 : w6.cell? ⟨g, 0, none⟩ = some (.slice none 0 0) := (blk_cell HG6.out 0).trans rfl
  have n1 : w6.cell? ⟨g, 1, none⟩ = some (.slice none 0 0) := (blk_cell HG6.out 1).trans rfl
  have n2 : w6.frozen? ⟨g, 0, none⟩ = false := blk_frozen HG6.out 0
  have n3 : w6.frozen? ⟨g, 1, none⟩ = false := blk_frozen HG6.out 1
  go_wp2_with fail
  have hp : (w6.setCell ⟨g, 0, none⟩ (.slice D1 N1.length e1)).heap[g]? = some (.cells #[.slice D1 N1.length e1, .slice none 0 0] 40 (0, 0)) := blk_put HG6.out 0 _ rfl
  refine bodyPost_ret (results_cell_row rfl _ _ g 40 #[.slice D1 N1.length e1, .slice D2 N2.length e2] (0, 0) _ rfl (blk_put hp 1 _ rfl) Try.underlying40 rfl (by kernel_rfl)) rfl ?_
  have heg : Eff (fun k => k = g) w6 ((w6.setCell ⟨g, 0, none⟩ (.slice D1 N1.length e1)).setCell ⟨g, 1, none⟩ (.slice D2 N2.length e2)) := ((Eff.refl w6 (fun k => k = g)).set HG6.out (by decide) (.inl rfl) _).set hp (by decide) (.inl rfl) _
  have hzF : ((w6.setCell ⟨g, 0, none⟩ (.slice D1 N1.length e1)).setCell ⟨g, 1, none⟩ (.slice D2 N2.length e2)).heap.size = w6.heap.size := by simp [World.setCell]
  have hjF := blk_far (blk_far HJ6.out (p := ⟨g, 0, none⟩) (Ne.symm HGJ.out) (.slice D1 N1.length e1)) (p := ⟨g, 1, none⟩) (Ne.symm HGJ.out) (.slice D2 N2.length e2)
  have hrF := Kd.R_set (Kd.R_set HR6.out HG6.out (by simp [k30, k46, Kd.iso, Kd.pair, Kd.slice, Kd.int, Kd.string, Kd.scalar]) 0 (.slice D1 N1.length e1)) hp (by simp [k30, k46, Kd.iso, Kd.pair, Kd.slice, Kd.int, Kd.string, Kd.scalar]) 1 (.slice D2 N2.length e2)
  obtain ⟨WF, hWF⟩ : ∃ WF, WF = ((w6.setCell ⟨g, 0, none⟩ (.slice D1 N1.length e1)).setCell ⟨g, 1, none⟩ (.slice D2 N2.length e2)) := ⟨_, rfl⟩
  have hD1 := R_old1 (i := 1) (R_old1 (i := 0) HD1.out HGL.out (.slice D1 N1.length e1)) HGL.out (.slice D2 N2.length e2)
  have hD2 := R_old1 (i := 1) (R_old1 (i := 0) HD2.out HGL.out (.slice D1 N1.length e1)) HGL.out (.slice D2 N2.length e2)
  rw [← hWF] at heg hzF hjF hrF hD1 hD2 ⊢
  have hgw : w.heap.size = g := HGE.out.symm
  have hEF : Eff (fun k => k = j) w WF := HE6.out.then_ heg (fun k hk => .inr (by omega))
  have hwz : w.heap.size ≤ WF.heap.size := hEF.kept.1
  have hp9 := P9.out
  have hz5 : w.heap.size ≤ X5.heap.size := HE5.out.kept.1
  have hjl : j < w.heap.size := blk_lt P1.out
  rw [← HN1.out, ← HN2.out]
  refine ⟨X5.heap.size, D1, e1, D2, e2, rfl, hD1, hD2, ⟨s0, s1, .slice A4 Q.length c4, ok0, ok1, fun k => k = j ∨ (w.heap.size ≤ k ∧ k < X5.heap.size), hjF, SetIs.eff P2.out hEF (fun k hk e => (P6.out k hk).2.2.2 (e ▸ P5.out)), SetIs.eff P3.out hEF (fun k hk e => (P7.out k hk).2.2 (e ▸ P5.out)), ?_, .inl rfl, ?_, ?_, ?_, ?_⟩, hEF, hz5, by have := HZ6.out; omega⟩
  · exact (Sh.lower (Sh.of_R hrF) hle).mono (fun k hk _ => .inr ⟨Kd.R_base hrF k hk, Kd.R_lt HR5.out k hk⟩)
  · intro k hk; have := P6.out k hk; exact ⟨this.1, .inl this.2.1, this.2.2.1, fun e => e.elim (fun e => this.2.2.2 (e ▸ P5.out)) (fun e => by have := P9.out _ this.2.1; omega)⟩
  · intro k hk; have := P7.out k hk; exact ⟨this.1, .inl this.2.1, fun e => e.elim (fun e => this.2.2 (e ▸ P5.out)) (fun e => by have := P9.out _ this.2.1; omega)⟩
  · intro k hk; rcases hk with rfl | hk; exact ⟨(P8.out _ P5.out).1, .inl (P8.out _ P5.out).2⟩; exact ⟨by omega, .inr hk⟩
  · intro k hk; rcases hk with hk | hk; exact ⟨(P9.out k hk).1, by have := P9.out k hk; omega⟩; exact ⟨by omega, by have := HZ6.out; omega⟩

set_option maxRecDepth 100000 in
set_option maxHeartbeats 8000000 in
theorem joinContent_calls (base j : Nat) (okA : Nat → Prop) (x y : St) (P : List S30) (w : World) (h : JoinIs w base okA j x y P) (fx : Fine x.H) (fy : Fine y.H) :
    Calls Try.prog 13 #[.pointer (some ⟨j, 0, none⟩)] w fun e w' => ∃ A c, e = .returned (.slice A (pairs x.H y.H).length c) ∧ Below w.heap.size w w' := by
  obtain ⟨s0, s1, vh, ok0, ok1, okj, b1, b2, b3, _⟩ := h
  have P1 := Aside0.mk b1
  have P2 := Aside0.mk b2
  have P3 := Aside0.mk b3
  clear b1 b2 b3
  go_enter Try.func13, Try.ntmps13
  go_wp2_with fail
  refine wp_region_held (S := fun V' => V'.cell? ⟨j, 0, none⟩ = some (.pointer (some ⟨s0, 0, none⟩)) ∧ V'.cell? ⟨j, 1, none⟩ = some (.pointer (some ⟨s1, 0, none⟩))) (by kernel_rfl) ?_
  obtain ⟨V1, hV1⟩ : ∃ V1 : World, V1 = { w with drawn := w.drawn + 1 } := ⟨_, rfl⟩
  have hB1 : Below w.heap.size w V1 := by rw [hV1]; exact ⟨rfl, rfl, rfl, Nat.le_refl _, fun _ _ => rfl⟩
  rw [← hV1]
  have HB1 := Aside0.mk hB1
  have HJ1 := Aside0.mk (blk_below P1.out hB1)
  clear hV1 hB1
  have HQ : Aside0 (∀ (V' : World) (u : Value), V'.heap[j]? = some (.cells #[.pointer (some ⟨s0, 0, none⟩), .pointer (some ⟨s1, 0, none⟩), u] 51 (0, 0)) → (V'.cell? ⟨j, 0, none⟩ = some (.pointer (some ⟨s0, 0, none⟩)) ∧ V'.cell? ⟨j, 1, none⟩ = some (.pointer (some ⟨s1, 0, none⟩)))) := ⟨fun V' u h => ⟨(blk_cell h 0).trans rfl, (blk_cell h 1).trans rfl⟩⟩
  refine wpAnyH_take (i := 0) (v := (.pointer (some ⟨j, 0, none⟩))) rfl (by kernel_rfl) (by kernel_rfl) (by kernel_rfl) (fun _ _ _ h => h) (Or.inl ⟨by kernel_rfl, fun V hV => ?_⟩) (HQ.out _ _ HJ1.out) ?_
  · obtain ⟨g0, g1⟩ := hV
    go_simp
  refine wpAnyH_take (i := 1) (v := (.pointer (some ⟨j, 0, none⟩))) rfl (by kernel_rfl) (by kernel_rfl) (by kernel_rfl) (fun _ _ _ h => h) (Or.inl ⟨by kernel_rfl, fun V hV => ?_⟩) (HQ.out _ _ HJ1.out) ?_
  · obtain ⟨g0, g1⟩ := hV
    go_simp
  refine wpAnyH_take (i := 2) (v := (.pointer (some ⟨j, 0, none⟩))) rfl (by kernel_rfl) (by kernel_rfl) (by kernel_rfl) (fun _ _ _ h => h) (Or.inl ⟨by kernel_rfl, fun V hV => ?_⟩) (HQ.out _ _ HJ1.out) ?_
  · obtain ⟨g0, g1⟩ := hV
    go_simp
  refine wpAnyH_take (i := 3) (v := (.pointer (some ⟨j, 0, none⟩))) rfl (by kernel_rfl) (by kernel_rfl) (by kernel_rfl) (fun _ _ _ h => h) (Or.inl ⟨by kernel_rfl, fun V hV => ?_⟩) (HQ.out _ _ HJ1.out) ?_
  · obtain ⟨g0, g1⟩ := hV
    go_simp
  refine wpAnyH_take (i := 4) (v := (.pointer (some ⟨s0, 0, none⟩))) rfl (by kernel_rfl) (by kernel_rfl) (by kernel_rfl) (fun _ _ _ h => h) (Or.inl ⟨by kernel_rfl, fun V hV => ?_⟩) (HQ.out _ _ HJ1.out) ?_
  · obtain ⟨g0, g1⟩ := hV
    go_simp
  refine wpAnyH_take (i := 6) (v := (.pointer (some ⟨j, 0, none⟩))) rfl (by kernel_rfl) (by kernel_rfl) (by kernel_rfl) (fun _ _ _ h => h) (Or.inl ⟨by kernel_rfl, fun V hV => ?_⟩) (HQ.out _ _ HJ1.out) ?_
  · obtain ⟨g0, g1⟩ := hV
    go_simp
  refine wpAnyH_take (i := 7) (v := (.pointer (some ⟨j, 0, none⟩))) rfl (by kernel_rfl) (by kernel_rfl) (by kernel_rfl) (fun _ _ _ h => h) (Or.inl ⟨by kernel_rfl, fun V hV => ?_⟩) (HQ.out _ _ HJ1.out) ?_
  · obtain ⟨g0, g1⟩ := hV
    go_simp
  refine wpAnyH_take (i := 8) (v := (.pointer (some ⟨j, 0, none⟩))) rfl (by kernel_rfl) (by kernel_rfl) (by kernel_rfl) (fun _ _ _ h => h) (Or.inl ⟨by kernel_rfl, fun V hV => ?_⟩) (HQ.out _ _ HJ1.out) ?_
  · obtain ⟨g0, g1⟩ := hV
    go_simp
  refine wpAnyH_take (i := 9) (v := (.pointer (some ⟨j, 1, none⟩))) rfl (by kernel_rfl) (by kernel_rfl) (by kernel_rfl) (fun _ _ _ h => h) (Or.inl ⟨by kernel_rfl, fun V hV => ?_⟩) (HQ.out _ _ HJ1.out) ?_
  · obtain ⟨g0, g1⟩ := hV
    go_simp
  refine wpAnyH_take (i := 10) (v := (.pointer (some ⟨s1, 0, none⟩))) rfl (by kernel_rfl) (by kernel_rfl) (by kernel_rfl) (fun _ _ _ h => h) (Or.inl ⟨by kernel_rfl, fun V hV => ?_⟩) (HQ.out _ _ HJ1.out) ?_
  · obtain ⟨g0, g1⟩ := hV
    go_simp
  go_simp
  refine wpAnyH_all (rs := [5]) (by kernel_rfl) (by simp) ?_
  intro i' hi'
  obtain rfl : i' = 5 := by simpa using hi'
  refine wpOp_step rfl (fun K hK => ?_)
  go_simp
  refine (content_calls base s0 _ _ _ _ _ _ _ V1 (SetIs.below P2.out HB1.out) (Fine.len fx) (Fine.row fx)).mono ?_
  rintro e w2 ⟨v2, rfl, hv2, hb2⟩
  obtain ⟨A2, c2, rfl⟩ := Kd.R_slice hv2
  have hj2 := blk_below HJ1.out hb2
  refine hK _ _ ⟨HQ.out _ _ hj2, ?_⟩
  clear hK
  have HB2 := Aside0.mk (below_then HB1.out HB1.out.size hb2)
  have HJ2 := Aside0.mk hj2
  have HV2 := Aside0.mk hv2
  clear hb2 hj2 hv2
  go_simp
  refine wpAnyH_all (rs := [11]) (by kernel_rfl) (by simp) ?_
  intro i' hi'
  obtain rfl : i' = 11 := by simpa using hi'
  refine wpOp_step rfl (fun K hK => ?_)
  go_simp
  refine (content_calls base s1 _ _ _ _ _ _ _ w2 (SetIs.below P3.out HB2.out) (Fine.len fy) (Fine.row fy)).mono ?_
  rintro e w3 ⟨v3, rfl, hv3, hb3⟩
  obtain ⟨A3, c3, rfl⟩ := Kd.R_slice hv3
  have hj3 := blk_below HJ2.out hb3
  refine hK _ _ ⟨HQ.out _ _ hj3, ?_⟩
  clear hK
  have HB3 := Aside0.mk (below_then HB2.out HB2.out.size hb3)
  have HJ3 := Aside0.mk hj3
  have HV23 := Aside0.mk (Kd.R_below HV2.out hb3)
  have HV3 := Aside0.mk hv3
  clear hb3 hj3 hv3
  go_simp
  refine wpAnyH_all (rs := [12]) (by kernel_rfl) (by simp) ?_
  intro i' hi'
  obtain rfl : i' = 12 := by simpa using hi'
  refine wpOp_step rfl (fun K hK => ?_)
  go_simp
  refine (pairs_calls x.H y.H A2 A3 c2 c3 w3 (Kd.R_reads' HV23.out).2.2 (Kd.R_reads' HV23.out).2.1 (Kd.R_reads' HV3.out).2.2 (Kd.R_reads' HV3.out).2.1 fx fy).mono ?_
  rintro e w4 ⟨v4, rfl, hv4, hb4⟩
  obtain ⟨A4, c4, rfl⟩ := Kd.R_slice hv4
  have hj4 := blk_below HJ3.out hb4
  refine hK _ _ ⟨HQ.out _ _ hj4, ?_⟩
  clear hK
  have HB4 := Aside0.mk (below_then HB3.out HB3.out.size hb4)
  have HJ4 := Aside0.mk hj4
  clear hb4 hj4 hv4
  go_simp
  refine wpAnyH_take (i := 13) (v := (.slice A4 (pairs x.H y.H).length c4)) rfl (by kernel_rfl) (by kernel_rfl) (by kernel_rfl) (fun _ _ _ h => h) (Or.inl ⟨by kernel_rfl, fun V hV => ?_⟩) (HQ.out _ _ HJ4.out) ?_
  · go_simp
  go_simp
  refine wpAnyH_done (by kernel_rfl) ?_ _
  go_wp2_with fail
  go_ret
  exact ⟨_, _, rfl, HB4.out⟩

set_option maxRecDepth 100000 in
set_option maxHeartbeats 8000000 in
theorem joinLen_calls (base j : Nat) (okA : Nat → Prop) (x y : St) (P : List S30) (w : World) (h : JoinIs w base okA j x y P) (fx : Fine x.H) (fy : Fine y.H) :
    Calls Try.prog 14 #[.pointer (some ⟨j, 0, none⟩)] w fun e w' => e = .returned (.int .i64 (x.H.length + y.H.length)) ∧ Below w.heap.size w w' := by
  obtain ⟨s0, s1, vh, ok0, ok1, okj, b1, b2, b3, _⟩ := h
  have P1 := Aside0.mk b1
  have P2 := Aside0.mk b2
  have P3 := Aside0.mk b3
  have hx := fx.1
  have hy := fy.1
  clear b1 b2 b3
  go_enter Try.func14, Try.ntmps14
  go_wp2_with fail
  refine wp_region_held (S := fun V' => V'.cell? ⟨j, 0, none⟩ = some (.pointer (some ⟨s0, 0, none⟩)) ∧ V'.cell? ⟨j, 1, none⟩ = some (.pointer (some ⟨s1, 0, none⟩))) (by kernel_rfl) ?_
  obtain ⟨V1, hV1⟩ : ∃ V1 : World, V1 = { w with drawn := w.drawn + 1 } := ⟨_, rfl⟩
  have hB1 : Below w.heap.size w V1 := by rw [hV1]; exact ⟨rfl, rfl, rfl, Nat.le_refl _, fun _ _ => rfl⟩
  rw [← hV1]
  have HB1 := Aside0.mk hB1
  have HJ1 := Aside0.mk (blk_below P1.out hB1)
  clear hV1 hB1
  have HQ : Aside0 (∀ (V' : World) (u : Value), V'.heap[j]? = some (.cells #[.pointer (some ⟨s0, 0, none⟩), .pointer (some ⟨s1, 0, none⟩), u] 51 (0, 0)) → (V'.cell? ⟨j, 0, none⟩ = some (.pointer (some ⟨s0, 0, none⟩)) ∧ V'.cell? ⟨j, 1, none⟩ = some (.pointer (some ⟨s1, 0, none⟩)))) := ⟨fun V' u h => ⟨(blk_cell h 0).trans rfl, (blk_cell h 1).trans rfl⟩⟩
  refine wpAnyH_take (i := 0) (v := (.pointer (some ⟨j, 0, none⟩))) rfl (by kernel_rfl) (by kernel_rfl) (by kernel_rfl) (fun _ _ _ h => h) (Or.inl ⟨by kernel_rfl, fun V hV => ?_⟩) (HQ.out _ _ HJ1.out) ?_
  · obtain ⟨g0, g1⟩ := hV
    go_simp
  refine wpAnyH_take (i := 1) (v := (.pointer (some ⟨j, 0, none⟩))) rfl (by kernel_rfl) (by kernel_rfl) (by kernel_rfl) (fun _ _ _ h => h) (Or.inl ⟨by kernel_rfl, fun V hV => ?_⟩) (HQ.out _ _ HJ1.out) ?_
  · obtain ⟨g0, g1⟩ := hV
    go_simp
  refine wpAnyH_take (i := 2) (v := (.pointer (some ⟨j, 0, none⟩))) rfl (by kernel_rfl) (by kernel_rfl) (by kernel_rfl) (fun _ _ _ h => h) (Or.inl ⟨by kernel_rfl, fun V hV => ?_⟩) (HQ.out _ _ HJ1.out) ?_
  · obtain ⟨g0, g1⟩ := hV
    go_simp
  refine wpAnyH_take (i := 3) (v := (.pointer (some ⟨j, 0, none⟩))) rfl (by kernel_rfl) (by kernel_rfl) (by kernel_rfl) (fun _ _ _ h => h) (Or.inl ⟨by kernel_rfl, fun V hV => ?_⟩) (HQ.out _ _ HJ1.out) ?_
  · obtain ⟨g0, g1⟩ := hV
    go_simp
  refine wpAnyH_take (i := 4) (v := (.pointer (some ⟨s0, 0, none⟩))) rfl (by kernel_rfl) (by kernel_rfl) (by kernel_rfl) (fun _ _ _ h => h) (Or.inl ⟨by kernel_rfl, fun V hV => ?_⟩) (HQ.out _ _ HJ1.out) ?_
  · obtain ⟨g0, g1⟩ := hV
    go_simp
  refine wpAnyH_take (i := 6) (v := (.pointer (some ⟨j, 0, none⟩))) rfl (by kernel_rfl) (by kernel_rfl) (by kernel_rfl) (fun _ _ _ h => h) (Or.inl ⟨by kernel_rfl, fun V hV => ?_⟩) (HQ.out _ _ HJ1.out) ?_
  · obtain ⟨g0, g1⟩ := hV
    go_simp
  refine wpAnyH_take (i := 7) (v := (.pointer (some ⟨j, 0, none⟩))) rfl (by kernel_rfl) (by kernel_rfl) (by kernel_rfl) (fun _ _ _ h => h) (Or.inl ⟨by kernel_rfl, fun V hV => ?_⟩) (HQ.out _ _ HJ1.out) ?_
  · obtain ⟨g0, g1⟩ := hV
    go_simp
  refine wpAnyH_take (i := 8) (v := (.pointer (some ⟨j, 0, none⟩))) rfl (by kernel_rfl) (by kernel_rfl) (by kernel_rfl) (fun _ _ _ h => h) (Or.inl ⟨by kernel_rfl, fun V hV => ?_⟩) (HQ.out _ _ HJ1.out) ?_
  · obtain ⟨g0, g1⟩ := hV
    go_simp
  refine wpAnyH_take (i := 9) (v := (.pointer (some ⟨j, 1, none⟩))) rfl (by kernel_rfl) (by kernel_rfl) (by kernel_rfl) (fun _ _ _ h => h) (Or.inl ⟨by kernel_rfl, fun V hV => ?_⟩) (HQ.out _ _ HJ1.out) ?_
  · obtain ⟨g0, g1⟩ := hV
    go_simp
  refine wpAnyH_take (i := 10) (v := (.pointer (some ⟨s1, 0, none⟩))) rfl (by kernel_rfl) (by kernel_rfl) (by kernel_rfl) (fun _ _ _ h => h) (Or.inl ⟨by kernel_rfl, fun V hV => ?_⟩) (HQ.out _ _ HJ1.out) ?_
  · obtain ⟨g0, g1⟩ := hV
    go_simp
  go_simp
  refine wpAnyH_all (rs := [5]) (by kernel_rfl) (by simp) ?_
  intro i' hi'
  obtain rfl : i' = 5 := by simpa using hi'
  refine wpOp_step rfl (fun K hK => ?_)
  go_simp
  refine (len_calls base s0 _ _ _ _ _ _ _ V1 (SetIs.below P2.out HB1.out)).mono ?_
  rintro e w2 ⟨rfl, hw⟩
  rw [hw]
  clear hw
  refine hK _ _ ⟨HQ.out _ _ HJ1.out, ?_⟩
  clear hK
  go_simp
  refine wpAnyH_all (rs := [11]) (by kernel_rfl) (by simp) ?_
  intro i' hi'
  obtain rfl : i' = 11 := by simpa using hi'
  refine wpOp_step rfl (fun K hK => ?_)
  go_simp
  refine (len_calls base s1 _ _ _ _ _ _ _ V1 (SetIs.below P3.out HB1.out)).mono ?_
  rintro e w2 ⟨rfl, hw⟩
  rw [hw]
  clear hw
  refine hK _ _ ⟨HQ.out _ _ HJ1.out, ?_⟩
  clear hK
  go_simp
  refine wpAnyH_take (i := 12) (v := (.int .i64 (x.H.length + y.H.length))) rfl (by kernel_rfl) (by kernel_rfl) (by kernel_rfl) (fun _ _ _ h => h) (Or.inl ⟨by kernel_rfl, fun V hV => ?_⟩) (HQ.out _ _ HJ1.out) ?_
  · go_simp
    exact C.wrapI _ (by omega) (by omega)
  refine wpAnyH_take (i := 13) (v := (.int .i64 (x.H.length + y.H.length))) rfl (by kernel_rfl) (by kernel_rfl) (by kernel_rfl) (fun _ _ _ h => h) (Or.inl ⟨by kernel_rfl, fun V hV => ?_⟩) (HQ.out _ _ HJ1.out) ?_
  · go_simp
  go_simp
  refine wpAnyH_done (by kernel_rfl) ?_ _
  go_wp2_with fail
  go_ret
  exact ⟨rfl, HB1.out⟩
end Go.Proofs.Ytdbhlfnpaloomaa.O
