/- Sets of one view: what they hold together, what is told, Content, Len; join.New. -/
import Derived.Test.YtdbhlfnpaloomaaK
namespace Go.Proofs.Ytdbhlfnpaloomaa.L
open Go.RowKit Go.Proofs.YtdbhlfnpaloomaaW.PrintWords Go.Proofs.YtdbhlfnpaloomaaW.PrintLast Go.Proofs.YtdbhlfnpaloomaaW.PrintMore
open Go.Proofs.Ytdbhlfnpaloomaa.PSame Go.Proofs.Ytdbhlfnpaloomaa.A Go.Proofs.Ytdbhlfnpaloomaa.B Go.Proofs.Ytdbhlfnpaloomaa.F Go.Proofs.Ytdbhlfnpaloomaa.G Go.Proofs.Ytdbhlfnpaloomaa.H Go.Proofs.Ytdbhlfnpaloomaa.I Go.Proofs.Ytdbhlfnpaloomaa.J Go.Proofs.Ytdbhlfnpaloomaa.K
set_option linter.unusedVariables false
set_option linter.unusedSimpArgs false

theorem raw1_at {w : World} {base e : Nat} {ok : Nat → Prop} {v x : Value} (h : (Kd.raw 1).R e w base ok v [[x]]) : ∃ g c, v = .slice (some ⟨g, 0, none⟩) 1 c ∧ 1 ≤ c ∧ w.cell? ⟨g, 0, none⟩ = some x := by
  obtain ⟨g, cap, rfl, _⟩ := Kd.R_form h (by simp)
  obtain ⟨A, c, he, hl, hr⟩ := Kd.R_reads h
  injection he with e1 _ e3
  subst e3
  obtain ⟨ad, e2, hc⟩ := hr.2.2 (by simp)
  rw [← e1] at e2
  injection e2 with e2
  subst e2
  obtain ⟨cs, _, ⟨rfl, _, _⟩, hcc⟩ := hc 0 [x] rfl
  exact ⟨g, cap, rfl, hl, by simpa [Addr.add] using hcc 0 x rfl⟩

theorem raw4_at {w : World} {base e : Nat} {ok : Nat → Prop} {v x y z u : Value} (h : (Kd.raw 4).R e w base ok v [[x, y, z, u]]) : ∃ g c, v = .slice (some ⟨g, 0, none⟩) 1 c ∧ 1 ≤ c ∧ w.cell? ⟨g, 0, none⟩ = some x ∧ w.cell? ⟨g, 1, none⟩ = some y ∧ w.cell? ⟨g, 2, none⟩ = some z ∧ w.cell? ⟨g, 3, none⟩ = some u := by
  obtain ⟨g, cap, rfl, _⟩ := Kd.R_form h (by simp)
  obtain ⟨A, c, he, hl, hr⟩ := Kd.R_reads h
  injection he with e1 _ e3
  subst e3
  obtain ⟨ad, e2, hc⟩ := hr.2.2 (by simp)
  rw [← e1] at e2
  injection e2 with e2
  subst e2
  obtain ⟨cs, _, ⟨rfl, _, _⟩, hcc⟩ := hc 0 [x, y, z, u] rfl
  exact ⟨g, cap, rfl, hl, by simpa [Addr.add] using hcc 0 x rfl, by simpa [Addr.add] using hcc 1 y rfl, by simpa [Addr.add] using hcc 2 z rfl, by simpa [Addr.add] using hcc 3 u rfl⟩

theorem m_holds (nb : Nat) (w : World) : (method 252 74 (.pointer (some ⟨nb, 0, none⟩)) "marquee/views.holds").run Try.prog w = .ok (55, .pointer (some ⟨nb, 0, none⟩)) w := by kernel_rfl
theorem m_add (nb : Nat) (w : World) : (method 252 74 (.pointer (some ⟨nb, 0, none⟩)) "marquee/views.add").run Try.prog w = .ok (57, .pointer (some ⟨nb, 0, none⟩)) w := by kernel_rfl
theorem m_advance (nb : Nat) (w : World) : (method 252 74 (.pointer (some ⟨nb, 0, none⟩)) "marquee/views.advance").run Try.prog w = .ok (54, .pointer (some ⟨nb, 0, none⟩)) w := by kernel_rfl

set_option maxRecDepth 100000 in
set_option maxHeartbeats 2000000 in
theorem together_calls (base s : Nat) (n now last : Int) (took : Bool) (V H : List S30) (ok : Nat → Prop) (w : World) (h : SetIs w base s n now last took V H ok) (hl : V.length ≤ 1000000) (hle : base ≤ w.heap.size) :
    Calls Try.prog 28 #[.pointer (some ⟨s, 0, none⟩)] w fun e w' => ∃ v, e = .returned v ∧ Sh w' base (fun k => w.heap.size ≤ k) v V ∧ Below w.heap.size w w' := by
  obtain ⟨vs, vv, nb, vl, vh, h1, h2, h3, h4, h5, h6, h7, h8, h9⟩ := h
  obtain ⟨g, c, rfl, hc, g0⟩ := raw1_at h3
  obtain ⟨A, cl, rfl, hcl, hC⟩ := h5.reads
  have s1 : w.cell? ⟨s, 1, none⟩ = some (.slice (some ⟨g, 0, none⟩) 1 c) := (blk_cell h1 1).trans rfl
  have HH := Aside0.mk (holds_calls nb (.slice A V.length cl) rfl n w h4)
  have HC := Aside0.mk hC
  clear h1 h2 h3 h4 h5 h6 h7 h8 h9 hC
  have hm := m_holds nb
  go_enter Try.func28, Try.ntmps28
  go_wp2_with (go_at_call 55; refine HH.out.mono ?_; rintro e w' ⟨hw, rfl⟩; rw [hw]; clear hw)
  all_goals
    go_loopw [25, 3] (fun t25 t3 wr => t25 = .int .i64 0 ∧ t3 = .slice A V.length cl ∧ wr = w) (fun _ _ _ => 0)
    case atStart => exact ⟨rfl, rfl, rfl⟩
    case round =>
      obtain ⟨rfl, rfl, rfl⟩ := hrel
      have HCL := Aside0.mk (clone22_calls V A cl base wr HC.out hcl (by omega) hle)
      go_wp2_with (go_at_call 36; refine HCL.out.mono ?_; rintro e w2 ⟨v2, rfl, hv2, hb2⟩; have HV2 := Aside0.mk hv2; have HB2 := Aside0.mk hb2; clear hv2 hb2)
      go_ret
      exact ⟨_, rfl, HV2.out, HB2.out⟩

set_option maxHeartbeats 2000000 in
theorem content_calls (base s : Nat) (n now last : Int) (took : Bool) (V H : List S30) (ok : Nat → Prop) (w : World) (h : SetIs w base s n now last took V H ok) (hl : H.length ≤ 1000000) (hr : ∀ a ∈ H, a.f2.length ≤ 4194304) :
    Calls Try.prog 18 #[.pointer (some ⟨s, 0, none⟩)] w fun e w' => ∃ v, e = .returned v ∧ Kd.R k30 30 w' w.heap.size (fun _ => True) v H ∧ Below w.heap.size w w' := by
  obtain ⟨vs, vv, nb, vl, vh, h1, h2, h3, h4, h5, h6, h7, h8, h9⟩ := h
  obtain ⟨A, cl, rfl, hcl, hC⟩ := h6.reads
  have s5 : w.cell? ⟨s, 5, none⟩ = some (.slice A H.length cl) := (blk_cell h1 5).trans rfl
  have HC := Aside0.mk (copied26_calls H A cl w (C_of_at hC) hcl (by omega) hr)
  clear h1 h2 h3 h4 h5 h6 h7 h8 h9 hC
  go_enter Try.func18, Try.ntmps18
  go_wp2_with (go_at_call 26; refine HC.out.mono ?_; rintro e w2 ⟨v2, rfl, hv2, hb2⟩; have HV2 := Aside0.mk hv2; have HB2 := Aside0.mk hb2; clear hv2 hb2)
  go_ret
  exact ⟨_, rfl, HV2.out, HB2.out⟩

theorem len_calls (base s : Nat) (n now last : Int) (took : Bool) (V H : List S30) (ok : Nat → Prop) (w : World) (h : SetIs w base s n now last took V H ok) :
    Calls Try.prog 19 #[.pointer (some ⟨s, 0, none⟩)] w fun e w' => e = .returned (.int .i64 H.length) ∧ w' = w := by
  obtain ⟨vs, vv, nb, vl, vh, h1, h2, h3, h4, h5, h6, h7, h8, h9⟩ := h
  obtain ⟨A, cl, rfl, hcl, hC⟩ := h6.reads
  have s5 : w.cell? ⟨s, 5, none⟩ = some (.slice A H.length cl) := (blk_cell h1 5).trans rfl
  clear h1 h2 h3 h4 h5 h6 h7 h8 h9 hC
  go_enter Try.func19, Try.ntmps19
  go_wp2_with fail
  go_ret
  exact ⟨rfl, rfl⟩

set_option maxRecDepth 100000 in
set_option maxHeartbeats 4000000 in
/-- told: what is held now is what the view holds. -/
theorem told_calls (base s : Nat) (n now last : Int) (took : Bool) (V H : List S30) (ok : Nat → Prop) (w : World) (h : SetIs w base s n now last took V H ok) (hV : Short V) (hH : Short H) (hVl : V.length ≤ 1000000) (hle : base ≤ w.heap.size) :
    Calls Try.prog 24 #[.pointer (some ⟨s, 0, none⟩)] w fun e w' => (∃ A1 n1 c1 A2 n2 c2, e = .returned (.agg #[.slice A1 n1 c1, .slice A2 n2 c2])) ∧ SetIs w' base s n now last took V V (fun k => ok k ∨ w.heap.size ≤ k) ∧ Eff (fun k => k = s) w w' := by
  have HT := Aside0.mk (together_calls base s n now last took V H ok (w.alloc (.cells #[.slice none 0 0, .slice none 0 0] 40)) (h.below (below_alloc (Below.refl _ _) _)) hVl (by simp; omega))
  have HS := Aside0.mk h
  clear h
  go_enter Try.func24, Try.ntmps24
  go_wp2_with fail
  obtain ⟨wa, hwa⟩ : ∃ wa : World, wa = w.alloc (.cells #[.slice none 0 0, .slice none 0 0] 40) := ⟨_, rfl⟩
  have hBa : Below w.heap.size w wa := by rw [hwa]; exact (Below.refl _ _).alloc (Nat.le_refl _) _
  have hga : wa.heap[w.heap.size]? = some (.cells #[.slice none 0 0, .slice none 0 0] 40 (0, 0)) := by rw [hwa]; exact blk_new _ _
  rw [← hwa] at HT ⊢
  obtain ⟨g, hg⟩ : ∃ g, g = w.heap.size := ⟨_, rfl⟩
  rw [← hg] at hga ⊢
  have HG := Aside0.mk hg
  have HBa := Aside0.mk hBa
  have HGa := Aside0.mk hga
  clear hwa hg hBa hga
  refine HT.out.mono ?_
  rintro e w1 ⟨v1, rfl, hv1, hb1⟩
  obtain ⟨A1, c1, rfl, hl1, hC1⟩ := hv1.reads
  have HV1 := Aside0.mk hv1
  have HB1 := Aside0.mk (below_then HBa.out HBa.out.size hb1)
  have HG1 := Aside0.mk (blk_below HGa.out hb1)
  have HZ1 := Aside0.mk (Nat.le_trans HBa.out.size hb1.size)
  have hS1 := HS.out.bound.below HB1.out
  have HZA := Aside0.mk HBa.out.size
  obtain ⟨vs, vv, nb, vl, vh, h1, h2, h3, h4, h5, h6, h7, h8, h9⟩ := hS1
  obtain ⟨A2, c2, rfl, hl2, hC2⟩ := h6.reads
  have s5 : w1.cell? ⟨s, 5, none⟩ = some (.slice A2 H.length c2) := (blk_cell h1 5).trans rfl
  have HD := Aside0.mk (diff_calls H V A2 A1 c2 c1 w1 (C_of_at hC2) hl2 (C_of_at hC1) hl1 hH hV)
  have H1 := Aside0.mk h1
  have H2 := Aside0.mk h2
  have H3 := Aside0.mk h3
  have H4 := Aside0.mk h4
  have H5 := Aside0.mk h5
  have H7 := Aside0.mk h7
  have H8 := Aside0.mk h8
  have H9 := Aside0.mk h9
  have HOLD := Aside0.mk (blk_lt h1)
  clear h1 h2 h3 h4 h5 h6 h7 h8 h9 hC1 hC2 hl1 hl2 hv1 hb1 HBa HGa
  go_wp2_with fail
  refine HD.out.mono ?_
  rintro e w2 ⟨d1, d2, rfl, hd1, hd2, hb2⟩
  obtain ⟨D1, e1, rfl⟩ := Kd.R_slice hd1
  obtain ⟨D2, e2, rfl⟩ := Kd.R_slice hd2
  obtain ⟨_, hl3, hC3⟩ := Kd.R_reads' hd1
  obtain ⟨_, hl4, hC4⟩ := Kd.R_reads' hd2
  have hx1 : (news V H).length ≤ 1000000 := Nat.le_trans (List.length_filter_le _ _) hVl
  have hx2 : (news H V).length ≤ 2000000 := Nat.le_trans (List.length_filter_le _ _) hH.1
  have hf1 : ∀ a ∈ news V H, a.f2.length ≤ 4194304 := fun a ha => hV.2 a (List.mem_filter.1 ha).1
  have hf2 : ∀ a ∈ news H V, a.f2.length ≤ 4194304 := fun a ha => hH.2 a (List.mem_filter.1 ha).1
  obtain ⟨X1, hX1⟩ : ∃ X, X = news V H := ⟨_, rfl⟩
  obtain ⟨X2, hX2⟩ : ∃ X, X = news H V := ⟨_, rfl⟩
  rw [← hX1] at hd1 hl3 hC3 hx1 hf1 ⊢
  rw [← hX2] at hd2 hl4 hC4 hx2 hf2 ⊢
  have HC3 := Aside0.mk hC3
  have HC4 := Aside0.mk hC4
  have hs2 := blk_below H1.out hb2
  have HS2 := Aside0.mk hs2
  have HG2 := Aside0.mk (blk_below HG1.out hb2)
  have HB2 := Aside0.mk (below_then HB1.out HB1.out.size hb2)
  have HV2 := Aside0.mk (HV1.out.below hb2)
  have HB12 := Aside0.mk hb2
  have n0 : (w2.alloc (.cells #[.slice D1 X1.length e1, .slice D2 X2.length e2] 40)).cell? ⟨s, 5, none⟩ = some (.slice A2 H.length c2) := (blk_cell (blk_alloc hs2 _) 5).trans rfl
  have n1 : (w2.alloc (.cells #[.slice D1 X1.length e1, .slice D2 X2.length e2] 40)).frozen? ⟨s, 5, none⟩ = false := blk_frozen (blk_alloc hs2 _) 5
  have HK3 : Aside0 (∀ W : World, Eff (fun k => k = s) w2 W → Kd.C k30 W D1 X1.length X1) := ⟨fun W he => (Kd.R_reads' (Kd.R_kept (Kd.R_bound hd1) he.kept (fun k hk e => by have := hk.2.1; have := HOLD.out; omega))).2.2⟩
  have HK4 : Aside0 (∀ W : World, Eff (fun k => k = s) w2 W → Kd.C k30 W D2 X2.length X2) := ⟨fun W he => (Kd.R_reads' (Kd.R_kept (Kd.R_bound hd2) he.kept (fun k hk e => by have := hk.2.1; have := HOLD.out; omega))).2.2⟩
  clear hd1 hd2 hC3 hC4 hs2 hb2 hX1 hX2
  go_wp2_with fail
  obtain ⟨W3, hW3⟩ : ∃ W3 : World, W3 = (w2.alloc (.cells #[.slice D1 X1.length e1, .slice D2 X2.length e2] 40)).setCell ⟨s, 5, none⟩ (.slice A1 V.length c1) := ⟨_, rfl⟩
  have hEa : Eff (fun k => k = s) w1 (w2.alloc (.cells #[.slice D1 X1.length e1, .slice D2 X2.length e2] 40)) := Eff.of_below (below_then HB12.out HB12.out.size (below_alloc (Below.refl _ _) _)) _
  have hE3 : Eff (fun k => k = s) w1 W3 := by rw [hW3]; exact hEa.set (blk_alloc HS2.out _) (by decide) (.inl rfl) _
  have hs3 : W3.heap[s]? = some (.cells #[vs, vv, .int .i64 now, .int .i64 last, .bool took, .slice A1 V.length c1] 56 (0, 0)) := by rw [hW3]; exact blk_put (blk_alloc HS2.out _) 5 _ rfl
  obtain ⟨db, hdb⟩ : ∃ db, db = w2.heap.size := ⟨_, rfl⟩
  have hds : db ≠ s := by have := blk_lt HS2.out; omega
  have hd3 : W3.heap[db]? = some (.cells #[.slice D1 X1.length e1, .slice D2 X2.length e2] 40 (0, 0)) := by rw [hW3, hdb]; exact blk_far (blk_new _ _) (p := ⟨s, 5, none⟩) (by rw [← hdb]; exact hds) _
  have hgs : g ≠ s := blk_ne HG2.out HS2.out (by decide)
  have hg3 : W3.heap[g]? = some (.cells #[.slice none 0 0, .slice none 0 0] 40 (0, 0)) := by rw [hW3]; exact blk_far (blk_alloc HG2.out _) (p := ⟨s, 5, none⟩) hgs _
  have HE23 : Aside0 (Eff (fun k => k = s) w2 W3) := ⟨by rw [hW3]; exact (Eff.of_below (below_alloc (Below.refl _ _) _) (fun k => k = s)).set (blk_alloc HS2.out _) (by decide) (.inl rfl) _⟩
  rw [← hW3, ← hdb]
  have HDB := Aside0.mk hdb
  clear hdb
  have HDS := Aside0.mk hds
  have HGS := Aside0.mk hgs
  clear hds hgs
  have HE3 := Aside0.mk hE3
  clear hW3 hEa hE3 n0 n1 s5
  refine wp_region_held (S := fun V' => V'.cell? ⟨db, 0, none⟩ = some (.slice D1 X1.length e1) ∧ V'.cell? ⟨db, 1, none⟩ = some (.slice D2 X2.length e2)) (by kernel_rfl) ?_
  obtain ⟨V4, hV4⟩ : ∃ V4 : World, V4 = { W3 with drawn := W3.drawn + 1 } := ⟨_, rfl⟩
  have hB4 : Below W3.heap.size W3 V4 := by rw [hV4]; exact ⟨rfl, rfl, rfl, Nat.le_refl _, fun _ _ => rfl⟩
  rw [← hV4]
  have HQ : Aside0 (∀ V' : World, V'.heap[db]? = some (.cells #[.slice D1 X1.length e1, .slice D2 X2.length e2] 40 (0, 0)) → (V'.cell? ⟨db, 0, none⟩ = some (.slice D1 X1.length e1) ∧ V'.cell? ⟨db, 1, none⟩ = some (.slice D2 X2.length e2))) := ⟨fun V' h => ⟨(blk_cell h 0).trans rfl, (blk_cell h 1).trans rfl⟩⟩
  have HD4 := Aside0.mk (blk_below hd3 hB4)
  have HG4 := Aside0.mk (blk_below hg3 hB4)
  have HS4 := Aside0.mk (blk_below hs3 hB4)
  have HE4 := Aside0.mk (HE3.out.then_below hB4)
  have HE24 := Aside0.mk (HE23.out.then_below hB4)
  have HDG : Aside0 (db ≠ g) := ⟨by have := blk_lt HG2.out; have := HDB.out; omega⟩
  clear hV4 hB4 hd3 hg3 hs3 HE23
  refine wpAnyH_take (i := 0) (v := (.pointer (some ⟨db, 0, none⟩))) rfl (by kernel_rfl) (by kernel_rfl) (by kernel_rfl) (fun _ _ _ h => h) (Or.inl ⟨by kernel_rfl, fun V hV => ?_⟩) (HQ.out _ HD4.out) ?_
  · go_simp
  refine wpAnyH_take (i := 1) (v := (.slice D1 X1.length e1)) rfl (by kernel_rfl) (by kernel_rfl) (by kernel_rfl) (fun _ _ _ h => h) (Or.inl ⟨by kernel_rfl, fun V hV => ?_⟩) (HQ.out _ HD4.out) ?_
  · obtain ⟨g0, g1⟩ := hV
    go_simp
  refine wpAnyH_take (i := 3) (v := (.pointer (some ⟨db, 1, none⟩))) rfl (by kernel_rfl) (by kernel_rfl) (by kernel_rfl) (fun _ _ _ h => h) (Or.inl ⟨by kernel_rfl, fun V hV => ?_⟩) (HQ.out _ HD4.out) ?_
  · go_simp
  refine wpAnyH_take (i := 4) (v := (.slice D2 X2.length e2)) rfl (by kernel_rfl) (by kernel_rfl) (by kernel_rfl) (fun _ _ _ h => h) (Or.inl ⟨by kernel_rfl, fun V hV => ?_⟩) (HQ.out _ HD4.out) ?_
  · obtain ⟨g0, g1⟩ := hV
    go_simp
  go_simp
  refine wpAnyH_all (rs := [2]) (by kernel_rfl) (by simp) ?_
  intro i' hi'
  obtain rfl : i' = 2 := by simpa using hi'
  refine wpOp_step rfl (fun K hK => ?_)
  go_simp
  refine (copied26_calls X1 D1 e1 V4 (HK3.out _ HE24.out) hl3 (by omega) hf1).mono ?_
  rintro e w5 ⟨y5, rfl, hy5, hb5⟩
  obtain ⟨Y5, z5, rfl⟩ := Kd.R_slice hy5
  refine hK _ _ ⟨HQ.out _ (blk_below HD4.out hb5), ?_⟩
  clear hK
  have HD5 := Aside0.mk (blk_below HD4.out hb5)
  have HG5 := Aside0.mk (blk_below HG4.out hb5)
  have HS5 := Aside0.mk (blk_below HS4.out hb5)
  have HE5 := Aside0.mk (HE4.out.then_below hb5)
  have HE25 := Aside0.mk (HE24.out.then_below hb5)
  clear hy5 hb5
  go_simp
  refine wpAnyH_all (rs := [5]) (by kernel_rfl) (by simp) ?_
  intro i' hi'
  obtain rfl : i' = 5 := by simpa using hi'
  refine wpOp_step rfl (fun K hK => ?_)
  go_simp
  refine (copied26_calls X2 D2 e2 w5 (HK4.out _ HE25.out) hl4 (by omega) hf2).mono ?_
  rintro e w6 ⟨y6, rfl, hy6, hb6⟩
  obtain ⟨Y6, z6, rfl⟩ := Kd.R_slice hy6
  refine hK _ _ ⟨HQ.out _ (blk_below HD5.out hb6), ?_⟩
  clear hK
  have HD6 := Aside0.mk (blk_below HD5.out hb6)
  have HG6 := Aside0.mk (blk_below HG5.out hb6)
  have HS6 := Aside0.mk (blk_below HS5.out hb6)
  have HE6 := Aside0.mk (HE5.out.then_below hb6)
  have HE26 := Aside0.mk (HE25.out.then_below hb6)
  clear hy6 hb6
  go_simp
  refine wpAnyH_take (i := 6) (v := (.agg #[.slice Y5 X1.length z5, .slice Y6 X2.length z6])) rfl (by kernel_rfl) (by kernel_rfl) (by kernel_rfl) (fun _ _ _ h => h) (Or.inl ⟨by kernel_rfl, fun V hV => ?_⟩) (HQ.out _ HD6.out) ?_
  · go_simp
  go_simp
  refine wpAnyH_all (rs := [7]) (by kernel_rfl) (by simp) ?_
  intro i' hi'
  obtain rfl : i' = 7 := by simpa using hi'
  refine wpOp_step rfl (fun K hK => ?_)
  have n0 : w6.cell? ⟨g, 0, none⟩ = some (.slice none 0 0) := (blk_cell HG6.out 0).trans rfl
  have n1 : w6.cell? ⟨g, 1, none⟩ = some (.slice none 0 0) := (blk_cell HG6.out 1).trans rfl
  have n2 : w6.frozen? ⟨g, 0, none⟩ = false := blk_frozen HG6.out 0
  have n3 : w6.frozen? ⟨g, 1, none⟩ = false := blk_frozen HG6.out 1
  go_simp
  have hd7 := blk_far (blk_far HD6.out (p := ⟨g, 0, none⟩) HDG.out (.slice Y5 X1.length z5)) (p := ⟨g, 1, none⟩) HDG.out (.slice Y6 X2.length z6)
  refine hK _ _ ⟨HQ.out _ hd7, ?_⟩
  clear hK n0 n1 n2 n3 hd7
  refine wpAnyH_done (by kernel_rfl) ?_ _
  go_wp2_with fail
  refine bodyPost_ret (results_cell_row rfl _ _ g 40 #[.slice Y5 X1.length z5, .slice Y6 X2.length z6] (0, 0) _ rfl (blk_put (cs := #[.slice Y5 X1.length z5, .slice none 0 0]) (blk_put HG6.out 0 _ rfl) 1 _ rfl) Try.underlying40 rfl (by kernel_rfl)) rfl ?_
  have hgw : w.heap.size ≤ g := by have := HG.out; omega
  have hp7 := blk_put (cs' := #[.slice Y5 X1.length z5, .slice none 0 0]) HG6.out 0 (.slice Y5 X1.length z5) rfl
  have hE17 : Eff (fun k => k = s ∨ k = g) w1 ((w6.setCell ⟨g, 0, none⟩ (.slice Y5 X1.length z5)).setCell ⟨g, 1, none⟩ (.slice Y6 X2.length z6)) := ((HE6.out.mono (S' := fun k => k = s ∨ k = g) (fun k hk => .inl hk)).set HG6.out (by decide) (.inl (.inr rfl)) _).set hp7 (by decide) (.inl (.inr rfl)) _
  have hs7 := blk_far (blk_far HS6.out (p := ⟨g, 0, none⟩) (Ne.symm HGS.out) (.slice Y5 X1.length z5)) (p := ⟨g, 1, none⟩) (Ne.symm HGS.out) (.slice Y6 X2.length z6)
  obtain ⟨WF, hWF⟩ : ∃ WF, WF = ((w6.setCell ⟨g, 0, none⟩ (.slice Y5 X1.length z5)).setCell ⟨g, 1, none⟩ (.slice Y6 X2.length z6)) := ⟨_, rfl⟩
  rw [← hWF] at hE17 hs7 ⊢
  refine ⟨⟨_, _, _, _, _, _, rfl⟩, ?_, ?_⟩
  · have hn4 : nb ≠ s ∧ nb ≠ g := ⟨blk_ne H4.out H1.out (by decide), blk_ne H4.out HG1.out (by decide)⟩
    have hown : ∀ {ok1 : Nat → Prop} {v : Value} {xs : List S30}, Sh w1 base ok1 v xs → Sh WF base ok1 v xs := fun hh => hh.move hE17.k46 (fun k hk => hE17.kept.2 k (Kd.R_lt hh k hk) (fun e => e.elim (fun e => Kd.R_ne hh H1.out (by decide) (e ▸ hk.symm)) (fun e => Kd.R_ne hh HG1.out (by decide) (e ▸ hk.symm))))
    refine ⟨vs, vv, nb, vl, .slice A1 V.length c1, hs7, ?_, ?_, blk_kept H4.out hE17.kept (fun e => e.elim hn4.1 hn4.2), (hown H5.out).mono (fun k _ hk => .inl hk.1), (hown HV1.out).mono (fun k _ hk => .inr (Nat.le_trans HZA.out hk)), ?_, .inl H8.out.1, .inl H9.out.1⟩
    · exact Kd.R_mono (Kd.R_kept (Kd.R_types (Kd.R_types H2.out H1.out (by simp [Kd.raw])) HG1.out (by simp [Kd.raw])) hE17.kept (fun k hk e => e.elim hk.1.2 hk.2)) (fun k hk => .inl hk.1.1.1)
    · exact Kd.R_mono (Kd.R_kept (Kd.R_types (Kd.R_types H3.out H1.out (by simp [Kd.raw])) HG1.out (by simp [Kd.raw])) hE17.kept (fun k hk e => e.elim hk.1.2 hk.2)) (fun k hk => .inl hk.1.1.1)
    · intro k hk hk2
      have h1 := (H5.out.1 k hk).2
      have h2 := HV1.out.1 k hk2
      have h3 := HZA.out
      omega
  · exact (Eff.of_below HB1.out (fun k => k = s)).then_ hE17 (fun k hk => hk.elim (fun h => .inl h) (fun h => .inr (by omega)))
end Go.Proofs.Ytdbhlfnpaloomaa.L
