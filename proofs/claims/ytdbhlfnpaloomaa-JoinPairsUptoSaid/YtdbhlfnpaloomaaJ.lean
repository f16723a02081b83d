/- (*views.newest).add: the last n. -/
import Derived.Test.YtdbhlfnpaloomaaI
namespace Go.Proofs.Ytdbhlfnpaloomaa.J
open Go.RowKit Go.Proofs.YtdbhlfnpaloomaaW.PrintWords Go.Proofs.YtdbhlfnpaloomaaW.PrintLast Go.Proofs.YtdbhlfnpaloomaaW.PrintMore
open Go.Proofs.Ytdbhlfnpaloomaa.PSame Go.Proofs.Ytdbhlfnpaloomaa.A Go.Proofs.Ytdbhlfnpaloomaa.B Go.Proofs.Ytdbhlfnpaloomaa.F Go.Proofs.Ytdbhlfnpaloomaa.G Go.Proofs.Ytdbhlfnpaloomaa.I
set_option linter.unusedVariables false
set_option linter.unusedSimpArgs false

def lastn (n : Int) (xs : List S30) : List S30 := xs.drop (xs.length - n.toNat)

set_option maxHeartbeats 16000000 in
set_option maxRecDepth 100000 in
theorem newestAdd_calls (nb base : Nat) (v : Value) (n : Int) (X : List S30) (a : S30) (v2 : Value) (ok : Nat → Prop) (w : World)
    (hb : w.heap[nb]? = some (.cells #[v, .int .i64 n] 76 (0, 0))) (hX : Sh w base ok v X) (hn : 0 ≤ n) (hl : X.length ≤ 1000000)
    (ha : k30.M w base (fun _ => True) a [.int .i64 a.f0, .int .i64 a.f1, v2]) (hle : base ≤ w.heap.size) :
    Calls Try.prog 57 #[.pointer (some ⟨nb, 0, none⟩), .agg #[.int .i64 a.f0, .int .i64 a.f1, v2]] w fun e w' => (∃ r, e = .returned r) ∧ ∃ v', w'.heap[nb]? = some (.cells #[v', .int .i64 n] 76 (0, 0)) ∧ Sh w' base (fun k => v.ownBlock = some k ∨ w.heap.size ≤ k) v' (lastn n (X ++ [a])) ∧ Eff (fun k => k = nb ∨ v.ownBlock = some k) w w' := by
  have HM := Aside0.mk ha
  have HX := Aside0.mk (hX.mono (ok' := fun k => v.ownBlock = some k ∨ w.heap.size ≤ k) (fun k hk _ => .inl hk))
  have HN := Aside0.mk hb
  have hlt := blk_lt hb
  obtain ⟨Ao, co, ev, hlo, _⟩ := hX.reads
  have hone2 : v2.oneCell' = true := k30.K_one (k30.K_of_M ha) _ (by simp)
  have hown : ∀ k, v.ownBlock = some k → ∃ cells, w.heap[k]? = some (.cells cells 30 (0, 0)) := fun k hk => by
    obtain ⟨_, inner, ho, _⟩ := hX
    exact own_typed ho k hk
  have HOWN := Aside0.mk hown
  clear ha hX hb hlo hown
  subst ev
  go_enter Try.func57, Try.ntmps57
  go_wp2_with fail
  obtain ⟨wa, hwa⟩ : ∃ wa : World, wa = w.alloc (.cells #[.int .i64 a.f0, .int .i64 a.f1, v2] 30) := ⟨_, rfl⟩
  have hBa : Below w.heap.size w wa := by rw [hwa]; exact (Below.refl _ _).alloc (Nat.le_refl _) _
  have hgb : wa.heap[w.heap.size]? = some (.cells #[.int .i64 a.f0, .int .i64 a.f1, v2] 30 (0, 0)) := by rw [hwa]; exact blk_new _ _
  rw [← hwa]
  obtain ⟨gb, hg⟩ : ∃ gb, gb = w.heap.size := ⟨_, rfl⟩
  rw [← hg] at hgb ⊢
  have HG := Aside0.mk hg
  clear hwa hg
  refine wp_region_held (S := fun V => V.cell? ⟨gb, 0, none⟩ = some (.int .i64 a.f0) ∧ V.cell? ⟨gb, 1, none⟩ = some (.int .i64 a.f1) ∧ V.cell? ⟨gb, 2, none⟩ = some v2) (by kernel_rfl) ?_
  obtain ⟨V0, hV0⟩ : ∃ V0 : World, V0 = { wa with drawn := wa.drawn + 1 } := ⟨_, rfl⟩
  have hB0 : Below wa.heap.size wa V0 := by rw [hV0]; exact ⟨rfl, rfl, rfl, Nat.le_refl _, fun _ _ => rfl⟩
  rw [← hV0]
  have HGB := Aside0.mk (blk_below hgb hB0)
  have HB0 := Aside0.mk (below_then hBa hBa.size hB0)
  have HGL := Aside0.mk (blk_lt hgb)
  clear hV0 hB0 hBa hgb
  have HSS : Aside0 (∀ V : World, V.heap[gb]? = some (.cells #[.int .i64 a.f0, .int .i64 a.f1, v2] 30 (0, 0)) → (V.cell? ⟨gb, 0, none⟩ = some (.int .i64 a.f0) ∧ V.cell? ⟨gb, 1, none⟩ = some (.int .i64 a.f1) ∧ V.cell? ⟨gb, 2, none⟩ = some v2)) := ⟨fun V h => ⟨(blk_cell h 0).trans rfl, (blk_cell h 1).trans rfl, (blk_cell h 2).trans rfl⟩⟩
  have HN0 := Aside0.mk (blk_below HN.out HB0.out)
  have HX0 := Aside0.mk (HX.out.below HB0.out)
  refine wpAnyH_take (i := 0) (v := (.pointer (some ⟨nb, 0, none⟩))) rfl (by kernel_rfl) (by kernel_rfl) (by kernel_rfl) (fun _ _ _ h => h) (Or.inl ⟨by kernel_rfl, fun V hV => ?_⟩) (HSS.out _ HGB.out) ?_
  · go_simp
  refine wpAnyH_take (i := 1) (v := (.pointer (some ⟨nb, 0, none⟩))) rfl (by kernel_rfl) (by kernel_rfl) (by kernel_rfl) (fun _ _ _ h => h) (Or.inl ⟨by kernel_rfl, fun V hV => ?_⟩) (HSS.out _ HGB.out) ?_
  · go_simp
  refine wpAnyH_take (i := 2) (v := (.pointer (some ⟨nb, 0, none⟩))) rfl (by kernel_rfl) (by kernel_rfl) (by kernel_rfl) (fun _ _ _ h => h) (Or.inl ⟨by kernel_rfl, fun V hV => ?_⟩) (HSS.out _ HGB.out) ?_
  · go_simp
  refine wpAnyH_take (i := 3) (v := (.pointer (some ⟨nb, 0, none⟩))) rfl (by kernel_rfl) (by kernel_rfl) (by kernel_rfl) (fun _ _ _ h => h) (Or.inl ⟨by kernel_rfl, fun V hV => ?_⟩) (HSS.out _ HGB.out) ?_
  · go_simp
  refine wpAnyH_take (i := 4) (v := (.pointer (some ⟨nb, 0, none⟩))) rfl (by kernel_rfl) (by kernel_rfl) (by kernel_rfl) (fun _ _ _ h => h) (Or.inl ⟨by kernel_rfl, fun V hV => ?_⟩) (HSS.out _ HGB.out) ?_
  · go_simp
  refine wpAnyH_take (i := 6) (v := (.agg #[.int .i64 a.f0, .int .i64 a.f1, v2])) rfl (by kernel_rfl) (by kernel_rfl) (by kernel_rfl) (fun _ _ _ h => h) (Or.inl ⟨by kernel_rfl, fun V hV => ?_⟩) (HSS.out _ HGB.out) ?_
  · obtain ⟨g0, g1, g2⟩ := hV
    go_simp
  go_simp
  refine wpAnyH_all (rs := [5, 7]) (by kernel_rfl) (by simp) ?_
  intro i' hi'
  have hi2 : i' = 5 ∨ i' = 7 := by simpa using hi'
  rcases hi2 with rfl | rfl
  · refine wpOp_step rfl (fun K hK => ?_)
    have n0 : V0.cell? ⟨nb, 0, none⟩ = some (.slice Ao X.length co) := (blk_cell HN0.out 0).trans rfl
    go_simp
    refine hK _ _ ⟨HSS.out _ HGB.out, ?_⟩
    clear hK n0
    go_simp
    refine wpAnyH_all (rs := [7]) (by kernel_rfl) (by simp) ?_
    intro i' hi'
    obtain rfl : i' = 7 := by simpa using hi'
    refine wpOp_step rfl (fun K hK => ?_)
    go_simp
    refine hK _ _ ⟨HSS.out _ (blk_alloc HGB.out _), ?_⟩
    clear hK
    go_simp
    refine wpAnyH_all (rs := [8]) (by kernel_rfl) (by simp) ?_
    intro i' hi'
    obtain rfl : i' = 8 := by simpa using hi'
    refine wpOp_step rfl (fun K hK => ?_)
    refine Kd.R_append_step (k30at w base) (w0 := w) base rfl (.tmp 9) (.tmp 11) 22 30 (.agg #[(.int .i64 0), (.int .i64 0), (.slice none 0 0)]) 40 rfl Try.underlying22 inf30 rfl (Nat.succ_pos 2) (by omega) (.slice Ao X.length co) X a [.int .i64 a.f0, .int .i64 a.f1, v2] (fun k => (Value.slice Ao X.length co).ownBlock = some k ∨ w.heap.size ≤ k) (fun _ => False) rfl rfl HM.out (fun _ h => h.elim) (fun k hk => .inr (Nat.le_trans HB0.out.size hk)) ?cO ?cB (Nat.le_trans hle HB0.out.size) (by omega) ?_
    case cO => exact ⟨HX0.out.1, by obtain ⟨_, inner, ho, hr⟩ := HX.out; exact ⟨inner, pw_own_below ho HB0.out, hr⟩⟩
    case cB => exact ⟨HB0.out.os, HB0.out.tape, HB0.out.output, HB0.out.size, fun k hk => HB0.out.block k (by omega)⟩
    intro v1 w1 ho hbw hg hat
    have hne : ∀ k, (Value.slice Ao X.length co).ownBlock = some k → k < w.heap.size ∧ k ≠ nb := fun k hk => ⟨Kd.R_lt HX.out k hk, by
      rintro rfl
      obtain ⟨cells, hc⟩ := HOWN.out k hk
      rw [HN.out] at hc
      injection hc with hc
      injection hc with _ hc
      cases hc⟩
    have hgb1 := blk_grown HGB.out hg (fun e => by have := (hne _ e.symm).1; have := HG.out; omega)
    have hn1 := blk_grown HN0.out hg (fun e => (hne _ e.symm).2 rfl)
    refine hK _ _ ⟨HSS.out _ hgb1, ?_⟩
    clear hK
    obtain ⟨U, hU⟩ : ∃ U, U = X ++ [a] := ⟨_, rfl⟩
    have hul : U.length ≤ 1000001 := by rw [hU]; simp; omega
    rw [← hU] at ho
    have HU := Aside0.mk hU
    have hE1 : Eff (fun k => k = nb ∨ (Value.slice Ao X.length co).ownBlock = some k) w w1 := (Eff.of_below HB0.out _).grown hg (fun k hk => ⟨.inl (.inr hk), by obtain ⟨cells, hc⟩ := HOWN.out k hk; exact ⟨cells, blk_below hc HB0.out⟩⟩)
    obtain ⟨A1, c1, ev1⟩ := Kd.R_slice ho
    subst ev1
    have HAT : Aside0 (∀ k, (Value.slice A1 U.length c1).ownBlock = some k → (Value.slice Ao X.length co).ownBlock = some k ∨ w.heap.size ≤ k) := ⟨fun k hk => ho.1 k hk⟩
    have HSH := Aside0.mk (Sh.of_at ho (Nat.le_refl _) hE1.k46)
    have HE1 := Aside0.mk hE1
    have HN1 := Aside0.mk hn1
    have HG1 := Aside0.mk hgb1
    clear ho hbw hg hat hne hgb1 hn1 hE1 hU
    go_simp
    refine wpAnyH_take (i := 9) (v := (.pointer (some ⟨nb, 0, none⟩))) rfl (by kernel_rfl) (by kernel_rfl) (by kernel_rfl) (fun _ _ _ h => h) (Or.inl ⟨by kernel_rfl, fun V hV => ?_⟩) (HSS.out _ HG1.out) ?_
    · go_simp
    refine wpAnyH_take (i := 10) (v := (.pointer (some ⟨nb, 0, none⟩))) rfl (by kernel_rfl) (by kernel_rfl) (by kernel_rfl) (fun _ _ _ h => h) (Or.inl ⟨by kernel_rfl, fun V hV => ?_⟩) (HSS.out _ HG1.out) ?_
    · go_simp
    refine wpAnyH_take (i := 11) (v := (.pointer (some ⟨nb, 0, none⟩))) rfl (by kernel_rfl) (by kernel_rfl) (by kernel_rfl) (fun _ _ _ h => h) (Or.inl ⟨by kernel_rfl, fun V hV => ?_⟩) (HSS.out _ HG1.out) ?_
    · go_simp
    go_simp
    refine wpAnyH_all (rs := [12]) (by kernel_rfl) (by simp) ?_
    intro i' hi'
    obtain rfl : i' = 12 := by simpa using hi'
    refine wpOp_step rfl (fun K hK => ?_)
    have n0 : w1.cell? ⟨nb, 0, none⟩ = some (.slice Ao X.length co) := (blk_cell HN1.out 0).trans rfl
    have n1 : w1.frozen? ⟨nb, 0, none⟩ = false := blk_frozen HN1.out 0
    have hgn : gb ≠ nb := by have := HG.out; omega
    go_simp
    refine hK _ _ ⟨HSS.out _ (blk_far HG1.out (p := ⟨nb, 0, none⟩) hgn _), ?_⟩
    clear hK n0 n1 hgn
    refine wpAnyH_done (by kernel_rfl) ?_ _
    obtain ⟨W2, hW2⟩ : ∃ W2 : World, W2 = w1.setCell ⟨nb, 0, none⟩ (.slice A1 U.length c1) := ⟨_, rfl⟩
    have hn2 : W2.heap[nb]? = some (.cells #[.slice A1 U.length c1, .int .i64 n] 76 (0, 0)) := by rw [hW2]; exact blk_put HN1.out 0 _ rfl
    have hE2 : Eff (fun k => k = nb ∨ (Value.slice Ao X.length co).ownBlock = some k) w W2 := by rw [hW2]; exact HE1.out.set HN1.out (by decide) (.inl (.inl rfl)) _
    have hE12 : Eff (fun k => k = nb) w1 W2 := by rw [hW2]; exact (Eff.refl w1 (fun k => k = nb)).set HN1.out (by decide) (.inl rfl) _
    have hS2 : Sh W2 base (fun k => (Value.slice Ao X.length co).ownBlock = some k ∨ w.heap.size ≤ k) (.slice A1 U.length c1) U := (HSH.out.mono (ok' := fun k => ((Value.slice Ao X.length co).ownBlock = some k ∨ w.heap.size ≤ k) ∧ k ≠ nb) (fun k hk hok => ⟨hok, fun e => by subst e; exact Kd.R_ne HSH.out HN1.out (by decide) hk.symm⟩)).eff hE12 (fun k hk e => hk.2 e) |>.mono (fun k _ hk => hk.1)
    rw [← hW2]
    clear hW2 hE12
    have HN2 := Aside0.mk hn2
    have HE2 := Aside0.mk hE2
    have HS2 := Aside0.mk hS2
    clear hn2 hE2 hS2 HSH HE1 HN1 HG1 HAT HSS HB0 HN0 HX0 HGB HGL
    go_wp2_with fail
    have HT : Aside0 (∀ V : World, V.heap[nb]? = some (.cells #[.slice A1 U.length c1, .int .i64 n] 76 (0, 0)) → (V.cell? ⟨nb, 0, none⟩ = some (.slice A1 U.length c1) ∧ V.cell? ⟨nb, 1, none⟩ = some (.int .i64 n))) := ⟨fun V h => ⟨(blk_cell h 0).trans rfl, (blk_cell h 1).trans rfl⟩⟩
    refine wp_region_held (S := fun V => V.cell? ⟨nb, 0, none⟩ = some (.slice A1 U.length c1) ∧ V.cell? ⟨nb, 1, none⟩ = some (.int .i64 n)) (by kernel_rfl) ?_
    obtain ⟨V3, hV3⟩ : ∃ V3 : World, V3 = { W2 with drawn := W2.drawn + 1 } := ⟨_, rfl⟩
    have hB3 : Below W2.heap.size W2 V3 := by rw [hV3]; exact ⟨rfl, rfl, rfl, Nat.le_refl _, fun _ _ => rfl⟩
    rw [← hV3]
    have HN3 := Aside0.mk (blk_below HN2.out hB3)
    have HE3 := Aside0.mk (HE2.out.then_below hB3)
    have HS3 := Aside0.mk (HS2.out.below hB3)
    clear hV3 hB3 HN2 HE2 HS2
    by_cases hgt : (U.length : Int) > n
    · refine wpAnyH_take (i := 0) (v := (.pointer (some ⟨nb, 0, none⟩))) rfl (by kernel_rfl) (by kernel_rfl) (by kernel_rfl) (fun _ _ _ h => h) (Or.inl ⟨by kernel_rfl, fun V hV => ?_⟩) (HT.out _ HN3.out) ?_
      · obtain ⟨m0, m1⟩ := hV
        go_simp
      refine wpAnyH_take (i := 1) (v := (.pointer (some ⟨nb, 0, none⟩))) rfl (by kernel_rfl) (by kernel_rfl) (by kernel_rfl) (fun _ _ _ h => h) (Or.inl ⟨by kernel_rfl, fun V hV => ?_⟩) (HT.out _ HN3.out) ?_
      · obtain ⟨m0, m1⟩ := hV
        go_simp
      refine wpAnyH_take (i := 2) (v := (.pointer (some ⟨nb, 0, none⟩))) rfl (by kernel_rfl) (by kernel_rfl) (by kernel_rfl) (fun _ _ _ h => h) (Or.inl ⟨by kernel_rfl, fun V hV => ?_⟩) (HT.out _ HN3.out) ?_
      · obtain ⟨m0, m1⟩ := hV
        go_simp
      refine wpAnyH_take (i := 3) (v := (.pointer (some ⟨nb, 0, none⟩))) rfl (by kernel_rfl) (by kernel_rfl) (by kernel_rfl) (fun _ _ _ h => h) (Or.inl ⟨by kernel_rfl, fun V hV => ?_⟩) (HT.out _ HN3.out) ?_
      · obtain ⟨m0, m1⟩ := hV
        go_simp
      refine wpAnyH_take (i := 4) (v := (.slice A1 U.length c1)) rfl (by kernel_rfl) (by kernel_rfl) (by kernel_rfl) (fun _ _ _ h => h) (Or.inl ⟨by kernel_rfl, fun V hV => ?_⟩) (HT.out _ HN3.out) ?_
      · obtain ⟨m0, m1⟩ := hV
        go_simp
      refine wpAnyH_take (i := 5) (v := (.int .i64 U.length)) rfl (by kernel_rfl) (by kernel_rfl) (by kernel_rfl) (fun _ _ _ h => h) (Or.inl ⟨by kernel_rfl, fun V hV => ?_⟩) (HT.out _ HN3.out) ?_
      · obtain ⟨m0, m1⟩ := hV
        go_simp
      refine wpAnyH_take (i := 6) (v := (.pointer (some ⟨nb, 0, none⟩))) rfl (by kernel_rfl) (by kernel_rfl) (by kernel_rfl) (fun _ _ _ h => h) (Or.inl ⟨by kernel_rfl, fun V hV => ?_⟩) (HT.out _ HN3.out) ?_
      · obtain ⟨m0, m1⟩ := hV
        go_simp
      refine wpAnyH_take (i := 7) (v := (.pointer (some ⟨nb, 0, none⟩))) rfl (by kernel_rfl) (by kernel_rfl) (by kernel_rfl) (fun _ _ _ h => h) (Or.inl ⟨by kernel_rfl, fun V hV => ?_⟩) (HT.out _ HN3.out) ?_
      · obtain ⟨m0, m1⟩ := hV
        go_simp
      refine wpAnyH_take (i := 8) (v := (.pointer (some ⟨nb, 1, none⟩))) rfl (by kernel_rfl) (by kernel_rfl) (by kernel_rfl) (fun _ _ _ h => h) (Or.inl ⟨by kernel_rfl, fun V hV => ?_⟩) (HT.out _ HN3.out) ?_
      · obtain ⟨m0, m1⟩ := hV
        go_simp
      refine wpAnyH_take (i := 9) (v := (.int .i64 n)) rfl (by kernel_rfl) (by kernel_rfl) (by kernel_rfl) (fun _ _ _ h => h) (Or.inl ⟨by kernel_rfl, fun V hV => ?_⟩) (HT.out _ HN3.out) ?_
      · obtain ⟨m0, m1⟩ := hV
        go_simp
      refine wpAnyH_take (i := 10) (v := (.bool true)) rfl (by kernel_rfl) (by kernel_rfl) (by kernel_rfl) (fun _ _ _ h => h) (Or.inl ⟨by kernel_rfl, fun V hV => ?_⟩) (HT.out _ HN3.out) ?_
      · obtain ⟨m0, m1⟩ := hV
        go_simp
        all_goals first | done | omega | simp [hgt]
      go_simp
      refine wpAnyH_done (by kernel_rfl) ?_ _
      go_wp2_with fail
      have HT1 : Aside0 (∀ V : World, V.heap[nb]? = some (.cells #[.slice A1 U.length c1, .int .i64 n] 76 (0, 0)) → V.cell? ⟨nb, 1, none⟩ = some (.int .i64 n)) := ⟨fun V h => (blk_cell h 1).trans rfl⟩
      refine wp_region_held (S := fun V => V.cell? ⟨nb, 1, none⟩ = some (.int .i64 n)) (by kernel_rfl) ?_
      obtain ⟨V4, hV4⟩ : ∃ V4 : World, V4 = { V3 with drawn := V3.drawn + 1 } := ⟨_, rfl⟩
      have hB4 : Below V3.heap.size V3 V4 := by rw [hV4]; exact ⟨rfl, rfl, rfl, Nat.le_refl _, fun _ _ => rfl⟩
      rw [← hV4]
      have HN4 := Aside0.mk (blk_below HN3.out hB4)
      have HE4 := Aside0.mk (HE3.out.then_below hB4)
      have HS4 := Aside0.mk (HS3.out.below hB4)
      clear hV4 hB4 HN3 HE3 HS3 HT
      refine wpAnyH_take (i := 0) (v := (.pointer (some ⟨nb, 0, none⟩))) rfl (by kernel_rfl) (by kernel_rfl) (by kernel_rfl) (fun _ _ _ h => h) (Or.inl ⟨by kernel_rfl, fun V hV => ?_⟩) (HT1.out _ HN4.out) ?_
      · go_simp
      refine wpAnyH_take (i := 1) (v := (.pointer (some ⟨nb, 0, none⟩))) rfl (by kernel_rfl) (by kernel_rfl) (by kernel_rfl) (fun _ _ _ h => h) (Or.inl ⟨by kernel_rfl, fun V hV => ?_⟩) (HT1.out _ HN4.out) ?_
      · go_simp
      refine wpAnyH_take (i := 2) (v := (.pointer (some ⟨nb, 0, none⟩))) rfl (by kernel_rfl) (by kernel_rfl) (by kernel_rfl) (fun _ _ _ h => h) (Or.inl ⟨by kernel_rfl, fun V hV => ?_⟩) (HT1.out _ HN4.out) ?_
      · go_simp
      refine wpAnyH_take (i := 3) (v := (.pointer (some ⟨nb, 0, none⟩))) rfl (by kernel_rfl) (by kernel_rfl) (by kernel_rfl) (fun _ _ _ h => h) (Or.inl ⟨by kernel_rfl, fun V hV => ?_⟩) (HT1.out _ HN4.out) ?_
      · go_simp
      refine wpAnyH_take (i := 4) (v := (.pointer (some ⟨nb, 0, none⟩))) rfl (by kernel_rfl) (by kernel_rfl) (by kernel_rfl) (fun _ _ _ h => h) (Or.inl ⟨by kernel_rfl, fun V hV => ?_⟩) (HT1.out _ HN4.out) ?_
      · go_simp
      refine wpAnyH_take (i := 6) (v := (.pointer (some ⟨nb, 0, none⟩))) rfl (by kernel_rfl) (by kernel_rfl) (by kernel_rfl) (fun _ _ _ h => h) (Or.inl ⟨by kernel_rfl, fun V hV => ?_⟩) (HT1.out _ HN4.out) ?_
      · go_simp
      refine wpAnyH_take (i := 7) (v := (.pointer (some ⟨nb, 0, none⟩))) rfl (by kernel_rfl) (by kernel_rfl) (by kernel_rfl) (fun _ _ _ h => h) (Or.inl ⟨by kernel_rfl, fun V hV => ?_⟩) (HT1.out _ HN4.out) ?_
      · go_simp
      refine wpAnyH_take (i := 8) (v := (.pointer (some ⟨nb, 0, none⟩))) rfl (by kernel_rfl) (by kernel_rfl) (by kernel_rfl) (fun _ _ _ h => h) (Or.inl ⟨by kernel_rfl, fun V hV => ?_⟩) (HT1.out _ HN4.out) ?_
      · go_simp
      refine wpAnyH_take (i := 9) (v := (.pointer (some ⟨nb, 0, none⟩))) rfl (by kernel_rfl) (by kernel_rfl) (by kernel_rfl) (fun _ _ _ h => h) (Or.inl ⟨by kernel_rfl, fun V hV => ?_⟩) (HT1.out _ HN4.out) ?_
      · go_simp
      refine wpAnyH_take (i := 12) (v := (.pointer (some ⟨nb, 0, none⟩))) rfl (by kernel_rfl) (by kernel_rfl) (by kernel_rfl) (fun _ _ _ h => h) (Or.inl ⟨by kernel_rfl, fun V hV => ?_⟩) (HT1.out _ HN4.out) ?_
      · go_simp
      refine wpAnyH_take (i := 13) (v := (.pointer (some ⟨nb, 0, none⟩))) rfl (by kernel_rfl) (by kernel_rfl) (by kernel_rfl) (fun _ _ _ h => h) (Or.inl ⟨by kernel_rfl, fun V hV => ?_⟩) (HT1.out _ HN4.out) ?_
      · go_simp
      refine wpAnyH_take (i := 14) (v := (.pointer (some ⟨nb, 1, none⟩))) rfl (by kernel_rfl) (by kernel_rfl) (by kernel_rfl) (fun _ _ _ h => h) (Or.inl ⟨by kernel_rfl, fun V hV => ?_⟩) (HT1.out _ HN4.out) ?_
      · go_simp
      refine wpAnyH_take (i := 15) (v := (.int .i64 n)) rfl (by kernel_rfl) (by kernel_rfl) (by kernel_rfl) (fun _ _ _ h => h) (Or.inl ⟨by kernel_rfl, fun V hV => ?_⟩) (HT1.out _ HN4.out) ?_
      · go_simp
      go_simp
      obtain ⟨i0, hi0, hhe⟩ := Option.map_eq_some_iff.1 inf30
      simp only [Prod.mk.injEq] at hhe
      obtain ⟨_, hz1, _⟩ := hhe
      obtain ⟨A', c', ev', hlu, hat⟩ := HS4.out.reads
      obtain ⟨rfl, rfl⟩ : A1 = A' ∧ c1 = c' := by injection ev' with e1 _ e3; exact ⟨e1, e3⟩
      have hln : (lastn n U).length = U.length - (U.length - n.toNat) := by simp [lastn]
      have htn : ((U.length : Int) - n).toNat = U.length - n.toNat := by omega
      obtain ⟨A5, hA5⟩ : ∃ A5, A5 = (if c1 = U.length - n.toNat then A1 else A1.map (·.add ((U.length - n.toNat) * 3))) := ⟨_, rfl⟩
      obtain ⟨c5, hc5⟩ : ∃ c5, c5 = c1 - (U.length - n.toNat) := ⟨_, rfl⟩
      have HC5 : Aside0 (∀ W : World, (Instr.slice 22 (.slice A1 U.length c1) (some (.int .i64 (U.length - n))) none none).run Try.prog W = .ok (.slice A5 (lastn n U).length c5) W) := ⟨fun W => by rw [cut_from (P := Try.prog) 22 30 .i64 Try.underlying22 hi0 3 hz1 A1 U.length c1 (U.length - n) (by omega) (by omega) hlu W, htn, hA5, hc5, hln]⟩
      have HR5 : Aside0 ((k30at V4 base).C V4 A5 (lastn n U).length (lastn n U)) := ⟨by rw [hA5]; exact Kd.C_drop hat (by omega) hlu⟩
      have HL5 : Aside0 ((lastn n U).length ≤ c5) := ⟨by rw [hln, hc5]; omega⟩
      have HLN : Aside0 ((lastn n U).length ≤ U.length) := ⟨by rw [hln]; omega⟩
      have HA5 := Aside0.mk hA5
      have HCC5 := Aside0.mk hc5
      have HTN := Aside0.mk htn
      have HLL := Aside0.mk hln
      clear hat hA5 hc5 hln htn hlu hi0 hz1
      refine wpAnyH_all (rs := [5, 10]) (by kernel_rfl) (by simp) ?_
      intro i' hi'
      have hi2 : i' = 5 ∨ i' = 10 := by simpa using hi'
      rcases hi2 with rfl | rfl
      · refine wpOp_step rfl (fun K hK => ?_)
        have n0 : V4.cell? ⟨nb, 0, none⟩ = some (.slice A1 U.length c1) := (blk_cell HN4.out 0).trans rfl
        go_simp
        refine hK _ _ ⟨HT1.out _ HN4.out, ?_⟩
        clear hK n0
        go_simp
        refine wpAnyH_all (rs := [10]) (by kernel_rfl) (by simp) ?_
        intro i' hi'
        obtain rfl : i' = 10 := by simpa using hi'
        refine wpOp_step rfl (fun K hK => ?_)
        have n0 : V4.cell? ⟨nb, 0, none⟩ = some (.slice A1 U.length c1) := (blk_cell HN4.out 0).trans rfl
        go_simp
        refine hK _ _ ⟨HT1.out _ HN4.out, ?_⟩
        clear hK n0
        go_simp
        refine wpAnyH_take (i := 11) (v := (.int .i64 U.length)) rfl (by kernel_rfl) (by kernel_rfl) (by kernel_rfl) (fun _ _ _ h => h) (Or.inl ⟨by kernel_rfl, fun V hV => ?_⟩) (HT1.out _ HN4.out) ?_
        · go_simp
        refine wpAnyH_take (i := 16) (v := (.int .i64 (U.length - n))) rfl (by kernel_rfl) (by kernel_rfl) (by kernel_rfl) (fun _ _ _ h => h) (Or.inl ⟨by kernel_rfl, fun V hV => ?_⟩) (HT1.out _ HN4.out) ?_
        · go_simp
          exact C.wrapI _ (by omega) (by omega)
        refine wpAnyH_take (i := 17) (v := (.slice A5 (lastn n U).length c5)) rfl (by kernel_rfl) (by kernel_rfl) (by kernel_rfl) (fun _ _ _ h => h) (Or.inl ⟨by kernel_rfl, fun V hV => ?_⟩) (HT1.out _ HN4.out) ?_
        · go_simp
          rw [if_pos ⟨by omega, by omega⟩, HA5.out, HCC5.out, HTN.out, HLL.out]
        go_simp
        refine wpAnyH_all (rs := [18]) (by kernel_rfl) (by simp) ?_
        intro i' hi'
        obtain rfl : i' = 18 := by simpa using hi'
        refine wpOp_step rfl (fun K hK => ?_)
        go_simp
        refine (clone22_calls (lastn n U) A5 c5 base V4 HR5.out HL5.out (by have := HLN.out; omega) (Nat.le_trans hle HE4.out.kept.1)).mono ?_
        rintro e V5 ⟨v5, rfl, hs5, hb5⟩
        refine hK _ _ ⟨HT1.out _ (blk_below HN4.out hb5), ?_⟩
        obtain ⟨A6, c6, ev6, _, _⟩ := hs5.reads
        subst ev6
        have HS5 := Aside0.mk hs5
        have HN5 := Aside0.mk (blk_below HN4.out hb5)
        have HE5 := Aside0.mk (HE4.out.then_below hb5)
        have HZ5 := Aside0.mk hb5.size
        clear hK hs5 hb5
        go_simp
        refine wpAnyH_take (i := 19) (v := (.pointer (some ⟨nb, 0, none⟩))) rfl (by kernel_rfl) (by kernel_rfl) (by kernel_rfl) (fun _ _ _ h => h) (Or.inl ⟨by kernel_rfl, fun V hV => ?_⟩) (HT1.out _ HN5.out) ?_
        · go_simp
        refine wpAnyH_take (i := 20) (v := (.pointer (some ⟨nb, 0, none⟩))) rfl (by kernel_rfl) (by kernel_rfl) (by kernel_rfl) (fun _ _ _ h => h) (Or.inl ⟨by kernel_rfl, fun V hV => ?_⟩) (HT1.out _ HN5.out) ?_
        · go_simp
        refine wpAnyH_take (i := 21) (v := (.pointer (some ⟨nb, 0, none⟩))) rfl (by kernel_rfl) (by kernel_rfl) (by kernel_rfl) (fun _ _ _ h => h) (Or.inl ⟨by kernel_rfl, fun V hV => ?_⟩) (HT1.out _ HN5.out) ?_
        · go_simp
        go_simp
        refine wpAnyH_all (rs := [22]) (by kernel_rfl) (by simp) ?_
        intro i' hi'
        obtain rfl : i' = 22 := by simpa using hi'
        refine wpOp_step rfl (fun K hK => ?_)
        have n0 : V5.cell? ⟨nb, 0, none⟩ = some (.slice A1 U.length c1) := (blk_cell HN5.out 0).trans rfl
        have n1 : V5.frozen? ⟨nb, 0, none⟩ = false := blk_frozen HN5.out 0
        go_simp
        have hn6 : (V5.setCell ⟨nb, 0, none⟩ (.slice A6 (lastn n U).length c6)).heap[nb]? = some (.cells #[.slice A6 (lastn n U).length c6, .int .i64 n] 76 (0, 0)) := blk_put HN5.out 0 _ rfl
        refine hK _ _ ⟨(blk_cell hn6 1).trans rfl, ?_⟩
        clear hK n0 n1
        refine wpAnyH_done (by kernel_rfl) ?_ _
        go_wp2_with fail
        go_end0
        refine ⟨⟨_, rfl⟩, .slice A6 (lastn n U).length c6, hn6, ?_, HE5.out.set HN5.out (by decide) (.inl (.inl rfl)) _⟩
        rw [← HU.out]
        have hz4 : w.heap.size ≤ V4.heap.size := HE4.out.kept.1
        exact (HS5.out.mono (ok' := fun k => w.heap.size ≤ k) (fun k _ hk => Nat.le_trans hz4 hk)).eff ((Eff.refl V5 (fun k => k = nb)).set HN5.out (by decide) (.inl rfl) _) (fun k hk e => by omega) |>.mono (fun k _ hk => .inr hk)
      · refine wpOp_step rfl (fun K hK => ?_)
        have n0 : V4.cell? ⟨nb, 0, none⟩ = some (.slice A1 U.length c1) := (blk_cell HN4.out 0).trans rfl
        go_simp
        refine hK _ _ ⟨HT1.out _ HN4.out, ?_⟩
        clear hK n0
        go_simp
        refine wpAnyH_take (i := 11) (v := (.int .i64 U.length)) rfl (by kernel_rfl) (by kernel_rfl) (by kernel_rfl) (fun _ _ _ h => h) (Or.inl ⟨by kernel_rfl, fun V hV => ?_⟩) (HT1.out _ HN4.out) ?_
        · go_simp
        refine wpAnyH_take (i := 16) (v := (.int .i64 (U.length - n))) rfl (by kernel_rfl) (by kernel_rfl) (by kernel_rfl) (fun _ _ _ h => h) (Or.inl ⟨by kernel_rfl, fun V hV => ?_⟩) (HT1.out _ HN4.out) ?_
        · go_simp
          exact C.wrapI _ (by omega) (by omega)
        go_simp
        refine wpAnyH_all (rs := [5]) (by kernel_rfl) (by simp) ?_
        intro i' hi'
        obtain rfl : i' = 5 := by simpa using hi'
        refine wpOp_step rfl (fun K hK => ?_)
        have n0 : V4.cell? ⟨nb, 0, none⟩ = some (.slice A1 U.length c1) := (blk_cell HN4.out 0).trans rfl
        go_simp
        refine hK _ _ ⟨HT1.out _ HN4.out, ?_⟩
        clear hK n0
        go_simp
        refine wpAnyH_take (i := 17) (v := (.slice A5 (lastn n U).length c5)) rfl (by kernel_rfl) (by kernel_rfl) (by kernel_rfl) (fun _ _ _ h => h) (Or.inl ⟨by kernel_rfl, fun V hV => ?_⟩) (HT1.out _ HN4.out) ?_
        · go_simp
          rw [if_pos ⟨by omega, by omega⟩, HA5.out, HCC5.out, HTN.out, HLL.out]
        go_simp
        refine wpAnyH_all (rs := [18]) (by kernel_rfl) (by simp) ?_
        intro i' hi'
        obtain rfl : i' = 18 := by simpa using hi'
        refine wpOp_step rfl (fun K hK => ?_)
        go_simp
        refine (clone22_calls (lastn n U) A5 c5 base V4 HR5.out HL5.out (by have := HLN.out; omega) (Nat.le_trans hle HE4.out.kept.1)).mono ?_
        rintro e V5 ⟨v5, rfl, hs5, hb5⟩
        refine hK _ _ ⟨HT1.out _ (blk_below HN4.out hb5), ?_⟩
        obtain ⟨A6, c6, ev6, _, _⟩ := hs5.reads
        subst ev6
        have HS5 := Aside0.mk hs5
        have HN5 := Aside0.mk (blk_below HN4.out hb5)
        have HE5 := Aside0.mk (HE4.out.then_below hb5)
        have HZ5 := Aside0.mk hb5.size
        clear hK hs5 hb5
        go_simp
        refine wpAnyH_take (i := 19) (v := (.pointer (some ⟨nb, 0, none⟩))) rfl (by kernel_rfl) (by kernel_rfl) (by kernel_rfl) (fun _ _ _ h => h) (Or.inl ⟨by kernel_rfl, fun V hV => ?_⟩) (HT1.out _ HN5.out) ?_
        · go_simp
        refine wpAnyH_take (i := 20) (v := (.pointer (some ⟨nb, 0, none⟩))) rfl (by kernel_rfl) (by kernel_rfl) (by kernel_rfl) (fun _ _ _ h => h) (Or.inl ⟨by kernel_rfl, fun V hV => ?_⟩) (HT1.out _ HN5.out) ?_
        · go_simp
        refine wpAnyH_take (i := 21) (v := (.pointer (some ⟨nb, 0, none⟩))) rfl (by kernel_rfl) (by kernel_rfl) (by kernel_rfl) (fun _ _ _ h => h) (Or.inl ⟨by kernel_rfl, fun V hV => ?_⟩) (HT1.out _ HN5.out) ?_
        · go_simp
        go_simp
        refine wpAnyH_all (rs := [22]) (by kernel_rfl) (by simp) ?_
        intro i' hi'
        obtain rfl : i' = 22 := by simpa using hi'
        refine wpOp_step rfl (fun K hK => ?_)
        have n0 : V5.cell? ⟨nb, 0, none⟩ = some (.slice A1 U.length c1) := (blk_cell HN5.out 0).trans rfl
        have n1 : V5.frozen? ⟨nb, 0, none⟩ = false := blk_frozen HN5.out 0
        go_simp
        have hn6 : (V5.setCell ⟨nb, 0, none⟩ (.slice A6 (lastn n U).length c6)).heap[nb]? = some (.cells #[.slice A6 (lastn n U).length c6, .int .i64 n] 76 (0, 0)) := blk_put HN5.out 0 _ rfl
        refine hK _ _ ⟨(blk_cell hn6 1).trans rfl, ?_⟩
        clear hK n0 n1
        refine wpAnyH_done (by kernel_rfl) ?_ _
        go_wp2_with fail
        go_end0
        refine ⟨⟨_, rfl⟩, .slice A6 (lastn n U).length c6, hn6, ?_, HE5.out.set HN5.out (by decide) (.inl (.inl rfl)) _⟩
        rw [← HU.out]
        have hz4 : w.heap.size ≤ V4.heap.size := HE4.out.kept.1
        exact (HS5.out.mono (ok' := fun k => w.heap.size ≤ k) (fun k _ hk => Nat.le_trans hz4 hk)).eff ((Eff.refl V5 (fun k => k = nb)).set HN5.out (by decide) (.inl rfl) _) (fun k hk e => by omega) |>.mono (fun k _ hk => .inr hk)
    · refine wpAnyH_take (i := 0) (v := (.pointer (some ⟨nb, 0, none⟩))) rfl (by kernel_rfl) (by kernel_rfl) (by kernel_rfl) (fun _ _ _ h => h) (Or.inl ⟨by kernel_rfl, fun V hV => ?_⟩) (HT.out _ HN3.out) ?_
      · obtain ⟨m0, m1⟩ := hV
        go_simp
      refine wpAnyH_take (i := 1) (v := (.pointer (some ⟨nb, 0, none⟩))) rfl (by kernel_rfl) (by kernel_rfl) (by kernel_rfl) (fun _ _ _ h => h) (Or.inl ⟨by kernel_rfl, fun V hV => ?_⟩) (HT.out _ HN3.out) ?_
      · obtain ⟨m0, m1⟩ := hV
        go_simp
      refine wpAnyH_take (i := 2) (v := (.pointer (some ⟨nb, 0, none⟩))) rfl (by kernel_rfl) (by kernel_rfl) (by kernel_rfl) (fun _ _ _ h => h) (Or.inl ⟨by kernel_rfl, fun V hV => ?_⟩) (HT.out _ HN3.out) ?_
      · obtain ⟨m0, m1⟩ := hV
        go_simp
      refine wpAnyH_take (i := 3) (v := (.pointer (some ⟨nb, 0, none⟩))) rfl (by kernel_rfl) (by kernel_rfl) (by kernel_rfl) (fun _ _ _ h => h) (Or.inl ⟨by kernel_rfl, fun V hV => ?_⟩) (HT.out _ HN3.out) ?_
      · obtain ⟨m0, m1⟩ := hV
        go_simp
      refine wpAnyH_take (i := 4) (v := (.slice A1 U.length c1)) rfl (by kernel_rfl) (by kernel_rfl) (by kernel_rfl) (fun _ _ _ h => h) (Or.inl ⟨by kernel_rfl, fun V hV => ?_⟩) (HT.out _ HN3.out) ?_
      · obtain ⟨m0, m1⟩ := hV
        go_simp
      refine wpAnyH_take (i := 5) (v := (.int .i64 U.length)) rfl (by kernel_rfl) (by kernel_rfl) (by kernel_rfl) (fun _ _ _ h => h) (Or.inl ⟨by kernel_rfl, fun V hV => ?_⟩) (HT.out _ HN3.out) ?_
      · obtain ⟨m0, m1⟩ := hV
        go_simp
      refine wpAnyH_take (i := 6) (v := (.pointer (some ⟨nb, 0, none⟩))) rfl (by kernel_rfl) (by kernel_rfl) (by kernel_rfl) (fun _ _ _ h => h) (Or.inl ⟨by kernel_rfl, fun V hV => ?_⟩) (HT.out _ HN3.out) ?_
      · obtain ⟨m0, m1⟩ := hV
        go_simp
      refine wpAnyH_take (i := 7) (v := (.pointer (some ⟨nb, 0, none⟩))) rfl (by kernel_rfl) (by kernel_rfl) (by kernel_rfl) (fun _ _ _ h => h) (Or.inl ⟨by kernel_rfl, fun V hV => ?_⟩) (HT.out _ HN3.out) ?_
      · obtain ⟨m0, m1⟩ := hV
        go_simp
      refine wpAnyH_take (i := 8) (v := (.pointer (some ⟨nb, 1, none⟩))) rfl (by kernel_rfl) (by kernel_rfl) (by kernel_rfl) (fun _ _ _ h => h) (Or.inl ⟨by kernel_rfl, fun V hV => ?_⟩) (HT.out _ HN3.out) ?_
      · obtain ⟨m0, m1⟩ := hV
        go_simp
      refine wpAnyH_take (i := 9) (v := (.int .i64 n)) rfl (by kernel_rfl) (by kernel_rfl) (by kernel_rfl) (fun _ _ _ h => h) (Or.inl ⟨by kernel_rfl, fun V hV => ?_⟩) (HT.out _ HN3.out) ?_
      · obtain ⟨m0, m1⟩ := hV
        go_simp
      refine wpAnyH_take (i := 10) (v := (.bool false)) rfl (by kernel_rfl) (by kernel_rfl) (by kernel_rfl) (fun _ _ _ h => h) (Or.inl ⟨by kernel_rfl, fun V hV => ?_⟩) (HT.out _ HN3.out) ?_
      · obtain ⟨m0, m1⟩ := hV
        go_simp
        all_goals first | done | omega | simp [hgt]
      go_simp
      refine wpAnyH_done (by kernel_rfl) ?_ _
      go_wp2_with fail
      go_end0
      refine ⟨⟨_, rfl⟩, .slice A1 U.length c1, HN3.out, ?_, HE3.out⟩
      rw [← HU.out]
      have : lastn n U = U := by unfold lastn; rw [show U.length - n.toNat = 0 by omega]; rfl
      rw [this]
      exact HS3.out
  · refine wpOp_step rfl (fun K hK => ?_)
    go_simp
    refine hK _ _ ⟨HSS.out _ (blk_alloc HGB.out _), ?_⟩
    clear hK
    go_simp
    refine wpAnyH_all (rs := [5]) (by kernel_rfl) (by simp) ?_
    intro i' hi'
    obtain rfl : i' = 5 := by simpa using hi'
    refine wpOp_step rfl (fun K hK => ?_)
    have n0 : (V0.alloc (.cells #[.int .i64 a.f0, .int .i64 a.f1, v2] 30)).cell? ⟨nb, 0, none⟩ = some (.slice Ao X.length co) := (blk_cell (blk_alloc HN0.out _) 0).trans rfl
    go_simp
    refine hK _ _ ⟨HSS.out _ (blk_alloc HGB.out _), ?_⟩
    clear hK n0
    go_simp
    refine wpAnyH_all (rs := [8]) (by kernel_rfl) (by simp) ?_
    intro i' hi'
    obtain rfl : i' = 8 := by simpa using hi'
    refine wpOp_step rfl (fun K hK => ?_)
    refine Kd.R_append_step (k30at w base) (w0 := w) base rfl (.tmp 9) (.tmp 11) 22 30 (.agg #[(.int .i64 0), (.int .i64 0), (.slice none 0 0)]) 40 rfl Try.underlying22 inf30 rfl (Nat.succ_pos 2) (by omega) (.slice Ao X.length co) X a [.int .i64 a.f0, .int .i64 a.f1, v2] (fun k => (Value.slice Ao X.length co).ownBlock = some k ∨ w.heap.size ≤ k) (fun _ => False) rfl rfl HM.out (fun _ h => h.elim) (fun k hk => .inr (Nat.le_trans HB0.out.size hk)) ?cO ?cB (Nat.le_trans hle HB0.out.size) (by omega) ?_
    case cO => exact ⟨HX0.out.1, by obtain ⟨_, inner, ho, hr⟩ := HX.out; exact ⟨inner, pw_own_below ho HB0.out, hr⟩⟩
    case cB => exact ⟨HB0.out.os, HB0.out.tape, HB0.out.output, HB0.out.size, fun k hk => HB0.out.block k (by omega)⟩
    intro v1 w1 ho hbw hg hat
    have hne : ∀ k, (Value.slice Ao X.length co).ownBlock = some k → k < w.heap.size ∧ k ≠ nb := fun k hk => ⟨Kd.R_lt HX.out k hk, by
      rintro rfl
      obtain ⟨cells, hc⟩ := HOWN.out k hk
      rw [HN.out] at hc
      injection hc with hc
      injection hc with _ hc
      cases hc⟩
    have hgb1 := blk_grown HGB.out hg (fun e => by have := (hne _ e.symm).1; have := HG.out; omega)
    have hn1 := blk_grown HN0.out hg (fun e => (hne _ e.symm).2 rfl)
    refine hK _ _ ⟨HSS.out _ hgb1, ?_⟩
    clear hK
    obtain ⟨U, hU⟩ : ∃ U, U = X ++ [a] := ⟨_, rfl⟩
    have hul : U.length ≤ 1000001 := by rw [hU]; simp; omega
    rw [← hU] at ho
    have HU := Aside0.mk hU
    have hE1 : Eff (fun k => k = nb ∨ (Value.slice Ao X.length co).ownBlock = some k) w w1 := (Eff.of_below HB0.out _).grown hg (fun k hk => ⟨.inl (.inr hk), by obtain ⟨cells, hc⟩ := HOWN.out k hk; exact ⟨cells, blk_below hc HB0.out⟩⟩)
    obtain ⟨A1, c1, ev1⟩ := Kd.R_slice ho
    subst ev1
    have HAT : Aside0 (∀ k, (Value.slice A1 U.length c1).ownBlock = some k → (Value.slice Ao X.length co).ownBlock = some k ∨ w.heap.size ≤ k) := ⟨fun k hk => ho.1 k hk⟩
    have HSH := Aside0.mk (Sh.of_at ho (Nat.le_refl _) hE1.k46)
    have HE1 := Aside0.mk hE1
    have HN1 := Aside0.mk hn1
    have HG1 := Aside0.mk hgb1
    clear ho hbw hg hat hne hgb1 hn1 hE1 hU
    go_simp
    refine wpAnyH_take (i := 9) (v := (.pointer (some ⟨nb, 0, none⟩))) rfl (by kernel_rfl) (by kernel_rfl) (by kernel_rfl) (fun _ _ _ h => h) (Or.inl ⟨by kernel_rfl, fun V hV => ?_⟩) (HSS.out _ HG1.out) ?_
    · go_simp
    refine wpAnyH_take (i := 10) (v := (.pointer (some ⟨nb, 0, none⟩))) rfl (by kernel_rfl) (by kernel_rfl) (by kernel_rfl) (fun _ _ _ h => h) (Or.inl ⟨by kernel_rfl, fun V hV => ?_⟩) (HSS.out _ HG1.out) ?_
    · go_simp
    refine wpAnyH_take (i := 11) (v := (.pointer (some ⟨nb, 0, none⟩))) rfl (by kernel_rfl) (by kernel_rfl) (by kernel_rfl) (fun _ _ _ h => h) (Or.inl ⟨by kernel_rfl, fun V hV => ?_⟩) (HSS.out _ HG1.out) ?_
    · go_simp
    go_simp
    refine wpAnyH_all (rs := [12]) (by kernel_rfl) (by simp) ?_
    intro i' hi'
    obtain rfl : i' = 12 := by simpa using hi'
    refine wpOp_step rfl (fun K hK => ?_)
    have n0 : w1.cell? ⟨nb, 0, none⟩ = some (.slice Ao X.length co) := (blk_cell HN1.out 0).trans rfl
    have n1 : w1.frozen? ⟨nb, 0, none⟩ = false := blk_frozen HN1.out 0
    have hgn : gb ≠ nb := by have := HG.out; omega
    go_simp
    refine hK _ _ ⟨HSS.out _ (blk_far HG1.out (p := ⟨nb, 0, none⟩) hgn _), ?_⟩
    clear hK n0 n1 hgn
    refine wpAnyH_done (by kernel_rfl) ?_ _
    obtain ⟨W2, hW2⟩ : ∃ W2 : World, W2 = w1.setCell ⟨nb, 0, none⟩ (.slice A1 U.length c1) := ⟨_, rfl⟩
    have hn2 : W2.heap[nb]? = some (.cells #[.slice A1 U.length c1, .int .i64 n] 76 (0, 0)) := by rw [hW2]; exact blk_put HN1.out 0 _ rfl
    have hE2 : Eff (fun k => k = nb ∨ (Value.slice Ao X.length co).ownBlock = some k) w W2 := by rw [hW2]; exact HE1.out.set HN1.out (by decide) (.inl (.inl rfl)) _
    have hE12 : Eff (fun k => k = nb) w1 W2 := by rw [hW2]; exact (Eff.refl w1 (fun k => k = nb)).set HN1.out (by decide) (.inl rfl) _
    have hS2 : Sh W2 base (fun k => (Value.slice Ao X.length co).ownBlock = some k ∨ w.heap.size ≤ k) (.slice A1 U.length c1) U := (HSH.out.mono (ok' := fun k => ((Value.slice Ao X.length co).ownBlock = some k ∨ w.heap.size ≤ k) ∧ k ≠ nb) (fun k hk hok => ⟨hok, fun e => by subst e; exact Kd.R_ne HSH.out HN1.out (by decide) hk.symm⟩)).eff hE12 (fun k hk e => hk.2 e) |>.mono (fun k _ hk => hk.1)
    rw [← hW2]
    clear hW2 hE12
    have HN2 := Aside0.mk hn2
    have HE2 := Aside0.mk hE2
    have HS2 := Aside0.mk hS2
    clear hn2 hE2 hS2 HSH HE1 HN1 HG1 HAT HSS HB0 HN0 HX0 HGB HGL
    go_wp2_with fail
    have HT : Aside0 (∀ V : World, V.heap[nb]? = some (.cells #[.slice A1 U.length c1, .int .i64 n] 76 (0, 0)) → (V.cell? ⟨nb, 0, none⟩ = some (.slice A1 U.length c1) ∧ V.cell? ⟨nb, 1, none⟩ = some (.int .i64 n))) := ⟨fun V h => ⟨(blk_cell h 0).trans rfl, (blk_cell h 1).trans rfl⟩⟩
    refine wp_region_held (S := fun V => V.cell? ⟨nb, 0, none⟩ = some (.slice A1 U.length c1) ∧ V.cell? ⟨nb, 1, none⟩ = some (.int .i64 n)) (by kernel_rfl) ?_
    obtain ⟨V3, hV3⟩ : ∃ V3 : World, V3 = { W2 with drawn := W2.drawn + 1 } := ⟨_, rfl⟩
    have hB3 : Below W2.heap.size W2 V3 := by rw [hV3]; exact ⟨rfl, rfl, rfl, Nat.le_refl _, fun _ _ => rfl⟩
    rw [← hV3]
    have HN3 := Aside0.mk (blk_below HN2.out hB3)
    have HE3 := Aside0.mk (HE2.out.then_below hB3)
    have HS3 := Aside0.mk (HS2.out.below hB3)
    clear hV3 hB3 HN2 HE2 HS2
    by_cases hgt : (U.length : Int) > n
    · refine wpAnyH_take (i := 0) (v := (.pointer (some ⟨nb, 0, none⟩))) rfl (by kernel_rfl) (by kernel_rfl) (by kernel_rfl) (fun _ _ _ h => h) (Or.inl ⟨by kernel_rfl, fun V hV => ?_⟩) (HT.out _ HN3.out) ?_
      · obtain ⟨m0, m1⟩ := hV
        go_simp
      refine wpAnyH_take (i := 1) (v := (.pointer (some ⟨nb, 0, none⟩))) rfl (by kernel_rfl) (by kernel_rfl) (by kernel_rfl) (fun _ _ _ h => h) (Or.inl ⟨by kernel_rfl, fun V hV => ?_⟩) (HT.out _ HN3.out) ?_
      · obtain ⟨m0, m1⟩ := hV
        go_simp
      refine wpAnyH_take (i := 2) (v := (.pointer (some ⟨nb, 0, none⟩))) rfl (by kernel_rfl) (by kernel_rfl) (by kernel_rfl) (fun _ _ _ h => h) (Or.inl ⟨by kernel_rfl, fun V hV => ?_⟩) (HT.out _ HN3.out) ?_
      · obtain ⟨m0, m1⟩ := hV
        go_simp
      refine wpAnyH_take (i := 3) (v := (.pointer (some ⟨nb, 0, none⟩))) rfl (by kernel_rfl) (by kernel_rfl) (by kernel_rfl) (fun _ _ _ h => h) (Or.inl ⟨by kernel_rfl, fun V hV => ?_⟩) (HT.out _ HN3.out) ?_
      · obtain ⟨m0, m1⟩ := hV
        go_simp
      refine wpAnyH_take (i := 4) (v := (.slice A1 U.length c1)) rfl (by kernel_rfl) (by kernel_rfl) (by kernel_rfl) (fun _ _ _ h => h) (Or.inl ⟨by kernel_rfl, fun V hV => ?_⟩) (HT.out _ HN3.out) ?_
      · obtain ⟨m0, m1⟩ := hV
        go_simp
      refine wpAnyH_take (i := 5) (v := (.int .i64 U.length)) rfl (by kernel_rfl) (by kernel_rfl) (by kernel_rfl) (fun _ _ _ h => h) (Or.inl ⟨by kernel_rfl, fun V hV => ?_⟩) (HT.out _ HN3.out) ?_
      · obtain ⟨m0, m1⟩ := hV
        go_simp
      refine wpAnyH_take (i := 6) (v := (.pointer (some ⟨nb, 0, none⟩))) rfl (by kernel_rfl) (by kernel_rfl) (by kernel_rfl) (fun _ _ _ h => h) (Or.inl ⟨by kernel_rfl, fun V hV => ?_⟩) (HT.out _ HN3.out) ?_
      · obtain ⟨m0, m1⟩ := hV
        go_simp
      refine wpAnyH_take (i := 7) (v := (.pointer (some ⟨nb, 0, none⟩))) rfl (by kernel_rfl) (by kernel_rfl) (by kernel_rfl) (fun _ _ _ h => h) (Or.inl ⟨by kernel_rfl, fun V hV => ?_⟩) (HT.out _ HN3.out) ?_
      · obtain ⟨m0, m1⟩ := hV
        go_simp
      refine wpAnyH_take (i := 8) (v := (.pointer (some ⟨nb, 1, none⟩))) rfl (by kernel_rfl) (by kernel_rfl) (by kernel_rfl) (fun _ _ _ h => h) (Or.inl ⟨by kernel_rfl, fun V hV => ?_⟩) (HT.out _ HN3.out) ?_
      · obtain ⟨m0, m1⟩ := hV
        go_simp
      refine wpAnyH_take (i := 9) (v := (.int .i64 n)) rfl (by kernel_rfl) (by kernel_rfl) (by kernel_rfl) (fun _ _ _ h => h) (Or.inl ⟨by kernel_rfl, fun V hV => ?_⟩) (HT.out _ HN3.out) ?_
      · obtain ⟨m0, m1⟩ := hV
        go_simp
      refine wpAnyH_take (i := 10) (v := (.bool true)) rfl (by kernel_rfl) (by kernel_rfl) (by kernel_rfl) (fun _ _ _ h => h) (Or.inl ⟨by kernel_rfl, fun V hV => ?_⟩) (HT.out _ HN3.out) ?_
      · obtain ⟨m0, m1⟩ := hV
        go_simp
        all_goals first | done | omega | simp [hgt]
      go_simp
      refine wpAnyH_done (by kernel_rfl) ?_ _
      go_wp2_with fail
      have HT1 : Aside0 (∀ V : World, V.heap[nb]? = some (.cells #[.slice A1 U.length c1, .int .i64 n] 76 (0, 0)) → V.cell? ⟨nb, 1, none⟩ = some (.int .i64 n)) := ⟨fun V h => (blk_cell h 1).trans rfl⟩
      refine wp_region_held (S := fun V => V.cell? ⟨nb, 1, none⟩ = some (.int .i64 n)) (by kernel_rfl) ?_
      obtain ⟨V4, hV4⟩ : ∃ V4 : World, V4 = { V3 with drawn := V3.drawn + 1 } := ⟨_, rfl⟩
      have hB4 : Below V3.heap.size V3 V4 := by rw [hV4]; exact ⟨rfl, rfl, rfl, Nat.le_refl _, fun _ _ => rfl⟩
      rw [← hV4]
      have HN4 := Aside0.mk (blk_below HN3.out hB4)
      have HE4 := Aside0.mk (HE3.out.then_below hB4)
      have HS4 := Aside0.mk (HS3.out.below hB4)
      clear hV4 hB4 HN3 HE3 HS3 HT
      refine wpAnyH_take (i := 0) (v := (.pointer (some ⟨nb, 0, none⟩))) rfl (by kernel_rfl) (by kernel_rfl) (by kernel_rfl) (fun _ _ _ h => h) (Or.inl ⟨by kernel_rfl, fun V hV => ?_⟩) (HT1.out _ HN4.out) ?_
      · go_simp
      refine wpAnyH_take (i := 1) (v := (.pointer (some ⟨nb, 0, none⟩))) rfl (by kernel_rfl) (by kernel_rfl) (by kernel_rfl) (fun _ _ _ h => h) (Or.inl ⟨by kernel_rfl, fun V hV => ?_⟩) (HT1.out _ HN4.out) ?_
      · go_simp
      refine wpAnyH_take (i := 2) (v := (.pointer (some ⟨nb, 0, none⟩))) rfl (by kernel_rfl) (by kernel_rfl) (by kernel_rfl) (fun _ _ _ h => h) (Or.inl ⟨by kernel_rfl, fun V hV => ?_⟩) (HT1.out _ HN4.out) ?_
      · go_simp
      refine wpAnyH_take (i := 3) (v := (.pointer (some ⟨nb, 0, none⟩))) rfl (by kernel_rfl) (by kernel_rfl) (by kernel_rfl) (fun _ _ _ h => h) (Or.inl ⟨by kernel_rfl, fun V hV => ?_⟩) (HT1.out _ HN4.out) ?_
      · go_simp
      refine wpAnyH_take (i := 4) (v := (.pointer (some ⟨nb, 0, none⟩))) rfl (by kernel_rfl) (by kernel_rfl) (by kernel_rfl) (fun _ _ _ h => h) (Or.inl ⟨by kernel_rfl, fun V hV => ?_⟩) (HT1.out _ HN4.out) ?_
      · go_simp
      refine wpAnyH_take (i := 6) (v := (.pointer (some ⟨nb, 0, none⟩))) rfl (by kernel_rfl) (by kernel_rfl) (by kernel_rfl) (fun _ _ _ h => h) (Or.inl ⟨by kernel_rfl, fun V hV => ?_⟩) (HT1.out _ HN4.out) ?_
      · go_simp
      refine wpAnyH_take (i := 7) (v := (.pointer (some ⟨nb, 0, none⟩))) rfl (by kernel_rfl) (by kernel_rfl) (by kernel_rfl) (fun _ _ _ h => h) (Or.inl ⟨by kernel_rfl, fun V hV => ?_⟩) (HT1.out _ HN4.out) ?_
      · go_simp
      refine wpAnyH_take (i := 8) (v := (.pointer (some ⟨nb, 0, none⟩))) rfl (by kernel_rfl) (by kernel_rfl) (by kernel_rfl) (fun _ _ _ h => h) (Or.inl ⟨by kernel_rfl, fun V hV => ?_⟩) (HT1.out _ HN4.out) ?_
      · go_simp
      refine wpAnyH_take (i := 9) (v := (.pointer (some ⟨nb, 0, none⟩))) rfl (by kernel_rfl) (by kernel_rfl) (by kernel_rfl) (fun _ _ _ h => h) (Or.inl ⟨by kernel_rfl, fun V hV => ?_⟩) (HT1.out _ HN4.out) ?_
      · go_simp
      refine wpAnyH_take (i := 12) (v := (.pointer (some ⟨nb, 0, none⟩))) rfl (by kernel_rfl) (by kernel_rfl) (by kernel_rfl) (fun _ _ _ h => h) (Or.inl ⟨by kernel_rfl, fun V hV => ?_⟩) (HT1.out _ HN4.out) ?_
      · go_simp
      refine wpAnyH_take (i := 13) (v := (.pointer (some ⟨nb, 0, none⟩))) rfl (by kernel_rfl) (by kernel_rfl) (by kernel_rfl) (fun _ _ _ h => h) (Or.inl ⟨by kernel_rfl, fun V hV => ?_⟩) (HT1.out _ HN4.out) ?_
      · go_simp
      refine wpAnyH_take (i := 14) (v := (.pointer (some ⟨nb, 1, none⟩))) rfl (by kernel_rfl) (by kernel_rfl) (by kernel_rfl) (fun _ _ _ h => h) (Or.inl ⟨by kernel_rfl, fun V hV => ?_⟩) (HT1.out _ HN4.out) ?_
      · go_simp
      refine wpAnyH_take (i := 15) (v := (.int .i64 n)) rfl (by kernel_rfl) (by kernel_rfl) (by kernel_rfl) (fun _ _ _ h => h) (Or.inl ⟨by kernel_rfl, fun V hV => ?_⟩) (HT1.out _ HN4.out) ?_
      · go_simp
      go_simp
      obtain ⟨i0, hi0, hhe⟩ := Option.map_eq_some_iff.1 inf30
      simp only [Prod.mk.injEq] at hhe
      obtain ⟨_, hz1, _⟩ := hhe
      obtain ⟨A', c', ev', hlu, hat⟩ := HS4.out.reads
      obtain ⟨rfl, rfl⟩ : A1 = A' ∧ c1 = c' := by injection ev' with e1 _ e3; exact ⟨e1, e3⟩
      have hln : (lastn n U).length = U.length - (U.length - n.toNat) := by simp [lastn]
      have htn : ((U.length : Int) - n).toNat = U.length - n.toNat := by omega
      obtain ⟨A5, hA5⟩ : ∃ A5, A5 = (if c1 = U.length - n.toNat then A1 else A1.map (·.add ((U.length - n.toNat) * 3))) := ⟨_, rfl⟩
      obtain ⟨c5, hc5⟩ : ∃ c5, c5 = c1 - (U.length - n.toNat) := ⟨_, rfl⟩
      have HC5 : Aside0 (∀ W : World, (Instr.slice 22 (.slice A1 U.length c1) (some (.int .i64 (U.length - n))) none none).run Try.prog W = .ok (.slice A5 (lastn n U).length c5) W) := ⟨fun W => by rw [cut_from (P := Try.prog) 22 30 .i64 Try.underlying22 hi0 3 hz1 A1 U.length c1 (U.length - n) (by omega) (by omega) hlu W, htn, hA5, hc5, hln]⟩
      have HR5 : Aside0 ((k30at V4 base).C V4 A5 (lastn n U).length (lastn n U)) := ⟨by rw [hA5]; exact Kd.C_drop hat (by omega) hlu⟩
      have HL5 : Aside0 ((lastn n U).length ≤ c5) := ⟨by rw [hln, hc5]; omega⟩
      have HLN : Aside0 ((lastn n U).length ≤ U.length) := ⟨by rw [hln]; omega⟩
      have HA5 := Aside0.mk hA5
      have HCC5 := Aside0.mk hc5
      have HTN := Aside0.mk htn
      have HLL := Aside0.mk hln
      clear hat hA5 hc5 hln htn hlu hi0 hz1
      refine wpAnyH_all (rs := [5, 10]) (by kernel_rfl) (by simp) ?_
      intro i' hi'
      have hi2 : i' = 5 ∨ i' = 10 := by simpa using hi'
      rcases hi2 with rfl | rfl
      · refine wpOp_step rfl (fun K hK => ?_)
        have n0 : V4.cell? ⟨nb, 0, none⟩ = some (.slice A1 U.length c1) := (blk_cell HN4.out 0).trans rfl
        go_simp
        refine hK _ _ ⟨HT1.out _ HN4.out, ?_⟩
        clear hK n0
        go_simp
        refine wpAnyH_all (rs := [10]) (by kernel_rfl) (by simp) ?_
        intro i' hi'
        obtain rfl : i' = 10 := by simpa using hi'
        refine wpOp_step rfl (fun K hK => ?_)
        have n0 : V4.cell? ⟨nb, 0, none⟩ = some (.slice A1 U.length c1) := (blk_cell HN4.out 0).trans rfl
        go_simp
        refine hK _ _ ⟨HT1.out _ HN4.out, ?_⟩
        clear hK n0
        go_simp
        refine wpAnyH_take (i := 11) (v := (.int .i64 U.length)) rfl (by kernel_rfl) (by kernel_rfl) (by kernel_rfl) (fun _ _ _ h => h) (Or.inl ⟨by kernel_rfl, fun V hV => ?_⟩) (HT1.out _ HN4.out) ?_
        · go_simp
        refine wpAnyH_take (i := 16) (v := (.int .i64 (U.length - n))) rfl (by kernel_rfl) (by kernel_rfl) (by kernel_rfl) (fun _ _ _ h => h) (Or.inl ⟨by kernel_rfl, fun V hV => ?_⟩) (HT1.out _ HN4.out) ?_
        · go_simp
          exact C.wrapI _ (by omega) (by omega)
        refine wpAnyH_take (i := 17) (v := (.slice A5 (lastn n U).length c5)) rfl (by kernel_rfl) (by kernel_rfl) (by kernel_rfl) (fun _ _ _ h => h) (Or.inl ⟨by kernel_rfl, fun V hV => ?_⟩) (HT1.out _ HN4.out) ?_
        · go_simp
          rw [if_pos ⟨by omega, by omega⟩, HA5.out, HCC5.out, HTN.out, HLL.out]
        go_simp
        refine wpAnyH_all (rs := [18]) (by kernel_rfl) (by simp) ?_
        intro i' hi'
        obtain rfl : i' = 18 := by simpa using hi'
        refine wpOp_step rfl (fun K hK => ?_)
        go_simp
        refine (clone22_calls (lastn n U) A5 c5 base V4 HR5.out HL5.out (by have := HLN.out; omega) (Nat.le_trans hle HE4.out.kept.1)).mono ?_
        rintro e V5 ⟨v5, rfl, hs5, hb5⟩
        refine hK _ _ ⟨HT1.out _ (blk_below HN4.out hb5), ?_⟩
        obtain ⟨A6, c6, ev6, _, _⟩ := hs5.reads
        subst ev6
        have HS5 := Aside0.mk hs5
        have HN5 := Aside0.mk (blk_below HN4.out hb5)
        have HE5 := Aside0.mk (HE4.out.then_below hb5)
        have HZ5 := Aside0.mk hb5.size
        clear hK hs5 hb5
        go_simp
        refine wpAnyH_take (i := 19) (v := (.pointer (some ⟨nb, 0, none⟩))) rfl (by kernel_rfl) (by kernel_rfl) (by kernel_rfl) (fun _ _ _ h => h) (Or.inl ⟨by kernel_rfl, fun V hV => ?_⟩) (HT1.out _ HN5.out) ?_
        · go_simp
        refine wpAnyH_take (i := 20) (v := (.pointer (some ⟨nb, 0, none⟩))) rfl (by kernel_rfl) (by kernel_rfl) (by kernel_rfl) (fun _ _ _ h => h) (Or.inl ⟨by kernel_rfl, fun V hV => ?_⟩) (HT1.out _ HN5.out) ?_
        · go_simp
        refine wpAnyH_take (i := 21) (v := (.pointer (some ⟨nb, 0, none⟩))) rfl (by kernel_rfl) (by kernel_rfl) (by kernel_rfl) (fun _ _ _ h => h) (Or.inl ⟨by kernel_rfl, fun V hV => ?_⟩) (HT1.out _ HN5.out) ?_
        · go_simp
        go_simp
        refine wpAnyH_all (rs := [22]) (by kernel_rfl) (by simp) ?_
        intro i' hi'
        obtain rfl : i' = 22 := by simpa using hi'
        refine wpOp_step rfl (fun K hK => ?_)
        have n0 : V5.cell? ⟨nb, 0, none⟩ = some (.slice A1 U.length c1) := (blk_cell HN5.out 0).trans rfl
        have n1 : V5.frozen? ⟨nb, 0, none⟩ = false := blk_frozen HN5.out 0
        go_simp
        have hn6 : (V5.setCell ⟨nb, 0, none⟩ (.slice A6 (lastn n U).length c6)).heap[nb]? = some (.cells #[.slice A6 (lastn n U).length c6, .int .i64 n] 76 (0, 0)) := blk_put HN5.out 0 _ rfl
        refine hK _ _ ⟨(blk_cell hn6 1).trans rfl, ?_⟩
        clear hK n0 n1
        refine wpAnyH_done (by kernel_rfl) ?_ _
        go_wp2_with fail
        go_end0
        refine ⟨⟨_, rfl⟩, .slice A6 (lastn n U).length c6, hn6, ?_, HE5.out.set HN5.out (by decide) (.inl (.inl rfl)) _⟩
        rw [← HU.out]
        have hz4 : w.heap.size ≤ V4.heap.size := HE4.out.kept.1
        exact (HS5.out.mono (ok' := fun k => w.heap.size ≤ k) (fun k _ hk => Nat.le_trans hz4 hk)).eff ((Eff.refl V5 (fun k => k = nb)).set HN5.out (by decide) (.inl rfl) _) (fun k hk e => by omega) |>.mono (fun k _ hk => .inr hk)
      · refine wpOp_step rfl (fun K hK => ?_)
        have n0 : V4.cell? ⟨nb, 0, none⟩ = some (.slice A1 U.length c1) := (blk_cell HN4.out 0).trans rfl
        go_simp
        refine hK _ _ ⟨HT1.out _ HN4.out, ?_⟩
        clear hK n0
        go_simp
        refine wpAnyH_take (i := 11) (v := (.int .i64 U.length)) rfl (by kernel_rfl) (by kernel_rfl) (by kernel_rfl) (fun _ _ _ h => h) (Or.inl ⟨by kernel_rfl, fun V hV => ?_⟩) (HT1.out _ HN4.out) ?_
        · go_simp
        refine wpAnyH_take (i := 16) (v := (.int .i64 (U.length - n))) rfl (by kernel_rfl) (by kernel_rfl) (by kernel_rfl) (fun _ _ _ h => h) (Or.inl ⟨by kernel_rfl, fun V hV => ?_⟩) (HT1.out _ HN4.out) ?_
        · go_simp
          exact C.wrapI _ (by omega) (by omega)
        go_simp
        refine wpAnyH_all (rs := [5]) (by kernel_rfl) (by simp) ?_
        intro i' hi'
        obtain rfl : i' = 5 := by simpa using hi'
        refine wpOp_step rfl (fun K hK => ?_)
        have n0 : V4.cell? ⟨nb, 0, none⟩ = some (.slice A1 U.length c1) := (blk_cell HN4.out 0).trans rfl
        go_simp
        refine hK _ _ ⟨HT1.out _ HN4.out, ?_⟩
        clear hK n0
        go_simp
        refine wpAnyH_take (i := 17) (v := (.slice A5 (lastn n U).length c5)) rfl (by kernel_rfl) (by kernel_rfl) (by kernel_rfl) (fun _ _ _ h => h) (Or.inl ⟨by kernel_rfl, fun V hV => ?_⟩) (HT1.out _ HN4.out) ?_
        · go_simp
          rw [if_pos ⟨by omega, by omega⟩, HA5.out, HCC5.out, HTN.out, HLL.out]
        go_simp
        refine wpAnyH_all (rs := [18]) (by kernel_rfl) (by simp) ?_
        intro i' hi'
        obtain rfl : i' = 18 := by simpa using hi'
        refine wpOp_step rfl (fun K hK => ?_)
        go_simp
        refine (clone22_calls (lastn n U) A5 c5 base V4 HR5.out HL5.out (by have := HLN.out; omega) (Nat.le_trans hle HE4.out.kept.1)).mono ?_
        rintro e V5 ⟨v5, rfl, hs5, hb5⟩
        refine hK _ _ ⟨HT1.out _ (blk_below HN4.out hb5), ?_⟩
        obtain ⟨A6, c6, ev6, _, _⟩ := hs5.reads
        subst ev6
        have HS5 := Aside0.mk hs5
        have HN5 := Aside0.mk (blk_below HN4.out hb5)
        have HE5 := Aside0.mk (HE4.out.then_below hb5)
        have HZ5 := Aside0.mk hb5.size
        clear hK hs5 hb5
        go_simp
        refine wpAnyH_take (i := 19) (v := (.pointer (some ⟨nb, 0, none⟩))) rfl (by kernel_rfl) (by kernel_rfl) (by kernel_rfl) (fun _ _ _ h => h) (Or.inl ⟨by kernel_rfl, fun V hV => ?_⟩) (HT1.out _ HN5.out) ?_
        · go_simp
        refine wpAnyH_take (i := 20) (v := (.pointer (some ⟨nb, 0, none⟩))) rfl (by kernel_rfl) (by kernel_rfl) (by kernel_rfl) (fun _ _ _ h => h) (Or.inl ⟨by kernel_rfl, fun V hV => ?_⟩) (HT1.out _ HN5.out) ?_
        · go_simp
        refine wpAnyH_take (i := 21) (v := (.pointer (some ⟨nb, 0, none⟩))) rfl (by kernel_rfl) (by kernel_rfl) (by kernel_rfl) (fun _ _ _ h => h) (Or.inl ⟨by kernel_rfl, fun V hV => ?_⟩) (HT1.out _ HN5.out) ?_
        · go_simp
        go_simp
        refine wpAnyH_all (rs := [22]) (by kernel_rfl) (by simp) ?_
        intro i' hi'
        obtain rfl : i' = 22 := by simpa using hi'
        refine wpOp_step rfl (fun K hK => ?_)
        have n0 : V5.cell? ⟨nb, 0, none⟩ = some (.slice A1 U.length c1) := (blk_cell HN5.out 0).trans rfl
        have n1 : V5.frozen? ⟨nb, 0, none⟩ = false := blk_frozen HN5.out 0
        go_simp
        have hn6 : (V5.setCell ⟨nb, 0, none⟩ (.slice A6 (lastn n U).length c6)).heap[nb]? = some (.cells #[.slice A6 (lastn n U).length c6, .int .i64 n] 76 (0, 0)) := blk_put HN5.out 0 _ rfl
        refine hK _ _ ⟨(blk_cell hn6 1).trans rfl, ?_⟩
        clear hK n0 n1
        refine wpAnyH_done (by kernel_rfl) ?_ _
        go_wp2_with fail
        go_end0
        refine ⟨⟨_, rfl⟩, .slice A6 (lastn n U).length c6, hn6, ?_, HE5.out.set HN5.out (by decide) (.inl (.inl rfl)) _⟩
        rw [← HU.out]
        have hz4 : w.heap.size ≤ V4.heap.size := HE4.out.kept.1
        exact (HS5.out.mono (ok' := fun k => w.heap.size ≤ k) (fun k _ hk => Nat.le_trans hz4 hk)).eff ((Eff.refl V5 (fun k => k = nb)).set HN5.out (by decide) (.inl rfl) _) (fun k hk e => by omega) |>.mono (fun k _ hk => .inr hk)
    · refine wpAnyH_take (i := 0) (v := (.pointer (some ⟨nb, 0, none⟩))) rfl (by kernel_rfl) (by kernel_rfl) (by kernel_rfl) (fun _ _ _ h => h) (Or.inl ⟨by kernel_rfl, fun V hV => ?_⟩) (HT.out _ HN3.out) ?_
      · obtain ⟨m0, m1⟩ := hV
        go_simp
      refine wpAnyH_take (i := 1) (v := (.pointer (some ⟨nb, 0, none⟩))) rfl (by kernel_rfl) (by kernel_rfl) (by kernel_rfl) (fun _ _ _ h => h) (Or.inl ⟨by kernel_rfl, fun V hV => ?_⟩) (HT.out _ HN3.out) ?_
      · obtain ⟨m0, m1⟩ := hV
        go_simp
      refine wpAnyH_take (i := 2) (v := (.pointer (some ⟨nb, 0, none⟩))) rfl (by kernel_rfl) (by kernel_rfl) (by kernel_rfl) (fun _ _ _ h => h) (Or.inl ⟨by kernel_rfl, fun V hV => ?_⟩) (HT.out _ HN3.out) ?_
      · obtain ⟨m0, m1⟩ := hV
        go_simp
      refine wpAnyH_take (i := 3) (v := (.pointer (some ⟨nb, 0, none⟩))) rfl (by kernel_rfl) (by kernel_rfl) (by kernel_rfl) (fun _ _ _ h => h) (Or.inl ⟨by kernel_rfl, fun V hV => ?_⟩) (HT.out _ HN3.out) ?_
      · obtain ⟨m0, m1⟩ := hV
        go_simp
      refine wpAnyH_take (i := 4) (v := (.slice A1 U.length c1)) rfl (by kernel_rfl) (by kernel_rfl) (by kernel_rfl) (fun _ _ _ h => h) (Or.inl ⟨by kernel_rfl, fun V hV => ?_⟩) (HT.out _ HN3.out) ?_
      · obtain ⟨m0, m1⟩ := hV
        go_simp
      refine wpAnyH_take (i := 5) (v := (.int .i64 U.length)) rfl (by kernel_rfl) (by kernel_rfl) (by kernel_rfl) (fun _ _ _ h => h) (Or.inl ⟨by kernel_rfl, fun V hV => ?_⟩) (HT.out _ HN3.out) ?_
      · obtain ⟨m0, m1⟩ := hV
        go_simp
      refine wpAnyH_take (i := 6) (v := (.pointer (some ⟨nb, 0, none⟩))) rfl (by kernel_rfl) (by kernel_rfl) (by kernel_rfl) (fun _ _ _ h => h) (Or.inl ⟨by kernel_rfl, fun V hV => ?_⟩) (HT.out _ HN3.out) ?_
      · obtain ⟨m0, m1⟩ := hV
        go_simp
      refine wpAnyH_take (i := 7) (v := (.pointer (some ⟨nb, 0, none⟩))) rfl (by kernel_rfl) (by kernel_rfl) (by kernel_rfl) (fun _ _ _ h => h) (Or.inl ⟨by kernel_rfl, fun V hV => ?_⟩) (HT.out _ HN3.out) ?_
      · obtain ⟨m0, m1⟩ := hV
        go_simp
      refine wpAnyH_take (i := 8) (v := (.pointer (some ⟨nb, 1, none⟩))) rfl (by kernel_rfl) (by kernel_rfl) (by kernel_rfl) (fun _ _ _ h => h) (Or.inl ⟨by kernel_rfl, fun V hV => ?_⟩) (HT.out _ HN3.out) ?_
      · obtain ⟨m0, m1⟩ := hV
        go_simp
      refine wpAnyH_take (i := 9) (v := (.int .i64 n)) rfl (by kernel_rfl) (by kernel_rfl) (by kernel_rfl) (fun _ _ _ h => h) (Or.inl ⟨by kernel_rfl, fun V hV => ?_⟩) (HT.out _ HN3.out) ?_
      · obtain ⟨m0, m1⟩ := hV
        go_simp
      refine wpAnyH_take (i := 10) (v := (.bool false)) rfl (by kernel_rfl) (by kernel_rfl) (by kernel_rfl) (fun _ _ _ h => h) (Or.inl ⟨by kernel_rfl, fun V hV => ?_⟩) (HT.out _ HN3.out) ?_
      · obtain ⟨m0, m1⟩ := hV
        go_simp
        all_goals first | done | omega | simp [hgt]
      go_simp
      refine wpAnyH_done (by kernel_rfl) ?_ _
      go_wp2_with fail
      go_end0
      refine ⟨⟨_, rfl⟩, .slice A1 U.length c1, HN3.out, ?_, HE3.out⟩
      rw [← HU.out]
      have : lastn n U = U := by unfold lastn; rw [show U.length - n.toNat = 0 by omega]; rfl
      rw [this]
      exact HS3.out
end Go.Proofs.Ytdbhlfnpaloomaa.J
