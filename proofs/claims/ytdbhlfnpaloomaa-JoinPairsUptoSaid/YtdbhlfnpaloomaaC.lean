/- The reference's Pairs. -/
import Derived.Test.YtdbhlfnpaloomaaB
namespace Go.Proofs.Ytdbhlfnpaloomaa.C
open Go.RowKit Go.Proofs.YtdbhlfnpaloomaaW.PrintWords Go.Proofs.YtdbhlfnpaloomaaW.PrintLast Go.Proofs.YtdbhlfnpaloomaaW.PrintMore
open Go.Proofs.Ytdbhlfnpaloomaa.PSame Go.Proofs.Ytdbhlfnpaloomaa.A Go.Proofs.Ytdbhlfnpaloomaa.B
attribute [local go_sem] max2_int min2_int max_two min_two
set_option linter.unusedVariables false
set_option linter.unusedSimpArgs false

theorem wrapI (n : Int) (h1 : -9223372036854775808 ≤ n) (h2 : n ≤ 9223372036854775807) : IntKind.i64.wrap n = n := by
  simp [IntKind.wrap, IntKind.bits, IntKind.signed]; omega
theorem pairs_len (l r : List S30) : (pairs l r).length = l.length * r.length := by
  induction l with
  | nil => simp [pairs]
  | cons a l ih => simp only [pairs, List.flatMap_cons, List.length_append, List.length_map, List.length_cons] at ih ⊢; rw [ih, Nat.add_mul, Nat.one_mul, Nat.add_comm]

set_option maxHeartbeats 8000000 in
set_option maxRecDepth 100000 in
theorem refPairs_calls (l r : List S30) (A B : Option Addr) (c d : Nat) (w : World) (hl : Kd.C k30 w A l.length l) (hc : l.length ≤ c) (hr : Kd.C k30 w B r.length r) (hd : r.length ≤ d) (fl : Fine l) (fr : Fine r) :
    Calls Try.prog 7 #[.slice A l.length c, .slice B r.length d] w fun e w' => ∃ v, e = .returned v ∧ Kd.R k30 30 w' w.heap.size (fun _ => True) v (pairs l r) ∧ Below w.heap.size w w' := by
  have HL := Aside0.mk hl
  have HR := Aside0.mk hr
  have hlm : l.length ≤ 1000 := fl.1
  have hrm : r.length ≤ 1000 := fr.1
  clear hl hr
  go_enter Try.func7, Try.ntmps7
  go_wp2_with fail
  go_loopw [6, 5] (fun t6 t5 wr => ∃ i : Nat, i ≤ l.length ∧ t6 = .int .i64 i ∧ Aside0 (Kd.R k30 30 wr w.heap.size (fun _ => True) t5 (pairs (l.take i) r)) ∧ Aside0 (Below w.heap.size w wr)) (fun t6 _ _ => l.length - (intOf t6).toNat)
  case atStart => exact ⟨0, Nat.zero_le _, rfl, ⟨Kd.R_nil _ _ _ _ _⟩, ⟨Below.refl _ _⟩⟩
  case round =>
    obtain ⟨i, hi, rfl, hR, hB⟩ := hrel
    by_cases hlt : i < l.length
    · obtain ⟨x, ad, A2, c2, hxi, rfl, g0, g1, g2, hl2, hC2⟩ := at30 HL.out i hlt
      have HC2 := Aside0.mk hC2
      have HG := Aside0.mk (And.intro g0 (And.intro g1 g2))
      have hxm : x = l[i] := by rw [← hxi.out]; simp [List.getD_eq_getElem?_getD, List.getElem?_eq_getElem hlt]
      have HXM := Aside0.mk hxm
      have fx := fl.2 x (by rw [hxm]; exact List.getElem_mem hlt)
      clear hC2 hxi hxm g0 g1 g2
      go_wp2_with fail
      go_loopw [7, 5] (fun t7 t5 wq => ∃ k : Nat, k ≤ r.length ∧ t7 = .int .i64 k ∧ Aside0 (Kd.R k30 30 wq w.heap.size (fun _ => True) t5 (pairs (l.take i) r ++ (r.take k).map (pairOf x))) ∧ Aside0 (Below w.heap.size w wq)) (fun t7 _ _ => r.length - (intOf t7).toNat)
      case atStart => exact ⟨0, Nat.zero_le _, rfl, ⟨by simpa using hR.out⟩, hB⟩
      case round =>
        obtain ⟨k, hk, rfl, hRk, hBk⟩ := hrel
        by_cases hkl : k < r.length
        · obtain ⟨P, hP⟩ : ∃ P, P = pairs (l.take i) r ++ (r.take k).map (pairOf x) := ⟨_, rfl⟩
          have hpl : P.length ≤ 1001000 := by
            rw [hP, List.length_append, List.length_map, pairs_len, List.length_take, List.length_take]
            have h2 : min i l.length * r.length ≤ 1000 * 1000 := Nat.mul_le_mul (by omega) hrm
            omega
          rw [← hP] at hRk
          have HP := Aside0.mk hP
          clear hP
          obtain ⟨Ao, co, e5⟩ := Kd.R_slice hRk.out
          subst e5
          obtain ⟨y, bd, A3, c3, hyk, rfl, m0, m1, m2, hl3, hC3⟩ := at30 HR.out k hkl
          have HC3 := Aside0.mk hC3
          have HM := Aside0.mk (And.intro m0 (And.intro m1 m2))
          have hym : y = r[k] := by rw [← hyk.out]; simp [List.getD_eq_getElem?_getD, List.getElem?_eq_getElem hkl]
          have HYM := Aside0.mk hym
          have fy := fr.2 y (by rw [hym]; exact List.getElem_mem hkl)
          clear hC3 hyk hym m0 m1 m2
          go_wp2_with fail
          have HS : ∀ V, Below w.heap.size w V → ((V.cell? (ad.add (i * 3)) = some (.int .i64 x.f0) ∧ V.cell? ⟨(ad.add (i * 3)).block, (ad.add (i * 3)).off + 1, none⟩ = some (.int .i64 x.f1) ∧ V.cell? ⟨(ad.add (i * 3)).block, (ad.add (i * 3)).off + 2, none⟩ = some (.slice A2 x.f2.length c2)) ∧ V.cell? (bd.add (k * 3)) = some (.int .i64 y.f0) ∧ V.cell? ⟨(bd.add (k * 3)).block, (bd.add (k * 3)).off + 1, none⟩ = some (.int .i64 y.f1) ∧ V.cell? ⟨(bd.add (k * 3)).block, (bd.add (k * 3)).off + 2, none⟩ = some (.slice A3 y.f2.length c3)) := fun V hV => ⟨⟨pw_cell_below hV HG.out.1, pw_cell_below hV HG.out.2.1, pw_cell_below hV HG.out.2.2⟩, pw_cell_below hV HM.out.1, pw_cell_below hV HM.out.2.1, pw_cell_below hV HM.out.2.2⟩
          refine wp_region_held (S := fun V => (V.cell? (ad.add (i * 3)) = some (.int .i64 x.f0) ∧ V.cell? ⟨(ad.add (i * 3)).block, (ad.add (i * 3)).off + 1, none⟩ = some (.int .i64 x.f1) ∧ V.cell? ⟨(ad.add (i * 3)).block, (ad.add (i * 3)).off + 2, none⟩ = some (.slice A2 x.f2.length c2)) ∧ V.cell? (bd.add (k * 3)) = some (.int .i64 y.f0) ∧ V.cell? ⟨(bd.add (k * 3)).block, (bd.add (k * 3)).off + 1, none⟩ = some (.int .i64 y.f1) ∧ V.cell? ⟨(bd.add (k * 3)).block, (bd.add (k * 3)).off + 2, none⟩ = some (.slice A3 y.f2.length c3)) (by kernel_rfl) ?_
          obtain ⟨V0, hV0⟩ : ∃ V0 : World, V0 = { wr with drawn := wr.drawn + 1 } := ⟨_, rfl⟩
          have hB0 : Below w.heap.size w V0 := by rw [hV0]; exact ⟨hBk.out.os, hBk.out.tape, hBk.out.output, hBk.out.size, hBk.out.block⟩
          have hR0 : Kd.R k30 30 V0 w.heap.size (fun _ => True) (.slice Ao P.length co) P := by rw [hV0]; exact Kd.R_below hRk.out ⟨rfl, rfl, rfl, Nat.le_refl _, fun _ _ => rfl⟩
          rw [← hV0]
          have HSS := Aside0.mk HS
          have HB0 := Aside0.mk hB0
          have HR0 := Aside0.mk hR0
          clear hV0 HS hB0 hR0
          refine wpAnyH_take (i := 0) (v := (.slice Ao P.length co)) rfl (by kernel_rfl) (by kernel_rfl) (by kernel_rfl) (fun _ _ _ h => h) (Or.inl ⟨rfl, fun V hV => ?_⟩) (HSS.out _ HB0.out) ?_
          · obtain ⟨⟨g0, g1, g2⟩, m0, m1, m2⟩ := hV
            go_simp
          refine wpAnyH_take (i := 1) (v := (.slice (some ad) l.length c)) rfl (by kernel_rfl) (by kernel_rfl) (by kernel_rfl) (fun _ _ _ h => h) (Or.inl ⟨rfl, fun V hV => ?_⟩) (HSS.out _ HB0.out) ?_
          · obtain ⟨⟨g0, g1, g2⟩, m0, m1, m2⟩ := hV
            go_simp
          refine wpAnyH_take (i := 2) (v := (.int .i64 i)) rfl (by kernel_rfl) (by kernel_rfl) (by kernel_rfl) (fun _ _ _ h => h) (Or.inl ⟨rfl, fun V hV => ?_⟩) (HSS.out _ HB0.out) ?_
          · obtain ⟨⟨g0, g1, g2⟩, m0, m1, m2⟩ := hV
            go_simp
          refine wpAnyH_take (i := 3) (v := (.pointer (some (ad.add (i * 3))))) rfl (by kernel_rfl) (by kernel_rfl) (by kernel_rfl) (fun _ _ _ h => h) (Or.inl ⟨rfl, fun V hV => ?_⟩) (HSS.out _ HB0.out) ?_
          · obtain ⟨⟨g0, g1, g2⟩, m0, m1, m2⟩ := hV
            go_simp
          refine wpAnyH_take (i := 4) (v := (.pointer (some (ad.add (i * 3))))) rfl (by kernel_rfl) (by kernel_rfl) (by kernel_rfl) (fun _ _ _ h => h) (Or.inl ⟨rfl, fun V hV => ?_⟩) (HSS.out _ HB0.out) ?_
          · obtain ⟨⟨g0, g1, g2⟩, m0, m1, m2⟩ := hV
            go_simp
          refine wpAnyH_take (i := 5) (v := (.int .i64 x.f0)) rfl (by kernel_rfl) (by kernel_rfl) (by kernel_rfl) (fun _ _ _ h => h) (Or.inl ⟨rfl, fun V hV => ?_⟩) (HSS.out _ HB0.out) ?_
          · obtain ⟨⟨g0, g1, g2⟩, m0, m1, m2⟩ := hV
            go_simp
          refine wpAnyH_take (i := 6) (v := (.int .i64 (x.f0 * 2147483648))) rfl (by kernel_rfl) (by kernel_rfl) (by kernel_rfl) (fun _ _ _ h => h) (Or.inl ⟨rfl, fun V hV => ?_⟩) (HSS.out _ HB0.out) ?_
          · obtain ⟨⟨g0, g1, g2⟩, m0, m1, m2⟩ := hV
            go_simp
            exact wrapI _ (by omega) (by omega)
          refine wpAnyH_take (i := 7) (v := (.slice (some bd) r.length d)) rfl (by kernel_rfl) (by kernel_rfl) (by kernel_rfl) (fun _ _ _ h => h) (Or.inl ⟨rfl, fun V hV => ?_⟩) (HSS.out _ HB0.out) ?_
          · obtain ⟨⟨g0, g1, g2⟩, m0, m1, m2⟩ := hV
            go_simp
          refine wpAnyH_take (i := 8) (v := (.int .i64 k)) rfl (by kernel_rfl) (by kernel_rfl) (by kernel_rfl) (fun _ _ _ h => h) (Or.inl ⟨rfl, fun V hV => ?_⟩) (HSS.out _ HB0.out) ?_
          · obtain ⟨⟨g0, g1, g2⟩, m0, m1, m2⟩ := hV
            go_simp
          refine wpAnyH_take (i := 9) (v := (.pointer (some (bd.add (k * 3))))) rfl (by kernel_rfl) (by kernel_rfl) (by kernel_rfl) (fun _ _ _ h => h) (Or.inl ⟨rfl, fun V hV => ?_⟩) (HSS.out _ HB0.out) ?_
          · obtain ⟨⟨g0, g1, g2⟩, m0, m1, m2⟩ := hV
            go_simp
          refine wpAnyH_take (i := 10) (v := (.pointer (some (bd.add (k * 3))))) rfl (by kernel_rfl) (by kernel_rfl) (by kernel_rfl) (fun _ _ _ h => h) (Or.inl ⟨rfl, fun V hV => ?_⟩) (HSS.out _ HB0.out) ?_
          · obtain ⟨⟨g0, g1, g2⟩, m0, m1, m2⟩ := hV
            go_simp
          refine wpAnyH_take (i := 11) (v := (.int .i64 y.f0)) rfl (by kernel_rfl) (by kernel_rfl) (by kernel_rfl) (fun _ _ _ h => h) (Or.inl ⟨rfl, fun V hV => ?_⟩) (HSS.out _ HB0.out) ?_
          · obtain ⟨⟨g0, g1, g2⟩, m0, m1, m2⟩ := hV
            go_simp
          refine wpAnyH_take (i := 12) (v := (.int .i64 (x.f0 * 2147483648 + y.f0))) rfl (by kernel_rfl) (by kernel_rfl) (by kernel_rfl) (fun _ _ _ h => h) (Or.inl ⟨rfl, fun V hV => ?_⟩) (HSS.out _ HB0.out) ?_
          · obtain ⟨⟨g0, g1, g2⟩, m0, m1, m2⟩ := hV
            go_simp
            exact wrapI _ (by omega) (by omega)
          refine wpAnyH_take (i := 13) (v := (.slice (some ad) l.length c)) rfl (by kernel_rfl) (by kernel_rfl) (by kernel_rfl) (fun _ _ _ h => h) (Or.inl ⟨rfl, fun V hV => ?_⟩) (HSS.out _ HB0.out) ?_
          · obtain ⟨⟨g0, g1, g2⟩, m0, m1, m2⟩ := hV
            go_simp
          refine wpAnyH_take (i := 14) (v := (.int .i64 i)) rfl (by kernel_rfl) (by kernel_rfl) (by kernel_rfl) (fun _ _ _ h => h) (Or.inl ⟨rfl, fun V hV => ?_⟩) (HSS.out _ HB0.out) ?_
          · obtain ⟨⟨g0, g1, g2⟩, m0, m1, m2⟩ := hV
            go_simp
          refine wpAnyH_take (i := 15) (v := (.pointer (some (ad.add (i * 3))))) rfl (by kernel_rfl) (by kernel_rfl) (by kernel_rfl) (fun _ _ _ h => h) (Or.inl ⟨rfl, fun V hV => ?_⟩) (HSS.out _ HB0.out) ?_
          · obtain ⟨⟨g0, g1, g2⟩, m0, m1, m2⟩ := hV
            go_simp
          refine wpAnyH_take (i := 16) (v := (.pointer (some ⟨(ad.add (i * 3)).block, (ad.add (i * 3)).off + 1, none⟩))) rfl (by kernel_rfl) (by kernel_rfl) (by kernel_rfl) (fun _ _ _ h => h) (Or.inl ⟨rfl, fun V hV => ?_⟩) (HSS.out _ HB0.out) ?_
          · obtain ⟨⟨g0, g1, g2⟩, m0, m1, m2⟩ := hV
            go_simp
          refine wpAnyH_take (i := 17) (v := (.int .i64 x.f1)) rfl (by kernel_rfl) (by kernel_rfl) (by kernel_rfl) (fun _ _ _ h => h) (Or.inl ⟨rfl, fun V hV => ?_⟩) (HSS.out _ HB0.out) ?_
          · obtain ⟨⟨g0, g1, g2⟩, m0, m1, m2⟩ := hV
            go_simp
          refine wpAnyH_take (i := 18) (v := (.slice (some bd) r.length d)) rfl (by kernel_rfl) (by kernel_rfl) (by kernel_rfl) (fun _ _ _ h => h) (Or.inl ⟨rfl, fun V hV => ?_⟩) (HSS.out _ HB0.out) ?_
          · obtain ⟨⟨g0, g1, g2⟩, m0, m1, m2⟩ := hV
            go_simp
          refine wpAnyH_take (i := 19) (v := (.int .i64 k)) rfl (by kernel_rfl) (by kernel_rfl) (by kernel_rfl) (fun _ _ _ h => h) (Or.inl ⟨rfl, fun V hV => ?_⟩) (HSS.out _ HB0.out) ?_
          · obtain ⟨⟨g0, g1, g2⟩, m0, m1, m2⟩ := hV
            go_simp
          refine wpAnyH_take (i := 20) (v := (.pointer (some (bd.add (k * 3))))) rfl (by kernel_rfl) (by kernel_rfl) (by kernel_rfl) (fun _ _ _ h => h) (Or.inl ⟨rfl, fun V hV => ?_⟩) (HSS.out _ HB0.out) ?_
          · obtain ⟨⟨g0, g1, g2⟩, m0, m1, m2⟩ := hV
            go_simp
          refine wpAnyH_take (i := 21) (v := (.pointer (some ⟨(bd.add (k * 3)).block, (bd.add (k * 3)).off + 1, none⟩))) rfl (by kernel_rfl) (by kernel_rfl) (by kernel_rfl) (fun _ _ _ h => h) (Or.inl ⟨rfl, fun V hV => ?_⟩) (HSS.out _ HB0.out) ?_
          · obtain ⟨⟨g0, g1, g2⟩, m0, m1, m2⟩ := hV
            go_simp
          refine wpAnyH_take (i := 22) (v := (.int .i64 y.f1)) rfl (by kernel_rfl) (by kernel_rfl) (by kernel_rfl) (fun _ _ _ h => h) (Or.inl ⟨rfl, fun V hV => ?_⟩) (HSS.out _ HB0.out) ?_
          · obtain ⟨⟨g0, g1, g2⟩, m0, m1, m2⟩ := hV
            go_simp
          refine wpAnyH_take (i := 23) (v := (.int .i64 (mx x.f1 y.f1))) rfl (by kernel_rfl) (by kernel_rfl) (by kernel_rfl) (fun _ _ _ h => h) (Or.inl ⟨rfl, fun V hV => ?_⟩) (HSS.out _ HB0.out) ?_
          · obtain ⟨⟨g0, g1, g2⟩, m0, m1, m2⟩ := hV
            go_simp
            rfl
          refine wpAnyH_take (i := 24) (v := (.slice (some ad) l.length c)) rfl (by kernel_rfl) (by kernel_rfl) (by kernel_rfl) (fun _ _ _ h => h) (Or.inl ⟨rfl, fun V hV => ?_⟩) (HSS.out _ HB0.out) ?_
          · obtain ⟨⟨g0, g1, g2⟩, m0, m1, m2⟩ := hV
            go_simp
          refine wpAnyH_take (i := 25) (v := (.int .i64 i)) rfl (by kernel_rfl) (by kernel_rfl) (by kernel_rfl) (fun _ _ _ h => h) (Or.inl ⟨rfl, fun V hV => ?_⟩) (HSS.out _ HB0.out) ?_
          · obtain ⟨⟨g0, g1, g2⟩, m0, m1, m2⟩ := hV
            go_simp
          refine wpAnyH_take (i := 26) (v := (.pointer (some (ad.add (i * 3))))) rfl (by kernel_rfl) (by kernel_rfl) (by kernel_rfl) (fun _ _ _ h => h) (Or.inl ⟨rfl, fun V hV => ?_⟩) (HSS.out _ HB0.out) ?_
          · obtain ⟨⟨g0, g1, g2⟩, m0, m1, m2⟩ := hV
            go_simp
          refine wpAnyH_take (i := 27) (v := (.pointer (some ⟨(ad.add (i * 3)).block, (ad.add (i * 3)).off + 2, none⟩))) rfl (by kernel_rfl) (by kernel_rfl) (by kernel_rfl) (fun _ _ _ h => h) (Or.inl ⟨rfl, fun V hV => ?_⟩) (HSS.out _ HB0.out) ?_
          · obtain ⟨⟨g0, g1, g2⟩, m0, m1, m2⟩ := hV
            go_simp
          refine wpAnyH_take (i := 28) (v := (.slice A2 x.f2.length c2)) rfl (by kernel_rfl) (by kernel_rfl) (by kernel_rfl) (fun _ _ _ h => h) (Or.inl ⟨rfl, fun V hV => ?_⟩) (HSS.out _ HB0.out) ?_
          · obtain ⟨⟨g0, g1, g2⟩, m0, m1, m2⟩ := hV
            go_simp
          refine wpAnyH_take (i := 30) (v := (.slice (some bd) r.length d)) rfl (by kernel_rfl) (by kernel_rfl) (by kernel_rfl) (fun _ _ _ h => h) (Or.inl ⟨rfl, fun V hV => ?_⟩) (HSS.out _ HB0.out) ?_
          · obtain ⟨⟨g0, g1, g2⟩, m0, m1, m2⟩ := hV
            go_simp
          refine wpAnyH_take (i := 31) (v := (.int .i64 k)) rfl (by kernel_rfl) (by kernel_rfl) (by kernel_rfl) (fun _ _ _ h => h) (Or.inl ⟨rfl, fun V hV => ?_⟩) (HSS.out _ HB0.out) ?_
          · obtain ⟨⟨g0, g1, g2⟩, m0, m1, m2⟩ := hV
            go_simp
          refine wpAnyH_take (i := 32) (v := (.pointer (some (bd.add (k * 3))))) rfl (by kernel_rfl) (by kernel_rfl) (by kernel_rfl) (fun _ _ _ h => h) (Or.inl ⟨rfl, fun V hV => ?_⟩) (HSS.out _ HB0.out) ?_
          · obtain ⟨⟨g0, g1, g2⟩, m0, m1, m2⟩ := hV
            go_simp
          refine wpAnyH_take (i := 33) (v := (.pointer (some ⟨(bd.add (k * 3)).block, (bd.add (k * 3)).off + 2, none⟩))) rfl (by kernel_rfl) (by kernel_rfl) (by kernel_rfl) (fun _ _ _ h => h) (Or.inl ⟨rfl, fun V hV => ?_⟩) (HSS.out _ HB0.out) ?_
          · obtain ⟨⟨g0, g1, g2⟩, m0, m1, m2⟩ := hV
            go_simp
          refine wpAnyH_take (i := 34) (v := (.slice A3 y.f2.length c3)) rfl (by kernel_rfl) (by kernel_rfl) (by kernel_rfl) (fun _ _ _ h => h) (Or.inl ⟨rfl, fun V hV => ?_⟩) (HSS.out _ HB0.out) ?_
          · obtain ⟨⟨g0, g1, g2⟩, m0, m1, m2⟩ := hV
            go_simp
          go_simp
          have HFR : Aside0 (∀ k', V0.heap.size ≤ k' → True ∧ some k' ≠ (Value.slice Ao P.length co).ownBlock) := ⟨fun k' hk' => ⟨trivial, fun e => by have := Kd.R_lt HR0.out k' e.symm; omega⟩⟩
          have HCX := Aside0.mk (Kd.C_below HC2.out HB0.out)
          refine wpAnyH_all (rs := [29]) (by kernel_rfl) (by simp) ?_
          intro i' hi'
          obtain rfl : i' = 29 := by simpa using hi'
          refine wpOp_step rfl (fun K hK => ?_)
          refine Kd.R_append_rows_step k46 (Rr := k46.K V0) (w0 := w) w.heap.size rfl (.const (.slice none 0 0)) (.tmp 48) 28 46 (.agg #[(.int .i64 0), (.int .i64 0), (.string ⟨#[]⟩)]) 32 rfl Try.underlying28 info46 rfl (by decide) (by omega) (.slice none 0 0) [] x.f2 A2 x.f2.length c2 (fun k' => True ∧ some k' ≠ (Value.slice Ao P.length co).ownBlock) (fun k' => True ∧ some k' ≠ (Value.slice Ao P.length co).ownBlock) rfl rfl (Kd.R_nil _ _ _ _ _) HCX.out (fun p q hp => by rw [k46_open hp]; exact k46_mkM _ _ _ p) (fun k' hk' => ⟨hk', by simp [Value.ownBlock]⟩) HFR.out HB0.out HB0.out.size (by simp; omega) ?_
          intro v1 V1 ho hb hg hat
          refine hK _ _ ⟨HSS.out _ hb, ?_⟩
          clear hK
          rw [List.nil_append] at ho
          obtain ⟨A6, c6, e6⟩ := Kd.R_slice ho
          subst e6
          have hbv : Below V0.heap.size V0 V1 := below_grown hg
          have HO1 := Aside0.mk ho
          have HB1 := Aside0.mk hb
          have hR1 : Kd.R k30 30 V1 w.heap.size (fun k' => True ∧ some k' ≠ (Value.slice A6 x.f2.length c6).ownBlock) (.slice Ao P.length co) P := Kd.R_below (Kd.R_mono (Kd.R_bound HR0.out) (fun k' hk' => ⟨trivial, fun e => by
            rcases hat with h | ⟨b, h, hle⟩
            · rw [h] at e; cases e
            · rw [h] at e; injection e with e; have := hk'.2.2.1; omega⟩)) hbv
          have HR1 := Aside0.mk hR1
          clear hR1
          have HCY := Aside0.mk (Kd.C_below HC3.out hb)
          have HFR1 : Aside0 (∀ k', V1.heap.size ≤ k' → True ∧ some k' ≠ (Value.slice Ao P.length co).ownBlock) := ⟨fun k' hk' => HFR.out k' (Nat.le_trans hbv.size hk')⟩
          clear ho hb hg hat hbv
          go_simp
          refine wpAnyH_all (rs := [35]) (by kernel_rfl) (by simp) ?_
          intro i' hi'
          obtain rfl : i' = 35 := by simpa using hi'
          refine wpOp_step rfl (fun K hK => ?_)
          refine Kd.R_append_rows_step k46 (Rr := k46.K V1) (w0 := w) w.heap.size rfl (.tmp 49) (.tmp 54) 28 46 (.agg #[(.int .i64 0), (.int .i64 0), (.string ⟨#[]⟩)]) 32 rfl Try.underlying28 info46 rfl (by decide) (by omega) (.slice A6 x.f2.length c6) x.f2 y.f2 A3 y.f2.length c3 (fun k' => True ∧ some k' ≠ (Value.slice Ao P.length co).ownBlock) (fun k' => (True ∧ some k' ≠ (Value.slice Ao P.length co).ownBlock) ∧ some k' ≠ (Value.slice A6 x.f2.length c6).ownBlock) rfl rfl HO1.out HCY.out (fun p q hp => by rw [k46_open hp]; exact k46_mkM _ _ _ p) (fun k' hk' => hk') HFR1.out HB1.out HB1.out.size (by omega) ?_
          intro v2 V2 ho hb hg hat
          refine hK _ _ ⟨HSS.out _ hb, ?_⟩
          clear hK
          obtain ⟨z, hz⟩ : ∃ z, z = x.f2 ++ y.f2 := ⟨_, rfl⟩
          rw [← hz] at ho
          have HZ := Aside0.mk hz
          clear hz
          obtain ⟨A7, c7, e7⟩ := Kd.R_slice ho
          subst e7
          have hR2 : Kd.R k30 30 V2 w.heap.size (fun _ => True) (.slice Ao P.length co) P := Kd.R_mono (Kd.R_step HR1.out (fun k' hk' hlt' => hg.block k' hlt' hk'.2)) (fun _ _ => trivial)
          have HO2 := Aside0.mk ho
          have HB2 := Aside0.mk hb
          have HR2 := Aside0.mk hR2
          clear ho hb hg hat hR2
          go_simp
          refine wpAnyH_take (i := 36) (v := .agg #[.int .i64 (x.f0 * 2147483648 + y.f0), .int .i64 (mx x.f1 y.f1), .slice A7 z.length c7]) rfl (by kernel_rfl) (by kernel_rfl) (by kernel_rfl) (fun _ _ _ h => h) (Or.inl ⟨rfl, fun V hV => ?_⟩) (HSS.out _ HB2.out) ?_
          · go_simp
          go_simp
          refine wpAnyH_all (rs := [37]) (by kernel_rfl) (by simp) ?_
          intro i' hi'
          obtain rfl : i' = 37 := by simpa using hi'
          refine wpOp_step rfl (fun K hK => ?_)
          go_simp
          refine hK _ _ ⟨HSS.out _ (HB2.out.alloc HB2.out.size _), ?_⟩
          clear hK
          refine wpAnyH_all (rs := [38]) (by kernel_rfl) (by simp) ?_
          intro i' hi'
          obtain rfl : i' = 38 := by simpa using hi'
          refine wpOp_step rfl (fun K hK => ?_)
          refine Kd.R_append_step k30 (w0 := w) w.heap.size rfl (.tmp 20) (.tmp 57) 22 30 (.agg #[(.int .i64 0), (.int .i64 0), (.slice none 0 0)]) 40 rfl Try.underlying22 inf30 rfl (by decide) (by omega) (.slice Ao P.length co) P ⟨x.f0 * 2147483648 + y.f0, mx x.f1 y.f1, z⟩ [.int .i64 (x.f0 * 2147483648 + y.f0), .int .i64 (mx x.f1 y.f1), .slice A7 z.length c7] (fun _ => True) (fun k' => True ∧ some k' ≠ (Value.slice Ao P.length co).ownBlock) rfl rfl (k30_mkM _ _ _ ⟨x.f0 * 2147483648 + y.f0, mx x.f1 y.f1, z⟩ HO2.out) (fun _ h => h) (fun _ _ => trivial) HR2.out HB2.out HB2.out.size (by omega) ?_
          intro v3 V3 ho hb hg hat
          refine hK _ _ ⟨HSS.out _ hb, ?_⟩
          clear hK
          have HO3 := Aside0.mk ho
          have HB3 := Aside0.mk hb
          clear ho hb hg hat
          refine wpAnyH_take (i := 39) (v := v3) rfl (by kernel_rfl) (by kernel_rfl) (by kernel_rfl) (fun _ _ _ h => h) (Or.inl ⟨rfl, fun V hV => ?_⟩) (HSS.out _ HB3.out) ?_
          · go_simp
          go_simp
          refine wpAnyH_done (by kernel_rfl) ?_ _
          go_wp2_with fail
          go_roundw
          case rel =>
            refine ⟨k + 1, hkl, rfl, ⟨?_⟩, HB3⟩
            have he : pairs (l.take i) r ++ (r.take (k + 1)).map (pairOf x) = P ++ [⟨x.f0 * 2147483648 + y.f0, mx x.f1 y.f1, z⟩] := by
              rw [List.take_succ_eq_append_getElem hkl, List.map_append, ← List.append_assoc, ← HP.out, List.map_cons, List.map_nil, ← HYM.out, HZ.out]
              simp [pairOf]
            rw [he]
            exact HO3.out
          case measure => simp [intOf]; omega
        · go_wp2_with fail
          have hk0 : k = r.length := by omega
          refine ⟨⟨i + 1, hlt, rfl, ⟨?_⟩, hBk⟩, by simp [intOf]; omega⟩
          have h := hRk.out
          rw [hk0, List.take_length] at h
          have he : pairs (l.take (i + 1)) r = pairs (l.take i) r ++ r.map (pairOf x) := by
            rw [List.take_succ_eq_append_getElem hlt, ← HXM.out]
            simp [pairs]
          rw [he]
          exact h
    · go_wp2_with fail
      go_ret
      have hi0 : i = l.length := by omega
      have := hR.out
      rw [hi0, List.take_length] at this
      exact ⟨_, rfl, this, hB.out⟩
end Go.Proofs.Ytdbhlfnpaloomaa.C
