/- TreeAggs: it answers true. -/
import Derived.Test.YtladneaaepcdbaaDoorX
import Derived.Test.YtladneaaepcdbaaDoorH
import Derived.Deep.RegionWith
import Derived.OrdersHeld
namespace Go.Proofs.YtladneaaepcdbaaDoor.Z
open Go.RowKit Go.Proofs.YtladneaaepcdbaaDoorW.PrintWords Go.Proofs.YtladneaaepcdbaaDoorW.PrintLast Go.Proofs.YtladneaaepcdbaaDoorW.PrintMore
open Go.Proofs.YtladneaaepcdbaaDoor.PTree Go.Proofs.YtladneaaepcdbaaDoor.B Go.Proofs.YtladneaaepcdbaaDoor.S
open Go.Proofs.YtladneaaepcdbaaDoor.Q (okT sameAll_refl)
open Go.Proofs.YtladneaaepcdbaaDoor.F (nodes refA refA_len refA_ok)
open Go.Proofs.YtladneaaepcdbaaDoor.H (Eff spoil_calls T_of_M cells_of_seg)
set_option linter.unusedVariables false
set_option linter.unusedSimpArgs false

theorem aggs_call (x : S24) (A : Option Addr) (c : Nat) (w : World) (hC : Kd.C k24 w A x.f4.length x.f4) (hc : x.f4.length ≤ c) (ok : okT x) (hN : nodes x ≤ 1048576) :
    Calls Tryd.prog 8 #[.agg #[.int .i64 x.f0, .string x.f1, .int .i64 x.f2, .int .i64 x.f3, .slice A x.f4.length c]] w fun e w' => ∃ B d, e = .returned (.slice B (refA x []).length d) ∧ (refA x []).length ≤ d ∧ Kd.R k24 24 w' w.heap.size (fun _ => True) (.slice B (refA x []).length d) (refA x []) ∧ Below w.heap.size w w' := by
  refine (E.aggs_calls x _ w (k24_mk w x hc hC) ok hN).mono ?_
  rintro e w' ⟨⟨v, rfl, hR⟩, hb⟩
  rw [G.aggsOf_refA x (by omega)] at hR
  obtain ⟨B, d, rfl, hl, _⟩ := Kd.R_reads hR
  exact ⟨B, d, rfl, hl, hR, hb⟩
theorem refAggs_call (x : S24) (A : Option Addr) (c : Nat) (w : World) (hC : Kd.C k24 w A x.f4.length x.f4) (hc : x.f4.length ≤ c) (ok : okT x) (hN : nodes x ≤ 1048576) :
    Calls Tryd.prog 10 #[.agg #[.int .i64 x.f0, .string x.f1, .int .i64 x.f2, .int .i64 x.f3, .slice A x.f4.length c]] w fun e w' => ∃ B d, e = .returned (.slice B (refA x []).length d) ∧ (refA x []).length ≤ d ∧ Kd.C k24 w' B (refA x []).length (refA x []) ∧ Below w.heap.size w w' := by
  refine (G.refAggs_calls x _ w (k24_mk w x hc hC) ok (by omega)).mono ?_
  rintro e w' ⟨v, rfl, hR, hb⟩
  obtain ⟨B, d, rfl, hl, h⟩ := Kd.R_reads hR
  exact ⟨B, d, rfl, hl, h, hb⟩
theorem sameAll_call (l : List S24) (A B : Option Addr) (c d : Nat) (w : World) (hA : Kd.C k24 w A l.length l) (hc : l.length ≤ c) (hB : Kd.C k24 w B l.length l) (hd : l.length ≤ d) (hl : l.length ≤ 2199023255552) (ok : ∀ y ∈ l, okT y) :
    Calls Tryd.prog 9 #[.slice A l.length c, .slice B l.length d] w fun e w' => e = .returned (.bool true) ∧ Below w.heap.size w w' := by
  obtain ⟨k, hk⟩ := sameAll_refl l hl ok
  exact marqueeref06_SameAll.calls k A c l B d l true w hA hc hB hd hk

set_option maxHeartbeats 16000000 in
set_option maxRecDepth 100000 in
theorem treeAggs_calls (x : S24) (A : Option Addr) (c : Nat) (w : World) (hx : Kd.C k24 w A x.f4.length x.f4) (hc : x.f4.length ≤ c) (ok : okT x) (hN : nodes x ≤ 1048576)
    (htab : Lib.TabIs Tryd.prog w "strings.asciiSpace" .u8 Lib.asciiSpaceTab) :
    Calls Tryd.prog 4 #[.agg #[.int .i64 x.f0, .string x.f1, .int .i64 x.f2, .int .i64 x.f3, .slice A x.f4.length c]] w fun e w' => e = .returned (.bool true) ∧ Below w.heap.size w w' := by
  have HX := Aside0.mk hx
  clear hx
  have hlen : (refA x []).length ≤ 1048576 := by have := refA_len _ x [] (Nat.le_refl _); simp at this; omega
  have hoks : ∀ y ∈ refA x [], okT y := refA_ok _ x [] (Nat.le_refl _) ok (by simp)
  obtain ⟨L, hL⟩ : ∃ L, L = refA x [] := ⟨_, rfl⟩
  have CA := fun w h => aggs_call x A c w h hc ok hN
  have CR := fun w h => refAggs_call x A c w h hc ok hN
  rw [← hL] at hlen hoks CA CR
  clear hL
  go_enter Tryd.func4, Tryd.ntmps4
  go_wp2_with fail
  obtain ⟨w1, hw1⟩ : ∃ w1 : World, w1 = w.alloc (.cells #[.int .i64 x.f0, .string x.f1, .int .i64 x.f2, .int .i64 x.f3, .slice A x.f4.length c] 24) := ⟨_, rfl⟩
  have hB1 : Below w.heap.size w w1 := by rw [hw1]; exact (Below.refl _ _).alloc (Nat.le_refl _) _
  have hbx1 : w1.heap[w.heap.size]? = some (.cells #[.int .i64 x.f0, .string x.f1, .int .i64 x.f2, .int .i64 x.f3, .slice A x.f4.length c] 24 (0, 0)) := by rw [hw1]; exact blk_new _ _
  rw [← hw1]
  have HB1 := Aside0.mk hB1
  have HBX := Aside0.mk hbx1
  have HX1 := Aside0.mk (Kd.C_below HX.out hB1)
  clear hw1 hB1 hbx1
  refine (CA w1 HX1.out).mono ?_
  rintro e w2 ⟨B, d, rfl, hd, hR, hb2⟩
  have HB2 := Aside0.mk hb2
  have HR := Aside0.mk hR
  have hx2 := blk_below HBX.out hb2
  have q0 : w2.cell? ⟨w.heap.size, 0, none⟩ = some (.int .i64 x.f0) := (blk_cell hx2 0).trans rfl
  have q1 : w2.cell? ⟨w.heap.size, 1, none⟩ = some (.string x.f1) := (blk_cell hx2 1).trans rfl
  have q2 : w2.cell? ⟨w.heap.size, 2, none⟩ = some (.int .i64 x.f2) := (blk_cell hx2 2).trans rfl
  have q3 : w2.cell? ⟨w.heap.size, 3, none⟩ = some (.int .i64 x.f3) := (blk_cell hx2 3).trans rfl
  have q4 : w2.cell? ⟨w.heap.size, 4, none⟩ = some (.slice A x.f4.length c) := (blk_cell hx2 4).trans rfl
  clear hb2 hR hx2
  go_wp2_with fail
  clear q0 q1 q2 q3 q4
  refine (CR w2 (Kd.C_below HX1.out HB2.out)).mono ?_
  rintro e w3 ⟨B', d', rfl, hd', hC', hb3⟩
  have HB3 := Aside0.mk hb3
  have HC' := Aside0.mk hC'
  clear hb3 hC'
  go_wp2_with fail
  refine (sameAll_call L B B' d d' w3 (Kd.C_below (Kd.R_reads' HR.out).2.2 HB3.out) hd HC'.out hd' (by omega) hoks).mono ?_
  rintro e w4 ⟨rfl, hb4⟩
  have HB4 := Aside0.mk (below_then HB3.out (HB3.out.size) hb4)
  clear hb4 HC' HB3
  go_wp2_with fail
  -- the row is a tree of trees
  obtain ⟨D, hD⟩ := T_of_M (base := w1.heap.size) (w := w2) ⟨0, ⟨#[]⟩, 0, 0, L⟩ (.mk _ (show L.length ≤ 2199023255552 by omega) (fun y hy => hoks y hy)) (fun _ => True) _ (k24_mkM w2 w1.heap.size (fun _ => True) ⟨0, ⟨#[]⟩, 0, 0, L⟩ HR.out)
  have HT := Aside0.mk ((Eff.of_below (base := w1.heap.size) HB4.out (Nat.le_refl _)).tree _ _ (hD (D + 1) (by omega)))
  have E0 := Aside0.mk (Eff.of_below (base := w1.heap.size) (N := w2.heap.size) (Below.refl w4.heap.size w4) HB4.out.size)
  clear hD
  go_loopw [4] (fun t4 wr => ∃ k : Nat, k ≤ L.length ∧ t4 = .int .i64 k ∧ Aside0 (Eff w1.heap.size w2.heap.size w4 wr)) (fun t4 _ => L.length - (intOf t4).toNat)
  case atStart => exact ⟨0, Nat.zero_le _, rfl, E0⟩
  case round =>
    obtain ⟨k, hk, rfl, hef⟩ := hrel
    by_cases hlt : k < L.length
    · obtain ⟨a', b', c', e', A', n', cp', hcs, hrow⟩ := hef.out.tree _ _ HT.out
      injection hcs with i0 hcs; injection hcs with i1 hcs; injection hcs with i2 hcs; injection hcs with i3 hcs; injection hcs with i4 hcs
      injection i4 with i4 i5 i6
      replace i5 : L.length = n' := i5
      subst i4 i5 i6
      clear hcs i0 i1 i2 i3
      obtain ⟨hm, g, cells, rfl, hgb, hgN, hh, hsz, hkids⟩ := hrow (by omega)
      have hkid := hkids k hlt
      obtain ⟨ka, kb, kc, ke, kA, kn, kcp, hkc⟩ : ∃ a b c e A n cp, ((cells.toList.drop (k * 5)).take 5) = [.int .i64 a, .string b, .int .i64 c, .int .i64 e, .slice A n cp] := by
        cases D with
        | zero => obtain ⟨a, b, c, e, A, cp, h⟩ := hkid; exact ⟨a, b, c, e, A, 0, cp, h⟩
        | succ D => obtain ⟨a, b, c, e, A, n, cp, h, _⟩ := hkid; exact ⟨a, b, c, e, A, n, cp, h⟩
      have hcell := cells_of_seg hh hkc
      have g0 : wr.cell? ⟨g, k * 5, none⟩ = some _ := hcell 0 _ rfl
      have g1 : wr.cell? ⟨g, k * 5 + 1, none⟩ = some _ := hcell 1 _ rfl
      have g2 : wr.cell? ⟨g, k * 5 + 2, none⟩ = some _ := hcell 2 _ rfl
      have g3 : wr.cell? ⟨g, k * 5 + 3, none⟩ = some _ := hcell 3 _ rfl
      have g4 : wr.cell? ⟨g, k * 5 + 4, none⟩ = some _ := hcell 4 _ rfl
      rw [hkc] at hkid
      have SP := Aside0.mk (spoil_calls w1.heap.size w2.heap.size HB2.out.size D _ wr hkid (Nat.le_trans HB4.out.size hef.out.size))
      clear hkid hkids hcell hkc hrow
      go_wp2_with fail
      refine SP.out.mono ?_
      rintro e5 W5 ⟨⟨v5, rfl⟩, he5⟩
      have HEF5 := Aside0.mk (hef.out.trans he5)
      clear he5
      go_wp2_with fail
      go_roundw
      case rel => exact ⟨k + 1, hlt, rfl, HEF5⟩
      case measure => simp [intOf]; omega
    · have hbr : Below w1.heap.size w1 wr := (below_then HB2.out HB2.out.size HB4.out).trans (hef.out.below (Nat.le_refl _) (Nat.le_trans HB2.out.size HB4.out.size))
      have HBR := Aside0.mk hbr
      clear hbr
      go_wp2_with fail
      have HS : ∀ V, Below w1.heap.size w1 V → (V.cell? ⟨w.heap.size, 0, none⟩ = some (.int .i64 x.f0) ∧ V.cell? ⟨w.heap.size, 1, none⟩ = some (.string x.f1) ∧ V.cell? ⟨w.heap.size, 2, none⟩ = some (.int .i64 x.f2) ∧ V.cell? ⟨w.heap.size, 3, none⟩ = some (.int .i64 x.f3) ∧ V.cell? ⟨w.heap.size, 4, none⟩ = some (.slice A x.f4.length c)) := by
        intro V hV
        have g0 := blk_below HBX.out hV
        exact ⟨(blk_cell g0 0).trans rfl, (blk_cell g0 1).trans rfl, (blk_cell g0 2).trans rfl, (blk_cell g0 3).trans rfl, (blk_cell g0 4).trans rfl⟩
      refine wp_region_held (S := fun V => V.cell? ⟨w.heap.size, 0, none⟩ = some (.int .i64 x.f0) ∧ V.cell? ⟨w.heap.size, 1, none⟩ = some (.string x.f1) ∧ V.cell? ⟨w.heap.size, 2, none⟩ = some (.int .i64 x.f2) ∧ V.cell? ⟨w.heap.size, 3, none⟩ = some (.int .i64 x.f3) ∧ V.cell? ⟨w.heap.size, 4, none⟩ = some (.slice A x.f4.length c)) (by kernel_rfl) ?_
      obtain ⟨V0, hV0⟩ : ∃ V0 : World, V0 = { wr with drawn := wr.drawn + 1 } := ⟨_, rfl⟩
      have hB0 : Below w1.heap.size w1 V0 := by rw [hV0]; exact ⟨HBR.out.os, HBR.out.tape, HBR.out.output, HBR.out.size, HBR.out.block⟩
      rw [← hV0]
      have HSS := Aside0.mk HS
      have HB0 := Aside0.mk hB0
      clear hV0 HS hB0
      refine wpAnyH_take (i := 0) (v := .agg #[.int .i64 x.f0, .string x.f1, .int .i64 x.f2, .int .i64 x.f3, .slice A x.f4.length c]) rfl (by kernel_rfl) (by kernel_rfl) (by kernel_rfl) (fun _ _ _ h => h) (Or.inl ⟨rfl, fun V hV => ?_⟩) (HSS.out _ HB0.out) ?_
      · obtain ⟨g0, g1, g2, g3, g4⟩ := hV
        go_simp
      refine wpAnyH_take (i := 2) (v := .agg #[.int .i64 x.f0, .string x.f1, .int .i64 x.f2, .int .i64 x.f3, .slice A x.f4.length c]) rfl (by kernel_rfl) (by kernel_rfl) (by kernel_rfl) (fun _ _ _ h => h) (Or.inl ⟨rfl, fun V hV => ?_⟩) (HSS.out _ HB0.out) ?_
      · obtain ⟨g0, g1, g2, g3, g4⟩ := hV
        go_simp
      go_simp
      refine wpAnyH_all (rs := [1]) (by kernel_rfl) (by simp) ?_
      intro i hi
      obtain rfl : i = 1 := by simpa using hi
      refine wpOp_step rfl (fun K hK => ?_)
      go_simp
      refine (CA V0 (Kd.C_below HX1.out HB0.out)).mono ?_
      rintro e U1 ⟨B1, d1, rfl, hd1, hR1, hb⟩
      have HU1 := Aside0.mk (below_then HB0.out HB0.out.size hb)
      have HR1 := Aside0.mk hR1
      clear hR1
      clear hb
      refine hK _ _ ⟨HSS.out _ HU1.out, ?_⟩
      clear hK
      go_simp
      refine wpAnyH_all (rs := [3]) (by kernel_rfl) (by simp) ?_
      intro i hi
      obtain rfl : i = 3 := by simpa using hi
      refine wpOp_step rfl (fun K hK => ?_)
      go_simp
      refine (CR U1 (Kd.C_below HX1.out HU1.out)).mono ?_
      rintro e U3 ⟨B3, d3, rfl, hd3, hC3, hb⟩
      have HU3 := Aside0.mk (below_then HU1.out HU1.out.size hb)
      have HC3 := Aside0.mk hC3
      have HC1 := Aside0.mk (Kd.C_below (Kd.R_reads' HR1.out).2.2 hb)
      clear hC3
      clear hb
      refine hK _ _ ⟨HSS.out _ HU3.out, ?_⟩
      clear hK
      go_simp
      refine wpAnyH_all (rs := [4]) (by kernel_rfl) (by simp) ?_
      intro i hi
      obtain rfl : i = 4 := by simpa using hi
      refine wpOp_step rfl (fun K hK => ?_)
      go_simp
      refine (sameAll_call L B1 B3 d1 d3 U3 HC1.out hd1 HC3.out hd3 (by omega) hoks).mono ?_
      rintro e U4 ⟨rfl, hb⟩
      have HU4 := Aside0.mk (below_then HU3.out HU3.out.size hb)
      clear hb
      refine hK _ _ ⟨HSS.out _ HU4.out, ?_⟩
      clear hK
      refine wpAnyH_take (i := 5) (v := .bool true) rfl (by kernel_rfl) (by kernel_rfl) (by kernel_rfl) (fun _ _ _ h => h) (Or.inl ⟨rfl, fun V hV => ?_⟩) (HSS.out _ HU4.out) ?_
      · go_simp
      go_simp
      refine wpAnyH_all (rs := [6]) (by kernel_rfl) (by simp) ?_
      intro i hi
      obtain rfl : i = 6 := by simpa using hi
      refine wpOp_step rfl (fun K hK => ?_)
      go_simp
      refine (X.sure_calls U4 (tab_below htab (below_then HB1.out HB1.out.size HU4.out))).mono ?_
      rintro e U6 ⟨rfl, hb⟩
      have HU6 := Aside0.mk (below_then HU4.out HU4.out.size hb)
      clear hb
      refine hK _ _ ⟨HSS.out _ HU6.out, ?_⟩
      clear hK
      refine wpAnyH_take (i := 7) (v := .bool true) rfl (by kernel_rfl) (by kernel_rfl) (by kernel_rfl) (fun _ _ _ h => h) (Or.inl ⟨rfl, fun V hV => ?_⟩) (HSS.out _ HU6.out) ?_
      · go_simp
      refine wpAnyH_take (i := 8) (v := .bool true) rfl (by kernel_rfl) (by kernel_rfl) (by kernel_rfl) (fun _ _ _ h => h) (Or.inl ⟨rfl, fun V hV => ?_⟩) (HSS.out _ HU6.out) ?_
      · go_simp
      go_simp
      refine wpAnyH_done (by kernel_rfl) ?_ _
      go_wp2_with fail
      go_ret
      exact ⟨rfl, below_then HB1.out HB1.out.size HU6.out⟩
end Go.Proofs.YtladneaaepcdbaaDoor.Z
