/- A set of one length view: what it holds in memory; views.New. -/
import Derived.Test.YtdbhlfnpaloomaaJ
namespace Go.Proofs.Ytdbhlfnpaloomaa.K
open Go.RowKit Go.Proofs.YtdbhlfnpaloomaaW.PrintWords Go.Proofs.YtdbhlfnpaloomaaW.PrintLast Go.Proofs.YtdbhlfnpaloomaaW.PrintMore
open Go.Proofs.Ytdbhlfnpaloomaa.PSame Go.Proofs.Ytdbhlfnpaloomaa.A Go.Proofs.Ytdbhlfnpaloomaa.B Go.Proofs.Ytdbhlfnpaloomaa.F Go.Proofs.Ytdbhlfnpaloomaa.G Go.Proofs.Ytdbhlfnpaloomaa.H Go.Proofs.Ytdbhlfnpaloomaa.I Go.Proofs.Ytdbhlfnpaloomaa.J
set_option linter.unusedVariables false
set_option linter.unusedSimpArgs false

theorem inf37 : (Try.prog.info? 37).map (fun i => (i.zero, i.size, i.bytes)) = some (some (.agg #[.int .i64 0, .int .i64 0, .slice none 0 0, .bool false]), 4, 48) := by kernel_rfl
theorem inf61 : (Try.prog.info? 61).map (fun i => (i.zero, i.size, i.bytes)) = some (some .nilIface, 1, 16) := by kernel_rfl
theorem inf56 : (Try.prog.info? 56).map (fun i => (i.zero, i.size)) = some (some (.agg #[.slice none 0 0, .slice none 0 0, .int .i64 0, .int .i64 0, .bool false, .slice none 0 0]), 6) := by kernel_rfl

/-- A set of one view that holds the newest n: how it lies in memory. -/
def SetIs (w : World) (base s : Nat) (n now last : Int) (took : Bool) (V H : List S30) (ok : Nat → Prop) : Prop :=
  ∃ vs vv nb vl vh, w.heap[s]? = some (.cells #[vs, vv, .int .i64 now, .int .i64 last, .bool took, vh] 56 (0, 0)) ∧
    (Kd.raw 4).R 37 w base ok vs [[.int .i64 2, .int .i64 n, .slice none 0 0, .bool false]] ∧
    (Kd.raw 1).R 61 w base ok vv [[.iface 74 (.pointer (some ⟨nb, 0, none⟩))]] ∧
    w.heap[nb]? = some (.cells #[vl, .int .i64 n] 76 (0, 0)) ∧ Sh w base ok vl V ∧ Sh w base ok vh H ∧
    (∀ k, vl.ownBlock = some k → vh.ownBlock = some k → False) ∧ ok s ∧ ok nb

theorem SetIs.eff {w w1 : World} {base s : Nat} {n now last : Int} {took : Bool} {V H : List S30} {ok S : Nat → Prop} (h : SetIs w base s n now last took V H ok) (he : Eff S w w1) (hn : ∀ k, ok k → ¬ S k) : SetIs w1 base s n now last took V H ok := by
  obtain ⟨vs, vv, nb, vl, vh, h1, h2, h3, h4, h5, h6, h7, h8, h9⟩ := h
  exact ⟨vs, vv, nb, vl, vh, blk_kept h1 he.kept (hn s h8), Kd.R_kept h2 he.kept hn, Kd.R_kept h3 he.kept hn, blk_kept h4 he.kept (hn nb h9), h5.eff he hn, h6.eff he hn, h7, h8, h9⟩
theorem SetIs.below {w w1 : World} {base s : Nat} {n now last : Int} {took : Bool} {V H : List S30} {ok : Nat → Prop} (h : SetIs w base s n now last took V H ok) (hb : Below w.heap.size w w1) : SetIs w1 base s n now last took V H ok :=
  h.eff (Eff.of_below hb (fun _ => False)) (fun _ _ h => h)
theorem SetIs.bound {w : World} {base s : Nat} {n now last : Int} {took : Bool} {V H : List S30} {ok : Nat → Prop} (h : SetIs w base s n now last took V H ok) : SetIs w base s n now last took V H (fun k => ok k ∧ k < w.heap.size) := by
  obtain ⟨vs, vv, nb, vl, vh, h1, h2, h3, h4, h5, h6, h7, h8, h9⟩ := h
  exact ⟨vs, vv, nb, vl, vh, h1, Kd.R_mono (Kd.R_bound h2) (fun k hk => ⟨hk.1, hk.2.2.1⟩), Kd.R_mono (Kd.R_bound h3) (fun k hk => ⟨hk.1, hk.2.2.1⟩), h4, h5.mono (fun k hk ho => ⟨ho, Kd.R_lt h5 k hk⟩), h6.mono (fun k hk ho => ⟨ho, Kd.R_lt h6 k hk⟩), h7, ⟨h8, blk_lt h1⟩, ⟨h9, blk_lt h4⟩⟩
theorem SetIs.mono {w : World} {base s : Nat} {n now last : Int} {took : Bool} {V H : List S30} {ok ok' : Nat → Prop} (h : SetIs w base s n now last took V H ok) (hk : ∀ k, ok k → ok' k) : SetIs w base s n now last took V H ok' := by
  obtain ⟨vs, vv, nb, vl, vh, h1, h2, h3, h4, h5, h6, h7, h8, h9⟩ := h
  exact ⟨vs, vv, nb, vl, vh, h1, Kd.R_mono h2 hk, Kd.R_mono h3 hk, h4, h5.mono (fun k _ => hk k), h6.mono (fun k _ => hk k), h7, hk _ h8, hk _ h9⟩

set_option maxHeartbeats 8000000 in
set_option maxRecDepth 100000 in
theorem new_calls (ab : Nat) (n k : Int) (w : World) (hab : w.heap[ab]? = some (.cells #[.int .i64 2, .int .i64 n, .slice none 0 0, .bool false] 37 (0, 0))) (hn1 : 1 ≤ n) (hn2 : n ≤ 65536) :
    Calls Try.prog 15 #[.slice (some ⟨ab, 0, none⟩) 1 1, .int .i64 k] w fun e w' => ∃ s, e = .returned (.pointer (some ⟨s, 0, none⟩)) ∧ SetIs w' w.heap.size s n 0 0 false [] [] (fun k => w.heap.size ≤ k) ∧ Below w.heap.size w w' := by
  have HA := Aside0.mk hab
  clear hab
  go_enter Try.func15, Try.ntmps15
  go_wp2_with fail
  obtain ⟨wa, hwa⟩ : ∃ wa : World, wa = w.alloc (.cells #[.slice none 0 0, .slice none 0 0, .int .i64 0, .int .i64 0, .bool false, .slice none 0 0] 56) := ⟨_, rfl⟩
  have hBa : Below w.heap.size w wa := by rw [hwa]; exact (Below.refl _ _).alloc (Nat.le_refl _) _
  have hs : wa.heap[w.heap.size]? = some (.cells #[.slice none 0 0, .slice none 0 0, .int .i64 0, .int .i64 0, .bool false, .slice none 0 0] 56 (0, 0)) := by rw [hwa]; exact blk_new _ _
  rw [← hwa]
  obtain ⟨s, hg⟩ : ∃ s, s = w.heap.size := ⟨_, rfl⟩
  rw [← hg] at hs ⊢
  have HG := Aside0.mk hg
  have HSB := Aside0.mk hs
  have HBa := Aside0.mk hBa
  clear hwa hg hs hBa
  go_loopw [20] (fun t20 wr => Aside0 (Below w.heap.size w wr) ∧ ((t20 = .int .i64 0 ∧ Aside0 (wr.heap[s]? = some (.cells #[.slice none 0 0, .slice none 0 0, .int .i64 0, .int .i64 0, .bool false, .slice none 0 0] 56 (0, 0)))) ∨ (t20 = .int .i64 1 ∧ Aside0 (SetIs wr w.heap.size s n 0 0 false [] [] (fun k => w.heap.size ≤ k))))) (fun t20 _ => 1 - (intOf t20).toNat)
  case atStart => exact ⟨HBa, .inl ⟨rfl, HSB⟩⟩
  case round =>
    obtain ⟨hB, ⟨rfl, hS⟩ | ⟨rfl, hS⟩⟩ := hrel
    · have a0 : wr.cell? ⟨ab, 0, none⟩ = some (.int .i64 2) := (blk_cell (blk_below HA.out hB.out) 0).trans rfl
      have a1 : wr.cell? ⟨ab, 1, none⟩ = some (.int .i64 n) := (blk_cell (blk_below HA.out hB.out) 1).trans rfl
      have a2 : wr.cell? ⟨ab, 2, none⟩ = some (.slice none 0 0) := (blk_cell (blk_below HA.out hB.out) 2).trans rfl
      have a3 : wr.cell? ⟨ab, 3, none⟩ = some (.bool false) := (blk_cell (blk_below HA.out hB.out) 3).trans rfl
      go_wp2_with fail
      obtain ⟨wb, hwb⟩ : ∃ wb : World, wb = wr.alloc (.cells #[.int .i64 2, .int .i64 n, .slice none 0 0, .bool false] 37) := ⟨_, rfl⟩
      have hBb : Below wr.heap.size wr wb := by rw [hwb]; exact (Below.refl _ _).alloc (Nat.le_refl _) _
      have hbx : wb.heap[wr.heap.size]? = some (.cells #[.int .i64 2, .int .i64 n, .slice none 0 0, .bool false] 37 (0, 0)) := by rw [hwb]; exact blk_new _ _
      rw [← hwb]
      obtain ⟨gb, hgb⟩ : ∃ gb, gb = wr.heap.size := ⟨_, rfl⟩
      rw [← hgb] at hbx ⊢
      have hge : w.heap.size ≤ gb := by have := hB.out.size; omega
      have HBb := Aside0.mk (below_then hB.out hB.out.size hBb)
      have HSb := Aside0.mk (blk_below hS.out hBb)
      have HGb := Aside0.mk hbx
      clear hwb hBb hbx hgb a0 a1 a2 a3
      refine (check_calls n k wb hn1 hn2).mono ?_
      rintro e w1 ⟨rfl, hb1⟩
      have HB1 := Aside0.mk (below_then HBb.out HBb.out.size hb1)
      have HS1 := Aside0.mk (blk_below HSb.out hb1)
      have HG1 := Aside0.mk (blk_below HGb.out hb1)
      have g2 : w1.cell? ⟨gb, 2, none⟩ = some (.slice none 0 0) := (blk_cell HG1.out 2).trans rfl
      clear hb1
      go_wp2_with fail
      refine (clone35_calls w1).mono ?_
      rintro e w2 ⟨rfl, hb2⟩
      have HB2 := Aside0.mk (below_then HB1.out HB1.out.size hb2)
      have HS2 := Aside0.mk (blk_below HS1.out hb2)
      have HG2 := Aside0.mk (blk_below HG1.out hb2)
      have g3 : w2.cell? ⟨gb, 2, none⟩ = some (.slice none 0 0) := (blk_cell HG2.out 2).trans rfl
      have g4 : w2.frozen? ⟨gb, 2, none⟩ = false := blk_frozen HG2.out 2
      clear hb2 g2
      go_wp2_with fail
      obtain ⟨W3, hW3⟩ : ∃ W3 : World, W3 = w2.setCell ⟨gb, 2, none⟩ (.slice none 0 0) := ⟨_, rfl⟩
      rw [← hW3]
      have hg3 : W3.heap[gb]? = some (.cells #[.int .i64 2, .int .i64 n, .slice none 0 0, .bool false] 37 (0, 0)) := by rw [hW3]; exact blk_put HG2.out 2 _ rfl
      have hs3 : W3.heap[s]? = some (.cells #[.slice none 0 0, .slice none 0 0, .int .i64 0, .int .i64 0, .bool false, .slice none 0 0] 56 (0, 0)) := by rw [hW3]; exact blk_far HS2.out (p := ⟨gb, 2, none⟩) (blk_ne HS2.out HG2.out (by decide)) _
      have hb3 : Below w.heap.size w W3 := by rw [hW3]; exact HB2.out.setCell (p := ⟨gb, 2, none⟩) hge _
      clear g3 g4 hW3
      refine wp_region_held (S := fun V => V.cell? ⟨gb, 0, none⟩ = some (.int .i64 2) ∧ V.cell? ⟨gb, 1, none⟩ = some (.int .i64 n) ∧ V.cell? ⟨gb, 2, none⟩ = some (.slice none 0 0) ∧ V.cell? ⟨gb, 3, none⟩ = some (.bool false)) (by kernel_rfl) ?_
      obtain ⟨V0, hV0⟩ : ∃ V0 : World, V0 = { W3 with drawn := W3.drawn + 1 } := ⟨_, rfl⟩
      have hB0 : Below W3.heap.size W3 V0 := by rw [hV0]; exact ⟨rfl, rfl, rfl, Nat.le_refl _, fun _ _ => rfl⟩
      rw [← hV0]
      have HT : Aside0 (∀ V : World, V.heap[gb]? = some (.cells #[.int .i64 2, .int .i64 n, .slice none 0 0, .bool false] 37 (0, 0)) → (V.cell? ⟨gb, 0, none⟩ = some (.int .i64 2) ∧ V.cell? ⟨gb, 1, none⟩ = some (.int .i64 n) ∧ V.cell? ⟨gb, 2, none⟩ = some (.slice none 0 0) ∧ V.cell? ⟨gb, 3, none⟩ = some (.bool false))) := ⟨fun V h => ⟨(blk_cell h 0).trans rfl, (blk_cell h 1).trans rfl, (blk_cell h 2).trans rfl, (blk_cell h 3).trans rfl⟩⟩
      have HG0 := Aside0.mk (blk_below hg3 hB0)
      have HS0 := Aside0.mk (blk_below hs3 hB0)
      have HB0 := Aside0.mk (below_then hb3 hb3.size hB0)
      have HSG := Aside0.mk (blk_ne hs3 hg3 (by decide))
      clear hV0 hB0 hg3 hs3 hb3
      refine wpAnyH_take (i := 0) (v := (.pointer (some ⟨s, 0, none⟩))) rfl (by kernel_rfl) (by kernel_rfl) (by kernel_rfl) (fun _ _ _ h => h) (Or.inl ⟨by kernel_rfl, fun V hV => ?_⟩) (HT.out _ HG0.out) ?_
      · go_simp
      refine wpAnyH_take (i := 1) (v := (.pointer (some ⟨s, 0, none⟩))) rfl (by kernel_rfl) (by kernel_rfl) (by kernel_rfl) (fun _ _ _ h => h) (Or.inl ⟨by kernel_rfl, fun V hV => ?_⟩) (HT.out _ HG0.out) ?_
      · go_simp
      refine wpAnyH_take (i := 2) (v := (.pointer (some ⟨s, 0, none⟩))) rfl (by kernel_rfl) (by kernel_rfl) (by kernel_rfl) (fun _ _ _ h => h) (Or.inl ⟨by kernel_rfl, fun V hV => ?_⟩) (HT.out _ HG0.out) ?_
      · go_simp
      refine wpAnyH_take (i := 3) (v := (.pointer (some ⟨s, 0, none⟩))) rfl (by kernel_rfl) (by kernel_rfl) (by kernel_rfl) (fun _ _ _ h => h) (Or.inl ⟨by kernel_rfl, fun V hV => ?_⟩) (HT.out _ HG0.out) ?_
      · go_simp
      refine wpAnyH_take (i := 5) (v := (.agg #[.int .i64 2, .int .i64 n, .slice none 0 0, .bool false])) rfl (by kernel_rfl) (by kernel_rfl) (by kernel_rfl) (fun _ _ _ h => h) (Or.inl ⟨by kernel_rfl, fun V hV => ?_⟩) (HT.out _ HG0.out) ?_
      · obtain ⟨g0, g1, g2, g3⟩ := hV
        go_simp
      go_simp
      refine wpAnyH_all (rs := [4, 6]) (by kernel_rfl) (by simp) ?_
      intro i' hi'
      have hi2 : i' = 4 ∨ i' = 6 := by simpa using hi'
      rcases hi2 with rfl | rfl
      · refine wpOp_step rfl (fun K hK => ?_)
        have n0 : V0.cell? ⟨s, 0, none⟩ = some (.slice none 0 0) := (blk_cell HS0.out 0).trans rfl
        go_simp
        refine hK _ _ ⟨HT.out _ HG0.out, ?_⟩
        clear hK n0
        go_simp
        refine wpAnyH_all (rs := [6]) (by kernel_rfl) (by simp) ?_
        intro i' hi'
        obtain rfl : i' = 6 := by simpa using hi'
        refine wpOp_step rfl (fun K hK => ?_)
        go_simp
        refine hK _ _ ⟨HT.out _ (blk_alloc HG0.out _), ?_⟩
        clear hK
        go_simp
        refine wpAnyH_all (rs := [7]) (by kernel_rfl) (by simp) ?_
        intro i' hi'
        obtain rfl : i' = 7 := by simpa using hi'
        refine wpOp_step rfl (fun K hK => ?_)
        refine Kd.R_append_step (Kd.raw 4) (w0 := w) w.heap.size rfl (.tmp 36) (.tmp 38) 38 37 (.agg #[.int .i64 0, .int .i64 0, .slice none 0 0, .bool false]) 48 rfl Try.underlying38 inf37 rfl (by decide) (by omega) (.slice none 0 0) [] [.int .i64 2, .int .i64 n, .slice none 0 0, .bool false] [.int .i64 2, .int .i64 n, .slice none 0 0, .bool false] (fun k => w.heap.size ≤ k) (fun _ => False) rfl rfl ⟨rfl, rfl, by simp [Value.oneCell']⟩ (fun _ h => h.elim) (fun k hk => Nat.le_trans HB0.out.size hk) (Kd.R_nil _ _ _ _ _) HB0.out HB0.out.size (by simp) ?_
        intro v1 w4 ho hbw hg hat
        have hg4 := blk_grown HG0.out hg (by simp [Value.ownBlock])
        have hs4 := blk_grown HS0.out hg (by simp [Value.ownBlock])
        refine hK _ _ ⟨HT.out _ hg4, ?_⟩
        clear hK
        obtain ⟨A1, c1, ev1⟩ := Kd.R_slice ho
        subst ev1
        rw [List.nil_append] at ho
        have HO4 := Aside0.mk ho
        have HG4 := Aside0.mk hg4
        have HS4 := Aside0.mk hs4
        have HB4 := Aside0.mk hbw
        clear ho hbw hg hat hg4 hs4
        go_simp
        refine wpAnyH_take (i := 8) (v := (.pointer (some ⟨s, 0, none⟩))) rfl (by kernel_rfl) (by kernel_rfl) (by kernel_rfl) (fun _ _ _ h => h) (Or.inl ⟨by kernel_rfl, fun V hV => ?_⟩) (HT.out _ HG4.out) ?_
        · go_simp
        refine wpAnyH_take (i := 9) (v := (.pointer (some ⟨s, 0, none⟩))) rfl (by kernel_rfl) (by kernel_rfl) (by kernel_rfl) (fun _ _ _ h => h) (Or.inl ⟨by kernel_rfl, fun V hV => ?_⟩) (HT.out _ HG4.out) ?_
        · go_simp
        go_simp
        refine wpAnyH_all (rs := [10]) (by kernel_rfl) (by simp) ?_
        intro i' hi'
        obtain rfl : i' = 10 := by simpa using hi'
        refine wpOp_step rfl (fun K hK => ?_)
        have n0 : w4.cell? ⟨s, 0, none⟩ = some (.slice none 0 0) := (blk_cell HS4.out 0).trans rfl
        have n1 : w4.frozen? ⟨s, 0, none⟩ = false := blk_frozen HS4.out 0
        go_simp
        refine hK _ _ ⟨HT.out _ (blk_far HG4.out (p := ⟨s, 0, none⟩) (Ne.symm HSG.out) _), ?_⟩
        clear hK n0 n1
        refine wpAnyH_done (by kernel_rfl) ?_ _
        obtain ⟨W5, hW5⟩ : ∃ W5 : World, W5 = w4.setCell ⟨s, 0, none⟩ (.slice A1 1 c1) := ⟨_, rfl⟩
        have hs5 : W5.heap[s]? = some (.cells #[.slice A1 1 c1, .slice none 0 0, .int .i64 0, .int .i64 0, .bool false, .slice none 0 0] 56 (0, 0)) := by rw [hW5]; exact blk_put HS4.out 0 _ rfl
        have hg5 : W5.heap[gb]? = some (.cells #[.int .i64 2, .int .i64 n, .slice none 0 0, .bool false] 37 (0, 0)) := by rw [hW5]; exact blk_far HG4.out (p := ⟨s, 0, none⟩) (Ne.symm HSG.out) _
        have hgs : w.heap.size ≤ s := by have := HG.out; omega
        have hb5 : Below w.heap.size w W5 := by rw [hW5]; exact HB4.out.setCell (p := ⟨s, 0, none⟩) hgs _
        have ho5 : (Kd.raw 4).R 37 W5 w.heap.size (fun k => w.heap.size ≤ k) (.slice A1 1 c1) [[.int .i64 2, .int .i64 n, .slice none 0 0, .bool false]] := by rw [hW5]; exact Kd.R_set HO4.out HS4.out (by simp [Kd.raw]) 0 _
        rw [← hW5]
        clear hW5 HG4 HS4 HB4 HO4 HT HG0 HS0 HB0 HSG
        go_wp2_with fail
        refine wp_region_held (S := fun V => V.cell? ⟨gb, 0, none⟩ = some (.int .i64 2) ∧ V.cell? ⟨gb, 1, none⟩ = some (.int .i64 n) ∧ V.cell? ⟨gb, 2, none⟩ = some (.slice none 0 0) ∧ V.cell? ⟨gb, 3, none⟩ = some (.bool false)) (by kernel_rfl) ?_
        obtain ⟨V6, hV6⟩ : ∃ V6 : World, V6 = { W5 with drawn := W5.drawn + 1 } := ⟨_, rfl⟩
        have hB6 : Below W5.heap.size W5 V6 := by rw [hV6]; exact ⟨rfl, rfl, rfl, Nat.le_refl _, fun _ _ => rfl⟩
        rw [← hV6]
        have HT : Aside0 (∀ V : World, V.heap[gb]? = some (.cells #[.int .i64 2, .int .i64 n, .slice none 0 0, .bool false] 37 (0, 0)) → (V.cell? ⟨gb, 0, none⟩ = some (.int .i64 2) ∧ V.cell? ⟨gb, 1, none⟩ = some (.int .i64 n) ∧ V.cell? ⟨gb, 2, none⟩ = some (.slice none 0 0) ∧ V.cell? ⟨gb, 3, none⟩ = some (.bool false))) := ⟨fun V h => ⟨(blk_cell h 0).trans rfl, (blk_cell h 1).trans rfl, (blk_cell h 2).trans rfl, (blk_cell h 3).trans rfl⟩⟩
        have HG6 := Aside0.mk (blk_below hg5 hB6)
        have HS6 := Aside0.mk (blk_below hs5 hB6)
        have HB6 := Aside0.mk (below_then hb5 hb5.size hB6)
        have HO6 := Aside0.mk (Kd.R_below ho5 hB6)
        have HSG := Aside0.mk (blk_ne hs5 hg5 (by decide))
        have HGS := Aside0.mk hgs
        clear hV6 hB6 hg5 hs5 hb5 ho5 hgs
        refine wpAnyH_take (i := 0) (v := (.pointer (some ⟨s, 0, none⟩))) rfl (by kernel_rfl) (by kernel_rfl) (by kernel_rfl) (fun _ _ _ h => h) (Or.inl ⟨by kernel_rfl, fun V hV => ?_⟩) (HT.out _ HG6.out) ?_
        · go_simp
        refine wpAnyH_take (i := 1) (v := (.pointer (some ⟨s, 0, none⟩))) rfl (by kernel_rfl) (by kernel_rfl) (by kernel_rfl) (fun _ _ _ h => h) (Or.inl ⟨by kernel_rfl, fun V hV => ?_⟩) (HT.out _ HG6.out) ?_
        · go_simp
        refine wpAnyH_take (i := 2) (v := (.pointer (some ⟨s, 0, none⟩))) rfl (by kernel_rfl) (by kernel_rfl) (by kernel_rfl) (fun _ _ _ h => h) (Or.inl ⟨by kernel_rfl, fun V hV => ?_⟩) (HT.out _ HG6.out) ?_
        · go_simp
        refine wpAnyH_take (i := 3) (v := (.pointer (some ⟨s, 1, none⟩))) rfl (by kernel_rfl) (by kernel_rfl) (by kernel_rfl) (fun _ _ _ h => h) (Or.inl ⟨by kernel_rfl, fun V hV => ?_⟩) (HT.out _ HG6.out) ?_
        · go_simp
        refine wpAnyH_take (i := 5) (v := (.agg #[.int .i64 2, .int .i64 n, .slice none 0 0, .bool false])) rfl (by kernel_rfl) (by kernel_rfl) (by kernel_rfl) (fun _ _ _ h => h) (Or.inl ⟨by kernel_rfl, fun V hV => ?_⟩) (HT.out _ HG6.out) ?_
        · obtain ⟨g0, g1, g2, g3⟩ := hV
          go_simp
        go_simp
        refine wpAnyH_all (rs := [4, 6]) (by kernel_rfl) (by simp) ?_
        intro i' hi'
        have hi2 : i' = 4 ∨ i' = 6 := by simpa using hi'
        rcases hi2 with rfl | rfl
        · refine wpOp_step rfl (fun K hK => ?_)
          have n0 : V6.cell? ⟨s, 1, none⟩ = some (.slice none 0 0) := (blk_cell HS6.out 1).trans rfl
          go_simp
          refine hK _ _ ⟨HT.out _ HG6.out, ?_⟩
          clear hK n0
          go_simp
          refine wpAnyH_all (rs := [6]) (by kernel_rfl) (by simp) ?_
          intro i' hi'
          obtain rfl : i' = 6 := by simpa using hi'
          refine wpOp_step rfl (fun K hK => ?_)
          go_simp
          refine (begin_calls n V6).mono ?_
          rintro e w7 ⟨nb, rfl, hn7, hge7, hb7⟩
          have hg7 := blk_below HG6.out hb7
          have hs7 := blk_below HS6.out hb7
          refine hK _ _ ⟨HT.out _ hg7, ?_⟩
          clear hK
          have HG7 := Aside0.mk hg7
          have HS7 := Aside0.mk hs7
          have HN7 := Aside0.mk hn7
          have HB7 := Aside0.mk (below_then HB6.out HB6.out.size hb7)
          have HO7 := Aside0.mk (Kd.R_below HO6.out hb7)
          have HGE := Aside0.mk (Nat.le_trans HB6.out.size hge7)
          clear hg7 hs7 hn7 hb7 hge7
          go_simp
          refine wpAnyH_all (rs := [7]) (by kernel_rfl) (by simp) ?_
          intro i' hi'
          obtain rfl : i' = 7 := by simpa using hi'
          refine wpOp_step rfl (fun K hK => ?_)
          go_simp
          refine hK _ _ ⟨HT.out _ (blk_alloc HG7.out _), ?_⟩
          clear hK
          go_simp
          refine wpAnyH_all (rs := [8]) (by kernel_rfl) (by simp) ?_
          intro i' hi'
          obtain rfl : i' = 8 := by simpa using hi'
          refine wpOp_step rfl (fun K hK => ?_)
          refine Kd.R_append_step (Kd.raw 1) (w0 := w) w.heap.size rfl (.tmp 46) (.tmp 49) 54 61 .nilIface 16 rfl Try.underlying54 inf61 rfl (by decide) (by omega) (.slice none 0 0) [] [.iface 74 (.pointer (some ⟨nb, 0, none⟩))] [.iface 74 (.pointer (some ⟨nb, 0, none⟩))] (fun k => w.heap.size ≤ k) (fun _ => False) rfl rfl ⟨rfl, rfl, by simp [Value.oneCell']⟩ (fun _ h => h.elim) (fun k hk => Nat.le_trans HB7.out.size hk) (Kd.R_nil _ _ _ _ _) HB7.out HB7.out.size (by simp) ?_
          intro v8 w8 ho hbw hg hat
          have hg8 := blk_grown HG7.out hg (by simp [Value.ownBlock])
          have hs8 := blk_grown HS7.out hg (by simp [Value.ownBlock])
          have hn8 := blk_grown HN7.out hg (by simp [Value.ownBlock])
          have ho4 := Kd.R_grown HO7.out hg (by simp [Value.ownBlock])
          refine hK _ _ ⟨HT.out _ hg8, ?_⟩
          clear hK
          obtain ⟨A2, c2, ev2⟩ := Kd.R_slice ho
          subst ev2
          rw [List.nil_append] at ho
          have HO8 := Aside0.mk ho
          have HG8 := Aside0.mk hg8
          have HS8 := Aside0.mk hs8
          have HB8 := Aside0.mk hbw
          have HN8 := Aside0.mk hn8
          have HP8 := Aside0.mk ho4
          clear ho hbw hg hat hg8 hs8 hn8 ho4
          go_simp
          refine wpAnyH_take (i := 9) (v := (.pointer (some ⟨s, 0, none⟩))) rfl (by kernel_rfl) (by kernel_rfl) (by kernel_rfl) (fun _ _ _ h => h) (Or.inl ⟨by kernel_rfl, fun V hV => ?_⟩) (HT.out _ HG8.out) ?_
          · go_simp
          refine wpAnyH_take (i := 10) (v := (.pointer (some ⟨s, 1, none⟩))) rfl (by kernel_rfl) (by kernel_rfl) (by kernel_rfl) (fun _ _ _ h => h) (Or.inl ⟨by kernel_rfl, fun V hV => ?_⟩) (HT.out _ HG8.out) ?_
          · go_simp
          go_simp
          refine wpAnyH_all (rs := [11]) (by kernel_rfl) (by simp) ?_
          intro i' hi'
          obtain rfl : i' = 11 := by simpa using hi'
          refine wpOp_step rfl (fun K hK => ?_)
          have n0 : w8.cell? ⟨s, 1, none⟩ = some (.slice none 0 0) := (blk_cell HS8.out 1).trans rfl
          have n1 : w8.frozen? ⟨s, 1, none⟩ = false := blk_frozen HS8.out 1
          go_simp
          refine hK _ _ ⟨HT.out _ (blk_far HG8.out (p := ⟨s, 1, none⟩) (Ne.symm HSG.out) _), ?_⟩
          clear hK n0 n1
          refine wpAnyH_done (by kernel_rfl) ?_ _
          go_wp2_with fail
          go_roundw
          case rel =>
            refine ⟨⟨HB8.out.setCell (p := ⟨s, 1, none⟩) HGS.out _⟩, .inr ⟨rfl, ⟨?_⟩⟩⟩
            have hnb : nb ≠ s := blk_ne HN8.out HS8.out (by decide)
            exact ⟨.slice A1 1 c1, .slice A2 1 c2, nb, .slice none 0 0, .slice none 0 0, blk_put HS8.out 1 _ rfl, Kd.R_set HP8.out HS8.out (by simp [Kd.raw]) 1 _, Kd.R_set HO8.out HS8.out (by simp [Kd.raw]) 1 _, blk_far HN8.out (p := ⟨s, 1, none⟩) hnb _, Sh.nil _ _ _, Sh.nil _ _ _, by simp [Value.ownBlock], HGS.out, HGE.out⟩
          case measure => simp [intOf]
        · refine wpOp_step rfl (fun K hK => ?_)
          go_simp
          refine (begin_calls n V6).mono ?_
          rintro e w7 ⟨nb, rfl, hn7, hge7, hb7⟩
          have hg7 := blk_below HG6.out hb7
          have hs7 := blk_below HS6.out hb7
          refine hK _ _ ⟨HT.out _ hg7, ?_⟩
          clear hK
          have HG7 := Aside0.mk hg7
          have HS7 := Aside0.mk hs7
          have HN7 := Aside0.mk hn7
          have HB7 := Aside0.mk (below_then HB6.out HB6.out.size hb7)
          have HO7 := Aside0.mk (Kd.R_below HO6.out hb7)
          have HGE := Aside0.mk (Nat.le_trans HB6.out.size hge7)
          clear hg7 hs7 hn7 hb7 hge7
          go_simp
          refine wpAnyH_all (rs := [4, 7]) (by kernel_rfl) (by simp) ?_
          intro i' hi'
          have hi2 : i' = 4 ∨ i' = 7 := by simpa using hi'
          rcases hi2 with rfl | rfl
          · refine wpOp_step rfl (fun K hK => ?_)
            have n0 : w7.cell? ⟨s, 1, none⟩ = some (.slice none 0 0) := (blk_cell HS7.out 1).trans rfl
            go_simp
            refine hK _ _ ⟨HT.out _ HG7.out, ?_⟩
            clear hK n0
            go_simp
            refine wpAnyH_all (rs := [7]) (by kernel_rfl) (by simp) ?_
            intro i' hi'
            obtain rfl : i' = 7 := by simpa using hi'
            refine wpOp_step rfl (fun K hK => ?_)
            go_simp
            refine hK _ _ ⟨HT.out _ (blk_alloc HG7.out _), ?_⟩
            clear hK
            go_simp
            refine wpAnyH_all (rs := [8]) (by kernel_rfl) (by simp) ?_
            intro i' hi'
            obtain rfl : i' = 8 := by simpa using hi'
            refine wpOp_step rfl (fun K hK => ?_)
            refine Kd.R_append_step (Kd.raw 1) (w0 := w) w.heap.size rfl (.tmp 46) (.tmp 49) 54 61 .nilIface 16 rfl Try.underlying54 inf61 rfl (by decide) (by omega) (.slice none 0 0) [] [.iface 74 (.pointer (some ⟨nb, 0, none⟩))] [.iface 74 (.pointer (some ⟨nb, 0, none⟩))] (fun k => w.heap.size ≤ k) (fun _ => False) rfl rfl ⟨rfl, rfl, by simp [Value.oneCell']⟩ (fun _ h => h.elim) (fun k hk => Nat.le_trans HB7.out.size hk) (Kd.R_nil _ _ _ _ _) HB7.out HB7.out.size (by simp) ?_
            intro v8 w8 ho hbw hg hat
            have hg8 := blk_grown HG7.out hg (by simp [Value.ownBlock])
            have hs8 := blk_grown HS7.out hg (by simp [Value.ownBlock])
            have hn8 := blk_grown HN7.out hg (by simp [Value.ownBlock])
            have ho4 := Kd.R_grown HO7.out hg (by simp [Value.ownBlock])
            refine hK _ _ ⟨HT.out _ hg8, ?_⟩
            clear hK
            obtain ⟨A2, c2, ev2⟩ := Kd.R_slice ho
            subst ev2
            rw [List.nil_append] at ho
            have HO8 := Aside0.mk ho
            have HG8 := Aside0.mk hg8
            have HS8 := Aside0.mk hs8
            have HB8 := Aside0.mk hbw
            have HN8 := Aside0.mk hn8
            have HP8 := Aside0.mk ho4
            clear ho hbw hg hat hg8 hs8 hn8 ho4
            go_simp
            refine wpAnyH_take (i := 9) (v := (.pointer (some ⟨s, 0, none⟩))) rfl (by kernel_rfl) (by kernel_rfl) (by kernel_rfl) (fun _ _ _ h => h) (Or.inl ⟨by kernel_rfl, fun V hV => ?_⟩) (HT.out _ HG8.out) ?_
            · go_simp
            refine wpAnyH_take (i := 10) (v := (.pointer (some ⟨s, 1, none⟩))) rfl (by kernel_rfl) (by kernel_rfl) (by kernel_rfl) (fun _ _ _ h => h) (Or.inl ⟨by kernel_rfl, fun V hV => ?_⟩) (HT.out _ HG8.out) ?_
            · go_simp
            go_simp
            refine wpAnyH_all (rs := [11]) (by kernel_rfl) (by simp) ?_
            intro i' hi'
            obtain rfl : i' = 11 := by simpa using hi'
            refine wpOp_step rfl (fun K hK => ?_)
            have n0 : w8.cell? ⟨s, 1, none⟩ = some (.slice none 0 0) := (blk_cell HS8.out 1).trans rfl
            have n1 : w8.frozen? ⟨s, 1, none⟩ = false := blk_frozen HS8.out 1
            go_simp
            refine hK _ _ ⟨HT.out _ (blk_far HG8.out (p := ⟨s, 1, none⟩) (Ne.symm HSG.out) _), ?_⟩
            clear hK n0 n1
            refine wpAnyH_done (by kernel_rfl) ?_ _
            go_wp2_with fail
            go_roundw
            case rel =>
              refine ⟨⟨HB8.out.setCell (p := ⟨s, 1, none⟩) HGS.out _⟩, .inr ⟨rfl, ⟨?_⟩⟩⟩
              have hnb : nb ≠ s := blk_ne HN8.out HS8.out (by decide)
              exact ⟨.slice A1 1 c1, .slice A2 1 c2, nb, .slice none 0 0, .slice none 0 0, blk_put HS8.out 1 _ rfl, Kd.R_set HP8.out HS8.out (by simp [Kd.raw]) 1 _, Kd.R_set HO8.out HS8.out (by simp [Kd.raw]) 1 _, blk_far HN8.out (p := ⟨s, 1, none⟩) hnb _, Sh.nil _ _ _, Sh.nil _ _ _, by simp [Value.ownBlock], HGS.out, HGE.out⟩
            case measure => simp [intOf]
          · refine wpOp_step rfl (fun K hK => ?_)
            go_simp
            refine hK _ _ ⟨HT.out _ (blk_alloc HG7.out _), ?_⟩
            clear hK
            go_simp
            refine wpAnyH_all (rs := [4]) (by kernel_rfl) (by simp) ?_
            intro i' hi'
            obtain rfl : i' = 4 := by simpa using hi'
            refine wpOp_step rfl (fun K hK => ?_)
            have n0 : (w7.alloc (.cells #[.iface 74 (.pointer (some ⟨nb, 0, none⟩))] 61)).cell? ⟨s, 1, none⟩ = some (.slice none 0 0) := (blk_cell (blk_alloc HS7.out _) 1).trans rfl
            go_simp
            refine hK _ _ ⟨HT.out _ (blk_alloc HG7.out _), ?_⟩
            clear hK n0
            go_simp
            refine wpAnyH_all (rs := [8]) (by kernel_rfl) (by simp) ?_
            intro i' hi'
            obtain rfl : i' = 8 := by simpa using hi'
            refine wpOp_step rfl (fun K hK => ?_)
            refine Kd.R_append_step (Kd.raw 1) (w0 := w) w.heap.size rfl (.tmp 46) (.tmp 49) 54 61 .nilIface 16 rfl Try.underlying54 inf61 rfl (by decide) (by omega) (.slice none 0 0) [] [.iface 74 (.pointer (some ⟨nb, 0, none⟩))] [.iface 74 (.pointer (some ⟨nb, 0, none⟩))] (fun k => w.heap.size ≤ k) (fun _ => False) rfl rfl ⟨rfl, rfl, by simp [Value.oneCell']⟩ (fun _ h => h.elim) (fun k hk => Nat.le_trans HB7.out.size hk) (Kd.R_nil _ _ _ _ _) HB7.out HB7.out.size (by simp) ?_
            intro v8 w8 ho hbw hg hat
            have hg8 := blk_grown HG7.out hg (by simp [Value.ownBlock])
            have hs8 := blk_grown HS7.out hg (by simp [Value.ownBlock])
            have hn8 := blk_grown HN7.out hg (by simp [Value.ownBlock])
            have ho4 := Kd.R_grown HO7.out hg (by simp [Value.ownBlock])
            refine hK _ _ ⟨HT.out _ hg8, ?_⟩
            clear hK
            obtain ⟨A2, c2, ev2⟩ := Kd.R_slice ho
            subst ev2
            rw [List.nil_append] at ho
            have HO8 := Aside0.mk ho
            have HG8 := Aside0.mk hg8
            have HS8 := Aside0.mk hs8
            have HB8 := Aside0.mk hbw
            have HN8 := Aside0.mk hn8
            have HP8 := Aside0.mk ho4
            clear ho hbw hg hat hg8 hs8 hn8 ho4
            go_simp
            refine wpAnyH_take (i := 9) (v := (.pointer (some ⟨s, 0, none⟩))) rfl (by kernel_rfl) (by kernel_rfl) (by kernel_rfl) (fun _ _ _ h => h) (Or.inl ⟨by kernel_rfl, fun V hV => ?_⟩) (HT.out _ HG8.out) ?_
            · go_simp
            refine wpAnyH_take (i := 10) (v := (.pointer (some ⟨s, 1, none⟩))) rfl (by kernel_rfl) (by kernel_rfl) (by kernel_rfl) (fun _ _ _ h => h) (Or.inl ⟨by kernel_rfl, fun V hV => ?_⟩) (HT.out _ HG8.out) ?_
            · go_simp
            go_simp
            refine wpAnyH_all (rs := [11]) (by kernel_rfl) (by simp) ?_
            intro i' hi'
            obtain rfl : i' = 11 := by simpa using hi'
            refine wpOp_step rfl (fun K hK => ?_)
            have n0 : w8.cell? ⟨s, 1, none⟩ = some (.slice none 0 0) := (blk_cell HS8.out 1).trans rfl
            have n1 : w8.frozen? ⟨s, 1, none⟩ = false := blk_frozen HS8.out 1
            go_simp
            refine hK _ _ ⟨HT.out _ (blk_far HG8.out (p := ⟨s, 1, none⟩) (Ne.symm HSG.out) _), ?_⟩
            clear hK n0 n1
            refine wpAnyH_done (by kernel_rfl) ?_ _
            go_wp2_with fail
            go_roundw
            case rel =>
              refine ⟨⟨HB8.out.setCell (p := ⟨s, 1, none⟩) HGS.out _⟩, .inr ⟨rfl, ⟨?_⟩⟩⟩
              have hnb : nb ≠ s := blk_ne HN8.out HS8.out (by decide)
              exact ⟨.slice A1 1 c1, .slice A2 1 c2, nb, .slice none 0 0, .slice none 0 0, blk_put HS8.out 1 _ rfl, Kd.R_set HP8.out HS8.out (by simp [Kd.raw]) 1 _, Kd.R_set HO8.out HS8.out (by simp [Kd.raw]) 1 _, blk_far HN8.out (p := ⟨s, 1, none⟩) hnb _, Sh.nil _ _ _, Sh.nil _ _ _, by simp [Value.ownBlock], HGS.out, HGE.out⟩
            case measure => simp [intOf]
      · refine wpOp_step rfl (fun K hK => ?_)
        go_simp
        refine hK _ _ ⟨HT.out _ (blk_alloc HG0.out _), ?_⟩
        clear hK
        go_simp
        refine wpAnyH_all (rs := [4]) (by kernel_rfl) (by simp) ?_
        intro i' hi'
        obtain rfl : i' = 4 := by simpa using hi'
        refine wpOp_step rfl (fun K hK => ?_)
        have n0 : (V0.alloc (.cells #[.int .i64 2, .int .i64 n, .slice none 0 0, .bool false] 37)).cell? ⟨s, 0, none⟩ = some (.slice none 0 0) := (blk_cell (blk_alloc HS0.out _) 0).trans rfl
        go_simp
        refine hK _ _ ⟨HT.out _ (blk_alloc HG0.out _), ?_⟩
        clear hK n0
        go_simp
        refine wpAnyH_all (rs := [7]) (by kernel_rfl) (by simp) ?_
        intro i' hi'
        obtain rfl : i' = 7 := by simpa using hi'
        refine wpOp_step rfl (fun K hK => ?_)
        refine Kd.R_append_step (Kd.raw 4) (w0 := w) w.heap.size rfl (.tmp 36) (.tmp 38) 38 37 (.agg #[.int .i64 0, .int .i64 0, .slice none 0 0, .bool false]) 48 rfl Try.underlying38 inf37 rfl (by decide) (by omega) (.slice none 0 0) [] [.int .i64 2, .int .i64 n, .slice none 0 0, .bool false] [.int .i64 2, .int .i64 n, .slice none 0 0, .bool false] (fun k => w.heap.size ≤ k) (fun _ => False) rfl rfl ⟨rfl, rfl, by simp [Value.oneCell']⟩ (fun _ h => h.elim) (fun k hk => Nat.le_trans HB0.out.size hk) (Kd.R_nil _ _ _ _ _) HB0.out HB0.out.size (by simp) ?_
        intro v1 w4 ho hbw hg hat
        have hg4 := blk_grown HG0.out hg (by simp [Value.ownBlock])
        have hs4 := blk_grown HS0.out hg (by simp [Value.ownBlock])
        refine hK _ _ ⟨HT.out _ hg4, ?_⟩
        clear hK
        obtain ⟨A1, c1, ev1⟩ := Kd.R_slice ho
        subst ev1
        rw [List.nil_append] at ho
        have HO4 := Aside0.mk ho
        have HG4 := Aside0.mk hg4
        have HS4 := Aside0.mk hs4
        have HB4 := Aside0.mk hbw
        clear ho hbw hg hat hg4 hs4
        go_simp
        refine wpAnyH_take (i := 8) (v := (.pointer (some ⟨s, 0, none⟩))) rfl (by kernel_rfl) (by kernel_rfl) (by kernel_rfl) (fun _ _ _ h => h) (Or.inl ⟨by kernel_rfl, fun V hV => ?_⟩) (HT.out _ HG4.out) ?_
        · go_simp
        refine wpAnyH_take (i := 9) (v := (.pointer (some ⟨s, 0, none⟩))) rfl (by kernel_rfl) (by kernel_rfl) (by kernel_rfl) (fun _ _ _ h => h) (Or.inl ⟨by kernel_rfl, fun V hV => ?_⟩) (HT.out _ HG4.out) ?_
        · go_simp
        go_simp
        refine wpAnyH_all (rs := [10]) (by kernel_rfl) (by simp) ?_
        intro i' hi'
        obtain rfl : i' = 10 := by simpa using hi'
        refine wpOp_step rfl (fun K hK => ?_)
        have n0 : w4.cell? ⟨s, 0, none⟩ = some (.slice none 0 0) := (blk_cell HS4.out 0).trans rfl
        have n1 : w4.frozen? ⟨s, 0, none⟩ = false := blk_frozen HS4.out 0
        go_simp
        refine hK _ _ ⟨HT.out _ (blk_far HG4.out (p := ⟨s, 0, none⟩) (Ne.symm HSG.out) _), ?_⟩
        clear hK n0 n1
        refine wpAnyH_done (by kernel_rfl) ?_ _
        obtain ⟨W5, hW5⟩ : ∃ W5 : World, W5 = w4.setCell ⟨s, 0, none⟩ (.slice A1 1 c1) := ⟨_, rfl⟩
        have hs5 : W5.heap[s]? = some (.cells #[.slice A1 1 c1, .slice none 0 0, .int .i64 0, .int .i64 0, .bool false, .slice none 0 0] 56 (0, 0)) := by rw [hW5]; exact blk_put HS4.out 0 _ rfl
        have hg5 : W5.heap[gb]? = some (.cells #[.int .i64 2, .int .i64 n, .slice none 0 0, .bool false] 37 (0, 0)) := by rw [hW5]; exact blk_far HG4.out (p := ⟨s, 0, none⟩) (Ne.symm HSG.out) _
        have hgs : w.heap.size ≤ s := by have := HG.out; omega
        have hb5 : Below w.heap.size w W5 := by rw [hW5]; exact HB4.out.setCell (p := ⟨s, 0, none⟩) hgs _
        have ho5 : (Kd.raw 4).R 37 W5 w.heap.size (fun k => w.heap.size ≤ k) (.slice A1 1 c1) [[.int .i64 2, .int .i64 n, .slice none 0 0, .bool false]] := by rw [hW5]; exact Kd.R_set HO4.out HS4.out (by simp [Kd.raw]) 0 _
        rw [← hW5]
        clear hW5 HG4 HS4 HB4 HO4 HT HG0 HS0 HB0 HSG
        go_wp2_with fail
        refine wp_region_held (S := fun V => V.cell? ⟨gb, 0, none⟩ = some (.int .i64 2) ∧ V.cell? ⟨gb, 1, none⟩ = some (.int .i64 n) ∧ V.cell? ⟨gb, 2, none⟩ = some (.slice none 0 0) ∧ V.cell? ⟨gb, 3, none⟩ = some (.bool false)) (by kernel_rfl) ?_
        obtain ⟨V6, hV6⟩ : ∃ V6 : World, V6 = { W5 with drawn := W5.drawn + 1 } := ⟨_, rfl⟩
        have hB6 : Below W5.heap.size W5 V6 := by rw [hV6]; exact ⟨rfl, rfl, rfl, Nat.le_refl _, fun _ _ => rfl⟩
        rw [← hV6]
        have HT : Aside0 (∀ V : World, V.heap[gb]? = some (.cells #[.int .i64 2, .int .i64 n, .slice none 0 0, .bool false] 37 (0, 0)) → (V.cell? ⟨gb, 0, none⟩ = some (.int .i64 2) ∧ V.cell? ⟨gb, 1, none⟩ = some (.int .i64 n) ∧ V.cell? ⟨gb, 2, none⟩ = some (.slice none 0 0) ∧ V.cell? ⟨gb, 3, none⟩ = some (.bool false))) := ⟨fun V h => ⟨(blk_cell h 0).trans rfl, (blk_cell h 1).trans rfl, (blk_cell h 2).trans rfl, (blk_cell h 3).trans rfl⟩⟩
        have HG6 := Aside0.mk (blk_below hg5 hB6)
        have HS6 := Aside0.mk (blk_below hs5 hB6)
        have HB6 := Aside0.mk (below_then hb5 hb5.size hB6)
        have HO6 := Aside0.mk (Kd.R_below ho5 hB6)
        have HSG := Aside0.mk (blk_ne hs5 hg5 (by decide))
        have HGS := Aside0.mk hgs
        clear hV6 hB6 hg5 hs5 hb5 ho5 hgs
        refine wpAnyH_take (i := 0) (v := (.pointer (some ⟨s, 0, none⟩))) rfl (by kernel_rfl) (by kernel_rfl) (by kernel_rfl) (fun _ _ _ h => h) (Or.inl ⟨by kernel_rfl, fun V hV => ?_⟩) (HT.out _ HG6.out) ?_
        · go_simp
        refine wpAnyH_take (i := 1) (v := (.pointer (some ⟨s, 0, none⟩))) rfl (by kernel_rfl) (by kernel_rfl) (by kernel_rfl) (fun _ _ _ h => h) (Or.inl ⟨by kernel_rfl, fun V hV => ?_⟩) (HT.out _ HG6.out) ?_
        · go_simp
        refine wpAnyH_take (i := 2) (v := (.pointer (some ⟨s, 0, none⟩))) rfl (by kernel_rfl) (by kernel_rfl) (by kernel_rfl) (fun _ _ _ h => h) (Or.inl ⟨by kernel_rfl, fun V hV => ?_⟩) (HT.out _ HG6.out) ?_
        · go_simp
        refine wpAnyH_take (i := 3) (v := (.pointer (some ⟨s, 1, none⟩))) rfl (by kernel_rfl) (by kernel_rfl) (by kernel_rfl) (fun _ _ _ h => h) (Or.inl ⟨by kernel_rfl, fun V hV => ?_⟩) (HT.out _ HG6.out) ?_
        · go_simp
        refine wpAnyH_take (i := 5) (v := (.agg #[.int .i64 2, .int .i64 n, .slice none 0 0, .bool false])) rfl (by kernel_rfl) (by kernel_rfl) (by kernel_rfl) (fun _ _ _ h => h) (Or.inl ⟨by kernel_rfl, fun V hV => ?_⟩) (HT.out _ HG6.out) ?_
        · obtain ⟨g0, g1, g2, g3⟩ := hV
          go_simp
        go_simp
        refine wpAnyH_all (rs := [4, 6]) (by kernel_rfl) (by simp) ?_
        intro i' hi'
        have hi2 : i' = 4 ∨ i' = 6 := by simpa using hi'
        rcases hi2 with rfl | rfl
        · refine wpOp_step rfl (fun K hK => ?_)
          have n0 : V6.cell? ⟨s, 1, none⟩ = some (.slice none 0 0) := (blk_cell HS6.out 1).trans rfl
          go_simp
          refine hK _ _ ⟨HT.out _ HG6.out, ?_⟩
          clear hK n0
          go_simp
          refine wpAnyH_all (rs := [6]) (by kernel_rfl) (by simp) ?_
          intro i' hi'
          obtain rfl : i' = 6 := by simpa using hi'
          refine wpOp_step rfl (fun K hK => ?_)
          go_simp
          refine (begin_calls n V6).mono ?_
          rintro e w7 ⟨nb, rfl, hn7, hge7, hb7⟩
          have hg7 := blk_below HG6.out hb7
          have hs7 := blk_below HS6.out hb7
          refine hK _ _ ⟨HT.out _ hg7, ?_⟩
          clear hK
          have HG7 := Aside0.mk hg7
          have HS7 := Aside0.mk hs7
          have HN7 := Aside0.mk hn7
          have HB7 := Aside0.mk (below_then HB6.out HB6.out.size hb7)
          have HO7 := Aside0.mk (Kd.R_below HO6.out hb7)
          have HGE := Aside0.mk (Nat.le_trans HB6.out.size hge7)
          clear hg7 hs7 hn7 hb7 hge7
          go_simp
          refine wpAnyH_all (rs := [7]) (by kernel_rfl) (by simp) ?_
          intro i' hi'
          obtain rfl : i' = 7 := by simpa using hi'
          refine wpOp_step rfl (fun K hK => ?_)
          go_simp
          refine hK _ _ ⟨HT.out _ (blk_alloc HG7.out _), ?_⟩
          clear hK
          go_simp
          refine wpAnyH_all (rs := [8]) (by kernel_rfl) (by simp) ?_
          intro i' hi'
          obtain rfl : i' = 8 := by simpa using hi'
          refine wpOp_step rfl (fun K hK => ?_)
          refine Kd.R_append_step (Kd.raw 1) (w0 := w) w.heap.size rfl (.tmp 46) (.tmp 49) 54 61 .nilIface 16 rfl Try.underlying54 inf61 rfl (by decide) (by omega) (.slice none 0 0) [] [.iface 74 (.pointer (some ⟨nb, 0, none⟩))] [.iface 74 (.pointer (some ⟨nb, 0, none⟩))] (fun k => w.heap.size ≤ k) (fun _ => False) rfl rfl ⟨rfl, rfl, by simp [Value.oneCell']⟩ (fun _ h => h.elim) (fun k hk => Nat.le_trans HB7.out.size hk) (Kd.R_nil _ _ _ _ _) HB7.out HB7.out.size (by simp) ?_
          intro v8 w8 ho hbw hg hat
          have hg8 := blk_grown HG7.out hg (by simp [Value.ownBlock])
          have hs8 := blk_grown HS7.out hg (by simp [Value.ownBlock])
          have hn8 := blk_grown HN7.out hg (by simp [Value.ownBlock])
          have ho4 := Kd.R_grown HO7.out hg (by simp [Value.ownBlock])
          refine hK _ _ ⟨HT.out _ hg8, ?_⟩
          clear hK
          obtain ⟨A2, c2, ev2⟩ := Kd.R_slice ho
          subst ev2
          rw [List.nil_append] at ho
          have HO8 := Aside0.mk ho
          have HG8 := Aside0.mk hg8
          have HS8 := Aside0.mk hs8
          have HB8 := Aside0.mk hbw
          have HN8 := Aside0.mk hn8
          have HP8 := Aside0.mk ho4
          clear ho hbw hg hat hg8 hs8 hn8 ho4
          go_simp
          refine wpAnyH_take (i := 9) (v := (.pointer (some ⟨s, 0, none⟩))) rfl (by kernel_rfl) (by kernel_rfl) (by kernel_rfl) (fun _ _ _ h => h) (Or.inl ⟨by kernel_rfl, fun V hV => ?_⟩) (HT.out _ HG8.out) ?_
          · go_simp
          refine wpAnyH_take (i := 10) (v := (.pointer (some ⟨s, 1, none⟩))) rfl (by kernel_rfl) (by kernel_rfl) (by kernel_rfl) (fun _ _ _ h => h) (Or.inl ⟨by kernel_rfl, fun V hV => ?_⟩) (HT.out _ HG8.out) ?_
          · go_simp
          go_simp
          refine wpAnyH_all (rs := [11]) (by kernel_rfl) (by simp) ?_
          intro i' hi'
          obtain rfl : i' = 11 := by simpa using hi'
          refine wpOp_step rfl (fun K hK => ?_)
          have n0 : w8.cell? ⟨s, 1, none⟩ = some (.slice none 0 0) := (blk_cell HS8.out 1).trans rfl
          have n1 : w8.frozen? ⟨s, 1, none⟩ = false := blk_frozen HS8.out 1
          go_simp
          refine hK _ _ ⟨HT.out _ (blk_far HG8.out (p := ⟨s, 1, none⟩) (Ne.symm HSG.out) _), ?_⟩
          clear hK n0 n1
          refine wpAnyH_done (by kernel_rfl) ?_ _
          go_wp2_with fail
          go_roundw
          case rel =>
            refine ⟨⟨HB8.out.setCell (p := ⟨s, 1, none⟩) HGS.out _⟩, .inr ⟨rfl, ⟨?_⟩⟩⟩
            have hnb : nb ≠ s := blk_ne HN8.out HS8.out (by decide)
            exact ⟨.slice A1 1 c1, .slice A2 1 c2, nb, .slice none 0 0, .slice none 0 0, blk_put HS8.out 1 _ rfl, Kd.R_set HP8.out HS8.out (by simp [Kd.raw]) 1 _, Kd.R_set HO8.out HS8.out (by simp [Kd.raw]) 1 _, blk_far HN8.out (p := ⟨s, 1, none⟩) hnb _, Sh.nil _ _ _, Sh.nil _ _ _, by simp [Value.ownBlock], HGS.out, HGE.out⟩
          case measure => simp [intOf]
        · refine wpOp_step rfl (fun K hK => ?_)
          go_simp
          refine (begin_calls n V6).mono ?_
          rintro e w7 ⟨nb, rfl, hn7, hge7, hb7⟩
          have hg7 := blk_below HG6.out hb7
          have hs7 := blk_below HS6.out hb7
          refine hK _ _ ⟨HT.out _ hg7, ?_⟩
          clear hK
          have HG7 := Aside0.mk hg7
          have HS7 := Aside0.mk hs7
          have HN7 := Aside0.mk hn7
          have HB7 := Aside0.mk (below_then HB6.out HB6.out.size hb7)
          have HO7 := Aside0.mk (Kd.R_below HO6.out hb7)
          have HGE := Aside0.mk (Nat.le_trans HB6.out.size hge7)
          clear hg7 hs7 hn7 hb7 hge7
          go_simp
          refine wpAnyH_all (rs := [4, 7]) (by kernel_rfl) (by simp) ?_
          intro i' hi'
          have hi2 : i' = 4 ∨ i' = 7 := by simpa using hi'
          rcases hi2 with rfl | rfl
          · refine wpOp_step rfl (fun K hK => ?_)
            have n0 : w7.cell? ⟨s, 1, none⟩ = some (.slice none 0 0) := (blk_cell HS7.out 1).trans rfl
            go_simp
            refine hK _ _ ⟨HT.out _ HG7.out, ?_⟩
            clear hK n0
            go_simp
            refine wpAnyH_all (rs := [7]) (by kernel_rfl) (by simp) ?_
            intro i' hi'
            obtain rfl : i' = 7 := by simpa using hi'
            refine wpOp_step rfl (fun K hK => ?_)
            go_simp
            refine hK _ _ ⟨HT.out _ (blk_alloc HG7.out _), ?_⟩
            clear hK
            go_simp
            refine wpAnyH_all (rs := [8]) (by kernel_rfl) (by simp) ?_
            intro i' hi'
            obtain rfl : i' = 8 := by simpa using hi'
            refine wpOp_step rfl (fun K hK => ?_)
            refine Kd.R_append_step (Kd.raw 1) (w0 := w) w.heap.size rfl (.tmp 46) (.tmp 49) 54 61 .nilIface 16 rfl Try.underlying54 inf61 rfl (by decide) (by omega) (.slice none 0 0) [] [.iface 74 (.pointer (some ⟨nb, 0, none⟩))] [.iface 74 (.pointer (some ⟨nb, 0, none⟩))] (fun k => w.heap.size ≤ k) (fun _ => False) rfl rfl ⟨rfl, rfl, by simp [Value.oneCell']⟩ (fun _ h => h.elim) (fun k hk => Nat.le_trans HB7.out.size hk) (Kd.R_nil _ _ _ _ _) HB7.out HB7.out.size (by simp) ?_
            intro v8 w8 ho hbw hg hat
            have hg8 := blk_grown HG7.out hg (by simp [Value.ownBlock])
            have hs8 := blk_grown HS7.out hg (by simp [Value.ownBlock])
            have hn8 := blk_grown HN7.out hg (by simp [Value.ownBlock])
            have ho4 := Kd.R_grown HO7.out hg (by simp [Value.ownBlock])
            refine hK _ _ ⟨HT.out _ hg8, ?_⟩
            clear hK
            obtain ⟨A2, c2, ev2⟩ := Kd.R_slice ho
            subst ev2
            rw [List.nil_append] at ho
            have HO8 := Aside0.mk ho
            have HG8 := Aside0.mk hg8
            have HS8 := Aside0.mk hs8
            have HB8 := Aside0.mk hbw
            have HN8 := Aside0.mk hn8
            have HP8 := Aside0.mk ho4
            clear ho hbw hg hat hg8 hs8 hn8 ho4
            go_simp
            refine wpAnyH_take (i := 9) (v := (.pointer (some ⟨s, 0, none⟩))) rfl (by kernel_rfl) (by kernel_rfl) (by kernel_rfl) (fun _ _ _ h => h) (Or.inl ⟨by kernel_rfl, fun V hV => ?_⟩) (HT.out _ HG8.out) ?_
            · go_simp
            refine wpAnyH_take (i := 10) (v := (.pointer (some ⟨s, 1, none⟩))) rfl (by kernel_rfl) (by kernel_rfl) (by kernel_rfl) (fun _ _ _ h => h) (Or.inl ⟨by kernel_rfl, fun V hV => ?_⟩) (HT.out _ HG8.out) ?_
            · go_simp
            go_simp
            refine wpAnyH_all (rs := [11]) (by kernel_rfl) (by simp) ?_
            intro i' hi'
            obtain rfl : i' = 11 := by simpa using hi'
            refine wpOp_step rfl (fun K hK => ?_)
            have n0 : w8.cell? ⟨s, 1, none⟩ = some (.slice none 0 0) := (blk_cell HS8.out 1).trans rfl
            have n1 : w8.frozen? ⟨s, 1, none⟩ = false := blk_frozen HS8.out 1
            go_simp
            refine hK _ _ ⟨HT.out _ (blk_far HG8.out (p := ⟨s, 1, none⟩) (Ne.symm HSG.out) _), ?_⟩
            clear hK n0 n1
            refine wpAnyH_done (by kernel_rfl) ?_ _
            go_wp2_with fail
            go_roundw
            case rel =>
              refine ⟨⟨HB8.out.setCell (p := ⟨s, 1, none⟩) HGS.out _⟩, .inr ⟨rfl, ⟨?_⟩⟩⟩
              have hnb : nb ≠ s := blk_ne HN8.out HS8.out (by decide)
              exact ⟨.slice A1 1 c1, .slice A2 1 c2, nb, .slice none 0 0, .slice none 0 0, blk_put HS8.out 1 _ rfl, Kd.R_set HP8.out HS8.out (by simp [Kd.raw]) 1 _, Kd.R_set HO8.out HS8.out (by simp [Kd.raw]) 1 _, blk_far HN8.out (p := ⟨s, 1, none⟩) hnb _, Sh.nil _ _ _, Sh.nil _ _ _, by simp [Value.ownBlock], HGS.out, HGE.out⟩
            case measure => simp [intOf]
          · refine wpOp_step rfl (fun K hK => ?_)
            go_simp
            refine hK _ _ ⟨HT.out _ (blk_alloc HG7.out _), ?_⟩
            clear hK
            go_simp
            refine wpAnyH_all (rs := [4]) (by kernel_rfl) (by simp) ?_
            intro i' hi'
            obtain rfl : i' = 4 := by simpa using hi'
            refine wpOp_step rfl (fun K hK => ?_)
            have n0 : (w7.alloc (.cells #[.iface 74 (.pointer (some ⟨nb, 0, none⟩))] 61)).cell? ⟨s, 1, none⟩ = some (.slice none 0 0) := (blk_cell (blk_alloc HS7.out _) 1).trans rfl
            go_simp
            refine hK _ _ ⟨HT.out _ (blk_alloc HG7.out _), ?_⟩
            clear hK n0
            go_simp
            refine wpAnyH_all (rs := [8]) (by kernel_rfl) (by simp) ?_
            intro i' hi'
            obtain rfl : i' = 8 := by simpa using hi'
            refine wpOp_step rfl (fun K hK => ?_)
            refine Kd.R_append_step (Kd.raw 1) (w0 := w) w.heap.size rfl (.tmp 46) (.tmp 49) 54 61 .nilIface 16 rfl Try.underlying54 inf61 rfl (by decide) (by omega) (.slice none 0 0) [] [.iface 74 (.pointer (some ⟨nb, 0, none⟩))] [.iface 74 (.pointer (some ⟨nb, 0, none⟩))] (fun k => w.heap.size ≤ k) (fun _ => False) rfl rfl ⟨rfl, rfl, by simp [Value.oneCell']⟩ (fun _ h => h.elim) (fun k hk => Nat.le_trans HB7.out.size hk) (Kd.R_nil _ _ _ _ _) HB7.out HB7.out.size (by simp) ?_
            intro v8 w8 ho hbw hg hat
            have hg8 := blk_grown HG7.out hg (by simp [Value.ownBlock])
            have hs8 := blk_grown HS7.out hg (by simp [Value.ownBlock])
            have hn8 := blk_grown HN7.out hg (by simp [Value.ownBlock])
            have ho4 := Kd.R_grown HO7.out hg (by simp [Value.ownBlock])
            refine hK _ _ ⟨HT.out _ hg8, ?_⟩
            clear hK
            obtain ⟨A2, c2, ev2⟩ := Kd.R_slice ho
            subst ev2
            rw [List.nil_append] at ho
            have HO8 := Aside0.mk ho
            have HG8 := Aside0.mk hg8
            have HS8 := Aside0.mk hs8
            have HB8 := Aside0.mk hbw
            have HN8 := Aside0.mk hn8
            have HP8 := Aside0.mk ho4
            clear ho hbw hg hat hg8 hs8 hn8 ho4
            go_simp
            refine wpAnyH_take (i := 9) (v := (.pointer (some ⟨s, 0, none⟩))) rfl (by kernel_rfl) (by kernel_rfl) (by kernel_rfl) (fun _ _ _ h => h) (Or.inl ⟨by kernel_rfl, fun V hV => ?_⟩) (HT.out _ HG8.out) ?_
            · go_simp
            refine wpAnyH_take (i := 10) (v := (.pointer (some ⟨s, 1, none⟩))) rfl (by kernel_rfl) (by kernel_rfl) (by kernel_rfl) (fun _ _ _ h => h) (Or.inl ⟨by kernel_rfl, fun V hV => ?_⟩) (HT.out _ HG8.out) ?_
            · go_simp
            go_simp
            refine wpAnyH_all (rs := [11]) (by kernel_rfl) (by simp) ?_
            intro i' hi'
            obtain rfl : i' = 11 := by simpa using hi'
            refine wpOp_step rfl (fun K hK => ?_)
            have n0 : w8.cell? ⟨s, 1, none⟩ = some (.slice none 0 0) := (blk_cell HS8.out 1).trans rfl
            have n1 : w8.frozen? ⟨s, 1, none⟩ = false := blk_frozen HS8.out 1
            go_simp
            refine hK _ _ ⟨HT.out _ (blk_far HG8.out (p := ⟨s, 1, none⟩) (Ne.symm HSG.out) _), ?_⟩
            clear hK n0 n1
            refine wpAnyH_done (by kernel_rfl) ?_ _
            go_wp2_with fail
            go_roundw
            case rel =>
              refine ⟨⟨HB8.out.setCell (p := ⟨s, 1, none⟩) HGS.out _⟩, .inr ⟨rfl, ⟨?_⟩⟩⟩
              have hnb : nb ≠ s := blk_ne HN8.out HS8.out (by decide)
              exact ⟨.slice A1 1 c1, .slice A2 1 c2, nb, .slice none 0 0, .slice none 0 0, blk_put HS8.out 1 _ rfl, Kd.R_set HP8.out HS8.out (by simp [Kd.raw]) 1 _, Kd.R_set HO8.out HS8.out (by simp [Kd.raw]) 1 _, blk_far HN8.out (p := ⟨s, 1, none⟩) hnb _, Sh.nil _ _ _, Sh.nil _ _ _, by simp [Value.ownBlock], HGS.out, HGE.out⟩
            case measure => simp [intOf]
    · go_wp2_with fail
      go_ret
      exact ⟨_, rfl, hS.out, hB.out⟩
end Go.Proofs.Ytdbhlfnpaloomaa.K
