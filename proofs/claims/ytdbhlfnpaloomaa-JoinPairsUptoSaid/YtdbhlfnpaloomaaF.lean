/- slices.Clone and copied at arrivals: rows of the call's own. -/
import Derived.Test.YtdbhlfnpaloomaaD
import Derived.WalkSpells
import Derived.Lib.SliceRun
namespace Go.Proofs.Ytdbhlfnpaloomaa.F
open Go.RowKit Go.Proofs.YtdbhlfnpaloomaaW.PrintWords Go.Proofs.YtdbhlfnpaloomaaW.PrintLast Go.Proofs.YtdbhlfnpaloomaaW.PrintMore
open Go.Proofs.Ytdbhlfnpaloomaa.PSame Go.Proofs.Ytdbhlfnpaloomaa.A Go.Proofs.Ytdbhlfnpaloomaa.B
set_option linter.unusedVariables false
set_option linter.unusedSimpArgs false

theorem R_lit0 {α : Type} (d : Kd α) (e : Nat) (W : World) (base : Nat) (hb : base ≤ W.heap.size) : d.R e (W.alloc (.cells #[] e)) base (fun _ => True) (.slice (some ⟨W.heap.size, 0, none⟩) 0 0) [] := by
  refine ⟨fun _ _ => trivial, ?_⟩
  have := OwnRow.lit (R := d.M (W.alloc (.cells #[] e)) base (fun k => True ∧ some k ≠ (Value.slice (some ⟨W.heap.size, 0, none⟩) 0 0).ownBlock)) (e := e) (size := d.sz) (ps := []) W base (inner := []) (Reps.none _ _) hb (by simp)
  exact this

theorem nil_of_none {α : Type} {d : Kd α} {w : World} {l : List α} (h : Kd.C d w none l.length l) : l = [] := by
  by_cases h0 : l.length = 0
  · exact List.eq_nil_of_length_eq_zero h0
  · obtain ⟨_, h1, _⟩ := h.2.2 (by omega)
    cases h1

set_option maxHeartbeats 2000000 in
theorem clone46_calls (l : List S46) (A : Option Addr) (c : Nat) (w : World) (hl : Kd.C k46 w A l.length l) (hc : l.length ≤ c) (hb : l.length ≤ 4194304) :
    Calls Try.prog 23 #[.slice A l.length c] w fun e w' => ∃ v, e = .returned v ∧ Kd.R k46 46 w' w.heap.size (fun _ => True) v l ∧ Below w.heap.size w w' := by
  have HL := Aside0.mk hl
  clear hl
  have q28 : ∀ (w : World) (a : Option Addr) (n c n' c' : Nat), (binOp .eql 28 (.slice a n c) (.slice none n' c')).run Try.prog w = .ok (.bool a.isNone) w := fun w a n c n' c' => Lib.run_eql_slice_nil w _ _ a n c n' c' Try.underlying28
  go_enter Try.func23, Try.ntmps23
  cases A with
  | none =>
    obtain rfl := nil_of_none HL.out
    go_wp2_with fail
    go_ret
    exact ⟨_, rfl, Kd.R_nil _ _ _ _ _, Below.refl _ _⟩
  | some ad =>
    have HR0 := Aside0.mk (R_lit0 k46 46 w w.heap.size (Nat.le_refl _))
    have hb0 : Below w.heap.size w (w.alloc (.cells #[] 46)) := (Below.refl _ _).alloc (Nat.le_refl _) _
    have HC := Aside0.mk (Kd.C_below HL.out hb0)
    have HB0 := Aside0.mk hb0
    clear hb0
    go_wp2_with ((with_reducible refine gate_builtin (b := .append) (xs := #[.tmp 5, .tmp 6]) rfl ?_); at_builtin; refine Kd.R_append_rows k46 (Rr := k46.K (w.alloc (.cells #[] 46))) (w0 := w) w.heap.size rfl (.tmp 5) (.tmp 6) 28 46 (.agg #[(.int .i64 0), (.int .i64 0), (.string ⟨#[]⟩)]) 32 rfl Try.underlying28 info46 rfl (by decide) (by omega) (.slice (some ⟨w.heap.size, 0, none⟩) 0 0) [] l (some ad) l.length c (fun _ => True) (fun k => True ∧ some k ≠ (Value.slice (some ⟨w.heap.size, 0, none⟩) 0 0).ownBlock) rfl rfl HR0.out HC.out (fun p q hp => by rw [k46_open hp]; exact k46_mkM _ _ _ p) (fun k hk => hk) (fun _ _ => trivial) HB0.out HB0.out.size (by simp; omega) ?_; intro v1 w1 ho hb hg hat; rw [List.nil_append] at ho; have HO := Aside0.mk ho; have HB := Aside0.mk hb; clear ho hb hg hat)
    go_ret
    exact ⟨_, rfl, HO.out, HB.out⟩

set_option maxHeartbeats 4000000 in
set_option maxRecDepth 100000 in
theorem copied26_calls (l : List S30) (A : Option Addr) (c : Nat) (w : World) (hl : Kd.C k30 w A l.length l) (hc : l.length ≤ c) (hn : l.length ≤ 2000000) (hr : ∀ a ∈ l, a.f2.length ≤ 4194304) :
    Calls Try.prog 26 #[.slice A l.length c] w fun e w' => ∃ v, e = .returned v ∧ Kd.R k30 30 w' w.heap.size (fun _ => True) v l ∧ Below w.heap.size w w' := by
  have HL := Aside0.mk hl
  clear hl
  go_enter Try.func26, Try.ntmps26
  go_wp2_with fail
  go_loopw [8, 3] (fun t8 t3 wr => ∃ i : Nat, i ≤ l.length ∧ t8 = .int .i64 i ∧ Aside0 (Kd.R k30 30 wr w.heap.size (fun _ => True) t3 (l.take i)) ∧ Aside0 (Below w.heap.size w wr)) (fun t8 _ _ => l.length - (intOf t8).toNat)
  case atStart => exact ⟨0, Nat.zero_le _, rfl, ⟨Kd.R_nil _ _ _ _ _⟩, ⟨Below.refl _ _⟩⟩
  case round =>
    obtain ⟨i, hi, rfl, hR, hB⟩ := hrel
    by_cases hlt : i < l.length
    · obtain ⟨x, ad, A2, c2, hxi, rfl, g0, g1, g2, hl2, hC2⟩ := at30 HL.out i hlt
      have HC2 := Aside0.mk hC2
      replace g0 := pw_cell_below hB.out g0
      replace g1 := pw_cell_below hB.out g1
      replace g2 := pw_cell_below hB.out g2
      have hxm : x = l[i] := by rw [← hxi.out]; simp [List.getD_eq_getElem?_getD, List.getElem?_eq_getElem hlt]
      have HXM := Aside0.mk hxm
      have fx := hr x (by rw [hxm]; exact List.getElem_mem hlt)
      clear hC2 hxi hxm
      obtain ⟨P, hP⟩ : ∃ P, P = l.take i := ⟨_, rfl⟩
      have hpl : P.length ≤ 2000000 := by rw [hP, List.length_take]; omega
      rw [← hP] at hR
      have HP := Aside0.mk hP
      clear hP
      obtain ⟨Ao, co, e5⟩ := Kd.R_slice hR.out
      subst e5
      go_wp2_with fail
      obtain ⟨wa, hwa⟩ : ∃ wa : World, wa = wr.alloc (.cells #[.int .i64 x.f0, .int .i64 x.f1, .slice A2 x.f2.length c2] 30) := ⟨_, rfl⟩
      have hBa : Below wr.heap.size wr wa := by rw [hwa]; exact (Below.refl _ _).alloc (Nat.le_refl _) _
      have hbx : wa.heap[wr.heap.size]? = some (.cells #[.int .i64 x.f0, .int .i64 x.f1, .slice A2 x.f2.length c2] 30 (0, 0)) := by rw [hwa]; exact blk_new _ _
      have hRa : Kd.R k30 30 wa w.heap.size (fun k => True ∧ k ≠ wr.heap.size) (.slice Ao P.length co) P := Kd.R_below (Kd.R_elderB hR.out wr.heap.size (Nat.le_refl _)) hBa
      rw [← hwa]
      have HBa := Aside0.mk (below_then hB.out hB.out.size hBa)
      have HRa := Aside0.mk hRa
      have HBX := Aside0.mk hbx
      have hge : w.heap.size ≤ wr.heap.size := hB.out.size
      obtain ⟨ba, hba⟩ : ∃ ba, ba = wr.heap.size := ⟨_, rfl⟩
      rw [← hba] at HRa HBX hge ⊢
      clear hwa hBa hbx hRa hba g0 g1 g2
      have HCL := Aside0.mk (clone46_calls x.f2 A2 c2 wa (Kd.C_below HC2.out HBa.out) hl2 fx)
      have g2 : wa.cell? ⟨ba, 2, none⟩ = some (.slice A2 x.f2.length c2) := (blk_cell HBX.out 2).trans rfl
      go_wp2_with (first | (go_at_call 23; refine HCL.out.mono ?_; rintro e w1 ⟨v2, rfl, hv2, hb1⟩; obtain ⟨A6, c6, e6⟩ := Kd.R_slice hv2; subst e6; have hx1 := blk_below HBX.out hb1; have k2 : w1.cell? ⟨ba, 2, none⟩ = some (.slice A2 x.f2.length c2) := (blk_cell hx1 2).trans rfl; have kf : w1.frozen? ⟨ba, 2, none⟩ = false := blk_frozen hx1 2; have hx2 : (w1.setCell ⟨ba, 2, none⟩ (.slice A6 x.f2.length c6)).heap[ba]? = some (.cells #[.int .i64 x.f0, .int .i64 x.f1, .slice A6 x.f2.length c6] 30 (0, 0)) := blk_put hx1 2 _ rfl; have s0 : (w1.setCell ⟨ba, 2, none⟩ (.slice A6 x.f2.length c6)).cell? ⟨ba, 0, none⟩ = some (.int .i64 x.f0) := (blk_cell hx2 0).trans rfl; have s1 : (w1.setCell ⟨ba, 2, none⟩ (.slice A6 x.f2.length c6)).cell? ⟨ba, 1, none⟩ = some (.int .i64 x.f1) := (blk_cell hx2 1).trans rfl; have s2 : (w1.setCell ⟨ba, 2, none⟩ (.slice A6 x.f2.length c6)).cell? ⟨ba, 2, none⟩ = some (.slice A6 x.f2.length c6) := (blk_cell hx2 2).trans rfl; have HV2 := Aside0.mk hv2; have HB1 := Aside0.mk hb1; have HX1 := Aside0.mk hx1; have HX2 := Aside0.mk hx2; clear hv2 hb1 g2 hx1 hx2; have HSZ : Aside0 ((w1.setCell ⟨ba, 2, none⟩ (.slice A6 x.f2.length c6)).heap.size = w1.heap.size) := ⟨by simp [World.setCell]⟩; have HB2 : Aside0 (Below w.heap.size w (w1.setCell ⟨ba, 2, none⟩ (.slice A6 x.f2.length c6))) := ⟨(below_then HBa.out HBa.out.size HB1.out).setCell (p := ⟨ba, 2, none⟩) hge _⟩; have HR2 : Aside0 (Kd.R k30 30 (w1.setCell ⟨ba, 2, none⟩ (.slice A6 x.f2.length c6)) w.heap.size (fun k => True ∧ k ≠ ba) (.slice Ao P.length co) P) := ⟨Kd.R_far (p := ⟨ba, 2, none⟩) (Kd.R_below HRa.out HB1.out) (fun _ hk => hk.2) _⟩; have HV3 : Aside0 (Kd.R k46 46 (w1.setCell ⟨ba, 2, none⟩ (.slice A6 x.f2.length c6)) w.heap.size (fun k => (True ∧ k ≠ ba) ∧ some k ≠ (Value.slice Ao P.length co).ownBlock) (.slice A6 x.f2.length c6) x.f2) := ⟨Kd.R_lower (Kd.R_far (p := ⟨ba, 2, none⟩) (Kd.R_mono (ok' := fun k => (True ∧ k ≠ ba) ∧ some k ≠ (Value.slice Ao P.length co).ownBlock) (Kd.R_bound HV2.out) (fun k hk => ⟨⟨trivial, by have := blk_lt HBX.out; have := hk.2.1; omega⟩, fun e => by have := Kd.R_lt HRa.out k e.symm; have := hk.2.1; omega⟩)) (fun _ hk => hk.1.2) _) HBa.out.size⟩; have HFR : Aside0 (∀ k, (w1.setCell ⟨ba, 2, none⟩ (.slice A6 x.f2.length c6)).heap.size ≤ k → True ∧ k ≠ ba) := ⟨fun k hk => ⟨trivial, fun e => by have := blk_lt HX2.out; omega⟩⟩) | ((with_reducible refine gate_builtin (b := .append) (xs := #[.tmp 16, .tmp 18]) rfl ?_); at_builtin; refine Kd.R_append k30 (w0 := w) w.heap.size rfl (.tmp 16) (.tmp 18) 22 30 (.agg #[(.int .i64 0), (.int .i64 0), (.slice none 0 0)]) 40 rfl Try.underlying22 inf30 rfl (by decide) (by omega) (.slice Ao P.length co) P x [.int .i64 x.f0, .int .i64 x.f1, .slice A6 x.f2.length c6] (fun k => True ∧ k ≠ ba) (fun k => (True ∧ k ≠ ba) ∧ some k ≠ (Value.slice Ao P.length co).ownBlock) rfl (congrArg (fun n => Value.slice (some ⟨n, 0, none⟩) 1 1) HSZ.out.symm) (k30_mkM _ _ _ x HV3.out) (fun _ h => h) HFR.out HR2.out HB2.out HB2.out.size (by omega) ?_; intro v7 w7 ho hb hg hat; have HO7 := Aside0.mk ho; have HB7 := Aside0.mk hb; clear ho hb hg hat))
      go_roundw
      case rel =>
        refine ⟨i + 1, hlt, by go_num, ⟨?_⟩, HB7⟩
        have he : l.take (i + 1) = P ++ [x] := by rw [List.take_succ_eq_append_getElem hlt, ← HP.out, ← HXM.out]
        rw [he]
        exact Kd.R_mono HO7.out (fun _ hk => hk.1)
      case measure => simp [intOf]; omega
    · go_wp2_with fail
      go_ret
      have hi0 : i = l.length := by omega
      have := hR.out
      rw [hi0, List.take_length] at this
      exact ⟨_, rfl, this, hB.out⟩

set_option maxHeartbeats 4000000 in
set_option maxRecDepth 100000 in
theorem copied30_calls (l : List S30) (A : Option Addr) (c : Nat) (w : World) (hl : Kd.C k30 w A l.length l) (hc : l.length ≤ c) (hn : l.length ≤ 2000000) (hr : ∀ a ∈ l, a.f2.length ≤ 4194304) :
    Calls Try.prog 30 #[.slice A l.length c] w fun e w' => ∃ v, e = .returned v ∧ Kd.R k30 30 w' w.heap.size (fun _ => True) v l ∧ Below w.heap.size w w' := by
  have HL := Aside0.mk hl
  clear hl
  go_enter Try.func30, Try.ntmps30
  go_wp2_with fail
  go_loopw [8, 3] (fun t8 t3 wr => ∃ i : Nat, i ≤ l.length ∧ t8 = .int .i64 i ∧ Aside0 (Kd.R k30 30 wr w.heap.size (fun _ => True) t3 (l.take i)) ∧ Aside0 (Below w.heap.size w wr)) (fun t8 _ _ => l.length - (intOf t8).toNat)
  case atStart => exact ⟨0, Nat.zero_le _, rfl, ⟨Kd.R_nil _ _ _ _ _⟩, ⟨Below.refl _ _⟩⟩
  case round =>
    obtain ⟨i, hi, rfl, hR, hB⟩ := hrel
    by_cases hlt : i < l.length
    · obtain ⟨x, ad, A2, c2, hxi, rfl, g0, g1, g2, hl2, hC2⟩ := at30 HL.out i hlt
      have HC2 := Aside0.mk hC2
      replace g0 := pw_cell_below hB.out g0
      replace g1 := pw_cell_below hB.out g1
      replace g2 := pw_cell_below hB.out g2
      have hxm : x = l[i] := by rw [← hxi.out]; simp [List.getD_eq_getElem?_getD, List.getElem?_eq_getElem hlt]
      have HXM := Aside0.mk hxm
      have fx := hr x (by rw [hxm]; exact List.getElem_mem hlt)
      clear hC2 hxi hxm
      obtain ⟨P, hP⟩ : ∃ P, P = l.take i := ⟨_, rfl⟩
      have hpl : P.length ≤ 2000000 := by rw [hP, List.length_take]; omega
      rw [← hP] at hR
      have HP := Aside0.mk hP
      clear hP
      obtain ⟨Ao, co, e5⟩ := Kd.R_slice hR.out
      subst e5
      go_wp2_with fail
      obtain ⟨wa, hwa⟩ : ∃ wa : World, wa = wr.alloc (.cells #[.int .i64 x.f0, .int .i64 x.f1, .slice A2 x.f2.length c2] 30) := ⟨_, rfl⟩
      have hBa : Below wr.heap.size wr wa := by rw [hwa]; exact (Below.refl _ _).alloc (Nat.le_refl _) _
      have hbx : wa.heap[wr.heap.size]? = some (.cells #[.int .i64 x.f0, .int .i64 x.f1, .slice A2 x.f2.length c2] 30 (0, 0)) := by rw [hwa]; exact blk_new _ _
      have hRa : Kd.R k30 30 wa w.heap.size (fun k => True ∧ k ≠ wr.heap.size) (.slice Ao P.length co) P := Kd.R_below (Kd.R_elderB hR.out wr.heap.size (Nat.le_refl _)) hBa
      rw [← hwa]
      have HBa := Aside0.mk (below_then hB.out hB.out.size hBa)
      have HRa := Aside0.mk hRa
      have HBX := Aside0.mk hbx
      have hge : w.heap.size ≤ wr.heap.size := hB.out.size
      obtain ⟨ba, hba⟩ : ∃ ba, ba = wr.heap.size := ⟨_, rfl⟩
      rw [← hba] at HRa HBX hge ⊢
      clear hwa hBa hbx hRa hba g0 g1 g2
      have HCL := Aside0.mk (clone46_calls x.f2 A2 c2 wa (Kd.C_below HC2.out HBa.out) hl2 fx)
      have g2 : wa.cell? ⟨ba, 2, none⟩ = some (.slice A2 x.f2.length c2) := (blk_cell HBX.out 2).trans rfl
      go_wp2_with (first | (go_at_call 23; refine HCL.out.mono ?_; rintro e w1 ⟨v2, rfl, hv2, hb1⟩; obtain ⟨A6, c6, e6⟩ := Kd.R_slice hv2; subst e6; have hx1 := blk_below HBX.out hb1; have k2 : w1.cell? ⟨ba, 2, none⟩ = some (.slice A2 x.f2.length c2) := (blk_cell hx1 2).trans rfl; have kf : w1.frozen? ⟨ba, 2, none⟩ = false := blk_frozen hx1 2; have hx2 : (w1.setCell ⟨ba, 2, none⟩ (.slice A6 x.f2.length c6)).heap[ba]? = some (.cells #[.int .i64 x.f0, .int .i64 x.f1, .slice A6 x.f2.length c6] 30 (0, 0)) := blk_put hx1 2 _ rfl; have s0 : (w1.setCell ⟨ba, 2, none⟩ (.slice A6 x.f2.length c6)).cell? ⟨ba, 0, none⟩ = some (.int .i64 x.f0) := (blk_cell hx2 0).trans rfl; have s1 : (w1.setCell ⟨ba, 2, none⟩ (.slice A6 x.f2.length c6)).cell? ⟨ba, 1, none⟩ = some (.int .i64 x.f1) := (blk_cell hx2 1).trans rfl; have s2 : (w1.setCell ⟨ba, 2, none⟩ (.slice A6 x.f2.length c6)).cell? ⟨ba, 2, none⟩ = some (.slice A6 x.f2.length c6) := (blk_cell hx2 2).trans rfl; have HV2 := Aside0.mk hv2; have HB1 := Aside0.mk hb1; have HX1 := Aside0.mk hx1; have HX2 := Aside0.mk hx2; clear hv2 hb1 g2 hx1 hx2; have HSZ : Aside0 ((w1.setCell ⟨ba, 2, none⟩ (.slice A6 x.f2.length c6)).heap.size = w1.heap.size) := ⟨by simp [World.setCell]⟩; have HB2 : Aside0 (Below w.heap.size w (w1.setCell ⟨ba, 2, none⟩ (.slice A6 x.f2.length c6))) := ⟨(below_then HBa.out HBa.out.size HB1.out).setCell (p := ⟨ba, 2, none⟩) hge _⟩; have HR2 : Aside0 (Kd.R k30 30 (w1.setCell ⟨ba, 2, none⟩ (.slice A6 x.f2.length c6)) w.heap.size (fun k => True ∧ k ≠ ba) (.slice Ao P.length co) P) := ⟨Kd.R_far (p := ⟨ba, 2, none⟩) (Kd.R_below HRa.out HB1.out) (fun _ hk => hk.2) _⟩; have HV3 : Aside0 (Kd.R k46 46 (w1.setCell ⟨ba, 2, none⟩ (.slice A6 x.f2.length c6)) w.heap.size (fun k => (True ∧ k ≠ ba) ∧ some k ≠ (Value.slice Ao P.length co).ownBlock) (.slice A6 x.f2.length c6) x.f2) := ⟨Kd.R_lower (Kd.R_far (p := ⟨ba, 2, none⟩) (Kd.R_mono (ok' := fun k => (True ∧ k ≠ ba) ∧ some k ≠ (Value.slice Ao P.length co).ownBlock) (Kd.R_bound HV2.out) (fun k hk => ⟨⟨trivial, by have := blk_lt HBX.out; have := hk.2.1; omega⟩, fun e => by have := Kd.R_lt HRa.out k e.symm; have := hk.2.1; omega⟩)) (fun _ hk => hk.1.2) _) HBa.out.size⟩; have HFR : Aside0 (∀ k, (w1.setCell ⟨ba, 2, none⟩ (.slice A6 x.f2.length c6)).heap.size ≤ k → True ∧ k ≠ ba) := ⟨fun k hk => ⟨trivial, fun e => by have := blk_lt HX2.out; omega⟩⟩) | ((with_reducible refine gate_builtin (b := .append) (xs := #[.tmp 16, .tmp 18]) rfl ?_); at_builtin; refine Kd.R_append k30 (w0 := w) w.heap.size rfl (.tmp 16) (.tmp 18) 22 30 (.agg #[(.int .i64 0), (.int .i64 0), (.slice none 0 0)]) 40 rfl Try.underlying22 inf30 rfl (by decide) (by omega) (.slice Ao P.length co) P x [.int .i64 x.f0, .int .i64 x.f1, .slice A6 x.f2.length c6] (fun k => True ∧ k ≠ ba) (fun k => (True ∧ k ≠ ba) ∧ some k ≠ (Value.slice Ao P.length co).ownBlock) rfl (congrArg (fun n => Value.slice (some ⟨n, 0, none⟩) 1 1) HSZ.out.symm) (k30_mkM _ _ _ x HV3.out) (fun _ h => h) HFR.out HR2.out HB2.out HB2.out.size (by omega) ?_; intro v7 w7 ho hb hg hat; have HO7 := Aside0.mk ho; have HB7 := Aside0.mk hb; clear ho hb hg hat))
      go_roundw
      case rel =>
        refine ⟨i + 1, hlt, by go_num, ⟨?_⟩, HB7⟩
        have he : l.take (i + 1) = P ++ [x] := by rw [List.take_succ_eq_append_getElem hlt, ← HP.out, ← HXM.out]
        rw [he]
        exact Kd.R_mono HO7.out (fun _ hk => hk.1)
      case measure => simp [intOf]; omega
    · go_wp2_with fail
      go_ret
      have hi0 : i = l.length := by omega
      have := hR.out
      rw [hi0, List.take_length] at this
      exact ⟨_, rfl, this, hB.out⟩
end Go.Proofs.Ytdbhlfnpaloomaa.F
