/- join.Pairs: the pairs of two contents. -/
import Derived.Test.YtdbhlfnpaloomaaA
namespace Go.Proofs.Ytdbhlfnpaloomaa.B
open Go.RowKit Go.Proofs.YtdbhlfnpaloomaaW.PrintWords Go.Proofs.YtdbhlfnpaloomaaW.PrintLast Go.Proofs.YtdbhlfnpaloomaaW.PrintMore
open Go.Proofs.Ytdbhlfnpaloomaa.PSame Go.Proofs.Ytdbhlfnpaloomaa.A
attribute [local go_sem] max2_int min2_int max_two min_two
set_option linter.unusedVariables false
set_option linter.unusedSimpArgs false

/-- The element at k: its three cells. -/
theorem at30 {w : World} {A : Option Addr} {n : Nat} {xs : List S30} (h : Kd.C k30 w A n xs) (k : Nat) (h1 : k < n) : ∃ x ad A2 c2, Aside0 (xs.getD k z30 = x) ∧ A = some ad ∧ w.cell? (ad.add (k * 3)) = some (.int .i64 x.f0) ∧ w.cell? ⟨(ad.add (k * 3)).block, (ad.add (k * 3)).off + 1, none⟩ = some (.int .i64 x.f1) ∧ w.cell? ⟨(ad.add (k * 3)).block, (ad.add (k * 3)).off + 2, none⟩ = some (.slice A2 x.f2.length c2) ∧ x.f2.length ≤ c2 ∧ Kd.C k46 w A2 x.f2.length x.f2 := by
  obtain ⟨ad, A2, c2, h⟩ := at_T30 h (k : Int) (by omega) (by omega)
  exact ⟨_, ad, A2, c2, ⟨rfl⟩, by simpa only [rd_T30, Int.toNat_natCast] using h⟩

theorem inf30 : (Try.prog.info? 30).map (fun i => (i.zero, i.size, i.bytes)) = some (some (.agg #[(.int .i64 0), (.int .i64 0), (.slice none 0 0)]), 3, 40) := by kernel_rfl
def pairOf (a b : S30) : S30 := ⟨a.f0 * 2147483648 + b.f0, mx a.f1 b.f1, a.f2 ++ b.f2⟩
def pairs (l r : List S30) : List S30 := l.flatMap fun a => r.map (pairOf a)

/-- What the contents are like: numbers of an arrival, rows not too long. -/
def Fine (l : List S30) : Prop := l.length ≤ 1000 ∧ ∀ a ∈ l, 0 ≤ a.f0 ∧ a.f0 ≤ 1073741824 ∧ a.f2.length ≤ 2097152

theorem append_step {P : Program} {ops : Array Oper} {o : Oper} {a : Act} {w w' : World} {K : Act → World → Prop} {Q : Exit → Act → World → Prop} {E : Prop} (hg : o.guard = none) (t : TypeId) (s x : Operand) (ho : o.op = .call { callee := .builtin .append, args := #[s, x], argTypes := #[t, t] }) {vs vx v : Value} (hs : a.eval s = vs) (hx : a.eval x = vx)
    (hrun : (Builtin.append_ #[t, t] o.type #[vs, vx]).run P w = .ok v w') (hK : K (a.put o.dst v) w') : if Region.wanted o (yielded ops a.tmps) = true then Oper.wp P o a w K Q else E := by
  rw [if_pos (by simp [Region.wanted, hg])]
  unfold Oper.wp execOp
  simp only [ho, resolve, invoke, builtin, Sem.run_bind, Sem.run_pure, Result.andThen_ok, List.map_toArray, List.map_cons, List.map_nil, hs, hx, hrun]
  exact hK

set_option maxHeartbeats 8000000 in
set_option maxRecDepth 100000 in
theorem pairs_calls (l r : List S30) (A B : Option Addr) (c d : Nat) (w : World) (hl : Kd.C k30 w A l.length l) (hc : l.length ≤ c) (hr : Kd.C k30 w B r.length r) (hd : r.length ≤ d) (fl : Fine l) (fr : Fine r) :
    Calls Try.prog 5 #[.slice A l.length c, .slice B r.length d] w fun e w' => ∃ v, e = .returned v ∧ Kd.R k30 30 w' w.heap.size (fun _ => True) v (pairs l r) ∧ Below w.heap.size w w' := by
  have HL := Aside0.mk hl
  have HR := Aside0.mk hr
  have hlm : l.length ≤ 1000 := fl.1
  have hrm : r.length ≤ 1000 := fr.1
  clear hl hr
  go_enter Try.func5, Try.ntmps5
  go_wp2_with fail
  go_loopw [13, 5] (fun t13 t5 wr => ∃ i : Nat, i ≤ l.length ∧ t13 = .int .i64 i ∧ Aside0 (Kd.R k30 30 wr w.heap.size (fun _ => True) t5 (pairs (l.take i) r)) ∧ Aside0 (Below w.heap.size w wr)) (fun t13 _ _ => l.length - (intOf t13).toNat)
  case atStart => exact ⟨0, Nat.zero_le _, rfl, ⟨Kd.R_nil _ _ _ _ _⟩, ⟨Below.refl _ _⟩⟩
  case round =>
    obtain ⟨i, hi, rfl, hR, hB⟩ := hrel
    by_cases hlt : i < l.length
    · obtain ⟨x, ad, A2, c2, hxi, rfl, g0, g1, g2, hl2, hC2⟩ := at30 HL.out i hlt
      have HC2 := Aside0.mk hC2
      replace g0 := pw_cell_below hB.out g0
      replace g1 := pw_cell_below hB.out g1
      replace g2 := pw_cell_below hB.out g2
      have hxm : x = l[i] := by rw [← hxi.out]; simp [List.getD_eq_getElem?_getD, List.getElem?_eq_getElem hlt]
      have HXM := Aside0.mk hxm
      have fx := fl.2 x (by rw [hxm]; exact List.getElem_mem hlt)
      clear hC2 hxi hxm
      go_wp2_with fail
      obtain ⟨wa, hwa⟩ : ∃ wa : World, wa = wr.alloc (.cells #[.int .i64 x.f0, .int .i64 x.f1, .slice A2 x.f2.length c2] 30) := ⟨_, rfl⟩
      have hBa : Below wr.heap.size wr wa := by rw [hwa]; exact (Below.refl _ _).alloc (Nat.le_refl _) _
      have hbx : wa.heap[wr.heap.size]? = some (.cells #[.int .i64 x.f0, .int .i64 x.f1, .slice A2 x.f2.length c2] 30 (0, 0)) := by rw [hwa]; exact blk_new _ _
      have hRa : Kd.R k30 30 wa w.heap.size (fun k => True ∧ k ≠ wr.heap.size) u5 (pairs (l.take i) r) := Kd.R_below (Kd.R_elderB hR.out wr.heap.size (Nat.le_refl _)) hBa
      rw [← hwa]
      have HBa := Aside0.mk (below_then hB.out hB.out.size hBa)
      have HRa := Aside0.mk hRa
      have HBX := Aside0.mk hbx
      have hge : w.heap.size ≤ wr.heap.size := hB.out.size
      obtain ⟨ba, hba⟩ : ∃ ba, ba = wr.heap.size := ⟨_, rfl⟩
      rw [← hba] at HRa HBX hge ⊢
      clear hwa hBa hbx hRa hba g0 g1 g2
      go_loopw [19, 5] (fun t19 t5 wq => ∃ k : Nat, k ≤ r.length ∧ t19 = .int .i64 k ∧ Aside0 (Kd.R k30 30 wq w.heap.size (fun k => True ∧ k ≠ ba) t5 (pairs (l.take i) r ++ (r.take k).map (pairOf x))) ∧ Aside0 (Below w.heap.size w wq) ∧ Aside0 (wq.heap[ba]? = some (.cells #[.int .i64 x.f0, .int .i64 x.f1, .slice A2 x.f2.length c2] 30 (0, 0)))) (fun t19 _ _ => r.length - (intOf t19).toNat)
      case atStart => exact ⟨0, Nat.zero_le _, rfl, ⟨by simpa using HRa.out⟩, HBa, HBX⟩
      case round =>
        obtain ⟨k, hk, rfl, hRk, hBk, hbk⟩ := hrel
        by_cases hkl : k < r.length
        · obtain ⟨P, hP⟩ : ∃ P, P = pairs (l.take i) r ++ (r.take k).map (pairOf x) := ⟨_, rfl⟩
          have hpl : P.length ≤ 1001000 := by
            have h1 : ∀ l' : List S30, (pairs l' r).length = l'.length * r.length := by
              intro l'
              induction l' with
              | nil => simp [pairs]
              | cons a l' ih => simp only [pairs, List.flatMap_cons, List.length_append, List.length_map, List.length_cons] at ih ⊢; rw [ih, Nat.add_mul, Nat.one_mul, Nat.add_comm]
            rw [hP, List.length_append, List.length_map, h1, List.length_take, List.length_take]
            have h2 : min i l.length * r.length ≤ 1000 * 1000 := Nat.mul_le_mul (by omega) hrm
            omega
          rw [← hP] at hRk
          have HP := Aside0.mk hP
          clear hP
          obtain ⟨Ao, co, e5⟩ := Kd.R_slice hRk.out
          subst e5
          obtain ⟨y, bd, A3, c3, hyk, rfl, m0, m1, m2, hl3, hC3⟩ := at30 HR.out k hkl
          have HC3 := Aside0.mk hC3
          replace m0 := pw_cell_below hBk.out m0
          replace m1 := pw_cell_below hBk.out m1
          replace m2 := pw_cell_below hBk.out m2
          have hym : y = r[k] := by rw [← hyk.out]; simp [List.getD_eq_getElem?_getD, List.getElem?_eq_getElem hkl]
          have HYM := Aside0.mk hym
          have fy := fr.2 y (by rw [hym]; exact List.getElem_mem hkl)
          clear hC3 hyk hym
          go_wp2_with fail
          obtain ⟨wb, hwb⟩ : ∃ wb : World, wb = wr.alloc (.cells #[.int .i64 y.f0, .int .i64 y.f1, .slice A3 y.f2.length c3] 30) := ⟨_, rfl⟩
          have hBb : Below wr.heap.size wr wb := by rw [hwb]; exact (Below.refl _ _).alloc (Nat.le_refl _) _
          have hby : wb.heap[wr.heap.size]? = some (.cells #[.int .i64 y.f0, .int .i64 y.f1, .slice A3 y.f2.length c3] 30 (0, 0)) := by rw [hwb]; exact blk_new _ _
          have hRb : Kd.R k30 30 wb w.heap.size (fun k => (True ∧ k ≠ ba) ∧ k ≠ wr.heap.size) (.slice Ao P.length co) P := Kd.R_below (Kd.R_elderB hRk.out wr.heap.size (Nat.le_refl _)) hBb
          rw [← hwb]
          have HBb := Aside0.mk (below_then hBk.out hBk.out.size hBb)
          have HRb := Aside0.mk hRb
          have HBY := Aside0.mk hby
          have HBXb := Aside0.mk (blk_below hbk.out hBb)
          have hne : ba ≠ wr.heap.size := Nat.ne_of_lt (blk_lt hbk.out)
          have hge2 : w.heap.size ≤ wr.heap.size := hBk.out.size
          obtain ⟨gb, hgb⟩ : ∃ gb, gb = wr.heap.size := ⟨_, rfl⟩
          rw [← hgb] at HRb HBY hne hge2 ⊢
          clear hwb hBb hby hRb hgb m0 m1 m2
          have HS : ∀ V, Below wb.heap.size wb V → (V.cell? ⟨ba, 2, none⟩ = some (.slice A2 x.f2.length c2) ∧ V.cell? ⟨gb, 2, none⟩ = some (.slice A3 y.f2.length c3)) := fun V hV => ⟨(blk_cell (blk_below HBXb.out hV) 2).trans rfl, (blk_cell (blk_below HBY.out hV) 2).trans rfl⟩
          refine wp_region_held (S := fun V => V.cell? ⟨ba, 2, none⟩ = some (.slice A2 x.f2.length c2) ∧ V.cell? ⟨gb, 2, none⟩ = some (.slice A3 y.f2.length c3)) (by kernel_rfl) ?_
          obtain ⟨V0, hV0⟩ : ∃ V0 : World, V0 = { wb with drawn := wb.drawn + 1 } := ⟨_, rfl⟩
          have hB0 : Below wb.heap.size wb V0 := by rw [hV0]; exact ⟨rfl, rfl, rfl, Nat.le_refl _, fun _ _ => rfl⟩
          rw [← hV0]
          have HSS := Aside0.mk HS
          have HB0 := Aside0.mk hB0
          clear hV0 HS hB0
          refine wpAnyH_take (i := 0) (v := .pointer (some ⟨ba, 2, none⟩)) rfl (by kernel_rfl) (by kernel_rfl) (by kernel_rfl) (fun _ _ _ h => h) (Or.inl ⟨rfl, fun V hV => ?_⟩) (HSS.out _ HB0.out) ?_
          · obtain ⟨p0, p1⟩ := hV
            go_simp
          refine wpAnyH_take (i := 1) (v := .slice A2 x.f2.length c2) rfl (by kernel_rfl) (by kernel_rfl) (by kernel_rfl) (fun _ _ _ h => h) (Or.inl ⟨rfl, fun V hV => ?_⟩) (HSS.out _ HB0.out) ?_
          · obtain ⟨p0, p1⟩ := hV
            go_simp
          refine wpAnyH_take (i := 2) (v := .pointer (some ⟨ba, 2, none⟩)) rfl (by kernel_rfl) (by kernel_rfl) (by kernel_rfl) (fun _ _ _ h => h) (Or.inl ⟨rfl, fun V hV => ?_⟩) (HSS.out _ HB0.out) ?_
          · obtain ⟨p0, p1⟩ := hV
            go_simp
          refine wpAnyH_take (i := 3) (v := .slice A2 x.f2.length c2) rfl (by kernel_rfl) (by kernel_rfl) (by kernel_rfl) (fun _ _ _ h => h) (Or.inl ⟨rfl, fun V hV => ?_⟩) (HSS.out _ HB0.out) ?_
          · obtain ⟨p0, p1⟩ := hV
            go_simp
          refine wpAnyH_take (i := 4) (v := .int .i64 x.f2.length) rfl (by kernel_rfl) (by kernel_rfl) (by kernel_rfl) (fun _ _ _ h => h) (Or.inl ⟨rfl, fun V hV => ?_⟩) (HSS.out _ HB0.out) ?_
          · obtain ⟨p0, p1⟩ := hV
            go_simp
          refine wpAnyH_take (i := 5) (v := .pointer (some ⟨ba, 2, none⟩)) rfl (by kernel_rfl) (by kernel_rfl) (by kernel_rfl) (fun _ _ _ h => h) (Or.inl ⟨rfl, fun V hV => ?_⟩) (HSS.out _ HB0.out) ?_
          · obtain ⟨p0, p1⟩ := hV
            go_simp
          refine wpAnyH_take (i := 6) (v := .slice A2 x.f2.length c2) rfl (by kernel_rfl) (by kernel_rfl) (by kernel_rfl) (fun _ _ _ h => h) (Or.inl ⟨rfl, fun V hV => ?_⟩) (HSS.out _ HB0.out) ?_
          · obtain ⟨p0, p1⟩ := hV
            go_simp
          refine wpAnyH_take (i := 7) (v := .int .i64 x.f2.length) rfl (by kernel_rfl) (by kernel_rfl) (by kernel_rfl) (fun _ _ _ h => h) (Or.inl ⟨rfl, fun V hV => ?_⟩) (HSS.out _ HB0.out) ?_
          · obtain ⟨p0, p1⟩ := hV
            go_simp
          refine wpAnyH_take (i := 8) (v := .slice A2 x.f2.length x.f2.length) rfl (by kernel_rfl) (by kernel_rfl) (by kernel_rfl) (fun _ _ _ h => h) (Or.inl ⟨rfl, fun V hV => ?_⟩) (HSS.out _ HB0.out) ?_
          · obtain ⟨p0, p1⟩ := hV
            go_simp
          refine wpAnyH_take (i := 9) (v := .pointer (some ⟨gb, 2, none⟩)) rfl (by kernel_rfl) (by kernel_rfl) (by kernel_rfl) (fun _ _ _ h => h) (Or.inl ⟨rfl, fun V hV => ?_⟩) (HSS.out _ HB0.out) ?_
          · obtain ⟨p0, p1⟩ := hV
            go_simp
          refine wpAnyH_take (i := 10) (v := .slice A3 y.f2.length c3) rfl (by kernel_rfl) (by kernel_rfl) (by kernel_rfl) (fun _ _ _ h => h) (Or.inl ⟨rfl, fun V hV => ?_⟩) (HSS.out _ HB0.out) ?_
          · obtain ⟨p0, p1⟩ := hV
            go_simp
          go_simp
          have hA2 : A2 = none → x.f2 = [] := fun h => by
            by_cases h0 : x.f2.length = 0
            · exact List.eq_nil_of_length_eq_zero h0
            · obtain ⟨_, h1, _⟩ := HC2.out.2.2 (by omega)
              rw [h] at h1; cases h1
          have HAP := append_reads V0 x.f2 y.f2 A2 A3 c3 (Kd.C_below HC2.out (below_then HBb.out HBb.out.size HB0.out)) (Kd.C_below HC3.out (below_then HBb.out HBb.out.size HB0.out)) hl3 hA2 (by omega) 28
          obtain ⟨z, hz⟩ : ∃ z, z = x.f2 ++ y.f2 := ⟨_, rfl⟩
          rw [← hz] at HAP
          have hzl : z.length = x.f2.length + y.f2.length := by rw [hz, List.length_append]
          have HZ := Aside0.mk hz
          have HZL := Aside0.mk hzl
          have hzb : z.length ≤ 4194304 := by omega
          clear hz hzl
          obtain ⟨A4, c4, V1, hrun, hl4, hC4, hV1⟩ := HAP
          have HB1 := Aside0.mk (below_then HB0.out HB0.out.size hV1)
          have HC4 := Aside0.mk hC4
          clear hC4 hV1 hA2
          refine wpAnyH_all (rs := [11]) (by kernel_rfl) (by simp) ?_
          intro i' hi'
          obtain rfl : i' = 11 := by simpa using hi'
          refine wpOp_step rfl (fun K hK => ?_)
          refine append_step rfl 28 (.tmp 31) (.tmp 33) rfl rfl rfl hrun (hK _ _ ⟨HSS.out _ HB1.out, ?_⟩)
          clear hK hrun
          refine wpAnyH_take (i := 12) (v := .slice A4 z.length c4) rfl (by kernel_rfl) (by kernel_rfl) (by kernel_rfl) (fun _ _ _ h => h) (Or.inl ⟨rfl, fun V hV => ?_⟩) (HSS.out _ HB1.out) ?_
          · go_simp
          go_simp
          refine wpAnyH_done (by kernel_rfl) ?_ _
          have HR1 := Aside0.mk (Kd.R_below HRb.out HB1.out)
          have HBX1 := Aside0.mk (blk_below HBXb.out HB1.out)
          have HBY1 := Aside0.mk (blk_below HBY.out HB1.out)
          have HBW1 := Aside0.mk (below_then HBb.out HBb.out.size HB1.out)
          have hszb : w.heap.size ≤ V1.heap.size := HBW1.out.size
          clear HSS HB0 HB1 HRb HBXb HBY HBb
          have HFR : Aside0 (∀ k, V1.heap.size ≤ k → ((True ∧ k ≠ ba) ∧ k ≠ gb) ∧ some k ≠ (Value.slice Ao P.length co).ownBlock) := ⟨fun k hk => ⟨⟨⟨trivial, fun e => by have := blk_lt HBX1.out; omega⟩, fun e => by have := blk_lt HBY1.out; omega⟩, fun e => by have := Kd.R_lt HR1.out k e.symm; omega⟩⟩
          by_cases hm : x.f1 < y.f1
          · go_wp2_with (first | ((with_reducible refine gate_builtin (b := .append) (xs := #[.const (.slice none 0 0), .tmp 35]) rfl ?_); at_builtin; refine Kd.R_append_rows k46 (Rr := k46.K V1) (w0 := w) w.heap.size rfl (.const (.slice none 0 0)) (.tmp 35) 28 46 (.agg #[(.int .i64 0), (.int .i64 0), (.string ⟨#[]⟩)]) 32 rfl Try.underlying28 info46 rfl (by decide) (by omega) (.slice none 0 0) [] z A4 z.length c4 (fun k => ((True ∧ k ≠ ba) ∧ k ≠ gb) ∧ some k ≠ (Value.slice Ao P.length co).ownBlock) (fun k => ((True ∧ k ≠ ba) ∧ k ≠ gb) ∧ some k ≠ (Value.slice Ao P.length co).ownBlock) rfl rfl (Kd.R_nil _ _ _ _ _) HC4.out (fun p q hp => by rw [k46_open hp]; exact k46_mkM _ _ _ p) (fun k hk => ⟨hk, by simp [Value.ownBlock]⟩) ?aF HBW1.out hszb (by simp; omega) ?_; (case aF => exact HFR.out); intro v6 w6 ho hb hg hat; rw [List.nil_append] at ho; have HO6 := Aside0.mk ho; obtain ⟨A6, c6, e6⟩ := Kd.R_slice ho; subst e6; have HB6 := Aside0.mk hb; have hbv : Below V1.heap.size V1 w6 := below_grown hg; have hx6 := blk_below HBX1.out hbv; have hy6 := blk_below HBY1.out hbv; have q0 : w6.cell? ⟨ba, 0, none⟩ = some (.int .i64 x.f0) := (blk_cell hx6 0).trans rfl; have q1 : w6.cell? ⟨ba, 1, none⟩ = some (.int .i64 x.f1) := (blk_cell hx6 1).trans rfl; have p0 : w6.cell? ⟨gb, 0, none⟩ = some (.int .i64 y.f0) := (blk_cell hy6 0).trans rfl; have p1 : w6.cell? ⟨gb, 1, none⟩ = some (.int .i64 y.f1) := (blk_cell hy6 1).trans rfl; have HR6 := Aside0.mk (Kd.R_below HR1.out hbv); have HX6 := Aside0.mk hx6; have hs6 : w.heap.size ≤ w6.heap.size := Nat.le_trans hszb hbv.size; have HBV := Aside0.mk hbv; have HFR6 : Aside0 (∀ k, w6.heap.size ≤ k → (True ∧ k ≠ ba) ∧ k ≠ gb) := ⟨fun k hk => (HFR.out k (Nat.le_trans hbv.size hk)).1⟩; clear ho hb hg hat hbv hx6 hy6) | ((with_reducible refine gate_builtin (b := .append) (xs := #[.tmp 37, .tmp 51]) rfl ?_); at_builtin; refine Kd.R_append k30 (w0 := w) w.heap.size rfl (.tmp 37) (.tmp 51) 22 30 (.agg #[(.int .i64 0), (.int .i64 0), (.slice none 0 0)]) 40 rfl Try.underlying22 inf30 rfl (by decide) (by omega) (.slice Ao P.length co) P ⟨x.f0 * 2147483648 + y.f0, y.f1, z⟩ [.int .i64 (x.f0 * 2147483648 + y.f0), .int .i64 y.f1, .slice A6 z.length c6] (fun k => (True ∧ k ≠ ba) ∧ k ≠ gb) (fun k => ((True ∧ k ≠ ba) ∧ k ≠ gb) ∧ some k ≠ (Value.slice Ao P.length co).ownBlock) rfl rfl (k30_mkM _ _ _ ⟨x.f0 * 2147483648 + y.f0, y.f1, z⟩ HO6.out) (fun _ h => h) HFR6.out HR6.out HB6.out hs6 (by omega) ?_; intro v7 w7 ho hb hg hat; have HO7 := Aside0.mk ho; have HB7 := Aside0.mk hb; have HX7 := Aside0.mk (blk_grown HX6.out hg (Kd.R_away HR6.out (fun _ hk => hk.1.2))); clear ho hb hg hat))
            go_roundw
            case rel =>
              refine ⟨k + 1, hkl, rfl, ⟨?_⟩, HB7, HX7⟩
              have he : pairs (l.take i) r ++ (r.take (k + 1)).map (pairOf x) = P ++ [⟨x.f0 * 2147483648 + y.f0, y.f1, z⟩] := by
                rw [List.take_succ_eq_append_getElem hkl, List.map_append, ← List.append_assoc, ← HP.out, List.map_cons, List.map_nil, ← HYM.out, HZ.out]
                simp [pairOf, mx, hm]
              rw [he]
              exact Kd.R_mono HO7.out (fun _ hk => hk.1)
            case measure => simp [intOf]; omega
          · go_wp2_with (first | ((with_reducible refine gate_builtin (b := .append) (xs := #[.const (.slice none 0 0), .tmp 35]) rfl ?_); at_builtin; refine Kd.R_append_rows k46 (Rr := k46.K V1) (w0 := w) w.heap.size rfl (.const (.slice none 0 0)) (.tmp 35) 28 46 (.agg #[(.int .i64 0), (.int .i64 0), (.string ⟨#[]⟩)]) 32 rfl Try.underlying28 info46 rfl (by decide) (by omega) (.slice none 0 0) [] z A4 z.length c4 (fun k => ((True ∧ k ≠ ba) ∧ k ≠ gb) ∧ some k ≠ (Value.slice Ao P.length co).ownBlock) (fun k => ((True ∧ k ≠ ba) ∧ k ≠ gb) ∧ some k ≠ (Value.slice Ao P.length co).ownBlock) rfl rfl (Kd.R_nil _ _ _ _ _) HC4.out (fun p q hp => by rw [k46_open hp]; exact k46_mkM _ _ _ p) (fun k hk => ⟨hk, by simp [Value.ownBlock]⟩) ?aF HBW1.out hszb (by simp; omega) ?_; (case aF => exact HFR.out); intro v6 w6 ho hb hg hat; rw [List.nil_append] at ho; have HO6 := Aside0.mk ho; obtain ⟨A6, c6, e6⟩ := Kd.R_slice ho; subst e6; have HB6 := Aside0.mk hb; have hbv : Below V1.heap.size V1 w6 := below_grown hg; have hx6 := blk_below HBX1.out hbv; have hy6 := blk_below HBY1.out hbv; have q0 : w6.cell? ⟨ba, 0, none⟩ = some (.int .i64 x.f0) := (blk_cell hx6 0).trans rfl; have q1 : w6.cell? ⟨ba, 1, none⟩ = some (.int .i64 x.f1) := (blk_cell hx6 1).trans rfl; have p0 : w6.cell? ⟨gb, 0, none⟩ = some (.int .i64 y.f0) := (blk_cell hy6 0).trans rfl; have p1 : w6.cell? ⟨gb, 1, none⟩ = some (.int .i64 y.f1) := (blk_cell hy6 1).trans rfl; have HR6 := Aside0.mk (Kd.R_below HR1.out hbv); have HX6 := Aside0.mk hx6; have hs6 : w.heap.size ≤ w6.heap.size := Nat.le_trans hszb hbv.size; have HBV := Aside0.mk hbv; have HFR6 : Aside0 (∀ k, w6.heap.size ≤ k → (True ∧ k ≠ ba) ∧ k ≠ gb) := ⟨fun k hk => (HFR.out k (Nat.le_trans hbv.size hk)).1⟩; clear ho hb hg hat hbv hx6 hy6) | ((with_reducible refine gate_builtin (b := .append) (xs := #[.tmp 37, .tmp 51]) rfl ?_); at_builtin; refine Kd.R_append k30 (w0 := w) w.heap.size rfl (.tmp 37) (.tmp 51) 22 30 (.agg #[(.int .i64 0), (.int .i64 0), (.slice none 0 0)]) 40 rfl Try.underlying22 inf30 rfl (by decide) (by omega) (.slice Ao P.length co) P ⟨x.f0 * 2147483648 + y.f0, x.f1, z⟩ [.int .i64 (x.f0 * 2147483648 + y.f0), .int .i64 x.f1, .slice A6 z.length c6] (fun k => (True ∧ k ≠ ba) ∧ k ≠ gb) (fun k => ((True ∧ k ≠ ba) ∧ k ≠ gb) ∧ some k ≠ (Value.slice Ao P.length co).ownBlock) rfl rfl (k30_mkM _ _ _ ⟨x.f0 * 2147483648 + y.f0, x.f1, z⟩ HO6.out) (fun _ h => h) HFR6.out HR6.out HB6.out hs6 (by omega) ?_; intro v7 w7 ho hb hg hat; have HO7 := Aside0.mk ho; have HB7 := Aside0.mk hb; have HX7 := Aside0.mk (blk_grown HX6.out hg (Kd.R_away HR6.out (fun _ hk => hk.1.2))); clear ho hb hg hat))
            go_roundw
            case rel =>
              refine ⟨k + 1, hkl, rfl, ⟨?_⟩, HB7, HX7⟩
              have he : pairs (l.take i) r ++ (r.take (k + 1)).map (pairOf x) = P ++ [⟨x.f0 * 2147483648 + y.f0, x.f1, z⟩] := by
                rw [List.take_succ_eq_append_getElem hkl, List.map_append, ← List.append_assoc, ← HP.out, List.map_cons, List.map_nil, ← HYM.out, HZ.out]
                simp [pairOf, mx, hm]
              rw [he]
              exact Kd.R_mono HO7.out (fun _ hk => hk.1)
            case measure => simp [intOf]; omega
        · go_wp2_with fail
          have hk0 : k = r.length := by omega
          refine ⟨⟨i + 1, hlt, rfl, ⟨?_⟩, hBk⟩, by simp [intOf]; omega⟩
          have h := hRk.out
          rw [hk0, List.take_length] at h
          have he : pairs (l.take (i + 1)) r = pairs (l.take i) r ++ r.map (pairOf x) := by
            rw [List.take_succ_eq_append_getElem hlt, ← HXM.out]
            simp [pairs]
          rw [he]
          exact Kd.R_mono h (fun _ _ => trivial)
    · go_wp2_with fail
      go_ret
      have hi0 : i = l.length := by omega
      have := hR.out
      rw [hi0, List.take_length] at this
      exact ⟨_, rfl, this, hB.out⟩
end Go.Proofs.Ytdbhlfnpaloomaa.B
