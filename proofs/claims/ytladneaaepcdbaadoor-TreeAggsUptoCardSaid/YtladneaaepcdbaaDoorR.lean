/- The rows of TreeSame and TreeAggs. -/
import Derived.Test.YtladneaaepcdbaaDoorO
import Derived.Test.YtladneaaepcdbaaDoorY
import Derived.Test.YtladneaaepcdbaaDoorZ
import Derived.Test.YtladneaaepcdbaaDoorCards
import Derived.Test.YtladneaaepcdbaaDoorTie
namespace Go.Proofs.YtladneaaepcdbaaDoor.R
open Go.ChangeShapes Go.WideShapes Go.ChangeAt Go.RowKit Go.Proofs.YtladneaaepcdbaaDoorW.PrintWords
open Go.Proofs.YtladneaaepcdbaaDoor.PTree Go.Proofs.YtladneaaepcdbaaDoor.Q Go.Proofs.YtladneaaepcdbaaDoor.O
open Go.Proofs.YtladneaaepcdbaaDoor.F (nodes)
set_option linter.unusedVariables false
set_option linter.unusedSimpArgs false

theorem own : ownKnob Tryd.prog.godebug = none := by kernel_rfl
theorem gTab : Tryd.prog.globalNamed "strings.asciiSpace" = some 2 := by kernel_rfl
noncomputable def tT : TypeId := ((Tryd.prog.globals[2]?).map (·.type)).getD 0
theorem gTabType : (Tryd.prog.globals[2]?).map (·.type) = some tT := by kernel_rfl
theorem uTab : Tryd.prog.underlying tT = some (.array 256 5) := by kernel_rfl
theorem cells5 : Tryd.prog.cellsOf 5 = 1 := by kernel_rfl
theorem cellsT : Tryd.prog.cellsOf tT = 256 := by kernel_rfl
theorem laid_eq : (Rows.laid_strings_asciiSpace : DataW Unit) = Lib.tabData .u8 Lib.asciiSpaceTab := by kernel_rfl

theorem laidOne : Rows.treeSameRow.laid.filter (fun x => x.1 == "strings.asciiSpace") = [("strings.asciiSpace", Rows.laid_strings_asciiSpace)] := by kernel_rfl
theorem table {W : World} (h : laidMetH Tryd.prog Rows.treeSameRow.laid W) : Lib.TabIs Tryd.prog W "strings.asciiSpace" .u8 Lib.asciiSpaceTab := by
  have h1 := laidMetH.filter (fun x => x.1 == "strings.asciiSpace") h
  rw [laidOne, MakeChecks.laidMetH_plain _ _ _ (by kernel_rfl), laid_eq] at h1
  exact Lib.tabIs_of_head (rest := []) gTab gTabType uTab Tryd.underlying5 cells5 cellsT h1

set_option maxRecDepth 100000 in
/-- TreeSame, for every argument and every world that holds the table. -/
theorem same_contract (H : Type) (enc : TypeId × Value → H) (W : World) (base : Nat) (args : Array Value) (ds gs : List (DataW H)) (before : List MemPlace)
    (hval0 : ∀ (j : Nat) t v, Tryd.f3.params[j]? = some t → args[j]? = some v → Value.okWide Tryd.prog W .any base t v)
    (hW : DataW.Whole enc Tryd.prog Tryd.f3.params.toList Rows.treeSameSpec.vars false W args.toList ds gs before)
    (hsz0 : (DataW.weightsEach Tryd.prog (Tryd.f3.params.toList ++ Rows.treeSameSpec.plain.varTypes Tryd.prog) (ds ++ gs)).all (· ≤ reachBytes) = true) (hL : laidMetH Tryd.prog Rows.treeSameRow.laid W) :
    Calls Tryd.prog 3 args W fun e W' => ∃ v, e = .returned v ∧ Rows.treeSameSpec.post enc Tryd.prog Tryd.f3 false true false false W args v W' := by
  have hW' := hW
  obtain ⟨p, q, hA0, hV, rfl, hfz, hnd⟩ := hW
  have hA : DataW.TrodAll enc Tryd.prog W 0 (fun _ => true) true Tryd.f3.params.toList args.toList ds p := hA0
  have hval : ∀ (j : Nat) t v, Tryd.f3.params[j]? = some t → args[j]? = some v → Value.okWide Tryd.prog W .any base t v := hval0
  have hsz := hsz0
  rw [Tryd.params3] at hA hval hsz
  obtain ⟨v0, vs0, d0, ds0, p0, q0, hargs, rfl, rfl, h0, r0⟩ := trodAll_cons hA
  obtain ⟨v1, vs1, d1, ds1, p1, q1, rfl, rfl, rfl, h1, r1⟩ := trodAll_cons r0
  obtain ⟨v2, vs2, d2, ds2, p2, q2, rfl, rfl, rfl, h2, r2⟩ := trodAll_cons r1
  obtain ⟨rfl, rfl, rfl⟩ := trodAll_nil r2
  obtain rfl : args = #[v0, v1, v2] := by cases args; simp_all
  obtain ⟨rfl, rfl⟩ := trodVars_none hV
  obtain ⟨n, rfl, rfl, rfl, wn⟩ := open_int Tryd.underlying3 (hval 2 3 v2 rfl rfl) h2
  obtain ⟨c0, rfl, hz0⟩ := okWide_struct Tryd.underlying24 (hval 0 24 v0 rfl rfl)
  obtain ⟨c1, rfl, hz1⟩ := okWide_struct Tryd.underlying24 (hval 1 24 v1 rfl rfl)
  obtain ⟨f0, hf0⟩ := h0
  obtain ⟨f1, hf1⟩ := h1
  obtain ⟨x, hKx, _, hwx⟩ := open24 f0 _ _ hf0
  obtain ⟨y, hKy, _, hwy⟩ := open24 f1 _ _ hf1
  have okx : okT x := hwx (by
    have := hsz
    simp only [List.cons_append, List.nil_append, DataW.weightsEach, all_append] at this
    exact this.1)
  have oky : okT y := hwy (by
    have := hsz
    simp only [List.cons_append, List.nil_append, DataW.weightsEach, all_append] at this
    exact this.2.1)
  obtain ⟨A, c, hcx, hlx, hCx⟩ := k24_open hKx
  obtain ⟨B, d, hcy, hly, hCy⟩ := k24_open hKy
  have e0 : c0 = #[.int .i64 x.f0, .string x.f1, .int .i64 x.f2, .int .i64 x.f3, .slice A x.f4.length c] := by rw [← Array.toArray_toList (xs := c0)]; exact congrArg List.toArray hcx
  have e1 : c1 = #[.int .i64 y.f0, .string y.f1, .int .i64 y.f2, .int .i64 y.f3, .slice B y.f4.length d] := by rw [← Array.toArray_toList (xs := c1)]; exact congrArg List.toArray hcy
  subst e0 e1
  simp only [List.append_nil] at hW'
  have hlt : ∀ z ∈ p0 ++ p1, z.block < W.heap.size := fun z hz => by simpa using hW'.lt z (by simpa using hz)
  refine (Y.treeSame_calls x y A B c d n W hCx hlx hCy hly okx oky (table hL)).mono fun e W' ⟨he, bel⟩ => ?_
  subst he
  exact ⟨_, rfl, _, _, _, [], _, [], hW', trodAll_mk1 (shut_bool Tryd.underlying4 _), (trodAll_cons_mk (Below.trod laidOut (by kernel_rfl) (of_decide_eq_true (by kernel_rfl)) ⟨f0, hf0⟩ bel (fun z hz => hlt z (by simp [hz]))) (trodAll_cons_mk (Below.trod laidOut (by kernel_rfl) (of_decide_eq_true (by kernel_rfl)) ⟨f1, hf1⟩ bel (fun z hz => hlt z (by simp [hz]))) (trodAll_cons_mk (shut_int Tryd.underlying3 wn) trodAll_mk0))), rfl, bel.frame _, fun h => by cases h⟩

/-- The bulk of what is read. -/
theorem bound {H : Type} {l : List (DataW H)} (hk : Rows.uptoSmall H l = true) : Rows.uptoBulkAll l ≤ 1048576 := of_decide_eq_true hk

set_option maxRecDepth 100000 in
/-- TreeAggs, for every argument of so small a bulk and every world that holds the table. -/
theorem aggs_contract (H : Type) (enc : TypeId × Value → H) (W : World) (base : Nat) (args : Array Value) (ds gs : List (DataW H)) (before : List MemPlace)
    (hval0 : ∀ (j : Nat) t v, Tryd.f4.params[j]? = some t → args[j]? = some v → Value.okWide Tryd.prog W .any base t v)
    (hW : DataW.Whole enc Tryd.prog Tryd.f4.params.toList Rows.treeAggsSpec.vars false W args.toList ds gs before)
    (hsz0 : (DataW.weightsEach Tryd.prog (Tryd.f4.params.toList ++ Rows.treeAggsSpec.plain.varTypes Tryd.prog) (ds ++ gs)).all (· ≤ reachBytes) = true) (hk : Rows.uptoSmall H (ds ++ gs) = true) (hL : laidMetH Tryd.prog Rows.treeSameRow.laid W) :
    Calls Tryd.prog 4 args W fun e W' => ∃ v, e = .returned v ∧ Rows.treeAggsSpec.post enc Tryd.prog Tryd.f4 false true false false W args v W' := by
  have hW' := hW
  obtain ⟨p, q, hA0, hV, rfl, hfz, hnd⟩ := hW
  have hA : DataW.TrodAll enc Tryd.prog W 0 (fun _ => true) true Tryd.f4.params.toList args.toList ds p := hA0
  have hval : ∀ (j : Nat) t v, Tryd.f4.params[j]? = some t → args[j]? = some v → Value.okWide Tryd.prog W .any base t v := hval0
  have hsz := hsz0
  rw [Tryd.params4] at hA hval hsz
  obtain ⟨v0, vs0, d0, ds0, p0, q0, hargs, rfl, rfl, h0, r0⟩ := trodAll_cons hA
  obtain ⟨rfl, rfl, rfl⟩ := trodAll_nil r0
  obtain rfl : args = #[v0] := by cases args; simp_all
  obtain ⟨rfl, rfl⟩ := trodVars_none hV
  obtain ⟨c0, rfl, hz0⟩ := okWide_struct Tryd.underlying24 (hval 0 24 v0 rfl rfl)
  obtain ⟨f0, hf0⟩ := h0
  obtain ⟨x, hKx, hnx, hwx⟩ := open24 f0 _ _ hf0
  have okx : okT x := hwx (by
    have := hsz
    simp only [List.cons_append, List.nil_append, DataW.weightsEach, all_append] at this
    exact this.1)
  have hN : nodes x ≤ 1048576 := by
    have hb := bound hk
    simp only [List.cons_append, List.nil_append, Rows.uptoBulkAll] at hb
    simp only at hnx
    omega
  obtain ⟨A, c, hcx, hlx, hCx⟩ := k24_open hKx
  have e0 : c0 = #[.int .i64 x.f0, .string x.f1, .int .i64 x.f2, .int .i64 x.f3, .slice A x.f4.length c] := by rw [← Array.toArray_toList (xs := c0)]; exact congrArg List.toArray hcx
  subst e0
  simp only [List.append_nil] at hW'
  have hlt : ∀ z ∈ p0, z.block < W.heap.size := fun z hz => by simpa using hW'.lt z (by simpa using hz)
  refine (Z.treeAggs_calls x A c W hCx hlx okx hN (table hL)).mono fun e W' ⟨he, bel⟩ => ?_
  subst he
  exact ⟨_, rfl, _, _, _, [], _, [], hW', trodAll_mk1 (shut_bool Tryd.underlying4 _), (trodAll_cons_mk (Below.trod laidOut (by kernel_rfl) (of_decide_eq_true (by kernel_rfl)) ⟨f0, hf0⟩ bel (fun z hz => hlt z (by simp [hz]))) trodAll_mk0), rfl, bel.frame _, fun h => by cases h⟩

/-- A world for the witness: the listed variables laid by the library's own function. -/
noncomputable def W0 (os : Os) : World := World.laidAll Tryd.prog os Rows.treeSameRow.laid
theorem laid_met (os : Os) (args : Array Value) : laidMetH Tryd.prog Rows.treeSameRow.laid ((W0 os).forCall (fun _ _ => 0) ⟨#[], args, []⟩).memory := by
  rw [MakeChecks.laidMetH_plain _ _ _ (by kernel_rfl)]
  exact laidMet_laidAll _ (by kernel_rfl) (by kernel_rfl)
noncomputable def zeroT : Value := .agg #[.int .i64 0, .string ⟨#[]⟩, .int .i64 0, .int .i64 0, .slice none 0 0]

theorem same_reads (os : Os) {H : Type} (enc : TypeId × Value → H) : ∃ places, DataW.whole enc Tryd.prog ((W0 os).forCall (fun _ _ => 0) ⟨#[], #[zeroT, zeroT, .int .i64 0], []⟩).memory Tryd.f3.params.toList Rows.treeSameSpec.vars false (#[zeroT, zeroT, .int .i64 0] : Array Value).toList 8 = some ([(.agg [.lit (.int .i64 0), .lit (.string []), .lit (.int .i64 0), .lit (.int .i64 0), .nil] : DataW H), (.agg [.lit (.int .i64 0), .lit (.string []), .lit (.int .i64 0), .lit (.int .i64 0), .nil] : DataW H), .lit (.int .i64 0)], [], places) :=
  ⟨[], by kernel_rfl⟩
set_option maxRecDepth 100000 in
theorem same_lifted (os : Os) (started : os.Started) (H : Type) (enc : TypeId × Value → H) (F : Stop.Interp) :
    ReturnsInHanded {} Tryd.checked os 3 .any ((OpenSpec.ofChange Rows.treeSameSpec).preRow enc Tryd.prog Tryd.f3 Rows.treeSameRow.domain false Rows.treeSameRow.laid) (((OpenSpec.ofChange Rows.treeSameSpec).at F).post enc Tryd.prog Tryd.f3 false true false false) := by
  obtain ⟨places, hx⟩ := same_reads os enc
  refine returnsInHanded_of_row (C := Tryd.checked) (s := OpenSpec.ofChange Rows.treeSameSpec) own started (by kernel_rfl) Tryd.func3
    (witness_row_atRef (enc := enc) (C := Tryd.checked) false (W0 os) #[zeroT, zeroT, .int .i64 0] (World.laidAll_os _ _ _) (by kernel_rfl) (by kernel_rfl) (by kernel_rfl)
      (OpenSpec.preRow_of_cond 8 hx (by kernel_rfl) (fun k hk => by cases hk) (by kernel_rfl) (laid_met os _))) ?_
  intro W base args ds gs before hval hW _ hcond hsz hL _ _
  exact same_contract H enc W base args ds gs before hval hW hsz hL
theorem same_over : Rows.treeSameRow.holds Tryd.pinned (OpenSpec.ofChange Rows.treeSameSpec) :=
  OpenClaim.holds_of_cond 3 Tryd.f3 rfl rfl rfl rfl rfl rfl rfl ⟨rfl, rfl, rfl, rfl, rfl⟩ rfl rfl rfl rfl rfl (by kernel_rfl) Tryd.func3 (by kernel_rfl)
    (of_decide_eq_true (by kernel_rfl)) (by unfold Func.isWrapper; first | (rw [if_pos (by decide +kernel)]; kernel_rfl) | (rw [if_neg (by decide +kernel)]; exact ⟨rfl, rfl⟩))
    (fun os started H enc _ F => by rw [OpenClaim.pre_eq_preRow]; exact same_lifted os started H enc F)

theorem aggs_reads (os : Os) {H : Type} (enc : TypeId × Value → H) : ∃ places, DataW.whole enc Tryd.prog ((W0 os).forCall (fun _ _ => 0) ⟨#[], #[zeroT], []⟩).memory Tryd.f4.params.toList Rows.treeAggsSpec.vars false (#[zeroT] : Array Value).toList 8 = some ([(.agg [.lit (.int .i64 0), .lit (.string []), .lit (.int .i64 0), .lit (.int .i64 0), .nil] : DataW H)], [], places) :=
  ⟨[], by kernel_rfl⟩
set_option maxRecDepth 100000 in
theorem aggs_lifted (os : Os) (started : os.Started) (H : Type) (enc : TypeId × Value → H) (F : Stop.Interp) :
    ReturnsInHanded {} Tryd.checked os 4 .any ((Rows.OpenSpec.upto Rows.treeAggsSpec).preRow enc Tryd.prog Tryd.f4 Rows.treeAggsUptoRow.domain false Rows.treeAggsUptoRow.laid) (((Rows.OpenSpec.upto Rows.treeAggsSpec).at F).post enc Tryd.prog Tryd.f4 false true false false) := by
  obtain ⟨places, hx⟩ := aggs_reads os enc
  refine returnsInHanded_of_row (C := Tryd.checked) (s := Rows.OpenSpec.upto Rows.treeAggsSpec) own started (by kernel_rfl) Tryd.func4
    (witness_row_atRef (enc := enc) (C := Tryd.checked) false (W0 os) #[zeroT] (World.laidAll_os _ _ _) (by kernel_rfl) (by kernel_rfl) (by kernel_rfl)
      (OpenSpec.preRow_of_cond 8 hx (by kernel_rfl) (fun k hk => by cases hk; kernel_rfl) (by kernel_rfl) (laid_met os _))) ?_
  intro W base args ds gs before hval hW _ hcond hsz hL _ _
  exact aggs_contract H enc W base args ds gs before hval hW hsz (hcond _ rfl) hL
theorem aggs_over : Rows.treeAggsUptoRow.holds Tryd.pinned (Rows.OpenSpec.upto Rows.treeAggsSpec) :=
  OpenClaim.holds_of_cond 4 Tryd.f4 rfl rfl rfl rfl rfl rfl rfl ⟨rfl, rfl, rfl, rfl, rfl⟩ rfl rfl rfl rfl rfl (by kernel_rfl) Tryd.func4 (by kernel_rfl)
    (of_decide_eq_true (by kernel_rfl)) (by unfold Func.isWrapper; first | (rw [if_pos (by decide +kernel)]; kernel_rfl) | (rw [if_neg (by decide +kernel)]; exact ⟨rfl, rfl⟩))
    (fun os started H enc _ F => by rw [OpenClaim.pre_eq_preRow]; exact aggs_lifted os started H enc F)

theorem same_plain (f : FuncId) (fn : Func) (hf : Tryd.pinned.checked.prog.funcNamed "marquee/marqueelaw06.TreeSame" = some f) (hfn : Tryd.pinned.checked.prog.funcs[f]? = some fn) :
    false = Tryd.pinned.checked.prog.looks [] ∧ ∀ (j : Nat) t, fn.params[j]? = some t → Tryd.pinned.checked.prog.wantsStandIn t = false := by
  obtain rfl : f = 3 := Option.some.inj ((show Tryd.prog.funcNamed "marquee/marqueelaw06.TreeSame" = some 3 by kernel_rfl).symm.trans hf) |>.symm
  obtain rfl : fn = Tryd.f3 := (Option.some.inj (Tryd.func3.symm.trans hfn)).symm
  refine ⟨by kernel_rfl, fun j t ht => ?_⟩
  rw [Tryd.params3] at ht
  have hm := Array.mem_of_getElem? ht
  have h24 : Tryd.prog.wantsStandIn 24 = false := by kernel_rfl
  have h3 : Tryd.prog.wantsStandIn 3 = false := by kernel_rfl
  have : t = 24 ∨ t = 3 := by simp at hm; omega
  rcases this with rfl | rfl
  · exact h24
  · exact h3

theorem aggs_plain (f : FuncId) (fn : Func) (hf : Tryd.pinned.checked.prog.funcNamed "marquee/marqueelaw06.TreeAggs" = some f) (hfn : Tryd.pinned.checked.prog.funcs[f]? = some fn) :
    false = Tryd.pinned.checked.prog.looks [] ∧ ∀ (j : Nat) t, fn.params[j]? = some t → Tryd.pinned.checked.prog.wantsStandIn t = false := by
  obtain rfl : f = 4 := Option.some.inj ((show Tryd.prog.funcNamed "marquee/marqueelaw06.TreeAggs" = some 4 by kernel_rfl).symm.trans hf) |>.symm
  obtain rfl : fn = Tryd.f4 := (Option.some.inj (Tryd.func4.symm.trans hfn)).symm
  refine ⟨by kernel_rfl, fun j t ht => ?_⟩
  rw [Tryd.params4] at ht
  have hm := Array.mem_of_getElem? ht
  have h24 : Tryd.prog.wantsStandIn 24 = false := by kernel_rfl
  obtain rfl : t = 24 := by simpa using hm
  exact h24
end Go.Proofs.YtladneaaepcdbaaDoor.R
namespace Go.Proofs.YtladneaaepcdbaaDoor
/-- TreeSame's card. -/
theorem treeSame_card : Rows.TreeSameCardSaid :=
  Claim7.holds_tied_plain_at .later [] _ _ _ _ R.same_over (fun _ h => by cases h) (by kernel_rfl) (fun _ h => by cases h) treeSame_row_tie rfl ⟨rfl, rfl⟩ (by kernel_rfl) rfl R.same_plain (by kernel_rfl)
/-- TreeAggs' second card. -/
theorem treeAggs_card : Rows.TreeAggsUptoCardSaid :=
  Claim7.holds_tied_plain_at .later [] _ _ _ _ R.aggs_over (fun _ h => by cases h) (by kernel_rfl) (fun _ h => by cases h) treeAggsUpto_row_tie rfl ⟨rfl, rfl⟩ (by kernel_rfl) rfl R.aggs_plain (by kernel_rfl)
#print axioms treeSame_card
#print axioms treeAggs_card
end Go.Proofs.YtladneaaepcdbaaDoor
