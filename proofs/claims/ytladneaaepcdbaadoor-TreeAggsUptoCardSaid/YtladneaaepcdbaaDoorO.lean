/- An argument that is a tree, opened. -/
import Derived.Test.YtladneaaepcdbaaDoorRows
import Derived.Test.YtladneaaepcdbaaDoorF
import Derived.Test.YtladneaaepcdbaaDoorSh
import Derived.WalkKit
import Derived.ProofKit
import Derived.OpenShut
import Derived.ChangeOld
import Derived.Below
import Derived.Carry
import Derived.SizedLaws
import Derived.Deep.DeepHandedRow
import Derived.Deep.DeepWitnessRowRef
import Derived.Lib.LaidTab
import Derived.LaidSub
import Derived.MakeChecks
import Derived.Lay
namespace Go.Proofs.YtladneaaepcdbaaDoor.O
open Go.ChangeShapes Go.WideShapes Go.ChangeAt Go.RowKit Go.Proofs.YtladneaaepcdbaaDoorW.PrintWords
open Go.Proofs.YtladneaaepcdbaaDoor.PTree Go.Proofs.YtladneaaepcdbaaDoor.Q
open Go.Proofs.YtladneaaepcdbaaDoor.F (nodes nodes_eq)
set_option linter.unusedVariables false
set_option linter.unusedSimpArgs false

theorem cells24 : Tryd.prog.cellsOf 24 = 5 := by kernel_rfl
theorem cells3 : Tryd.prog.cellsOf 3 = 1 := by kernel_rfl
theorem cells9 : Tryd.prog.cellsOf 9 = 1 := by kernel_rfl
theorem cells22 : Tryd.prog.cellsOf 22 = 1 := by kernel_rfl
theorem bytes24 : Tryd.prog.bytesOf 24 = 64 := by kernel_rfl
theorem laidOut : laidOutB Tryd.prog = true := by kernel_rfl

theorem one_le {H : Type} (d : DataW H) : 1 ≤ Rows.uptoBulk d := by
  cases d with
  | lit l => cases l <;> simp [Rows.uptoBulk]
  | nil => simp [Rows.uptoBulk]
  | ptr d => simp [Rows.uptoBulk]
  | slice elems spare => simp [Rows.uptoBulk]
  | agg parts => simp [Rows.uptoBulk]
  | iface t d => simp [Rows.uptoBulk]
  | map entries => simp [Rows.uptoBulk]
  | held h => simp [Rows.uptoBulk]
theorem all_append {p : Nat → Bool} {l r : List Nat} : (l ++ r).all p = true ↔ l.all p = true ∧ r.all p = true := by simp [List.all_append]
theorem bulk_append {H : Type} (l r : List (DataW H)) : Rows.uptoBulkAll (l ++ r) = Rows.uptoBulkAll l + Rows.uptoBulkAll r := by
  induction l with
  | nil => simp [Rows.uptoBulkAll]
  | cons x l ih => simp only [List.cons_append, Rows.uptoBulkAll, ih]; omega
theorem weightsAll_append {H : Type} (P : Program) (e : TypeId) (l r : List (DataW H)) : DataW.weightsAll P e (l ++ r) = DataW.weightsAll P e l ++ DataW.weightsAll P e r := by
  induction l with
  | nil => simp [DataW.weightsAll]
  | cons x l ih => simp [DataW.weightsAll, ih]

/-- A tree that is read: what the law's contracts ask of it. -/
def Tree {H : Type} (W : World) (cs : List Value) (d : DataW H) (z : S24) : Prop :=
  k24.K W z cs ∧ nodes z ≤ Rows.uptoBulk d ∧ ((d.weights Tryd.prog 24).all (· ≤ reachBytes) = true → okT z)

theorem list5 {α : Type} {l : List α} {n : Nat} (h : l.length = n) (hn : n = 5) : ∃ a b c d e, l = [a, b, c, d, e] := by
  subst hn
  match l, h with
  | [a, b, c, d, e], _ => exact ⟨a, b, c, d, e, rfl⟩

theorem kids24 {H : Type} {enc : TypeId × Value → H} {W : World} {base : Nat} {spare : Nat → Bool} {held : Bool} {m : Nat} (ih : ∀ (cs : List Value) (x : DataW H × List MemPlace), DataW.trod enc Tryd.prog W base spare held m 24 cs = some x → ∃ z : S24, Tree W cs x.1 z)
    (a : Addr) (elems : List (DataW H × List MemPlace)) (he : ∀ i, i < elems.length → (W.cells? base (a.add (i * 5)) 5).bind (DataW.trod enc Tryd.prog W base spare held m 24) = elems[i]?) : ∀ k, k ≤ elems.length →
    ∃ zs : List S24, zs.length = k ∧ (∀ i z, zs[i]? = some z → ∃ cs, W.cells? base (a.add (i * 5)) 5 = some cs ∧ k24.K W z cs) ∧ (zs.map nodes).sum ≤ Rows.uptoBulkAll ((elems.take k).map (·.1)) ∧
      ((DataW.weightsAll Tryd.prog 24 ((elems.take k).map (·.1))).all (· ≤ reachBytes) = true → ∀ z ∈ zs, okT z) := by
  intro k
  induction k with
  | zero => exact fun _ => ⟨[], rfl, fun i z h => by simp at h, by simp, fun _ z h => by cases h⟩
  | succ k ihk =>
    intro hk
    obtain ⟨zs, h1, h2, h3, h4⟩ := ihk (by omega)
    have hb := he k (by omega)
    rw [List.getElem?_eq_getElem (by omega)] at hb
    obtain ⟨cs, hc, ht⟩ := Option.bind_eq_some_iff.1 hb
    obtain ⟨z, hK, hn, hw⟩ := ih cs _ ht
    rw [List.take_succ_eq_append_getElem (by omega), List.map_append, List.map_cons, List.map_nil]
    refine ⟨zs ++ [z], by simp [h1], fun i y hy => ?_, ?_, fun h y hy => ?_⟩
    · by_cases hi : i < k
      · rw [List.getElem?_append_left (by omega)] at hy; exact h2 i y hy
      · rw [List.getElem?_append_right (by omega)] at hy
        have hi0 : i - zs.length = 0 := by
          by_cases h0 : i - zs.length = 0
          · exact h0
          · rw [List.getElem?_eq_none (by simp; omega)] at hy; cases hy
        rw [hi0] at hy
        obtain rfl : z = y := by simpa using hy
        obtain rfl : i = k := by omega
        exact ⟨cs, hc, hK⟩
    · rw [bulk_append]
      simp only [List.map_append, List.map_cons, List.map_nil, List.sum_append, List.sum_cons, List.sum_nil, Rows.uptoBulkAll]
      omega
    · rw [weightsAll_append, all_append] at h
      rcases List.mem_append.1 hy with hy | hy
      · exact h4 h.1 y hy
      · rw [List.mem_singleton.1 hy]
        refine hw ?_
        have := h.2
        simpa [DataW.weightsAll] using this

theorem open24 {H : Type} {enc : TypeId × Value → H} {W : World} {base : Nat} {spare : Nat → Bool} {held : Bool} : ∀ (fuel : Nat) (cs : List Value) (x : DataW H × List MemPlace),
    DataW.trod enc Tryd.prog W base spare held fuel 24 cs = some x → ∃ z : S24, Tree W cs x.1 z := by
  intro fuel
  induction fuel using Nat.strongRecOn with
  | _ fuel ih =>
  intro cs x h
  obtain ⟨xs, n, rfl, rfl, hl, hlen, hf⟩ := DataW.trod_struct Tryd.underlying24 h
  rw [cells24] at hl
  obtain ⟨c0, c1, c2, c3, c4, rfl⟩ := list5 hl rfl
  obtain ⟨y0, y1, y2, y3, y4, rfl⟩ := list5 hlen (by kernel_rfl)
  have h0 : DataW.trod enc Tryd.prog W base spare held n 3 [c0] = some y0 := by have := hf 0 _ rfl; simpa [cells3] using this
  have h1 : DataW.trod enc Tryd.prog W base spare held n 9 [c1] = some y1 := by have := hf 1 _ rfl; simpa [cells9] using this
  have h2 : DataW.trod enc Tryd.prog W base spare held n 3 [c2] = some y2 := by have := hf 2 _ rfl; simpa [cells3] using this
  have h3 : DataW.trod enc Tryd.prog W base spare held n 3 [c3] = some y3 := by have := hf 3 _ rfl; simpa [cells3] using this
  have h4 : DataW.trod enc Tryd.prog W base spare held n 22 [c4] = some y4 := by have := hf 4 _ rfl; simpa [cells22] using this
  clear hf
  obtain ⟨a0, e0, rfl, _⟩ := DataW.trod_int Tryd.underlying3 h0
  obtain ⟨a1, e1, rfl, _⟩ := DataW.trod_string Tryd.underlying9 h1
  obtain ⟨a2, e2, rfl, _⟩ := DataW.trod_int Tryd.underlying3 h2
  obtain ⟨a3, e3, rfl, _⟩ := DataW.trod_int Tryd.underlying3 h3
  injection e0 with e0 _; injection e1 with e1 _; injection e2 with e2 _; injection e3 with e3 _
  subst e0 e1 e2 e3
  clear h h0 h1 h2 h3 hl hlen
  simp only [List.map_cons, List.map_nil]
  rcases DataW.trod_slice Tryd.underlying22 h4 with ⟨e4, rfl⟩ | ⟨a, len, cap, elems, rest, m, rfl, e4, rfl, hb, hlc, hcm, hel, hels, _, _⟩
  · injection e4 with e4 _
    subst e4
    refine ⟨⟨a0, a1, a2, a3, []⟩, k24_mk W _ (Nat.le_refl 0) (Kd.C_nil k24 W), ?_, fun _ => .mk _ (Nat.zero_le _) (by simp)⟩
    rw [nodes_eq]
    simp [Rows.uptoBulk]
  · injection e4 with e4 _
    subst e4
    rw [cells24] at hels
    obtain ⟨zs, k1, k2, k3, k4⟩ := kids24 (fun cs x h => ih m (by omega) cs x h) a elems (fun i hi => hels i (by omega)) elems.length (Nat.le_refl _)
    rw [List.take_length] at k3 k4
    refine ⟨⟨a0, a1, a2, a3, zs⟩, ?_, ?_, fun hw => ?_⟩
    · have hC : k24.C W (some a) zs.length zs := by
        refine ⟨rfl, ?_, fun _ => ⟨a, rfl, fun j p hj => ?_⟩⟩
        · have : maxLen = 9223372036854775807 := rfl
          omega
        · obtain ⟨cs, hc, hK⟩ := k2 j p hj
          obtain ⟨_, hcl, hcc⟩ := World.cells?_some hc
          refine ⟨cs, hcl, hK, fun i u hu => ?_⟩
          have hi : i < 5 := by rw [← hcl]; exact (List.getElem?_eq_some_iff.1 hu).1
          rw [← hu, ← hcc i hi, add_add]
          rfl
      have hzl : zs.length = len := by omega
      rw [← hzl]
      exact k24_mk W ⟨a0, a1, a2, a3, zs⟩ (show zs.length ≤ cap by omega) hC
    · rw [nodes_eq]
      simp only [Rows.uptoBulk, Rows.uptoBulkAll]
      omega
    · have hw2 : ((DataW.slice (elems.map (·.1)) (rest.map (·.1))).weights Tryd.prog 22).all (· ≤ reachBytes) = true := by
        have e : (DataW.agg [.lit (.int .i64 a0), .lit (.string a1.data.toList), .lit (.int .i64 a2), .lit (.int .i64 a3), .slice (elems.map (·.1)) (rest.map (·.1))] : DataW H).weights Tryd.prog 24 = [a1.data.toList.length] ++ (DataW.slice (elems.map (·.1)) (rest.map (·.1)) : DataW H).weights Tryd.prog 22 := by
          simp [DataW.weights, DataW.weightsEach, Tryd.underlying24]
        rw [e, all_append] at hw
        exact hw.2
      have e2 : (DataW.slice (elems.map (·.1)) (rest.map (·.1)) : DataW H).weights Tryd.prog 22 = ((elems.map (·.1)).length + (rest.map (·.1)).length) * 64 :: (DataW.weightsAll Tryd.prog 24 (elems.map (·.1)) ++ DataW.weightsAll Tryd.prog 24 (rest.map (·.1))) := by
        rw [DataW.weights, Tryd.underlying22]
        simp only [bytes24]
      rw [e2, List.all_cons, Bool.and_eq_true, all_append] at hw2
      obtain ⟨hlen0, hall, _⟩ := hw2
      have hlen1 := of_decide_eq_true hlen0
      simp only [List.length_map] at hlen1
      have hr : reachBytes = 140737488351232 := rfl
      exact .mk _ (show zs.length ≤ 2199023255552 by omega) (fun y hy => k4 hall y hy)
end Go.Proofs.YtladneaaepcdbaaDoor.O
