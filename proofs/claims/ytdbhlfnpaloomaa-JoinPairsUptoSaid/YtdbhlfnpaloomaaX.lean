/- An argument that is a slice of arrivals, opened. -/
import Derived.Test.YtdbhlfnpaloomaaRows
import Derived.Test.YtdbhlfnpaloomaaPSamex
import Derived.WalkKit
import Derived.ProofKit
import Derived.OpenShut
import Derived.ChangeOld
import Derived.Below
import Derived.Carry
import Derived.SizedLaws
import Derived.Deep.DeepHandedRow
import Derived.Deep.DeepWitnessRowRef
import Derived.MakeChecks
import Derived.Lay
namespace Go.Proofs.Ytdbhlfnpaloomaa.X
open Go.ChangeShapes Go.WideShapes Go.ChangeAt Go.RowKit Go.Proofs.YtdbhlfnpaloomaaW.PrintWords
open Go.Proofs.Ytdbhlfnpaloomaa.PSame
set_option linter.unusedVariables false
set_option linter.unusedSimpArgs false

theorem cells46 : Try.prog.cellsOf 46 = 3 := by kernel_rfl
theorem cells30 : Try.prog.cellsOf 30 = 3 := by kernel_rfl
theorem cells28 : Try.prog.cellsOf 28 = 1 := by kernel_rfl
theorem cells3 : Try.prog.cellsOf 3 = 1 := by kernel_rfl
theorem cells9 : Try.prog.cellsOf 9 = 1 := by kernel_rfl
theorem laidOut : laidOutB Try.prog = true := by kernel_rfl

theorem one_le {H : Type} (d : DataW H) : 1 ≤ Rows.uptoBulk d := by
  cases d with
  | lit l => cases l <;> simp [Rows.uptoBulk]
  | nil => simp [Rows.uptoBulk]
  | ptr d => simp [Rows.uptoBulk]
  | slice elems spare => simp [Rows.uptoBulk]
  | agg parts => simp [Rows.uptoBulk]
  | iface t d => simp [Rows.uptoBulk]
  | map entries => simp [Rows.uptoBulk]
  | held h => simp [Rows.uptoBulk]
theorem bulk_append {H : Type} (l r : List (DataW H)) : Rows.uptoBulkAll (l ++ r) = Rows.uptoBulkAll l + Rows.uptoBulkAll r := by
  induction l with
  | nil => simp [Rows.uptoBulkAll]
  | cons x l ih => simp only [List.cons_append, Rows.uptoBulkAll, ih]; omega
theorem le_sum {α : Type} (G : α → Nat) : ∀ (l : List α) (a : α), a ∈ l → G a ≤ (l.map G).sum
  | x :: l, a, h => by
    rcases List.mem_cons.1 h with rfl | h
    · simp
    · have := le_sum G l a h
      simp; omega

theorem list3 {α : Type} {l : List α} {n : Nat} (h : l.length = n) (hn : n = 3) : ∃ a b c, l = [a, b, c] := by
  subst hn
  match l, h with
  | [a, b, c], _ => exact ⟨a, b, c, rfl⟩

theorem kids {H α : Type} {enc : TypeId × Value → H} {W : World} {base : Nat} {spare : Nat → Bool} {held : Bool} {m : Nat} (k : Kd α) (e : TypeId) (sz : Nat) (G : α → Nat)
    (ih : ∀ (cs : List Value) (x : DataW H × List MemPlace), DataW.trod enc Try.prog W base spare held m e cs = some x → ∃ z : α, k.K W z cs ∧ G z ≤ Rows.uptoBulk x.1)
    (a : Addr) (elems : List (DataW H × List MemPlace)) (he : ∀ i, i < elems.length → (W.cells? base (a.add (i * sz)) sz).bind (DataW.trod enc Try.prog W base spare held m e) = elems[i]?) : ∀ n, n ≤ elems.length →
    ∃ zs : List α, zs.length = n ∧ (∀ i z, zs[i]? = some z → ∃ cs, W.cells? base (a.add (i * sz)) sz = some cs ∧ k.K W z cs) ∧ (zs.map G).sum ≤ Rows.uptoBulkAll ((elems.take n).map (·.1)) := by
  intro n
  induction n with
  | zero => exact fun _ => ⟨[], rfl, fun i z h => by simp at h, by simp⟩
  | succ n ihn =>
    intro hk
    obtain ⟨zs, h1, h2, h3⟩ := ihn (by omega)
    have hb := he n (by omega)
    rw [List.getElem?_eq_getElem (by omega)] at hb
    obtain ⟨cs, hc, ht⟩ := Option.bind_eq_some_iff.1 hb
    obtain ⟨z, hK, hn⟩ := ih cs _ ht
    rw [List.take_succ_eq_append_getElem (by omega), List.map_append, List.map_cons, List.map_nil]
    refine ⟨zs ++ [z], by simp [h1], fun i y hy => ?_, ?_⟩
    · by_cases hi : i < n
      · rw [List.getElem?_append_left (by omega)] at hy; exact h2 i y hy
      · rw [List.getElem?_append_right (by omega)] at hy
        have hi0 : i - zs.length = 0 := by
          by_cases h0 : i - zs.length = 0
          · exact h0
          · rw [List.getElem?_eq_none (by simp; omega)] at hy; cases hy
        rw [hi0] at hy
        obtain rfl : z = y := by simpa using hy
        obtain rfl : i = n := by omega
        exact ⟨cs, hc, hK⟩
    · rw [bulk_append]
      simp only [List.map_append, List.map_cons, List.map_nil, List.sum_append, List.sum_cons, List.sum_nil, Rows.uptoBulkAll]
      omega

/-- A slice of elements of one kind. -/
theorem openSlice {H α : Type} {enc : TypeId × Value → H} {W : World} {base : Nat} {spare : Nat → Bool} {held : Bool} (k : Kd α) (t e : TypeId) (G : α → Nat) (ht : Try.prog.underlying t = some (.slice e)) (hce : Try.prog.cellsOf e = k.sz)
    (ih : ∀ (m : Nat) (cs : List Value) (x : DataW H × List MemPlace), DataW.trod enc Try.prog W base spare held m e cs = some x → ∃ z : α, k.K W z cs ∧ G z ≤ Rows.uptoBulk x.1)
    {fuel : Nat} {v : Value} {x : DataW H × List MemPlace} (h : DataW.trod enc Try.prog W base spare held fuel t [v] = some x) :
    ∃ (A : Option Addr) (zs : List α) (c : Nat), v = .slice A zs.length c ∧ zs.length ≤ c ∧ k.C W A zs.length zs ∧ (zs.map G).sum + 1 ≤ Rows.uptoBulk x.1 := by
  rcases DataW.trod_slice ht h with ⟨e4, rfl⟩ | ⟨a, len, cap, elems, rest, m, rfl, e4, rfl, hb, hlc, hcm, hel, hels, _, _⟩
  · injection e4 with e4 _
    subst e4
    exact ⟨none, [], 0, rfl, Nat.le_refl _, Kd.C_nil k W, by simp [Rows.uptoBulk]⟩
  · injection e4 with e4 _
    subst e4
    rw [hce] at hels
    obtain ⟨zs, k1, k2, k3⟩ := kids k e k.sz G (fun cs x h => ih m cs x h) a elems (fun i hi => hels i (by omega)) elems.length (Nat.le_refl _)
    rw [List.take_length] at k3
    have hzl : zs.length = len := by omega
    refine ⟨some a, zs, cap, by rw [hzl], by omega, ?_, ?_⟩
    · refine ⟨rfl, ?_, fun _ => ⟨a, rfl, fun j p hj => ?_⟩⟩
      · have : maxLen = 9223372036854775807 := rfl
        omega
      · obtain ⟨cs, hc, hK⟩ := k2 j p hj
        obtain ⟨_, hcl, hcc⟩ := World.cells?_some hc
        refine ⟨cs, hcl, hK, fun i u hu => ?_⟩
        have hi : i < k.sz := by rw [← hcl]; exact (List.getElem?_eq_some_iff.1 hu).1
        rw [← hu, ← hcc i hi, add_add]
    · simp only [Rows.uptoBulk]
      omega

theorem open46 {H : Type} {enc : TypeId × Value → H} {W : World} {base : Nat} {spare : Nat → Bool} {held : Bool} (fuel : Nat) (cs : List Value) (x : DataW H × List MemPlace)
    (h : DataW.trod enc Try.prog W base spare held fuel 46 cs = some x) : ∃ z : S46, k46.K W z cs ∧ 1 ≤ Rows.uptoBulk x.1 := by
  obtain ⟨xs, n, rfl, rfl, hl, hlen, hf⟩ := DataW.trod_struct Try.underlying46 h
  rw [cells46] at hl
  obtain ⟨c0, c1, c2, rfl⟩ := list3 hl rfl
  obtain ⟨y0, y1, y2, rfl⟩ := list3 hlen (by kernel_rfl)
  have h0 : DataW.trod enc Try.prog W base spare held n 3 [c0] = some y0 := by have := hf 0 _ rfl; simpa [cells3] using this
  have h1 : DataW.trod enc Try.prog W base spare held n 3 [c1] = some y1 := by have := hf 1 _ rfl; simpa [cells3] using this
  have h2 : DataW.trod enc Try.prog W base spare held n 9 [c2] = some y2 := by have := hf 2 _ rfl; simpa [cells9] using this
  clear hf
  obtain ⟨a0, e0, rfl, _⟩ := DataW.trod_int Try.underlying3 h0
  obtain ⟨a1, e1, rfl, _⟩ := DataW.trod_int Try.underlying3 h1
  obtain ⟨a2, e2, rfl, _⟩ := DataW.trod_string Try.underlying9 h2
  injection e0 with e0 _; injection e1 with e1 _; injection e2 with e2 _
  subst e0 e1 e2
  exact ⟨⟨a0, a1, a2⟩, k46_mk W ⟨a0, a1, a2⟩, one_le _⟩

theorem sum_ones (l : List S46) : (l.map fun _ => 1).sum = l.length := by
  induction l with
  | nil => rfl
  | cons a l ih => simp [ih, Nat.add_comm]

theorem open30 {H : Type} {enc : TypeId × Value → H} {W : World} {base : Nat} {spare : Nat → Bool} {held : Bool} (fuel : Nat) (cs : List Value) (x : DataW H × List MemPlace)
    (h : DataW.trod enc Try.prog W base spare held fuel 30 cs = some x) : ∃ z : S30, k30.K W z cs ∧ z.f2.length + 1 ≤ Rows.uptoBulk x.1 := by
  obtain ⟨xs, n, rfl, rfl, hl, hlen, hf⟩ := DataW.trod_struct Try.underlying30 h
  rw [cells30] at hl
  obtain ⟨c0, c1, c2, rfl⟩ := list3 hl rfl
  obtain ⟨y0, y1, y2, rfl⟩ := list3 hlen (by kernel_rfl)
  have h0 : DataW.trod enc Try.prog W base spare held n 3 [c0] = some y0 := by have := hf 0 _ rfl; simpa [cells3] using this
  have h1 : DataW.trod enc Try.prog W base spare held n 3 [c1] = some y1 := by have := hf 1 _ rfl; simpa [cells3] using this
  have h2 : DataW.trod enc Try.prog W base spare held n 28 [c2] = some y2 := by have := hf 2 _ rfl; simpa [cells28] using this
  clear hf
  obtain ⟨a0, e0, rfl, _⟩ := DataW.trod_int Try.underlying3 h0
  obtain ⟨a1, e1, rfl, _⟩ := DataW.trod_int Try.underlying3 h1
  injection e0 with e0 _; injection e1 with e1 _
  subst e0 e1
  obtain ⟨A, zs, c, rfl, hlc, hC, hb⟩ := openSlice k46 28 46 (fun _ => 1) Try.underlying28 cells46 (fun m cs x h => open46 m cs x h) h2
  rw [sum_ones] at hb
  refine ⟨⟨a0, a1, zs⟩, k30_mk W ⟨a0, a1, zs⟩ hlc hC, ?_⟩
  simp only [List.map_cons, List.map_nil, Rows.uptoBulk, Rows.uptoBulkAll]
  omega

theorem open22 {H : Type} {enc : TypeId × Value → H} {W : World} {base : Nat} {spare : Nat → Bool} {held : Bool} {fuel : Nat} {v : Value} {x : DataW H × List MemPlace}
    (h : DataW.trod enc Try.prog W base spare held fuel 22 [v] = some x) :
    ∃ (A : Option Addr) (l : List S30) (c : Nat), v = .slice A l.length c ∧ l.length ≤ c ∧ k30.C W A l.length l ∧ ∀ a ∈ l, a.f2.length + 1 ≤ Rows.uptoBulk x.1 := by
  obtain ⟨A, zs, c, rfl, hlc, hC, hb⟩ := openSlice k30 22 30 (fun z : S30 => z.f2.length + 1) Try.underlying22 cells30 (fun m cs x h => open30 m cs x h) h
  exact ⟨A, zs, c, rfl, hlc, hC, fun a ha => by have := le_sum (fun z : S30 => z.f2.length + 1) zs a ha; exact Nat.le_trans (Nat.le_trans this (Nat.le_succ _)) hb⟩
end Go.Proofs.Ytdbhlfnpaloomaa.X
