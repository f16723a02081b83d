/- Same of a list and itself. -/
import Derived.Test.YtdbhlfnpaloomaaC
namespace Go.Proofs.Ytdbhlfnpaloomaa.D
open Go.RowKit Go.Proofs.YtdbhlfnpaloomaaW.PrintWords Go.Proofs.YtdbhlfnpaloomaaW.PrintLast Go.Proofs.YtdbhlfnpaloomaaW.PrintMore
open Go.Proofs.Ytdbhlfnpaloomaa.PSame
set_option linter.unusedVariables false
set_option linter.unusedSimpArgs false

theorem wrap_succ {k n : Nat} (h : k < n) (hn : n ≤ 2199023255552) : wrap64 ((k : Int) + 1) = ((k + 1 : Nat) : Int) := by unfold wrap64; omega

theorem sameRow_refl (l : List S46) (hl : l.length ≤ 2199023255552) : ∃ K, ∀ q, K ≤ q → marqueeref03_SameRow.f q l l = some true := by
  have loop : ∀ m k : Nat, m = l.length - k → k ≤ l.length → ∃ K, ∀ q, K ≤ q → marqueeref03_SameRow.l0 q l l k = some true := by
    intro m
    induction m with
    | zero =>
      intro k hm hk
      refine ⟨1, fun q hq => ?_⟩
      obtain ⟨q, rfl⟩ : ∃ r, q = r + 1 := ⟨q - 1, by omega⟩
      simp only [marqueeref03_SameRow.l0]
      rw [if_neg (by omega)]
    | succ m ihm =>
      intro k hm hk
      obtain ⟨K, hK⟩ := ihm (k + 1) (by omega) (by omega)
      refine ⟨K + 1, fun q hq => ?_⟩
      obtain ⟨q, rfl⟩ : ∃ r, q = r + 1 := ⟨q - 1, by omega⟩
      simp only [marqueeref03_SameRow.l0]
      rw [if_pos (by omega), if_pos (by omega), if_pos (by omega), if_neg (by simp), wrap_succ (show k < l.length by omega) hl, hK q (by omega)]
  obtain ⟨K, hK⟩ := loop l.length 0 (by omega) (by omega)
  exact ⟨K, fun q hq => by simp only [marqueeref03_SameRow.f]; rw [if_pos trivial]; exact hK q hq⟩

theorem same_refl (l : List S30) (hl : l.length ≤ 2199023255552) (hr : ∀ a ∈ l, a.f2.length ≤ 2199023255552) : ∃ K, marqueeref15_Same.f K l l = some true := by
  have loop : ∀ m k : Nat, m = l.length - k → k ≤ l.length → ∃ K, ∀ q, K ≤ q → marqueeref15_Same.l0 q l l k = some true := by
    intro m
    induction m with
    | zero =>
      intro k hm hk
      refine ⟨1, fun q hq => ?_⟩
      obtain ⟨q, rfl⟩ : ∃ r, q = r + 1 := ⟨q - 1, by omega⟩
      simp only [marqueeref15_Same.l0]
      rw [if_neg (by omega)]
    | succ m ihm =>
      intro k hm hk
      obtain ⟨K, hK⟩ := ihm (k + 1) (by omega) (by omega)
      have hlt : k < l.length := by omega
      have he : rd_T30 l k = l[k] := by simp [rd_T30, List.getD_eq_getElem?_getD, List.getElem?_eq_getElem hlt]
      obtain ⟨K2, hK2⟩ := sameRow_refl l[k].f2 (hr _ (List.getElem_mem hlt))
      refine ⟨K + K2 + 1, fun q hq => ?_⟩
      obtain ⟨q, rfl⟩ : ∃ r, q = r + 1 := ⟨q - 1, by omega⟩
      simp only [marqueeref15_Same.l0]
      rw [if_pos (by omega), if_pos (by omega), if_pos (by omega), if_pos trivial, if_pos trivial, he, hK2 q (by omega), Option.bind_some, if_pos rfl, wrap_succ hlt hl, hK q (by omega)]
  obtain ⟨K, hK⟩ := loop l.length 0 (by omega) (by omega)
  exact ⟨K, by simp only [marqueeref15_Same.f]; rw [if_pos trivial]; exact hK K (Nat.le_refl _)⟩

theorem same_call (l : List S30) (A B : Option Addr) (c d : Nat) (w : World) (hA : Kd.C k30 w A l.length l) (hc : l.length ≤ c) (hB : Kd.C k30 w B l.length l) (hd : l.length ≤ d) (hl : l.length ≤ 2199023255552) (hr : ∀ a ∈ l, a.f2.length ≤ 2199023255552) :
    Calls Try.prog 6 #[.slice A l.length c, .slice B l.length d] w fun e w' => e = .returned (.bool true) ∧ Below w.heap.size w w' := by
  obtain ⟨k, hk⟩ := same_refl l hl hr
  exact marqueeref15_Same.calls k A c l B d l true w hA hc hB hd hk
end Go.Proofs.Ytdbhlfnpaloomaa.D
