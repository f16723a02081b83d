/- The small functions of the views: content.Check at a length view, views.begin, slices.Clone of no places. -/
import Derived.Test.YtdbhlfnpaloomaaG
namespace Go.Proofs.Ytdbhlfnpaloomaa.H
open Go.RowKit Go.Proofs.YtdbhlfnpaloomaaW.PrintWords Go.Proofs.YtdbhlfnpaloomaaW.PrintLast Go.Proofs.YtdbhlfnpaloomaaW.PrintMore
open Go.Proofs.Ytdbhlfnpaloomaa.PSame Go.Proofs.Ytdbhlfnpaloomaa.A Go.Proofs.Ytdbhlfnpaloomaa.B
set_option linter.unusedVariables false
set_option linter.unusedSimpArgs false

theorem check_calls (n k : Int) (w : World) (h1 : 1 ≤ n) (h2 : n ≤ 65536) :
    Calls Try.prog 20 #[.agg #[.int .i64 2, .int .i64 n, .slice none 0 0, .bool false], .int .i64 k] w fun e w' => e = .returned (.int .i64 0) ∧ Below w.heap.size w w' := by
  go_enter Try.func20, Try.ntmps20
  go_wp2_with fail
  go_ret
  exact ⟨rfl, below_alloc (Below.refl _ _) _⟩

theorem begin_calls (n : Int) (w : World) :
    Calls Try.prog 22 #[.agg #[.int .i64 2, .int .i64 n, .slice none 0 0, .bool false]] w fun e w' => ∃ nb, e = .returned (.iface 74 (.pointer (some ⟨nb, 0, none⟩))) ∧ w'.heap[nb]? = some (.cells #[.slice none 0 0, .int .i64 n] 76 (0, 0)) ∧ w.heap.size ≤ nb ∧ Below w.heap.size w w' := by
  go_enter Try.func22, Try.ntmps22
  go_wp2_with fail
  go_ret
  exact ⟨w.heap.size + 1, rfl, by have := blk_new (w.alloc (.cells #[.int .i64 2, .int .i64 n, .slice none 0 0, .bool false] 37)) (.cells #[.slice none 0 0, .int .i64 n] 76); simpa using this, by omega, below_alloc (below_alloc (Below.refl _ _) _) _⟩

theorem clone35_calls (w : World) :
    Calls Try.prog 21 #[.slice none 0 0] w fun e w' => e = .returned (.slice none 0 0) ∧ Below w.heap.size w w' := by
  have q35 : ∀ (w : World) (a : Option Addr) (n c n' c' : Nat), (binOp .eql 35 (.slice a n c) (.slice none n' c')).run Try.prog w = .ok (.bool a.isNone) w := fun w a n c n' c' => Lib.run_eql_slice_nil w _ _ a n c n' c' Try.underlying35
  go_enter Try.func21, Try.ntmps21
  go_wp2_with fail
  go_ret
  exact ⟨rfl, Below.refl _ _⟩

theorem advance_calls (p : Value) (t : Int) (w : World) : Calls Try.prog 54 #[p, .int .i64 t] w fun e w' => w' = w ∧ ∃ v, e = .returned v := by
  go_enter Try.func54, Try.ntmps54
  go_wp2_with fail
  go_end0
  exact ⟨rfl, _, rfl⟩

theorem holds_calls (nb : Nat) (v : Value) (hv : v.oneCell' = true) (n : Int) (w : World) (hb : w.heap[nb]? = some (.cells #[v, .int .i64 n] 76 (0, 0))) : Calls Try.prog 55 #[.pointer (some ⟨nb, 0, none⟩)] w fun e w' => w' = w ∧ e = .returned v := by
  have h0 : w.cell? ⟨nb, 0, none⟩ = some v := (blk_cell hb 0).trans rfl
  go_enter Try.func55, Try.ntmps55
  go_wp2_with fail
  go_ret
  exact ⟨rfl, rfl⟩
end Go.Proofs.Ytdbhlfnpaloomaa.H
