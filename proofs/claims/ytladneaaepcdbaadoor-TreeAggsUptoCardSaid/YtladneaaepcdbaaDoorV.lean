/- The small makers of trees of the law's package. -/
import Derived.Test.YtladneaaepcdbaaDoorU
namespace Go.Proofs.YtladneaaepcdbaaDoor.V
open Go.RowKit Go.Proofs.YtladneaaepcdbaaDoorW.PrintWords Go.Proofs.YtladneaaepcdbaaDoorW.PrintLast Go.Proofs.YtladneaaepcdbaaDoorW.PrintMore
open Go.Proofs.YtladneaaepcdbaaDoor.PTree Go.Proofs.YtladneaaepcdbaaDoor.B Go.Proofs.YtladneaaepcdbaaDoor.S
set_option linter.unusedVariables false
set_option linter.unusedSimpArgs false

set_option maxHeartbeats 4000000 in
theorem agg_calls (s : ByteArray) (A : Option Addr) (n c : Nat) (w : World) :
    Calls Tryd.prog 12 #[.string s, .slice A n c] w fun e w' => e = .returned (.agg #[.int .i64 14, .string s, .int .i64 0, .int .i64 0, .slice A n c]) ∧ Below w.heap.size w w' := by
  go_enter Tryd.func12, Tryd.ntmps12
  go_wp2_with fail
  refine bodyPost_ret (results_cell_row rfl _ _ w.heap.size 24 #[.int .i64 14, .string s, .int .i64 0, .int .i64 0, .slice A n c] (0, 0) _ rfl (blk_new _ _) Tryd.underlying24 rfl (by kernel_rfl)) rfl ?_
  exact ⟨rfl, (Below.refl _ _).alloc (Nat.le_refl _) _⟩

set_option maxHeartbeats 4000000 in
theorem num_calls (n : Int) (w : World) :
    Calls Tryd.prog 15 #[.int .i64 n] w fun e w' => e = .returned (.agg #[.int .i64 3, .string ⟨#[]⟩, .int .i64 n, .int .i64 0, .slice none 0 0]) ∧ Below w.heap.size w w' := by
  go_enter Tryd.func15, Tryd.ntmps15
  go_wp2_with fail
  refine bodyPost_ret (results_cell_row rfl _ _ w.heap.size 24 #[.int .i64 3, .string ⟨#[]⟩, .int .i64 n, .int .i64 0, .slice none 0 0] (0, 0) _ rfl (blk_new _ _) Tryd.underlying24 rfl (by kernel_rfl)) rfl ?_
  exact ⟨rfl, (Below.refl _ _).alloc (Nat.le_refl _) _⟩

set_option maxHeartbeats 4000000 in
theorem sum_calls (x0 x2 x3 y0 y2 y3 : Int) (x1 y1 : ByteArray) (A A' : Option Addr) (n c n' c' : Nat) (w : World) :
    Calls Tryd.prog 13 #[.agg #[.int .i64 x0, .string x1, .int .i64 x2, .int .i64 x3, .slice A n c], .agg #[.int .i64 y0, .string y1, .int .i64 y2, .int .i64 y3, .slice A' n' c']] w fun e w' => ∃ g, e = .returned (.agg #[.int .i64 8, .string ⟨#[43]⟩, .int .i64 0, .int .i64 0, .slice (some ⟨g, 0, none⟩) 2 2]) ∧ w.heap.size ≤ g ∧
      w'.heap[g]? = some (.cells #[.int .i64 x0, .string x1, .int .i64 x2, .int .i64 x3, .slice A n c, .int .i64 y0, .string y1, .int .i64 y2, .int .i64 y3, .slice A' n' c'] 24 (0, 0)) ∧ Below w.heap.size w w' := by
  go_enter Tryd.func13, Tryd.ntmps13
  go_wp2_with fail
  obtain ⟨w2, hw2⟩ : ∃ w2 : World, w2 = (w.alloc (.cells #[.int .i64 x0, .string x1, .int .i64 x2, .int .i64 x3, .slice A n c] 24)).alloc (.cells #[.int .i64 y0, .string y1, .int .i64 y2, .int .i64 y3, .slice A' n' c'] 24) := ⟨_, rfl⟩
  have hs2 : w2.heap.size = w.heap.size + 1 + 1 := by rw [hw2]; simp
  have hB2 : Below w.heap.size w w2 := by rw [hw2]; exact ((Below.refl _ _).alloc (Nat.le_refl _) _).alloc (by simp) _
  rw [← hw2, ← hs2]
  obtain ⟨w3, hw3⟩ : ∃ w3 : World, w3 = w2.alloc (.cells #[.int .i64 8, .string ⟨#[43]⟩, .int .i64 0, .int .i64 0, .slice (some ⟨w2.heap.size + 1, 0, none⟩) 2 2] 24) := ⟨_, rfl⟩
  have hs3 : w3.heap.size = w2.heap.size + 1 := by rw [hw3]; simp
  have hB3 : Below w2.heap.size w2 w3 := by rw [hw3]; exact (Below.refl _ _).alloc (Nat.le_refl _) _
  have hb3 : w3.heap[w2.heap.size]? = some (.cells #[.int .i64 8, .string ⟨#[43]⟩, .int .i64 0, .int .i64 0, .slice (some ⟨w2.heap.size + 1, 0, none⟩) 2 2] 24 (0, 0)) := by rw [hw3]; exact blk_new _ _
  rw [← hw3]
  rw [← hs3] at hb3 ⊢
  obtain ⟨w4, hw4⟩ : ∃ w4 : World, w4 = w3.alloc (.cells #[.int .i64 x0, .string x1, .int .i64 x2, .int .i64 x3, .slice A n c, .int .i64 y0, .string y1, .int .i64 y2, .int .i64 y3, .slice A' n' c'] 24) := ⟨_, rfl⟩
  have hB4 : Below w3.heap.size w3 w4 := by rw [hw4]; exact (Below.refl _ _).alloc (Nat.le_refl _) _
  have hb4 : w4.heap[w3.heap.size]? = some (.cells #[.int .i64 x0, .string x1, .int .i64 x2, .int .i64 x3, .slice A n c, .int .i64 y0, .string y1, .int .i64 y2, .int .i64 y3, .slice A' n' c'] 24 (0, 0)) := by rw [hw4]; exact blk_new _ _
  rw [← hw4]
  have hBB : Below w.heap.size w w4 := below_then hB2 hB2.size (below_then hB3 hB3.size hB4)
  refine bodyPost_ret (results_cell_row rfl _ _ w2.heap.size 24 #[.int .i64 8, .string ⟨#[43]⟩, .int .i64 0, .int .i64 0, .slice (some ⟨w3.heap.size, 0, none⟩) 2 2] (0, 0) _ rfl (blk_below hb3 hB4) Tryd.underlying24 rfl (by kernel_rfl)) rfl ?_
  exact ⟨w3.heap.size, rfl, Nat.le_trans hB2.size hB3.size, hb4, hBB⟩
end Go.Proofs.YtladneaaepcdbaaDoor.V
