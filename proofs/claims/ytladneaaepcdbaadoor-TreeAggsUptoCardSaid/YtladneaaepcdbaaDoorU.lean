/- tree.Form at four closed trees. -/
import Derived.Test.YtladneaaepcdbaaDoorS
namespace Go.Proofs.YtladneaaepcdbaaDoor.U
open Go.RowKit Go.Proofs.YtladneaaepcdbaaDoorW.PrintWords Go.Proofs.YtladneaaepcdbaaDoorW.PrintLast Go.Proofs.YtladneaaepcdbaaDoorW.PrintMore
open Go.Proofs.YtladneaaepcdbaaDoor.PTree Go.Proofs.YtladneaaepcdbaaDoor.B Go.Proofs.YtladneaaepcdbaaDoor.S
set_option linter.unusedVariables false
set_option linter.unusedSimpArgs false

def cs24 (k : Int) (s : ByteArray) (n m : Int) (A : Option Addr) (c : Nat) : List Value := [.int .i64 k, .string s, .int .i64 n, .int .i64 m, .slice A 0 c]
def noText : ByteArray := ⟨#[]⟩
def sumText : ByteArray := ⟨#[115, 117, 109]⟩
def selText : ByteArray := ⟨#[83, 101, 108, 101, 99, 116]⟩

set_option maxHeartbeats 4000000 in
theorem leaf_num (n m : Int) (A : Option Addr) (c : Nat) (w : World) :
    Calls Tryd.prog 30 #[.agg #[.int .i64 3, .string ⟨#[]⟩, .int .i64 n, .int .i64 m, .slice A 0 c]] w fun e w' => e = .returned (.bool (decide (0 ≤ n))) ∧ Below w.heap.size w w' := by
  go_enter Tryd.func30, Tryd.ntmps30
  by_cases h : 0 ≤ n
  · have hd : decide (0 ≤ n) = true := decide_eq_true h
    go_wp2_with fail
    go_ret
    exact ⟨by rw [hd]; rfl, (Below.refl _ _).alloc (Nat.le_refl _) _⟩
  · have hd : decide (0 ≤ n) = false := decide_eq_false h
    go_wp2_with fail
    go_ret
    exact ⟨by first | rfl | (rw [hd]; rfl), (Below.refl _ _).alloc (Nat.le_refl _) _⟩

set_option maxHeartbeats 4000000 in
theorem leaf_sel (A : Option Addr) (c : Nat) (w : World) (htab : Lib.TabIs Tryd.prog w "strings.asciiSpace" .u8 Lib.asciiSpaceTab) :
    Calls Tryd.prog 30 #[.agg #[.int .i64 6, .string ⟨#[83, 101, 108, 101, 99, 116]⟩, .int .i64 0, .int .i64 0, .slice A 0 c]] w fun e w' => e = .returned (.bool false) ∧ Below w.heap.size w w' := by
  go_enter Tryd.func30, Tryd.ntmps30
  go_wp2_with fail
  obtain ⟨w1, hw1⟩ : ∃ w1 : World, w1 = w.alloc (.cells #[.int .i64 6, .string ⟨#[83, 101, 108, 101, 99, 116]⟩, .int .i64 0, .int .i64 0, .slice A 0 c] 24) := ⟨_, rfl⟩
  have hB1 : Below w.heap.size w w1 := by rw [hw1]; exact (Below.refl _ _).alloc (Nat.le_refl _) _
  rw [← hw1]
  refine (id_select w1 (tab_below htab hB1)).mono ?_
  rintro e w2 ⟨rfl, hb2⟩
  have HB := Aside0.mk (hB1.trans (hb2.mono hB1.size))
  clear hw1 hB1 hb2
  go_wp2_with fail
  go_ret
  exact ⟨rfl, HB.out⟩

set_option maxHeartbeats 4000000 in
theorem leaf_agg (s : ByteArray) (A : Option Addr) (c : Nat) (w : World) :
    Calls Tryd.prog 30 #[.agg #[.int .i64 14, .string s, .int .i64 0, .int .i64 0, .slice A 0 c]] w fun e w' => e = .returned (.bool false) ∧ Below w.heap.size w w' := by
  go_enter Tryd.func30, Tryd.ntmps30
  go_wp2_with fail
  go_ret
  exact ⟨rfl, (Below.refl _ _).alloc (Nat.le_refl _) _⟩

set_option maxHeartbeats 4000000 in
theorem expr_num (n m : Int) (hn : n < 0) (A : Option Addr) (c : Nat) (w : World) :
    Calls Tryd.prog 23 #[.agg #[.int .i64 3, .string ⟨#[]⟩, .int .i64 n, .int .i64 m, .slice A 0 c]] w fun e w' => e = .returned (.bool false) ∧ Below w.heap.size w w' := by
  go_enter Tryd.func23, Tryd.ntmps23
  go_wp2_with fail
  obtain ⟨w1, hw1⟩ : ∃ w1 : World, w1 = w.alloc (.cells #[.int .i64 3, .string ⟨#[]⟩, .int .i64 n, .int .i64 m, .slice A 0 c] 24) := ⟨_, rfl⟩
  have hB1 : Below w.heap.size w w1 := by rw [hw1]; exact (Below.refl _ _).alloc (Nat.le_refl _) _
  have hbx1 : w1.heap[w.heap.size]? = some (.cells #[.int .i64 3, .string ⟨#[]⟩, .int .i64 n, .int .i64 m, .slice A 0 c] 24 (0, 0)) := by rw [hw1]; exact blk_new _ _
  rw [← hw1]
  have LF := Aside0.mk (by have := leaf_num n m A c w1; rw [decide_eq_false (by omega)] at this; exact this)
  have HBX1 := Aside0.mk hbx1
  have HB1 := Aside0.mk hB1
  clear hw1 hB1 hbx1
  refine LF.out.mono ?_
  rintro e w2 ⟨rfl, hb2⟩
  have HB2 := Aside0.mk hb2
  clear hb2
  have hx := blk_below HBX1.out HB2.out
  have h0 : w2.cell? ⟨w.heap.size, 0, none⟩ = some (.int .i64 3) := (blk_cell hx 0).trans rfl
  have h1 : w2.cell? ⟨w.heap.size, 1, none⟩ = some (.string ⟨#[]⟩) := (blk_cell hx 1).trans rfl
  have h2 : w2.cell? ⟨w.heap.size, 2, none⟩ = some (.int .i64 n) := (blk_cell hx 2).trans rfl
  have h3 : w2.cell? ⟨w.heap.size, 3, none⟩ = some (.int .i64 m) := (blk_cell hx 3).trans rfl
  have h4 : w2.cell? ⟨w.heap.size, 4, none⟩ = some (.slice A 0 c) := (blk_cell hx 4).trans rfl
  go_wp2_with fail
  go_ret
  exact ⟨rfl, HB1.out.trans (HB2.out.mono HB1.out.size)⟩

set_option maxHeartbeats 4000000 in
theorem expr_sel  (A : Option Addr) (c : Nat) (w : World) (htab : Lib.TabIs Tryd.prog w "strings.asciiSpace" .u8 Lib.asciiSpaceTab) :
    Calls Tryd.prog 23 #[.agg #[.int .i64 6, .string ⟨#[83, 101, 108, 101, 99, 116]⟩, .int .i64 0, .int .i64 0, .slice A 0 c]] w fun e w' => e = .returned (.bool false) ∧ Below w.heap.size w w' := by
  go_enter Tryd.func23, Tryd.ntmps23
  go_wp2_with fail
  obtain ⟨w1, hw1⟩ : ∃ w1 : World, w1 = w.alloc (.cells #[.int .i64 6, .string ⟨#[83, 101, 108, 101, 99, 116]⟩, .int .i64 0, .int .i64 0, .slice A 0 c] 24) := ⟨_, rfl⟩
  have hB1 : Below w.heap.size w w1 := by rw [hw1]; exact (Below.refl _ _).alloc (Nat.le_refl _) _
  have hbx1 : w1.heap[w.heap.size]? = some (.cells #[.int .i64 6, .string ⟨#[83, 101, 108, 101, 99, 116]⟩, .int .i64 0, .int .i64 0, .slice A 0 c] 24 (0, 0)) := by rw [hw1]; exact blk_new _ _
  rw [← hw1]
  have LF := Aside0.mk (leaf_sel A c w1 (tab_below htab hB1))
  have HBX1 := Aside0.mk hbx1
  have HB1 := Aside0.mk hB1
  clear hw1 hB1 hbx1
  refine LF.out.mono ?_
  rintro e w2 ⟨rfl, hb2⟩
  have HB2 := Aside0.mk hb2
  clear hb2
  have hx := blk_below HBX1.out HB2.out
  have h0 : w2.cell? ⟨w.heap.size, 0, none⟩ = some (.int .i64 6) := (blk_cell hx 0).trans rfl
  have h1 : w2.cell? ⟨w.heap.size, 1, none⟩ = some (.string ⟨#[83, 101, 108, 101, 99, 116]⟩) := (blk_cell hx 1).trans rfl
  have h2 : w2.cell? ⟨w.heap.size, 2, none⟩ = some (.int .i64 0) := (blk_cell hx 2).trans rfl
  have h3 : w2.cell? ⟨w.heap.size, 3, none⟩ = some (.int .i64 0) := (blk_cell hx 3).trans rfl
  have h4 : w2.cell? ⟨w.heap.size, 4, none⟩ = some (.slice A 0 c) := (blk_cell hx 4).trans rfl
  go_wp2_with fail
  go_ret
  exact ⟨rfl, HB1.out.trans (HB2.out.mono HB1.out.size)⟩

set_option maxHeartbeats 4000000 in
theorem expr_agg  (A : Option Addr) (c : Nat) (w : World) :
    Calls Tryd.prog 23 #[.agg #[.int .i64 14, .string ⟨#[115, 117, 109]⟩, .int .i64 0, .int .i64 0, .slice A 0 c]] w fun e w' => e = .returned (.bool false) ∧ Below w.heap.size w w' := by
  go_enter Tryd.func23, Tryd.ntmps23
  go_wp2_with fail
  obtain ⟨w1, hw1⟩ : ∃ w1 : World, w1 = w.alloc (.cells #[.int .i64 14, .string ⟨#[115, 117, 109]⟩, .int .i64 0, .int .i64 0, .slice A 0 c] 24) := ⟨_, rfl⟩
  have hB1 : Below w.heap.size w w1 := by rw [hw1]; exact (Below.refl _ _).alloc (Nat.le_refl _) _
  have hbx1 : w1.heap[w.heap.size]? = some (.cells #[.int .i64 14, .string ⟨#[115, 117, 109]⟩, .int .i64 0, .int .i64 0, .slice A 0 c] 24 (0, 0)) := by rw [hw1]; exact blk_new _ _
  rw [← hw1]
  have LF := Aside0.mk (leaf_agg ⟨#[115, 117, 109]⟩ A c w1)
  have HBX1 := Aside0.mk hbx1
  have HB1 := Aside0.mk hB1
  clear hw1 hB1 hbx1
  refine LF.out.mono ?_
  rintro e w2 ⟨rfl, hb2⟩
  have HB2 := Aside0.mk hb2
  clear hb2
  have hx := blk_below HBX1.out HB2.out
  have h0 : w2.cell? ⟨w.heap.size, 0, none⟩ = some (.int .i64 14) := (blk_cell hx 0).trans rfl
  have h1 : w2.cell? ⟨w.heap.size, 1, none⟩ = some (.string ⟨#[115, 117, 109]⟩) := (blk_cell hx 1).trans rfl
  have h2 : w2.cell? ⟨w.heap.size, 2, none⟩ = some (.int .i64 0) := (blk_cell hx 2).trans rfl
  have h3 : w2.cell? ⟨w.heap.size, 3, none⟩ = some (.int .i64 0) := (blk_cell hx 3).trans rfl
  have h4 : w2.cell? ⟨w.heap.size, 4, none⟩ = some (.slice A 0 c) := (blk_cell hx 4).trans rfl
  have hall : ∀ (o : Obj) (j : Nat) (v : Value), w2.cell? ⟨w.heap.size, j, none⟩ = some v → (w2.alloc o).cell? ⟨w.heap.size, j, none⟩ = some v := fun o j v h => pw_cell_below ((Below.refl w2.heap.size w2).alloc (Nat.le_refl _) o) h
  have a1 := fun o => hall o 1 _ h1
  clear hall
  go_wp2_with fail
  obtain ⟨w3, hw3⟩ : ∃ w3 : World, w3 = w2.alloc (.cells #[.string ⟨#[99, 111, 117, 110, 116]⟩, .string ⟨#[115, 117, 109]⟩, .string ⟨#[97, 118, 103]⟩, .string ⟨#[109, 105, 110]⟩, .string ⟨#[109, 97, 120]⟩, .string ⟨#[102, 105, 114, 115, 116]⟩, .string ⟨#[108, 97, 115, 116]⟩] 9) := ⟨_, rfl⟩
  have hb3 : Below w2.heap.size w2 w3 := by rw [hw3]; exact (Below.refl _ _).alloc (Nat.le_refl _) _
  have hC3 : Kd.string.C w3 (some ⟨w2.heap.size, 0, none⟩) 7 ([⟨#[99, 111, 117, 110, 116]⟩, ⟨#[115, 117, 109]⟩, ⟨#[97, 118, 103]⟩, ⟨#[109, 105, 110]⟩, ⟨#[109, 97, 120]⟩, ⟨#[102, 105, 114, 115, 116]⟩, ⟨#[108, 97, 115, 116]⟩] : List ByteArray) :=
    mkC Kd.string (g := w2.heap.size) (e := 9) (by rw [hw3]; exact blk_new _ _) (reps_str _ _) (of_decide_eq_true (by kernel_rfl))
  have HCN := Aside0.mk (slices_Contains_string_string.calls 20 _ 7 _ ⟨#[115, 117, 109]⟩ true w3 hC3 (Nat.le_refl _) (by kernel_rfl))
  rw [← hw3]
  refine HCN.out.mono ?_
  rintro e w4 ⟨rfl, hd4⟩
  have HB4 := Aside0.mk (below_then (HB1.out.trans (HB2.out.mono HB1.out.size)) (Nat.le_trans HB1.out.size HB2.out.size) (below_then hb3 hb3.size hd4.below))
  have hx4 := blk_below hx (below_then hb3 hb3.size hd4.below)
  clear h0 h1 h2 h3 h4 a1 hw3 hb3 hC3 hd4
  have h1 : w4.cell? ⟨w.heap.size, 1, none⟩ = some (.string ⟨#[115, 117, 109]⟩) := (blk_cell hx4 1).trans rfl
  have h2 : w4.cell? ⟨w.heap.size, 2, none⟩ = some (.int .i64 0) := (blk_cell hx4 2).trans rfl
  go_wp2_with fail
  refine (tree_within.calls 0 0 1 true w4 rfl).mono ?_
  rintro e w5 ⟨rfl, hd5⟩
  have HB5 := Aside0.mk (below_then HB4.out HB4.out.size hd5.below)
  have hx5 := blk_below hx4 hd5.below
  clear h1 h2 hd5 hx hx4
  have h1 : w5.cell? ⟨w.heap.size, 1, none⟩ = some (.string ⟨#[115, 117, 109]⟩) := (blk_cell hx5 1).trans rfl
  have h2 : w5.cell? ⟨w.heap.size, 2, none⟩ = some (.int .i64 0) := (blk_cell hx5 2).trans rfl
  go_wp2_with fail
  go_ret
  exact ⟨rfl, HB5.out⟩

set_option maxHeartbeats 4000000 in
theorem pattern_num (n m : Int) (A : Option Addr) (c : Nat) (w : World) :
    Calls Tryd.prog 24 #[.agg #[.int .i64 3, .string ⟨#[]⟩, .int .i64 n, .int .i64 m, .slice A 0 c]] w fun e w' => e = .returned (.bool false) ∧ Below w.heap.size w w' := by
  go_enter Tryd.func24, Tryd.ntmps24
  go_wp2_with fail
  go_ret
  exact ⟨rfl, (Below.refl _ _).alloc (Nat.le_refl _) _⟩

set_option maxHeartbeats 4000000 in
theorem pattern_sel  (A : Option Addr) (c : Nat) (w : World) :
    Calls Tryd.prog 24 #[.agg #[.int .i64 6, .string ⟨#[83, 101, 108, 101, 99, 116]⟩, .int .i64 0, .int .i64 0, .slice A 0 c]] w fun e w' => e = .returned (.bool false) ∧ Below w.heap.size w w' := by
  go_enter Tryd.func24, Tryd.ntmps24
  go_wp2_with fail
  go_ret
  exact ⟨rfl, (Below.refl _ _).alloc (Nat.le_refl _) _⟩

set_option maxHeartbeats 4000000 in
theorem pattern_agg  (A : Option Addr) (c : Nat) (w : World) :
    Calls Tryd.prog 24 #[.agg #[.int .i64 14, .string ⟨#[115, 117, 109]⟩, .int .i64 0, .int .i64 0, .slice A 0 c]] w fun e w' => e = .returned (.bool false) ∧ Below w.heap.size w w' := by
  go_enter Tryd.func24, Tryd.ntmps24
  go_wp2_with fail
  go_ret
  exact ⟨rfl, (Below.refl _ _).alloc (Nat.le_refl _) _⟩

set_option maxHeartbeats 4000000 in
theorem on_num (n m : Int) (A : Option Addr) (c : Nat) (w : World) :
    Calls Tryd.prog 43 #[.agg #[.int .i64 3, .string ⟨#[]⟩, .int .i64 n, .int .i64 m, .slice A 0 c]] w fun e w' => e = .returned (.bool false) ∧ Below w.heap.size w w' := by
  go_enter Tryd.func43, Tryd.ntmps43
  go_wp2_with fail
  go_ret
  exact ⟨rfl, (Below.refl _ _).alloc (Nat.le_refl _) _⟩

set_option maxHeartbeats 4000000 in
theorem on_sel  (A : Option Addr) (c : Nat) (w : World) :
    Calls Tryd.prog 43 #[.agg #[.int .i64 6, .string ⟨#[83, 101, 108, 101, 99, 116]⟩, .int .i64 0, .int .i64 0, .slice A 0 c]] w fun e w' => e = .returned (.bool false) ∧ Below w.heap.size w w' := by
  go_enter Tryd.func43, Tryd.ntmps43
  go_wp2_with fail
  go_ret
  exact ⟨rfl, (Below.refl _ _).alloc (Nat.le_refl _) _⟩

set_option maxHeartbeats 4000000 in
theorem on_agg  (A : Option Addr) (c : Nat) (w : World) :
    Calls Tryd.prog 43 #[.agg #[.int .i64 14, .string ⟨#[115, 117, 109]⟩, .int .i64 0, .int .i64 0, .slice A 0 c]] w fun e w' => e = .returned (.bool false) ∧ Below w.heap.size w w' := by
  go_enter Tryd.func43, Tryd.ntmps43
  go_wp2_with fail
  go_ret
  exact ⟨rfl, (Below.refl _ _).alloc (Nat.le_refl _) _⟩

set_option maxHeartbeats 4000000 in
theorem stmt_num (n m : Int) (A : Option Addr) (c : Nat) (w : World) :
    Calls Tryd.prog 25 #[.agg #[.int .i64 3, .string ⟨#[]⟩, .int .i64 n, .int .i64 m, .slice A 0 c]] w fun e w' => e = .returned (.bool false) ∧ Below w.heap.size w w' := by
  go_enter Tryd.func25, Tryd.ntmps25
  go_wp2_with fail
  have hB1 : ∀ o, Below w.heap.size w (w.alloc o) := fun o => (Below.refl _ _).alloc (Nat.le_refl _) _
  refine (on_num n m A c _).mono ?_
  rintro e w2 ⟨rfl, hb2⟩
  have HB2 := Aside0.mk (below_then (hB1 _) (hB1 _).size hb2)
  clear hb2
  go_wp2_with fail
  go_ret
  exact ⟨rfl, HB2.out⟩

set_option maxHeartbeats 4000000 in
theorem stmt_sel  (A : Option Addr) (c : Nat) (w : World) :
    Calls Tryd.prog 25 #[.agg #[.int .i64 6, .string ⟨#[83, 101, 108, 101, 99, 116]⟩, .int .i64 0, .int .i64 0, .slice A 0 c]] w fun e w' => e = .returned (.bool false) ∧ Below w.heap.size w w' := by
  go_enter Tryd.func25, Tryd.ntmps25
  go_wp2_with fail
  have hB1 : ∀ o, Below w.heap.size w (w.alloc o) := fun o => (Below.refl _ _).alloc (Nat.le_refl _) _
  refine (on_sel A c _).mono ?_
  rintro e w2 ⟨rfl, hb2⟩
  have HB2 := Aside0.mk (below_then (hB1 _) (hB1 _).size hb2)
  clear hb2
  go_wp2_with fail
  go_ret
  exact ⟨rfl, HB2.out⟩

set_option maxHeartbeats 4000000 in
theorem stmt_agg  (A : Option Addr) (c : Nat) (w : World) :
    Calls Tryd.prog 25 #[.agg #[.int .i64 14, .string ⟨#[115, 117, 109]⟩, .int .i64 0, .int .i64 0, .slice A 0 c]] w fun e w' => e = .returned (.bool false) ∧ Below w.heap.size w w' := by
  go_enter Tryd.func25, Tryd.ntmps25
  go_wp2_with fail
  have hB1 : ∀ o, Below w.heap.size w (w.alloc o) := fun o => (Below.refl _ _).alloc (Nat.le_refl _) _
  refine (on_agg A c _).mono ?_
  rintro e w2 ⟨rfl, hb2⟩
  have HB2 := Aside0.mk (below_then (hB1 _) (hB1 _).size hb2)
  clear hb2
  go_wp2_with fail
  go_ret
  exact ⟨rfl, HB2.out⟩

set_option maxHeartbeats 4000000 in
theorem form_num (n m : Int) (hn : n < 0) (A : Option Addr) (c : Nat) (w : World) :
    Calls Tryd.prog 14 #[.agg #[.int .i64 3, .string ⟨#[]⟩, .int .i64 n, .int .i64 m, .slice A 0 c]] w fun e w' => e = .returned (.int .i64 0) ∧ Below w.heap.size w w' := by
  go_enter Tryd.func14, Tryd.ntmps14
  go_wp2_with fail
  obtain ⟨w1, hw1⟩ : ∃ w1 : World, w1 = w.alloc (.cells #[.int .i64 3, .string ⟨#[]⟩, .int .i64 n, .int .i64 m, .slice A 0 c] 24) := ⟨_, rfl⟩
  have hB1 : Below w.heap.size w w1 := by rw [hw1]; exact (Below.refl _ _).alloc (Nat.le_refl _) _
  have hbx1 : w1.heap[w.heap.size]? = some (.cells #[.int .i64 3, .string ⟨#[]⟩, .int .i64 n, .int .i64 m, .slice A 0 c] 24 (0, 0)) := by rw [hw1]; exact blk_new _ _
  rw [← hw1]
  have HB1 := Aside0.mk hB1
  refine (expr_num n m hn A c w1).mono ?_
  rintro e w2 ⟨rfl, hb2⟩
  have HB2 := Aside0.mk (below_then HB1.out HB1.out.size hb2)
  have hx2 := blk_below hbx1 hb2
  clear hw1 hB1 hbx1 hb2
  have g0 : w2.cell? ⟨w.heap.size, 0, none⟩ = some (.int .i64 3) := (blk_cell hx2 0).trans rfl
  have g1 : w2.cell? ⟨w.heap.size, 1, none⟩ = some (.string ⟨#[]⟩) := (blk_cell hx2 1).trans rfl
  have g2 : w2.cell? ⟨w.heap.size, 2, none⟩ = some (.int .i64 n) := (blk_cell hx2 2).trans rfl
  have g3 : w2.cell? ⟨w.heap.size, 3, none⟩ = some (.int .i64 m) := (blk_cell hx2 3).trans rfl
  have g4 : w2.cell? ⟨w.heap.size, 4, none⟩ = some (.slice A 0 c) := (blk_cell hx2 4).trans rfl
  go_wp2_with fail
  refine (pattern_num n m A c w2).mono ?_
  rintro e w3 ⟨rfl, hb3⟩
  have HB3 := Aside0.mk (below_then HB2.out HB2.out.size hb3)
  have hx3 := blk_below hx2 hb3
  clear g0 g1 g2 g3 g4 hx2 hb3
  have g0 : w3.cell? ⟨w.heap.size, 0, none⟩ = some (.int .i64 3) := (blk_cell hx3 0).trans rfl
  have g1 : w3.cell? ⟨w.heap.size, 1, none⟩ = some (.string ⟨#[]⟩) := (blk_cell hx3 1).trans rfl
  have g2 : w3.cell? ⟨w.heap.size, 2, none⟩ = some (.int .i64 n) := (blk_cell hx3 2).trans rfl
  have g3 : w3.cell? ⟨w.heap.size, 3, none⟩ = some (.int .i64 m) := (blk_cell hx3 3).trans rfl
  have g4 : w3.cell? ⟨w.heap.size, 4, none⟩ = some (.slice A 0 c) := (blk_cell hx3 4).trans rfl
  go_wp2_with fail
  refine (stmt_num n m A c w3).mono ?_
  rintro e w4 ⟨rfl, hb4⟩
  have HB4 := Aside0.mk (below_then HB3.out HB3.out.size hb4)
  clear g0 g1 g2 g3 g4 hx3 hb4
  go_wp2_with fail
  go_ret
  exact ⟨rfl, HB4.out⟩

set_option maxHeartbeats 4000000 in
theorem form_sel  (A : Option Addr) (c : Nat) (w : World) (htab : Lib.TabIs Tryd.prog w "strings.asciiSpace" .u8 Lib.asciiSpaceTab) :
    Calls Tryd.prog 14 #[.agg #[.int .i64 6, .string ⟨#[83, 101, 108, 101, 99, 116]⟩, .int .i64 0, .int .i64 0, .slice A 0 c]] w fun e w' => e = .returned (.int .i64 0) ∧ Below w.heap.size w w' := by
  go_enter Tryd.func14, Tryd.ntmps14
  go_wp2_with fail
  obtain ⟨w1, hw1⟩ : ∃ w1 : World, w1 = w.alloc (.cells #[.int .i64 6, .string ⟨#[83, 101, 108, 101, 99, 116]⟩, .int .i64 0, .int .i64 0, .slice A 0 c] 24) := ⟨_, rfl⟩
  have hB1 : Below w.heap.size w w1 := by rw [hw1]; exact (Below.refl _ _).alloc (Nat.le_refl _) _
  have hbx1 : w1.heap[w.heap.size]? = some (.cells #[.int .i64 6, .string ⟨#[83, 101, 108, 101, 99, 116]⟩, .int .i64 0, .int .i64 0, .slice A 0 c] 24 (0, 0)) := by rw [hw1]; exact blk_new _ _
  rw [← hw1]
  have HB1 := Aside0.mk hB1
  refine (expr_sel A c w1 (tab_below htab hB1)).mono ?_
  rintro e w2 ⟨rfl, hb2⟩
  have HB2 := Aside0.mk (below_then HB1.out HB1.out.size hb2)
  have hx2 := blk_below hbx1 hb2
  clear hw1 hB1 hbx1 hb2
  have g0 : w2.cell? ⟨w.heap.size, 0, none⟩ = some (.int .i64 6) := (blk_cell hx2 0).trans rfl
  have g1 : w2.cell? ⟨w.heap.size, 1, none⟩ = some (.string ⟨#[83, 101, 108, 101, 99, 116]⟩) := (blk_cell hx2 1).trans rfl
  have g2 : w2.cell? ⟨w.heap.size, 2, none⟩ = some (.int .i64 0) := (blk_cell hx2 2).trans rfl
  have g3 : w2.cell? ⟨w.heap.size, 3, none⟩ = some (.int .i64 0) := (blk_cell hx2 3).trans rfl
  have g4 : w2.cell? ⟨w.heap.size, 4, none⟩ = some (.slice A 0 c) := (blk_cell hx2 4).trans rfl
  go_wp2_with fail
  refine (pattern_sel A c w2).mono ?_
  rintro e w3 ⟨rfl, hb3⟩
  have HB3 := Aside0.mk (below_then HB2.out HB2.out.size hb3)
  have hx3 := blk_below hx2 hb3
  clear g0 g1 g2 g3 g4 hx2 hb3
  have g0 : w3.cell? ⟨w.heap.size, 0, none⟩ = some (.int .i64 6) := (blk_cell hx3 0).trans rfl
  have g1 : w3.cell? ⟨w.heap.size, 1, none⟩ = some (.string ⟨#[83, 101, 108, 101, 99, 116]⟩) := (blk_cell hx3 1).trans rfl
  have g2 : w3.cell? ⟨w.heap.size, 2, none⟩ = some (.int .i64 0) := (blk_cell hx3 2).trans rfl
  have g3 : w3.cell? ⟨w.heap.size, 3, none⟩ = some (.int .i64 0) := (blk_cell hx3 3).trans rfl
  have g4 : w3.cell? ⟨w.heap.size, 4, none⟩ = some (.slice A 0 c) := (blk_cell hx3 4).trans rfl
  go_wp2_with fail
  refine (stmt_sel A c w3).mono ?_
  rintro e w4 ⟨rfl, hb4⟩
  have HB4 := Aside0.mk (below_then HB3.out HB3.out.size hb4)
  clear g0 g1 g2 g3 g4 hx3 hb4
  go_wp2_with fail
  go_ret
  exact ⟨rfl, HB4.out⟩

set_option maxHeartbeats 4000000 in
theorem form_agg  (A : Option Addr) (c : Nat) (w : World) :
    Calls Tryd.prog 14 #[.agg #[.int .i64 14, .string ⟨#[115, 117, 109]⟩, .int .i64 0, .int .i64 0, .slice A 0 c]] w fun e w' => e = .returned (.int .i64 0) ∧ Below w.heap.size w w' := by
  go_enter Tryd.func14, Tryd.ntmps14
  go_wp2_with fail
  obtain ⟨w1, hw1⟩ : ∃ w1 : World, w1 = w.alloc (.cells #[.int .i64 14, .string ⟨#[115, 117, 109]⟩, .int .i64 0, .int .i64 0, .slice A 0 c] 24) := ⟨_, rfl⟩
  have hB1 : Below w.heap.size w w1 := by rw [hw1]; exact (Below.refl _ _).alloc (Nat.le_refl _) _
  have hbx1 : w1.heap[w.heap.size]? = some (.cells #[.int .i64 14, .string ⟨#[115, 117, 109]⟩, .int .i64 0, .int .i64 0, .slice A 0 c] 24 (0, 0)) := by rw [hw1]; exact blk_new _ _
  rw [← hw1]
  have HB1 := Aside0.mk hB1
  refine (expr_agg A c w1).mono ?_
  rintro e w2 ⟨rfl, hb2⟩
  have HB2 := Aside0.mk (below_then HB1.out HB1.out.size hb2)
  have hx2 := blk_below hbx1 hb2
  clear hw1 hB1 hbx1 hb2
  have g0 : w2.cell? ⟨w.heap.size, 0, none⟩ = some (.int .i64 14) := (blk_cell hx2 0).trans rfl
  have g1 : w2.cell? ⟨w.heap.size, 1, none⟩ = some (.string ⟨#[115, 117, 109]⟩) := (blk_cell hx2 1).trans rfl
  have g2 : w2.cell? ⟨w.heap.size, 2, none⟩ = some (.int .i64 0) := (blk_cell hx2 2).trans rfl
  have g3 : w2.cell? ⟨w.heap.size, 3, none⟩ = some (.int .i64 0) := (blk_cell hx2 3).trans rfl
  have g4 : w2.cell? ⟨w.heap.size, 4, none⟩ = some (.slice A 0 c) := (blk_cell hx2 4).trans rfl
  go_wp2_with fail
  refine (pattern_agg A c w2).mono ?_
  rintro e w3 ⟨rfl, hb3⟩
  have HB3 := Aside0.mk (below_then HB2.out HB2.out.size hb3)
  have hx3 := blk_below hx2 hb3
  clear g0 g1 g2 g3 g4 hx2 hb3
  have g0 : w3.cell? ⟨w.heap.size, 0, none⟩ = some (.int .i64 14) := (blk_cell hx3 0).trans rfl
  have g1 : w3.cell? ⟨w.heap.size, 1, none⟩ = some (.string ⟨#[115, 117, 109]⟩) := (blk_cell hx3 1).trans rfl
  have g2 : w3.cell? ⟨w.heap.size, 2, none⟩ = some (.int .i64 0) := (blk_cell hx3 2).trans rfl
  have g3 : w3.cell? ⟨w.heap.size, 3, none⟩ = some (.int .i64 0) := (blk_cell hx3 3).trans rfl
  have g4 : w3.cell? ⟨w.heap.size, 4, none⟩ = some (.slice A 0 c) := (blk_cell hx3 4).trans rfl
  go_wp2_with fail
  refine (stmt_agg A c w3).mono ?_
  rintro e w4 ⟨rfl, hb4⟩
  have HB4 := Aside0.mk (below_then HB3.out HB3.out.size hb4)
  clear g0 g1 g2 g3 g4 hx3 hb4
  go_wp2_with fail
  go_ret
  exact ⟨rfl, HB4.out⟩

set_option maxHeartbeats 4000000 in
theorem expr_pos (n m : Int) (hn : 0 ≤ n) (A : Option Addr) (c : Nat) (w : World) :
    Calls Tryd.prog 23 #[.agg #[.int .i64 3, .string ⟨#[]⟩, .int .i64 n, .int .i64 m, .slice A 0 c]] w fun e w' => e = .returned (.bool true) ∧ Below w.heap.size w w' := by
  go_enter Tryd.func23, Tryd.ntmps23
  have hB1 : ∀ o, Below w.heap.size w (w.alloc o) := fun o => (Below.refl _ _).alloc (Nat.le_refl _) _
  go_wp2_with fail
  have LF := fun w1 => leaf_num n m A c w1
  rw [decide_eq_true hn] at LF
  refine (LF _).mono ?_
  rintro e w2 ⟨rfl, hb2⟩
  have HB2 := Aside0.mk (below_then (hB1 _) (hB1 _).size hb2)
  clear hb2
  go_wp2_with fail
  go_ret
  exact ⟨rfl, HB2.out⟩

set_option maxHeartbeats 4000000 in
theorem form_pos (n m : Int) (hn : 0 ≤ n) (A : Option Addr) (c : Nat) (w : World) :
    Calls Tryd.prog 14 #[.agg #[.int .i64 3, .string ⟨#[]⟩, .int .i64 n, .int .i64 m, .slice A 0 c]] w fun e w' => e = .returned (.int .i64 1) ∧ Below w.heap.size w w' := by
  go_enter Tryd.func14, Tryd.ntmps14
  have hB1 : ∀ o, Below w.heap.size w (w.alloc o) := fun o => (Below.refl _ _).alloc (Nat.le_refl _) _
  go_wp2_with fail
  refine (expr_pos n m hn A c _).mono ?_
  rintro e w2 ⟨rfl, hb2⟩
  have HB2 := Aside0.mk (below_then (hB1 _) (hB1 _).size hb2)
  clear hb2
  go_wp2_with fail
  go_ret
  exact ⟨rfl, HB2.out⟩
end Go.Proofs.YtladneaaepcdbaaDoor.U
