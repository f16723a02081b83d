/- tree.id at a word of the language: it is no name. -/
import Derived.Test.YtladneaaepcdbaaDoorSh
import Derived.Test.YtladneaaepcdbaaDoorB
import Derived.Lib.ConvBytes
import Derived.Lib.AppendIntMem
namespace Go.Proofs.YtladneaaepcdbaaDoor.S
open Go.RowKit Go.Proofs.YtladneaaepcdbaaDoorW.PrintWords Go.Proofs.YtladneaaepcdbaaDoorW.PrintLast Go.Proofs.YtladneaaepcdbaaDoorW.PrintMore
open Go.Proofs.YtladneaaepcdbaaDoor.PTree Go.Proofs.YtladneaaepcdbaaDoor.B
set_option linter.unusedVariables false
set_option linter.unusedSimpArgs false

def Letter (b : UInt8) : Prop := (65 ≤ b.toNat ∧ b.toNat ≤ 90) ∨ (97 ≤ b.toNat ∧ b.toNat ≤ 122)

theorem below_bytes (w : World) (s : ByteArray) : Below w.heap.size w (Lib.bytesWorld w 5 s) :=
  ⟨rfl, rfl, rfl, by rw [Lib.bytesWorld_size]; omega, fun k hk => Lib.bytesWorld_at_old w 5 s k hk⟩

set_option maxHeartbeats 4000000 in
/-- schema.Name of letters alone. -/
theorem name_calls (s : ByteArray) (w : World) (h1 : 1 ≤ s.size) (h2 : s.size ≤ 64) (hl : ∀ j, j < s.size → Letter (s.data.toList.getD j 0)) :
    Calls Tryd.prog 46 #[.string s] w fun e w' => e = .returned (.bool true) ∧ Below w.heap.size w w' := by
  have kc := fun (w : World) => Lib.run_convert_string_bytes (P := Tryd.prog) w 9 59 5 s Tryd.underlying9 Tryd.underlying59 Tryd.underlying5
  have hB := below_bytes w s
  have hcell := fun j (hj : j < s.size) => Lib.bytesWorld_cell w 5 s j hj
  go_enter Tryd.func46, Tryd.ntmps46
  have hsz : (Lib.bytesWorld w 5 s).heap.size = w.heap.size + 1 := Lib.bytesWorld_size w 5 s
  go_wp2_with fail
  obtain ⟨w1, hw1⟩ : ∃ w1, w1 = Lib.bytesWorld w 5 s := ⟨_, rfl⟩
  rw [← hw1] at hB hcell hsz ⊢
  clear hw1 kc
  go_loopw [8] (fun t8 wr => ∃ k : Nat, k ≤ s.size ∧ t8 = .int .i64 k ∧ Aside0 (Below w1.heap.size w1 wr)) (fun t8 _ => s.size - (intOf t8).toNat)
  case atStart => exact ⟨0, Nat.zero_le _, rfl, ⟨Below.refl _ _⟩⟩
  case round =>
    obtain ⟨k, hk, rfl, hbr⟩ := hrel
    by_cases hlt : k < s.size
    · have hc : wr.cell? ⟨w.heap.size, k, none⟩ = some (.int .u8 (s.data.toList.getD k 0).toNat) := pw_cell_below hbr.out (hcell k hlt)
      have hlk := hl k hlt
      generalize s.data.toList.getD k 0 = b at hc hlk
      rcases hlk with ⟨g1, g2⟩ | ⟨g1, g2⟩
      · have n1 : ((b.toNat : Int) == 95) = false := by rw [beq_eq_false_iff_ne]; omega
        have n2 : decide ((97 : Int) ≤ (b.toNat : Int)) = false := decide_eq_false (by omega)
        have n3 : decide ((65 : Int) ≤ (b.toNat : Int)) = true := decide_eq_true (by omega)
        have n4 : decide ((b.toNat : Int) ≤ 90) = true := decide_eq_true (by omega)
        go_wp2_with fail
        exact ⟨⟨k + 1, hlt, rfl, hbr⟩, by simp [intOf]; omega⟩
      · have n1 : ((b.toNat : Int) == 95) = false := by rw [beq_eq_false_iff_ne]; omega
        have n2 : decide ((97 : Int) ≤ (b.toNat : Int)) = true := decide_eq_true (by omega)
        have n4 : decide ((b.toNat : Int) ≤ 122) = true := decide_eq_true (by omega)
        go_wp2_with fail
        exact ⟨⟨k + 1, hlt, rfl, hbr⟩, by simp [intOf]; omega⟩
    · have n1 : decide ((1 : Int) ≤ (s.size : Int)) = true := decide_eq_true (by omega)
      have n2 : decide ((s.size : Int) ≤ 64) = true := decide_eq_true (by omega)
      go_wp2_with fail
      go_ret
      exact ⟨rfl, hB.trans (hbr.out.mono (by omega))⟩

/-- A row of elements that stand in one block. -/
theorem mkC {α : Type} (d : Kd α) {W : World} {g e : Nat} {xs : List α} {cells : List Value} (hh : W.heap[g]? = some (.cells cells.toArray e (0, 0))) (hr : Reps (d.K W) d.sz xs cells) (hm : xs.length ≤ maxLen) : d.C W (some ⟨g, 0, none⟩) xs.length xs := by
  have ho : W.ownsRow 0 e d.sz (.slice (some ⟨g, 0, none⟩) xs.length xs.length) xs.length cells :=
    ⟨hr.1, .inr ⟨g, xs.length, cells.toArray, rfl, Nat.zero_le _, hh, Nat.le_refl _, hm, by simp [hr.1], by simp [← hr.1]⟩⟩
  obtain ⟨A, c, hv, h⟩ := own_reads_row ho hr rfl
  injection hv with ha _ _
  rw [ha]
  exact h
theorem reps_str (W : World) (l : List ByteArray) : Reps (Kd.string.K W) 1 l (l.map Value.string) := by
  have := Kd.reps_scalar (enc := Value.string) l
  rw [show encs Value.string l = l.map Value.string from by induction l with | nil => rfl | cons a l ih => simp_all [encs]] at this
  exact this.imp_ (fun p c h => h)

theorem tab_below {w w' : World} (h : Lib.TabIs Tryd.prog w "strings.asciiSpace" .u8 Lib.asciiSpaceTab) (hb : Below w.heap.size w w') : Lib.TabIs Tryd.prog w' "strings.asciiSpace" .u8 Lib.asciiSpaceTab :=
  Lib.tabBelow_of_tabIs h w' hb

theorem ascii_of {l : List UInt8} (h : l.all (fun b => decide (b.toNat < 128)) = true) : ∀ (j : Nat) (b : UInt8), l[j]? = some b → b.toNat < 128 :=
  fun j b hj => of_decide_eq_true (List.all_eq_true.1 h b (List.mem_of_getElem? hj))
def pieces (bs : List UInt8) : List ByteArray := (Lib.fields bs).map fun l => ⟨l.toArray⟩
theorem fields_answer (bs : List UInt8) (w : World) (h1 : decide ((pieces bs).length ≤ maxLen) = true) (h2 : slices_Contains_string_string.f 200 (pieces bs) ⟨#[115, 101, 108, 101, 99, 116]⟩ = some true) :
    ∃ (l : List ByteArray) (A : Option Addr), (Ending.returned (.slice (some ⟨w.heap.size, 0, none⟩) (Lib.fields bs).length (Lib.fields bs).length) : Ending) = .returned (.slice A l.length l.length) ∧
      Kd.string.C (w.alloc (.cells ((Lib.fields bs).map fun l => Value.string ⟨l.toArray⟩).toArray 9)) A l.length l ∧ slices_Contains_string_string.f 200 l ⟨#[115, 101, 108, 101, 99, 116]⟩ = some true ∧ Below w.heap.size w (w.alloc (.cells ((Lib.fields bs).map fun l => Value.string ⟨l.toArray⟩).toArray 9)) := by
  refine ⟨pieces bs, some ⟨w.heap.size, 0, none⟩, by simp [pieces], ?_, h2, (Below.refl _ _).alloc (Nat.le_refl _) _⟩
  refine mkC Kd.string (g := w.heap.size) (e := 9) (cells := (pieces bs).map Value.string) ?_ (reps_str _ _) (of_decide_eq_true h1)
  have : (pieces bs).map Value.string = (Lib.fields bs).map fun l => Value.string ⟨l.toArray⟩ := by simp [pieces]
  rw [this]
  exact blk_new _ _

set_option maxHeartbeats 4000000 in
set_option maxRecDepth 100000 in
theorem words_calls (w : World) (htab : Lib.TabIs Tryd.prog w "strings.asciiSpace" .u8 Lib.asciiSpaceTab) :
    Calls Tryd.prog 47 #[] w fun e w' => ∃ (l : List ByteArray) (A : Option Addr), e = .returned (.slice A l.length l.length) ∧ Kd.string.C w' A l.length l ∧ slices_Contains_string_string.f 200 l ⟨#[115, 101, 108, 101, 99, 116]⟩ = some true ∧ Below w.heap.size w w' := by
  go_enter Tryd.func47, Tryd.ntmps47
  go_wp2_with fail
  refine (Sh.strings_Fields_laid _ w ?_ ?_ htab).mono ?_
  · exact of_decide_eq_true (by kernel_rfl)
  · exact ascii_of (by kernel_rfl)
  · rintro e w' ⟨rfl, rfl⟩
    go_wp2_with fail
    go_ret
    exact fields_answer _ w (by kernel_rfl) (by kernel_rfl)
theorem lower_select : (⟨(Lib.toLowerA (⟨#[83, 101, 108, 101, 99, 116]⟩ : ByteArray).data.toList).toArray⟩ : ByteArray) = ⟨#[115, 101, 108, 101, 99, 116]⟩ := by kernel_rfl
theorem letters_of {l : List UInt8} (h : l.all (fun b => decide (65 ≤ b.toNat ∧ b.toNat ≤ 90) || decide (97 ≤ b.toNat ∧ b.toNat ≤ 122)) = true) : ∀ j, j < l.length → Letter (l.getD j 0) := by
  intro j hj
  have := List.all_eq_true.1 h (l.getD j 0) (by rw [List.getD_eq_getElem?_getD, List.getElem?_eq_getElem hj]; exact List.getElem_mem hj)
  simpa [Letter] using this

set_option maxHeartbeats 4000000 in
/-- "Select" is no name: it is a word of the language. -/
theorem id_select (w : World) (htab : Lib.TabIs Tryd.prog w "strings.asciiSpace" .u8 Lib.asciiSpaceTab) :
    Calls Tryd.prog 34 #[.string ⟨#[83, 101, 108, 101, 99, 116]⟩] w fun e w' => e = .returned (.bool false) ∧ Below w.heap.size w w' := by
  have HN := Aside0.mk (name_calls ⟨#[83, 101, 108, 101, 99, 116]⟩ w (of_decide_eq_true (by kernel_rfl)) (of_decide_eq_true (by kernel_rfl)) (letters_of (by kernel_rfl)))
  go_enter Tryd.func34, Tryd.ntmps34
  go_wp2_with fail
  refine HN.out.mono ?_
  rintro e w1 ⟨rfl, hb1⟩
  go_wp2_with fail
  refine (words_calls w1 (tab_below htab hb1)).mono ?_
  rintro e w2 ⟨l, A, rfl, hC, hcon, hb2⟩
  have HC := Aside0.mk hC
  have HCON := Aside0.mk hcon
  have HB2 := Aside0.mk (below_then hb1 hb1.size hb2)
  clear hC hcon hb2
  go_wp2_with fail
  refine (Sh.strings_ToLower_ascii _ w2 (of_decide_eq_true (by kernel_rfl)) (ascii_of (by kernel_rfl))).mono ?_
  rintro e w3 ⟨rfl, hb3⟩
  rw [lower_select]
  have HB3 := Aside0.mk (below_then HB2.out HB2.out.size hb3)
  have HC3 := Aside0.mk (Kd.C_below HC.out hb3)
  clear hb3
  go_wp2_with fail
  refine (slices_Contains_string_string.calls 200 A l.length l _ true w3 HC3.out (Nat.le_refl _) HCON.out).mono ?_
  rintro e w4 ⟨rfl, hd4⟩
  have HB4 := Aside0.mk (below_then HB3.out HB3.out.size hd4.below)
  clear hd4
  go_wp2_with fail
  go_ret
  exact ⟨rfl, HB4.out⟩
end Go.Proofs.YtladneaaepcdbaaDoor.S
