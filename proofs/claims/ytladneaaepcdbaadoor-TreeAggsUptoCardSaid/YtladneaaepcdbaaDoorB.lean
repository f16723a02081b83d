/- Functions over function values: slices.IndexFunc, slices.ContainsFunc at trees; the closure of tree.Aggs. -/
import Derived.Test.YtladneaaepcdbaaDoorPTreex
import Derived.WalkSpells
import Derived.RangeFuncNested
import Derived.RangeFuncBound
import Derived.RangeFuncCalls
import Derived.RangeFuncLeaves
import Derived.RangeFuncBox
import Derived.Shelf.Abstract
import Derived.Shelf.RegionOpen
import Derived.OwnWalkIn
import Derived.TacticsInMore
import Derived.LoopNIn
import Derived.LoopIn
namespace Go.Proofs.YtladneaaepcdbaaDoor.B
open Go.RowKit Go.Proofs.YtladneaaepcdbaaDoorW.PrintWords Go.Proofs.YtladneaaepcdbaaDoorW.PrintLast Go.Proofs.YtladneaaepcdbaaDoorW.PrintMore
open Go.Proofs.YtladneaaepcdbaaDoor.PTree

/-- The element at k: its five cells. -/
theorem at24 {w : World} {A : Option Addr} {n : Nat} {xs : List S24} (h : Kd.C k24 w A n xs) (k : Nat) (h1 : k < n) : ∃ x ad A4 c4, Aside0 (xs.getD k z24 = x) ∧ A = some ad ∧ w.cell? (ad.add (k * 5)) = some (.int .i64 x.f0) ∧ w.cell? ⟨(ad.add (k * 5)).block, (ad.add (k * 5)).off + 1, none⟩ = some (.string x.f1) ∧ w.cell? ⟨(ad.add (k * 5)).block, (ad.add (k * 5)).off + 2, none⟩ = some (.int .i64 x.f2) ∧ w.cell? ⟨(ad.add (k * 5)).block, (ad.add (k * 5)).off + 3, none⟩ = some (.int .i64 x.f3) ∧ w.cell? ⟨(ad.add (k * 5)).block, (ad.add (k * 5)).off + 4, none⟩ = some (.slice A4 x.f4.length c4) ∧ x.f4.length ≤ c4 ∧ k24.C w A4 x.f4.length x.f4 := by
  obtain ⟨ad, A4, c4, h⟩ := at_T24 h (k : Int) (by omega) (by omega)
  exact ⟨_, ad, A4, c4, ⟨rfl⟩, by simpa only [rd_T24, Int.toNat_natCast] using h⟩

/-- A predicate's function value, in every world behind w0: it answers p. -/
def Pred (w0 : World) (f : Value) (p : S24 → Bool) : Prop :=
  ∃ g cap, f = .func (.func g) #[] cap ∧ (∀ args w, (callFunc g args).run Tryd.prog w = .ok (.enter g args) w) ∧ ∀ x cs W, Below w0.heap.size w0 W → k24.K W x cs → Calls Tryd.prog g (#[.agg cs.toArray] ++ cap) W fun e W' => e = .returned (.bool (p x)) ∧ Below W.heap.size W W'

def idx (p : S24 → Bool) : List S24 → Int → Int
  | [], _ => -1
  | x :: xs, i => if p x then i else idx p xs (i + 1)

theorem idx_drop (p : S24 → Bool) (xs : List S24) (k : Nat) (h : k < xs.length) : idx p (xs.drop k) k = if p (xs.getD k z24) then (k : Int) else idx p (xs.drop (k + 1)) (k + 1 : Nat) := by
  rw [List.drop_eq_getElem_cons h]
  have : xs.getD k z24 = xs[k] := by simp [List.getD_eq_getElem?_getD, List.getElem?_eq_getElem h]
  rw [this]
  rfl

set_option maxHeartbeats 400000 in
theorem indexFunc_calls (A : Option Addr) (c : Nat) (xs : List S24) (f : Value) (p : S24 → Bool) (w : World) (hc : Kd.C k24 w A xs.length xs) (hl : xs.length ≤ 2305843009213693952) (hf : Pred w f p) :
    Calls Tryd.prog 28 #[.slice A xs.length c, f] w fun e w' => e = .returned (.int .i64 (idx p xs 0)) ∧ Below w.heap.size w w' := by
  obtain ⟨g, cap, rfl, he, hf⟩ := hf
  have HC := Aside0.mk hc
  have HF := Aside0.mk hf
  clear hc hf
  go_enter Tryd.func28, Tryd.ntmps28
  go_wp2
  go_loopw [5, 8] (fun t5 t8 wr => ∃ k : Nat, k ≤ xs.length ∧ t8 = .int .i64 k ∧ Aside0 (idx p (xs.drop k) k = idx p xs 0) ∧ Aside0 (Below w.heap.size w wr)) (fun _ t8 _ => xs.length - (intOf t8).toNat)
  case atStart => exact ⟨0, Nat.zero_le _, rfl, ⟨rfl⟩, ⟨Below.refl _ _⟩⟩
  case round =>
    obtain ⟨k, hk, rfl, hi, hb⟩ := hrel
    by_cases hlt : k < xs.length
    · have hC := Kd.C_below HC.out (hb.out)
      obtain ⟨x, ad, A4, c4, hx, rfl, h0, h1, h2, h3, h4, hl4, hC4⟩ := at24 hC k (by omega)
      have hF := HF.out x [.int .i64 x.f0, .string x.f1, .int .i64 x.f2, .int .i64 x.f3, .slice A4 x.f4.length c4] wr hb.out (k24_mk wr _ hl4 hC4)
      have HFF := Aside0.mk hF
      have HI0 := idx_drop p xs k hlt
      rw [hx.out] at HI0
      have HI := Aside0.mk HI0
      clear HI0
      clear hF hC hC4
      go_wp2_with fail
      refine HFF.out.mono ?_
      rintro e w' ⟨rfl, hw⟩
      have hb2 : Below w.heap.size w w' := below_then hb.out hb.out.size hw
      by_cases hp : p x = true
      · rw [hp]
        go_wp2_with fail
        go_ret
        exact ⟨by have := HI.out; rw [if_pos hp, hi.out] at this; rw [this]; rfl, hb2⟩
      · have hp' : p x = false := by simpa using hp
        rw [hp']
        go_wp2_with fail
        go_roundw
        case rel => exact ⟨k + 1, by omega, by go_num, ⟨by have := HI.out; rw [if_neg hp, hi.out] at this; exact this.symm⟩, ⟨hb2⟩⟩
        case measure => simp [intOf]; omega
    · go_wp2_with fail
      go_ret
      have : k = xs.length := by omega
      subst this
      have := hi.out
      rw [List.drop_length] at this
      exact ⟨by rw [← this]; rfl, hb.out⟩

theorem idx_any (p : S24 → Bool) : ∀ (xs : List S24) (i : Int), 0 ≤ i → (decide (idx p xs i ≥ 0)) = xs.any p
  | [], i, _ => by simp [idx]
  | x :: xs, i, h => by
    by_cases hp : p x = true
    · simp [idx, hp, h]
    · simp only [idx, if_neg hp, List.any_cons]
      rw [idx_any p xs (i + 1) (by omega)]
      simp [hp]

theorem containsFunc_calls (A : Option Addr) (c : Nat) (xs : List S24) (f : Value) (p : S24 → Bool) (w : World) (hc : Kd.C k24 w A xs.length xs) (hl : xs.length ≤ 2305843009213693952) (hf : Pred w f p) :
    Calls Tryd.prog 19 #[.slice A xs.length c, f] w fun e w' => e = .returned (.bool (xs.any p)) ∧ Below w.heap.size w w' := by
  have HA := Aside0.mk (idx_any p xs 0 (by omega))
  have HF := Aside0.mk (indexFunc_calls A c xs f p w hc hl hf)
  clear hc hf hl
  go_enter Tryd.func19, Tryd.ntmps19
  go_wp2_with (go_at_call 28; refine HF.out.mono ?_; rintro e w' ⟨rfl, hb⟩)
  go_ret
  exact ⟨by rw [← HA.out]; rfl, hb⟩

/-- The closure of tree.Aggs: Same(x, y), x in the box that it captures. -/
theorem aggs1_pred (w : World) (b : Nat) (x : S24) (cs : List Value) (hx : k24.K w x cs) (hb : w.heap[b]? = some (.cells cs.toArray 24 (0, 0))) (p : S24 → Bool) (hp : ∀ y, ∃ k, tree_Same.f k x.f0 x.f1 x.f2 x.f3 x.f4 y.f0 y.f1 y.f2 y.f3 y.f4 = some (p y)) :
    Pred w (.func (.func 20) #[] #[.pointer (some ⟨b, 0, none⟩)]) p := by
  refine ⟨20, _, rfl, enters_of Tryd.func20 (by kernel_rfl) rfl, fun y ys W hW hy => ?_⟩
  obtain ⟨k, hk⟩ := hp y
  obtain ⟨A, c, rfl, hl, hC⟩ := k24_open hx
  obtain ⟨A', c', rfl, hl', hC'⟩ := k24_open hy
  have hlt : b < w.heap.size := (Array.getElem?_eq_some_iff.1 hb).1
  have hb' : W.heap[b]? = _ := (hW.block b hlt).trans hb
  have h0 : W.cell? ⟨b, 0, none⟩ = some (.int .i64 x.f0) := (blk_cell hb' 0).trans rfl
  have h1 : W.cell? ⟨b, 1, none⟩ = some (.string x.f1) := (blk_cell hb' 1).trans rfl
  have h2 : W.cell? ⟨b, 2, none⟩ = some (.int .i64 x.f2) := (blk_cell hb' 2).trans rfl
  have h3 : W.cell? ⟨b, 3, none⟩ = some (.int .i64 x.f3) := (blk_cell hb' 3).trans rfl
  have h4 : W.cell? ⟨b, 4, none⟩ = some (.slice A x.f4.length c) := (blk_cell hb' 4).trans rfl
  have HS := Aside0.mk (fun W1 (hW1 : Below W.heap.size W W1) => tree_Same.calls k x.f0 x.f1 x.f2 x.f3 A c x.f4 y.f0 y.f1 y.f2 y.f3 A' c' y.f4 (p y) W1 (Kd.C_below (Kd.C_below hC hW) hW1) hl (Kd.C_below hC' hW1) hl' hk)
  have hlW : b < W.heap.size := (Array.getElem?_eq_some_iff.1 hb').1
  clear hk hx hC hy hC' hW hlt hb'
  go_enter Tryd.func20, Tryd.ntmps20
  go_wp2_with (go_at_call 5; refine (HS.out _ (by repeat (first | exact Below.refl _ _ | apply below_alloc))).mono ?_; rintro e w' ⟨rfl, hb5⟩)
  go_ret
  exact ⟨rfl, below_then (by repeat (first | exact Below.refl _ _ | apply below_alloc)) (by simp) hb5⟩
end Go.Proofs.YtladneaaepcdbaaDoor.B
