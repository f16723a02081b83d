/- slices.IndexFunc, slices.ContainsFunc at arrivals, content.some, the closures of content.Diff, content.Diff. -/
import Derived.Test.YtdbhlfnpaloomaaF
import Derived.RangeFuncNested
import Derived.RangeFuncBound
import Derived.RangeFuncCalls
import Derived.RangeFuncLeaves
import Derived.RangeFuncBox
import Derived.Shelf.Abstract
import Derived.Shelf.RegionOpen
import Derived.OwnWalkIn
import Derived.TacticsInMore
import Derived.LoopNIn
import Derived.LoopIn
namespace Go.Proofs.Ytdbhlfnpaloomaa.G
open Go.RowKit Go.Proofs.YtdbhlfnpaloomaaW.PrintWords Go.Proofs.YtdbhlfnpaloomaaW.PrintLast Go.Proofs.YtdbhlfnpaloomaaW.PrintMore
open Go.Proofs.Ytdbhlfnpaloomaa.PSame Go.Proofs.Ytdbhlfnpaloomaa.A Go.Proofs.Ytdbhlfnpaloomaa.B
set_option linter.unusedVariables false
set_option linter.unusedSimpArgs false

/-- A predicate's function value, in every world behind w0: it answers p. -/
def Pred (w0 : World) (f : Value) (p : S30 → Bool) : Prop :=
  ∃ g cap, f = .func (.func g) #[] cap ∧ (∀ args w, (callFunc g args).run Try.prog w = .ok (.enter g args) w) ∧ ∀ x cs W, Below w0.heap.size w0 W → k30.K W x cs → Calls Try.prog g (#[.agg cs.toArray] ++ cap) W fun e W' => e = .returned (.bool (p x)) ∧ Below W.heap.size W W'

/-- The same of a place and an element. -/
def Pred2 (w0 : World) (f : Value) (p : S30 → Bool) : Prop :=
  ∃ g cap, f = .func (.func g) #[] cap ∧ (∀ args w, (callFunc g args).run Try.prog w = .ok (.enter g args) w) ∧ ∀ (i : Int) x cs W, Below w0.heap.size w0 W → k30.K W x cs → Calls Try.prog g (#[.int .i64 i, .agg cs.toArray] ++ cap) W fun e W' => e = .returned (.bool (p x)) ∧ Below W.heap.size W W'

def idx (p : S30 → Bool) : List S30 → Int → Int
  | [], _ => -1
  | x :: xs, i => if p x then i else idx p xs (i + 1)

theorem idx_drop (p : S30 → Bool) (xs : List S30) (k : Nat) (h : k < xs.length) : idx p (xs.drop k) k = if p (xs.getD k z30) then (k : Int) else idx p (xs.drop (k + 1)) (k + 1 : Nat) := by
  rw [List.drop_eq_getElem_cons h]
  have : xs.getD k z30 = xs[k] := by simp [List.getD_eq_getElem?_getD, List.getElem?_eq_getElem h]
  rw [this]
  rfl

set_option maxHeartbeats 400000 in
theorem indexFunc_calls (A : Option Addr) (c : Nat) (xs : List S30) (f : Value) (p : S30 → Bool) (w : World) (hc : Kd.C k30 w A xs.length xs) (hl : xs.length ≤ 2305843009213693952) (hf : Pred w f p) :
    Calls Try.prog 37 #[.slice A xs.length c, f] w fun e w' => e = .returned (.int .i64 (idx p xs 0)) ∧ Below w.heap.size w w' := by
  obtain ⟨g, cap, rfl, he, hf⟩ := hf
  have HC := Aside0.mk hc
  have HF := Aside0.mk hf
  clear hc hf
  go_enter Try.func37, Try.ntmps37
  go_wp2
  go_loopw [5, 8] (fun t5 t8 wr => ∃ k : Nat, k ≤ xs.length ∧ t8 = .int .i64 k ∧ Aside0 (idx p (xs.drop k) k = idx p xs 0) ∧ Aside0 (Below w.heap.size w wr)) (fun _ t8 _ => xs.length - (intOf t8).toNat)
  case atStart => exact ⟨0, Nat.zero_le _, rfl, ⟨rfl⟩, ⟨Below.refl _ _⟩⟩
  case round =>
    obtain ⟨k, hk, rfl, hi, hb⟩ := hrel
    by_cases hlt : k < xs.length
    · have hC := Kd.C_below HC.out (hb.out)
      obtain ⟨x, ad, A2, c2, hx, rfl, h0, h1, h2, hl2, hC2⟩ := at30 hC k (by omega)
      have hF := HF.out x [.int .i64 x.f0, .int .i64 x.f1, .slice A2 x.f2.length c2] wr hb.out (k30_mk wr _ hl2 hC2)
      have HFF := Aside0.mk hF
      have HI0 := idx_drop p xs k hlt
      rw [hx.out] at HI0
      have HI := Aside0.mk HI0
      clear HI0
      clear hF hC hC2
      go_wp2_with fail
      refine HFF.out.mono ?_
      rintro e w' ⟨rfl, hw⟩
      have hb2 : Below w.heap.size w w' := below_then hb.out hb.out.size hw
      by_cases hp : p x = true
      · rw [hp]
        go_wp2_with fail
        go_ret
        exact ⟨by have := HI.out; rw [if_pos hp, hi.out] at this; rw [this]; rfl, hb2⟩
      · have hp' : p x = false := by simpa using hp
        rw [hp']
        go_wp2_with fail
        go_roundw
        case rel => exact ⟨k + 1, by omega, by go_num, ⟨by have := HI.out; rw [if_neg hp, hi.out] at this; exact this.symm⟩, ⟨hb2⟩⟩
        case measure => simp [intOf]; omega
    · go_wp2_with fail
      go_ret
      have : k = xs.length := by omega
      subst this
      have := hi.out
      rw [List.drop_length] at this
      exact ⟨by rw [← this]; rfl, hb.out⟩

theorem idx_any (p : S30 → Bool) : ∀ (xs : List S30) (i : Int), 0 ≤ i → (decide (idx p xs i ≥ 0)) = xs.any p
  | [], i, _ => by simp [idx]
  | x :: xs, i, h => by
    by_cases hp : p x = true
    · simp [idx, hp, h]
    · simp only [idx, if_neg hp, List.any_cons]
      rw [idx_any p xs (i + 1) (by omega)]
      simp [hp]

theorem containsFunc_calls (A : Option Addr) (c : Nat) (xs : List S30) (f : Value) (p : S30 → Bool) (w : World) (hc : Kd.C k30 w A xs.length xs) (hl : xs.length ≤ 2305843009213693952) (hf : Pred w f p) :
    Calls Try.prog 33 #[.slice A xs.length c, f] w fun e w' => e = .returned (.bool (xs.any p)) ∧ Below w.heap.size w w' := by
  have HA := Aside0.mk (idx_any p xs 0 (by omega))
  have HF := Aside0.mk (indexFunc_calls A c xs f p w hc hl hf)
  clear hc hf hl
  go_enter Try.func33, Try.ntmps33
  go_wp2_with (go_at_call 37; refine HF.out.mono ?_; rintro e w' ⟨rfl, hb⟩)
  go_ret
  exact ⟨by rw [← HA.out]; rfl, hb⟩

/-- The inner closure: is its number that of a (in the box that it captures)? -/
theorem inner_pred (w : World) (b : Nat) (a : S30) (v2 : Value) (hb : w.heap[b]? = some (.cells #[.int .i64 a.f0, .int .i64 a.f1, v2] 30 (0, 0))) :
    Pred w (.func (.func 34) #[] #[.pointer (some ⟨b, 0, none⟩)]) (fun x => a.f0 == x.f0) := by
  refine ⟨34, _, rfl, enters_of Try.func34 (by kernel_rfl) rfl, fun y ys W hW hy => ?_⟩
  obtain ⟨A', c', rfl, hl', hC'⟩ := k30_open hy
  have hb' : W.heap[b]? = _ := blk_below hb hW
  have h0 : W.cell? ⟨b, 0, none⟩ = some (.int .i64 a.f0) := (blk_cell hb' 0).trans rfl
  have hlW : b < W.heap.size := blk_lt hb'
  clear hy hC' hW hb'
  go_enter Try.func34, Try.ntmps34
  go_wp2_with fail
  go_ret
  exact ⟨rfl, below_alloc (Below.refl _ _) _⟩

/-- The closure that content.some is given: is its number none of old's (in the box that it captures)? -/
theorem outer_pred (w : World) (b : Nat) (B : Option Addr) (d : Nat) (old : List S30) (hb : w.heap[b]? = some (.cells #[.slice B old.length d] 22 (0, 0))) (hC : Kd.C k30 w B old.length old) (hd : old.length ≤ d) (hl : old.length ≤ 2000000) :
    Pred2 w (.func (.func 32) #[] #[.pointer (some ⟨b, 0, none⟩)]) (fun x => !(old.any (fun y => x.f0 == y.f0))) := by
  refine ⟨32, _, rfl, enters_of Try.func32 (by kernel_rfl) rfl, fun i y ys W hW hy => ?_⟩
  obtain ⟨A', c', rfl, hl', hC'⟩ := k30_open hy
  have hb' : W.heap[b]? = _ := blk_below hb hW
  have h0 : W.cell? ⟨b, 0, none⟩ = some (.slice B old.length d) := (blk_cell hb' 0).trans rfl
  have hlW : b < W.heap.size := blk_lt hb'
  have HC := Aside0.mk (Kd.C_below hC hW)
  clear hy hC' hW hb' hC
  go_enter Try.func32, Try.ntmps32
  go_wp2_with fail
  have hba : Below W.heap.size W (W.alloc (.cells #[.int .i64 y.f0, .int .i64 y.f1, .slice A' y.f2.length c'] 30)) := below_alloc (Below.refl _ _) _
  refine (containsFunc_calls B d old _ (fun z => y.f0 == z.f0) _ (Kd.C_below HC.out hba) (by omega) (inner_pred _ _ y _ (blk_new _ _))).mono ?_
  rintro e w' ⟨rfl, hb5⟩
  go_wp2_with fail
  go_ret
  exact ⟨rfl, below_then hba (by simp) hb5⟩

set_option maxHeartbeats 2000000 in
/-- content.some: those that are so, in memory of their own, their rows shared. -/
theorem some_calls (A : Option Addr) (c : Nat) (xs : List S30) (f : Value) (p : S30 → Bool) (w : World) (hc : Kd.C k30 w A xs.length xs) (hl : xs.length ≤ 2000000) (hf : Pred2 w f p) :
    Calls Try.prog 31 #[.slice A xs.length c, f] w fun e w' => ∃ v, e = .returned v ∧ OwnRow (k30.K w) 30 3 w' w.heap.size v (xs.filter p) ∧ Below w.heap.size w w' := by
  obtain ⟨g, cap, rfl, he, hf⟩ := hf
  have HC := Aside0.mk hc
  have HF := Aside0.mk hf
  clear hc hf
  go_enter Try.func31, Try.ntmps31
  go_wp2_with fail
  go_loopw [10, 5] (fun t10 t5 wr => ∃ i : Nat, i ≤ xs.length ∧ t10 = .int .i64 i ∧ Aside0 (OwnRow (k30.K w) 30 3 wr w.heap.size t5 ((xs.take i).filter p)) ∧ Aside0 (Below w.heap.size w wr)) (fun t10 _ _ => xs.length - (intOf t10).toNat)
  case atStart => exact ⟨0, Nat.zero_le _, rfl, ⟨by simpa using OwnRow.none_ _ _ _ _ _⟩, ⟨Below.refl _ _⟩⟩
  case round =>
    obtain ⟨i, hi, rfl, hR, hB⟩ := hrel
    by_cases hlt : i < xs.length
    · obtain ⟨x, ad, A2, c2, hxi, rfl, g0, g1, g2, hl2, hC2⟩ := at30 HC.out i hlt
      have HK2 := Aside0.mk (k30_mk w x hl2 hC2)
      replace g0 := pw_cell_below hB.out g0
      replace g1 := pw_cell_below hB.out g1
      replace g2 := pw_cell_below hB.out g2
      have hxm : x = xs[i] := by rw [← hxi.out]; simp [List.getD_eq_getElem?_getD, List.getElem?_eq_getElem hlt]
      have HXM := Aside0.mk hxm
      clear hC2 hxi hxm
      obtain ⟨P, hP⟩ : ∃ P, P = (xs.take i).filter p := ⟨_, rfl⟩
      have hpl : P.length ≤ 2000000 := by rw [hP]; exact Nat.le_trans (List.length_filter_le _ _) (by rw [List.length_take]; omega)
      rw [← hP] at hR
      have HP := Aside0.mk hP
      clear hP
      obtain ⟨Ao, co, e6, hlo, hCo⟩ := hR.out.reads
      subst e6
      clear hlo hCo
      go_wp2_with fail
      obtain ⟨wa, hwa⟩ : ∃ wa : World, wa = wr.alloc (.cells #[.int .i64 x.f0, .int .i64 x.f1, .slice A2 x.f2.length c2] 30) := ⟨_, rfl⟩
      have hBa : Below wr.heap.size wr wa := by rw [hwa]; exact (Below.refl _ _).alloc (Nat.le_refl _) _
      have hbx : wa.heap[wr.heap.size]? = some (.cells #[.int .i64 x.f0, .int .i64 x.f1, .slice A2 x.f2.length c2] 30 (0, 0)) := by rw [hwa]; exact blk_new _ _
      rw [← hwa]
      have HBa := Aside0.mk (below_then hB.out hB.out.size hBa)
      have HRa := Aside0.mk (hR.out.below hBa)
      have HBX := Aside0.mk hbx
      obtain ⟨gb, hgb⟩ : ∃ gb, gb = wr.heap.size := ⟨_, rfl⟩
      rw [← hgb] at HBX ⊢
      clear hwa hBa hbx hgb g0 g1 g2
      refine (HF.out i x _ wa HBa.out (k30.K_below HBa.out HK2.out)).mono ?_
      rintro e w1 ⟨rfl, hb1⟩
      have HB1 := Aside0.mk (below_then HBa.out HBa.out.size hb1)
      have HR1 := Aside0.mk (HRa.out.below hb1)
      have hx1 := blk_below HBX.out hb1
      have q0 : w1.cell? ⟨gb, 0, none⟩ = some (.int .i64 x.f0) := (blk_cell hx1 0).trans rfl
      have q1 : w1.cell? ⟨gb, 1, none⟩ = some (.int .i64 x.f1) := (blk_cell hx1 1).trans rfl
      have q2 : w1.cell? ⟨gb, 2, none⟩ = some (.slice A2 x.f2.length c2) := (blk_cell hx1 2).trans rfl
      have hs1 : w.heap.size ≤ w1.heap.size := HB1.out.size
      clear hx1 hb1
      have he : (xs.take (i + 1)).filter p = P ++ (if p x then [x] else []) := by
        rw [List.take_succ_eq_append_getElem hlt, List.filter_append, ← HP.out, ← HXM.out, List.filter_cons, List.filter_nil]
      have HE := Aside0.mk he
      clear he
      by_cases hp : p x = true
      · rw [hp]
        go_wp2_with ((with_reducible refine gate_builtin (b := .append) (xs := #[.tmp 19, .tmp 21]) rfl ?_); at_builtin; refine OwnRow.append (R := k30.K w) (w0 := w) w.heap.size rfl (.tmp 19) (.tmp 21) 22 30 (.agg #[(.int .i64 0), (.int .i64 0), (.slice none 0 0)]) 3 40 rfl Try.underlying22 inf30 rfl (by decide) (by decide) (.slice Ao P.length co) P x [.int .i64 x.f0, .int .i64 x.f1, .slice A2 x.f2.length c2] rfl rfl HK2.out rfl (k30.K_one HK2.out) HR1.out HB1.out hs1 (by omega) ?_; intro v4 w4 ho hb hg hat; have HO4 := Aside0.mk ho; have HB4 := Aside0.mk hb; clear ho hb hg hat)
        go_roundw
        case rel => exact ⟨i + 1, by omega, by go_num, ⟨by rw [HE.out, if_pos hp]; exact HO4.out⟩, HB4⟩
        case measure => simp [intOf]; omega
      · have hp' : p x = false := by simpa using hp
        rw [hp']
        go_wp2_with fail
        go_roundw
        case rel => exact ⟨i + 1, by omega, by go_num, ⟨by rw [HE.out, if_neg hp, List.append_nil]; exact HR1.out⟩, HB1⟩
        case measure => simp [intOf]; omega
    · go_wp2_with fail
      go_ret
      have hi0 : i = xs.length := by omega
      have := hR.out
      rw [hi0, List.take_length] at this
      exact ⟨_, rfl, this, hB.out⟩

/-- Those of l whose number is none of r's. -/
def news (l r : List S30) : List S30 := l.filter fun x => !(r.any fun y => x.f0 == y.f0)

def Short (l : List S30) : Prop := l.length ≤ 2000000 ∧ ∀ a ∈ l, a.f2.length ≤ 4194304

set_option maxHeartbeats 2000000 in
theorem diff1_calls (l r : List S30) (A B : Option Addr) (c d : Nat) (w : World) (hl : Kd.C k30 w A l.length l) (hc : l.length ≤ c) (hr : Kd.C k30 w B r.length r) (hd : r.length ≤ d) (sl : Short l) (sr : Short r) :
    Calls Try.prog 29 #[.slice A l.length c, .slice B r.length d] w fun e w' => ∃ v, e = .returned v ∧ Kd.R k30 30 w' w.heap.size (fun _ => True) v (news l r) ∧ Below w.heap.size w w' := by
  have HL := Aside0.mk hl
  have HR := Aside0.mk hr
  clear hl hr
  have hnl : (news l r).length ≤ 2000000 := Nat.le_trans (List.length_filter_le _ _) sl.1
  go_enter Try.func29, Try.ntmps29
  go_wp2_with fail
  have hba : Below w.heap.size w (w.alloc (.cells #[.slice B r.length d] 22)) := below_alloc (Below.refl _ _) _
  obtain ⟨wa, hwa⟩ : ∃ wa : World, wa = w.alloc (.cells #[.slice B r.length d] 22) := ⟨_, rfl⟩
  rw [← hwa] at hba ⊢
  have hblk : wa.heap[w.heap.size]? = some (.cells #[.slice B r.length d] 22 (0, 0)) := by rw [hwa]; exact blk_new _ _
  refine (some_calls A c l _ (fun x => !(r.any fun y => x.f0 == y.f0)) wa (Kd.C_below HL.out hba) sl.1 (outer_pred wa _ B d r hblk (Kd.C_below HR.out hba) hd sr.1)).mono ?_
  rintro e w1 ⟨v, rfl, ho, hb1⟩
  obtain ⟨A1, c1, rfl, hl1, hC1⟩ := ho.reads
  have hC : Kd.C k30 w1 A1 (news l r).length (news l r) := hC1.imp_ (Below.refl _ _) (fun _ _ hp => k30.K_below hb1 hp)
  have HB1 := Aside0.mk (below_then hba hba.size hb1)
  have HCC := Aside0.mk hC
  have hl1' : (news l r).length ≤ c1 := hl1
  have HCO := Aside0.mk (F.copied30_calls (news l r) A1 c1 w1 hC hl1' hnl (fun a ha => sl.2 a (List.mem_filter.1 ha).1))
  have hnn : (List.filter (fun x => !(r.any fun y => x.f0 == y.f0)) l) = news l r := rfl
  rw [hnn]
  clear hC hC1 ho hb1 hwa hblk hba hl1 hnn
  go_wp2_with (go_at_call 30; refine HCO.out.mono ?_; rintro e w2 ⟨v2, rfl, hv2, hb2⟩; have HV2 := Aside0.mk hv2; have HB2 := Aside0.mk hb2; clear hv2 hb2)
  go_ret
  exact ⟨_, rfl, Kd.R_lower HV2.out HB1.out.size, below_then HB1.out HB1.out.size HB2.out⟩

theorem R_old1 {α : Type} {d : Kd α} {e : Nat} {w : World} {base g i : Nat} {ok : Nat → Prop} {v : Value} {xs : List α} (h : d.R e w base ok v xs) (hg : g < base) (u : Value) : d.R e (w.setCell ⟨g, i, none⟩ u) base ok v xs :=
  Kd.R_mono (Kd.R_far (p := ⟨g, i, none⟩) (Kd.R_mono (ok' := fun k => ok k ∧ k ≠ g) (Kd.R_bound h) (fun k hk => ⟨hk.1, by have := hk.2.1; omega⟩)) (fun _ hk => hk.2) u) (fun _ hk => hk.1)

set_option maxHeartbeats 2000000 in
theorem diff_calls (l r : List S30) (A B : Option Addr) (c d : Nat) (w : World) (hl : Kd.C k30 w A l.length l) (hc : l.length ≤ c) (hr : Kd.C k30 w B r.length r) (hd : r.length ≤ d) (sl : Short l) (sr : Short r) :
    Calls Try.prog 25 #[.slice A l.length c, .slice B r.length d] w fun e w' => ∃ v1 v2, e = .returned (.agg #[v1, v2]) ∧ Kd.R k30 30 w' w.heap.size (fun _ => True) v1 (news r l) ∧ Kd.R k30 30 w' w.heap.size (fun _ => True) v2 (news l r) ∧ Below w.heap.size w w' := by
  have HL := Aside0.mk hl
  have HR := Aside0.mk hr
  clear hl hr
  go_enter Try.func25, Try.ntmps25
  go_wp2_with fail
  have hba : Below w.heap.size w (w.alloc (.cells #[.slice none 0 0, .slice none 0 0] 40)) := below_alloc (Below.refl _ _) _
  obtain ⟨wa, hwa⟩ : ∃ wa : World, wa = w.alloc (.cells #[.slice none 0 0, .slice none 0 0] 40) := ⟨_, rfl⟩
  rw [← hwa] at hba ⊢
  have hblk : wa.heap[w.heap.size]? = some (.cells #[.slice none 0 0, .slice none 0 0] 40 (0, 0)) := by rw [hwa]; exact blk_new _ _
  obtain ⟨g, hg⟩ : ∃ g, g = w.heap.size := ⟨_, rfl⟩
  have hgw : w.heap.size ≤ g := by omega
  rw [← hg] at hblk ⊢
  clear hwa hg
  refine (diff1_calls r l B A d c wa (Kd.C_below HR.out hba) hd (Kd.C_below HL.out hba) hc sr sl).mono ?_
  rintro e w1 ⟨v1, rfl, hv1, hb1⟩
  have HB1 := Aside0.mk (below_then hba hba.size hb1)
  have HV1 := Aside0.mk (Kd.R_lower hv1 hba.size)
  have hblk1 := blk_below hblk hb1
  have HK1 := Aside0.mk hblk1
  have HGA := Aside0.mk (blk_lt hblk)
  have HW := Aside0.mk hv1
  obtain ⟨A1, c1, rfl⟩ := Kd.R_slice hv1
  obtain ⟨X1, hX1⟩ : ∃ X, X = news r l := ⟨_, rfl⟩
  rw [← hX1] at HV1 HW hv1 ⊢
  have HX1 := Aside0.mk hX1
  clear hv1 hb1 hblk hblk1 hba hX1
  go_wp2_with fail
  refine (diff1_calls l r A B c d w1 (Kd.C_below HL.out HB1.out) hc (Kd.C_below HR.out HB1.out) hd sl sr).mono ?_
  rintro e w2 ⟨v2, rfl, hv2, hb2⟩
  obtain ⟨A2, c2, rfl⟩ := Kd.R_slice hv2
  obtain ⟨X2, hX2⟩ : ∃ X, X = news l r := ⟨_, rfl⟩
  rw [← hX2] at hv2 ⊢
  have HV2 := Aside0.mk (Kd.R_lower hv2 HB1.out.size)
  have HVN := Aside0.mk hv2
  have HB2 := Aside0.mk (below_then HB1.out HB1.out.size hb2)
  have HV12 := Aside0.mk (Kd.R_below HV1.out hb2)
  have hblk2 := blk_below HK1.out hb2
  have q0 : w2.cell? ⟨g, 0, none⟩ = some (.slice none 0 0) := (blk_cell hblk2 0).trans rfl
  have q1 : w2.cell? ⟨g, 1, none⟩ = some (.slice none 0 0) := (blk_cell hblk2 1).trans rfl
  have f0 : w2.frozen? ⟨g, 0, none⟩ = false := blk_frozen hblk2 0
  have f1 : w2.frozen? ⟨g, 1, none⟩ = false := blk_frozen hblk2 1
  have HK2 := Aside0.mk hblk2
  have HX2 := Aside0.mk hX2
  have HVW := Aside0.mk (Kd.R_below HW.out hb2)
  clear hv2 hb2 hblk2 hX2
  go_wp2_with fail
  refine bodyPost_ret (results_cell_row rfl _ _ g 40 #[.slice A1 X1.length c1, .slice A2 X2.length c2] (0, 0) _ rfl (blk_put (cs := #[.slice A1 X1.length c1, .slice none 0 0]) (blk_put HK2.out 0 _ rfl) 1 _ rfl) Try.underlying40 rfl (by kernel_rfl)) rfl ?_
  have hsz2 : g < w1.heap.size := blk_lt HK1.out
  rw [← HX1.out, ← HX2.out]
  exact ⟨_, _, rfl, Kd.R_lower (R_old1 (R_old1 HVW.out HGA.out _) HGA.out _) (by have := HGA.out; omega), Kd.R_lower (R_old1 (R_old1 HVN.out hsz2 _) hsz2 _) HB1.out.size, (HB2.out.setCell (p := ⟨g, 0, none⟩) hgw _).setCell (p := ⟨g, 1, none⟩) hgw _⟩
end Go.Proofs.Ytdbhlfnpaloomaa.G
