/- A join of two sets of one length view: join.New, turn. -/
import Derived.Test.YtdbhlfnpaloomaaM
namespace Go.Proofs.Ytdbhlfnpaloomaa.N
open Go.RowKit Go.Proofs.YtdbhlfnpaloomaaW.PrintWords Go.Proofs.YtdbhlfnpaloomaaW.PrintLast Go.Proofs.YtdbhlfnpaloomaaW.PrintMore
open Go.Proofs.Ytdbhlfnpaloomaa.PSame Go.Proofs.Ytdbhlfnpaloomaa.A Go.Proofs.Ytdbhlfnpaloomaa.B Go.Proofs.Ytdbhlfnpaloomaa.F Go.Proofs.Ytdbhlfnpaloomaa.G Go.Proofs.Ytdbhlfnpaloomaa.H Go.Proofs.Ytdbhlfnpaloomaa.I Go.Proofs.Ytdbhlfnpaloomaa.J Go.Proofs.Ytdbhlfnpaloomaa.K Go.Proofs.Ytdbhlfnpaloomaa.L Go.Proofs.Ytdbhlfnpaloomaa.M
set_option linter.unusedVariables false
set_option linter.unusedSimpArgs false

structure St where
  n : Int
  now : Int
  last : Int
  took : Bool
  V : List S30
  H : List S30
def St.add (t : St) (a : S30) : St := ⟨t.n, a.f1, a.f0, true, lastn t.n (t.V ++ [a]), lastn t.n (t.V ++ [a])⟩
def SetSt (w : World) (base s : Nat) (t : St) (ok : Nat → Prop) : Prop := SetIs w base s t.n t.now t.last t.took t.V t.H ok

/-- A join: its two sets and what it held at its last turn. -/
def JoinIs (w : World) (base : Nat) (okA : Nat → Prop) (j : Nat) (x y : St) (P : List S30) : Prop :=
  ∃ s0 s1 vh, ∃ ok0 ok1 okj : Nat → Prop, w.heap[j]? = some (.cells #[.pointer (some ⟨s0, 0, none⟩), .pointer (some ⟨s1, 0, none⟩), vh] 51 (0, 0)) ∧
    SetSt w base s0 x ok0 ∧ SetSt w base s1 y ok1 ∧ Sh w base okj vh P ∧ okj j ∧
    (∀ k, ok0 k → base ≤ k ∧ okA k ∧ ¬ ok1 k ∧ ¬ okj k) ∧ (∀ k, ok1 k → base ≤ k ∧ okA k ∧ ¬ okj k) ∧ (∀ k, okj k → base ≤ k ∧ okA k) ∧ (∀ k, okA k → base ≤ k ∧ k < w.heap.size)

theorem Sh.lower {w : World} {base base' : Nat} {ok : Nat → Prop} {v : Value} {xs : List S30} (h : Sh w base ok v xs) (hb : base' ≤ base) : Sh w base' ok v xs := by
  obtain ⟨h0, inner, ho, hr⟩ := Kd.R_lower h hb
  exact ⟨h0, inner, ho, hr.imp_ (fun _ _ hp => k30.M_lower hb hp)⟩
theorem SetIs.lower {w : World} {base base' s : Nat} {n now last : Int} {took : Bool} {V H : List S30} {ok : Nat → Prop} (h : SetIs w base s n now last took V H ok) (hb : base' ≤ base) : SetIs w base' s n now last took V H ok := by
  obtain ⟨vs, vv, nb, vl, vh, h1, h2, h3, h4, h5, h6, h7, h8, h9⟩ := h
  exact ⟨vs, vv, nb, vl, vh, h1, Kd.R_lower h2 hb, Kd.R_lower h3 hb, h4, Sh.lower h5 hb, Sh.lower h6 hb, h7, h8, h9⟩
theorem SetSt.lt {w : World} {base s : Nat} {t : St} {ok : Nat → Prop} (h : SetSt w base s t ok) : s < w.heap.size := by
  obtain ⟨vs, vv, nb, vl, vh, h1, _⟩ := h
  exact blk_lt h1

theorem JoinIs.below {w w1 : World} {base j : Nat} {okA : Nat → Prop} {x y : St} {P : List S30} (h : JoinIs w base okA j x y P) (hb : Below w.heap.size w w1) : JoinIs w1 base okA j x y P := by
  obtain ⟨s0, s1, vh, ok0, ok1, okj, h1, h2, h3, h4, h5, h6, h7, h8, h9⟩ := h
  exact ⟨s0, s1, vh, ok0, ok1, okj, blk_below h1 hb, SetIs.below h2 hb, SetIs.below h3 hb, h4.below hb, h5, h6, h7, h8, fun k hk => ⟨(h9 k hk).1, Nat.lt_of_lt_of_le (h9 k hk).2 hb.size⟩⟩
theorem JoinIs.mono {w : World} {base j : Nat} {okA okB : Nat → Prop} {x y : St} {P : List S30} (h : JoinIs w base okA j x y P) (hk : ∀ k, okA k → okB k) (hB : ∀ k, okB k → base ≤ k ∧ k < w.heap.size) : JoinIs w base okB j x y P := by
  obtain ⟨s0, s1, vh, ok0, ok1, okj, h1, h2, h3, h4, h5, h6, h7, h8, h9⟩ := h
  exact ⟨s0, s1, vh, ok0, ok1, okj, h1, h2, h3, h4, h5, fun k h => ⟨(h6 k h).1, hk k (h6 k h).2.1, (h6 k h).2.2⟩, fun k h => ⟨(h7 k h).1, hk k (h7 k h).2.1, (h7 k h).2.2⟩, fun k h => ⟨(h8 k h).1, hk k (h8 k h).2⟩, hB⟩

set_option maxRecDepth 100000 in
set_option maxHeartbeats 4000000 in
theorem joinNew_calls (a0 a1 : Nat) (n m k l : Int) (w : World) (h0 : w.heap[a0]? = some (.cells #[.int .i64 2, .int .i64 n, .slice none 0 0, .bool false] 37 (0, 0))) (h1 : w.heap[a1]? = some (.cells #[.int .i64 2, .int .i64 m, .slice none 0 0, .bool false] 37 (0, 0))) (hn1 : 1 ≤ n) (hn2 : n ≤ 65536) (hm1 : 1 ≤ m) (hm2 : m ≤ 65536) :
    Calls Try.prog 10 #[.slice (some ⟨a0, 0, none⟩) 1 1, .slice (some ⟨a1, 0, none⟩) 1 1, .int .i64 k, .int .i64 l] w fun e w' => ∃ j, e = .returned (.pointer (some ⟨j, 0, none⟩)) ∧ JoinIs w' w.heap.size (fun k => w.heap.size ≤ k ∧ k < w'.heap.size) j ⟨n, 0, 0, false, [], []⟩ ⟨m, 0, 0, false, [], []⟩ [] ∧ Below w.heap.size w w' := by
  have A0 := Aside0.mk h0
  have A1 := Aside0.mk h1
  clear h0 h1
  go_enter Try.func10, Try.ntmps10
  go_wp2_with fail
  refine (new_calls a0 n k w A0.out hn1 hn2).mono ?_
  rintro e w1 ⟨s0, rfl, hs0, hb1⟩
  have HS0 := Aside0.mk hs0
  have HB1 := Aside0.mk hb1
  clear hs0 hb1
  go_wp2_with fail
  refine (new_calls a1 m l w1 (blk_below A1.out HB1.out) hm1 hm2).mono ?_
  rintro e w2 ⟨s1, rfl, hs1, hb2⟩
  have HS1 := Aside0.mk hs1
  have HB2 := Aside0.mk hb2
  clear hs1 hb2
  go_wp2_with fail
  go_ret
  have hb3 : Below w2.heap.size w2 (w2.alloc (.cells #[.pointer (some ⟨s0, 0, none⟩), .pointer (some ⟨s1, 0, none⟩), .slice none 0 0] 51)) := below_alloc (Below.refl _ _) _
  have hz1 := HB1.out.size
  have hz2 := HB2.out.size
  refine ⟨w2.heap.size, rfl, ⟨s0, s1, .slice none 0 0, fun k => w.heap.size ≤ k ∧ k < w1.heap.size, fun k => w1.heap.size ≤ k ∧ k < w2.heap.size, fun k => k = w2.heap.size, blk_new _ _, ?_, ?_, Sh.nil _ _ _, rfl, ?_, ?_, ?_, fun k hk => hk⟩, below_then (below_then HB1.out hz1 HB2.out) (by omega) hb3⟩
  · exact SetIs.below (SetIs.below (SetIs.bound HS0.out) HB2.out) hb3
  · exact SetIs.lower (SetIs.below (SetIs.bound HS1.out) hb3) hz1
  · intro k hk; simp; omega
  · intro k hk; simp; omega
  · intro k hk; simp; omega
end Go.Proofs.Ytdbhlfnpaloomaa.N
