/- A region that draws its order, within a round of a range over a function: out of the plain walk of that region. -/
import Derived.Test.YtladneaaepcdbaaDoorD
import Derived.Deep.AppendLies
import Derived.OrdersHeld
import Derived.Laws.IdiomCopy
namespace Go.Proofs.YtladneaaepcdbaaDoor.T
open Go.RowKit Go.Proofs.YtladneaaepcdbaaDoorW.PrintWords Go.Proofs.YtladneaaepcdbaaDoor.C
set_option linter.unusedVariables false
set_option linter.unusedSimpArgs false

theorem keepsOthers_below {W W' : World} (h : Below W.heap.size W W') : KeepsOthers W W' := KeepsOthers.of_grownBy (row := none) ⟨h.os, h.tape, h.output, h.size, fun k hk _ => h.block k hk⟩ (fun j o e _ => by cases e)

theorem rowsIn_wide' {n : Nat} {P : Program} {row : String} {args : Array Value} {w : World} {R : Value → World → Prop} (l : Nat) (h : Rows P row args w R) : RowsIn (Fence.wide.inRound l) n P row args w R := fun c cs _ => by
  obtain ⟨v, w', hr, hs⟩ := h c cs
  exact ⟨v, w', hr, stepsIn_wide.2 hs⟩

theorem opIn_of_op {P : Program} {l n : Nat} {o : Oper} {a : Act} {w : World} {K K' : Act → World → Prop} {Q : Exit → Act → World → Prop} (hnd : ∀ c, o.op ≠ .defer c) (hK : ∀ a w, K a w → K' a w) (h : o.wp P a w K Q) : o.wpIn (Fence.wide.inRound l) n P a w K' Q := by
  refine ⟨fun f _ => trivial, ?_⟩
  have e : o.semAt (Fence.wide.inRound l).round a.eval = execOp a.eval o := Oper.semAt_some l _ _ hnd
  rw [e]
  unfold Oper.wp at h
  cases hr : (execOp a.eval o).run P w with
  | ok x w' =>
    rw [hr] at h
    cases x with
    | value v => exact hK _ _ h
    | skip => exact hK _ _ h
    | defer d => exact hK _ _ h
    | enter f args =>
      refine ⟨fun hd => (by cases hd), ?_⟩
      have h' : Calls P f args w' _ := h
      refine CallsIn.inRound l (callsIn_wide.2 (h'.mono ?_))
      intro e w'' he
      cases e with
      | returned v => exact hK _ _ he
      | panicked c => exact he
      | outgrown => exact he
    | row r args =>
      refine ⟨fun hd => (by cases hd), rowsIn_wide' l ?_⟩
      have h' : Rows P r args w' _ := h
      exact h'.mono (fun v w'' hv => hK _ _ hv)
    | _ => exact h.elim
  | halt x w' =>
    rw [hr] at h
    cases x with
    | panic v => exact h
    | _ => exact h.elim

theorem anyIn_of_any {P : Program} {md : Region.Mode} {ops : Array Oper} {l n : Nat} {Q : Exit → Act → World → Prop} (hndB : (ops.all fun o => match o.op with | .defer _ => false | _ => true) = true) (hQ : ¬ LetsOut Q) :
    ∀ (fuel : Nat) (listed : Array Bool) (a : Act) (w : World), wpAny P md ops Q fuel listed a w → wpAnyIn (Fence.wide.inRound l) n P md ops Q fuel listed a w
  | 0, _, _, _, h => h
  | fuel + 1, listed, a, w, h =>
    have hnd : ∀ (i : Nat) (o : Oper) (c : Call), ops[i]? = some o → o.op ≠ .defer c := fun i o c ho e => by
      have := Array.all_eq_true'.1 hndB o (Array.mem_of_getElem? ho)
      rw [e] at this
      cases this
    ⟨h.1, fun i hi => by
      have h2 := h.2 i hi
      unfold wpOp at h2
      unfold wpOpIn
      cases ho : ops[i]? with
      | none => rw [ho] at h2; exact anyIn_of_any hndB hQ fuel _ _ _ h2
      | some o =>
        rw [ho] at h2
        simp only at h2 ⊢
        split
        · rename_i hw
          rw [if_pos hw] at h2
          rcases h2 with h2 | ⟨_, h2⟩
          · exact opIn_of_op (fun c => hnd i o c ho) (fun a' w' h' => anyIn_of_any hndB hQ fuel _ a' w' h') h2
          · exact absurd h2 hQ
        · rename_i hw
          rw [if_neg hw] at h2
          exact ⟨fun _ _ => trivial, anyIn_of_any hndB hQ fuel _ _ _ h2⟩⟩

theorem store_step {P : Program} {ops : Array Oper} {o : Oper} {a : Act} {w w' : World} {K : Act → World → Prop} {Q : Exit → Act → World → Prop} {E : Prop} (hg : o.guard = none) (t : TypeId) (p x : Operand) (ho : o.op = .store t p x) (hd : o.dst = none)
    (hrun : (Instr.storeAt t (a.eval p) (a.eval x)).run P w = .ok () w') (hK : K a w') : if Region.wanted o (yielded ops a.tmps) = true then Oper.wp P o a w K Q else E := by
  rw [if_pos (by simp [Region.wanted, hg])]
  unfold Oper.wp execOp
  simp only [ho, Sem.run_bind, Sem.run_pure, Result.andThen_ok, hrun]
  show K (a.put o.dst undef) _
  rw [hd]
  exact hK

theorem fin {w W w7 : World} {bo : Nat} {v ns : Value} (hw : Below w.heap.size w W) (hbo : W.heap[bo]? = some (.cells #[v] 22 (0, 0))) (hvc : ∀ k, v.ownBlock = some k → ∃ c e f, W.heap[k]? = some (.cells c e f)) (hvb : ∀ k, v.ownBlock = some k → w.heap.size ≤ k) (hbw : w.heap.size ≤ bo)
    (hsz : W.heap.size ≤ w7.heap.size) (hos : w7.os = W.os) (htape : w7.tape = W.tape) (hout : w7.output = W.output)
    (hch : ∀ k, k < W.heap.size → k ≠ bo → v.ownBlock ≠ some k → w7.heap[k]? = W.heap[k]?)
    (hns : w7.heap[bo]? = some (.cells #[ns] 22 (0, 0))) (hnb : ∀ k, ns.ownBlock = some k → k < w7.heap.size ∧ (v.ownBlock = some k ∨ W.heap.size ≤ k)) (B : Nat) :
    KeepsFrom B W w7 ∧ Kp w.heap.size bo 22 W w7 ∧ Below w.heap.size w w7 := by
  have hB : Below w.heap.size W w7 := ⟨hos, htape, hout, hsz, fun k hk => hch k (Nat.lt_of_lt_of_le hk hw.size) (by omega) (fun e => by have := hvb k e; omega)⟩
  refine ⟨⟨hsz, fun k o _ hk ho => ?_⟩, Kp.step hB hns (fun k hk => ?_) (fun k hk hn => ?_), hw.trans hB⟩
  · refine (hch k (blk_lt hk) (fun e => ?_) (fun e => ?_)).trans hk
    · subst e
      rw [hbo] at hk
      injection hk with hk
      rw [← hk] at ho
      cases ho
    · obtain ⟨c, e', f, h⟩ := hvc k e
      rw [h] at hk
      injection hk with hk
      rw [← hk] at ho
      cases ho
  · obtain ⟨h1, h2⟩ := hnb k hk
    refine ⟨h1, h2.imp (fun e => .inr ⟨v, hbo, e⟩) id⟩
  · exact hch k hk (fun e => hn (.inl e)) (fun e => hn (.inr ⟨v, hbo, e⟩))
end Go.Proofs.YtladneaaepcdbaaDoor.T
