/- append onto a slice that came in, cut to its length: the elements of both are read behind one another. -/
import Derived.Test.YtdbhlfnpaloomaaPSamex
import Derived.ArgAppend
import Derived.Deep.Upon
import Derived.Deep.AppendLies
import Derived.Deep.RegionWith
import Derived.OrdersHeld
namespace Go.Proofs.Ytdbhlfnpaloomaa.A
open Go.RowKit Go.Proofs.YtdbhlfnpaloomaaW.PrintWords Go.Proofs.YtdbhlfnpaloomaaW.PrintLast Go.Proofs.YtdbhlfnpaloomaaW.PrintMore
open Go.Proofs.Ytdbhlfnpaloomaa.PSame
set_option linter.unusedVariables false
set_option linter.unusedSimpArgs false

theorem reps_one {α : Type} (d : Kd α) (hs : 0 < d.sz) {W : World} {xs : List α} {inner : List Value} (h : Reps (d.K W) d.sz xs inner) : ∀ u ∈ inner, u.oneCell' = true := by
  intro u hu
  obtain ⟨j, hj, rfl⟩ := List.getElem_of_mem hu
  have hlt : j / d.sz < xs.length := by
    have := h.1
    rw [this] at hj
    exact (Nat.div_lt_iff_lt_mul hs).2 hj
  have hK := h.2 (j / d.sz) _ (List.getElem?_eq_getElem hlt)
  refine d.K_one hK _ ?_
  have hm : j % d.sz < d.sz := Nat.mod_lt _ hs
  have he : ((inner.drop (j / d.sz * d.sz)).take d.sz)[j % d.sz]? = some inner[j] := by
    rw [List.getElem?_take, if_pos hm, List.getElem?_drop, Nat.div_add_mod' j d.sz]
    exact List.getElem?_eq_getElem hj
  exact List.mem_of_getElem? he

theorem below_grown {w w' : World} (h : w.grownBy w' none) : Below w.heap.size w w' := ⟨h.os, h.tape, h.output, h.size, fun k hk => h.block k hk (by simp)⟩

theorem append_reads (w : World) (xs ys : List S46) (A B : Option Addr) (d : Nat) (hx : Kd.C k46 w A xs.length xs) (hy : Kd.C k46 w B ys.length ys) (hd : ys.length ≤ d) (hA : A = none → xs = []) (hb : (xs.length + ys.length) * 32 ≤ 140737488355328) (ty : TypeId) :
    ∃ A' c' w', (Builtin.append_ #[28, 28] ty #[.slice A xs.length xs.length, .slice B ys.length d]).run Try.prog w = .ok (.slice A' (xs ++ ys).length c') w' ∧ (xs ++ ys).length ≤ c' ∧ Kd.C k46 w' A' (xs ++ ys).length (xs ++ ys) ∧ Below w.heap.size w w' := by
  obtain ⟨i, hi, he⟩ := Option.map_eq_some_iff.1 info46
  simp only [Prod.mk.injEq] at he
  obtain ⟨hz, hsz, hby⟩ := he
  by_cases hm : ys.length = 0
  · have hys : ys = [] := List.eq_nil_of_length_eq_zero hm
    subst hys
    refine ⟨A, xs.length, w, ?_, by simp, by simpa using hx, Below.refl _ _⟩
    have := run_append_nothing (P := Try.prog) w 28 28 ty 46 i Try.underlying28 hi A xs.length xs.length (Nat.le_refl _) (.slice B 0 d) ⟨.inl ⟨_, Try.underlying28⟩, fun w' => by simp [Builtin.lenOf], by cases B <;> simp [Builtin.firstCells, loadCells, loadCellsFrom], by cases B <;> simp [Builtin.firstCells, loadCells, loadCellsFrom], by simp, by simp⟩
    simpa using this
  · obtain ⟨bd, hB, _⟩ := hy.2.2 (by omega)
    subst hB
    obtain ⟨news, hrn, hcn⟩ := ReadsRow.inner_ hy
    have hln : news.length = ys.length * 3 := hrn.1
    have hmax : xs.length + ys.length ≤ maxLen := by simp only [maxLen]; omega
    cases A with
    | none =>
      obtain rfl := hA rfl
      obtain ⟨v', w', hr, ho, hg, _⟩ := run_append_own (P := Try.prog) w w.heap.size 28 ty 46 i _ 3 32 Try.underlying28 hi hz hsz hby rfl (by decide) (.slice none 0 0) 0 [] (World.ownsRow_nil w _ 46 3) bd ys.length d news hln hcn (reps_one k46 (by decide) hrn) (by simpa using hmax) (by simpa using hb) (Nat.le_refl _)
      have hbl : Below w.heap.size w w' := below_grown (by simpa [Value.ownBlock] using hg)
      obtain ⟨A', c', rfl, hl, hR⟩ := OwnRow.reads (R := k46.K w') (e := 46) (size := 3) (w := w') (base := w.heap.size) (v := v') (ps := ys) ⟨news, by simpa using ho, hrn.imp_ (fun _ _ h => k46.K_below hbl h)⟩
      exact ⟨A', c', w', by simpa using hr, by simpa using hl, by rw [List.nil_append]; exact hR, hbl⟩
    | some a =>
      obtain ⟨olds, hro, hco⟩ := ReadsRow.inner_ hx
      obtain ⟨v', w', hr, ho, hg⟩ := run_append_arg_grows (P := Try.prog) w 28 ty 46 i _ 3 32 Try.underlying28 hi hz hsz hby rfl (by decide) a xs.length xs.length olds hro.1 hco bd ys.length d news hln hcn (by omega) hmax hb
      have hbl : Below w.heap.size w w' := below_grown hg
      have hre : Reps (k46.K w') 3 (xs ++ ys) (olds ++ news) := Kd.reps_append (hro.imp_ (fun _ _ h => k46.K_below hbl h)) (hrn.imp_ (fun _ _ h => k46.K_below hbl h))
      obtain ⟨A', c', rfl, hl, hR⟩ := OwnRow.reads (R := k46.K w') (e := 46) (size := 3) (w := w') (base := w.heap.size) (v := v') (ps := xs ++ ys) ⟨olds ++ news, by simpa using ho, hre⟩
      exact ⟨A', c', w', hr, hl, hR, hbl⟩
end Go.Proofs.Ytdbhlfnpaloomaa.A
