/- tree.Size: the number of trees that come. -/
import Derived.Test.YtladneaaepcdbaaDoorC
namespace Go.Proofs.YtladneaaepcdbaaDoor.D
open Go.RowKit Go.Shelf Go.Proofs.YtladneaaepcdbaaDoorW.PrintWords Go.Proofs.YtladneaaepcdbaaDoorW.PrintLast Go.Proofs.YtladneaaepcdbaaDoorW.PrintMore
open Go.Proofs.YtladneaaepcdbaaDoor.PTree Go.Proofs.YtladneaaepcdbaaDoor.B Go.Proofs.YtladneaaepcdbaaDoor.C

attribute [local go_sem] Oper.semAt_some
set_option linter.unusedVariables false
set_option linter.unusedSimpArgs false

theorem ownFrom_blk {β : Type} {B b : Nat} (c : β → Array Value) (t : TypeId) : OwnFrom B (fun (s : β) W => W.heap[b]? = some (.cells (c s) t (0, 0))) := by
  intro s W W' row hs hg hr
  refine (hg.block b (blk_lt hs) (fun e => ?_)).trans hs
  obtain ⟨_, o, ho, hc⟩ := hr b e.symm
  rw [hs] at ho
  injection ho with ho
  rw [← ho] at hc
  cases hc

theorem wrap_succ (n : Nat) : wrap64 (wrap64 n + 1) = wrap64 (n + 1) := by unfold wrap64; omega

set_option maxRecDepth 100000 in
set_option maxHeartbeats 2000000 in
theorem size_calls (x : S24) (cs : List Value) (w : World) (hK : k24.K w x cs) (hokT : Q.okT x) :
    Calls Tryd.prog 16 #[.agg cs.toArray] w fun e w' => e = .returned (.int .i64 (wrap64 (preo 0 x).length)) ∧ Below w.heap.size w w' := by
  refine (callsIn_wide (n := 9)).1 ?_
  have HK := Aside0.mk hK
  obtain ⟨A, c, rfl, hl, hC⟩ := k24_open hK
  clear hC
  refine callsIn_of_wp_marks Tryd.func16 rfl trivial ?_ rfl
  simp only [Tryd.ntmps16, List.size_toArray, List.length_cons, List.length_nil, Nat.reduceAdd, Nat.reduceSub, Array.replicate_succ, Array.replicate_zero, List.push_toArray, List.append_toArray, List.nil_append, List.cons_append]
  have HW := Aside0.mk (fun W (hW : Below w.heap.size w W) => walk_in Fence.wide 8 trivial rfl x _ W (k24.K_below hW hK))
  gi_wp2_with fail
  refine ⟨trivial, (HW.out _ ((((Below.refl _ w).alloc (Nat.le_refl _) _).alloc (by simp) _))).mono ?_⟩
  rintro e W1 ⟨rfl, rfl⟩
  gi_wp2_with fail
  obtain ⟨W3, hW3⟩ : ∃ W3, ((w.alloc (.cells #[.int .i64 x.f0, .string x.f1, .int .i64 x.f2, .int .i64 x.f3, .slice A x.f4.length c] 24)).alloc (.cells #[.int .i64 0] 3)).alloc (.cells #[.int .i64 x.f0, .string x.f1, .int .i64 x.f2, .int .i64 x.f3, .slice A x.f4.length c] 24) = W3 := ⟨_, rfl⟩
  have hB3 : Below w.heap.size w W3 := by rw [← hW3]; exact (((Below.refl _ w).alloc (Nat.le_refl _) _).alloc (by simp) _).alloc (by simp; omega) _
  have hs3 : W3.heap.size = w.heap.size + 3 := by rw [← hW3]; simp
  have hbo : W3.heap[w.heap.size + 1]? = some (.cells #[.int .i64 0] 3 (0, 0)) := by
    rw [← hW3]
    have := blk_new (w.alloc (.cells #[.int .i64 x.f0, .string x.f1, .int .i64 x.f2, .int .i64 x.f3, .slice A x.f4.length c] 24)) (.cells #[.int .i64 0] 3)
    exact blk_alloc (by simpa using this) _
  have hbn : W3.heap[w.heap.size + 2]? = some (.cells #[.int .i64 x.f0, .string x.f1, .int .i64 x.f2, .int .i64 x.f3, .slice A x.f4.length c] 24 (0, 0)) := by
    rw [← hW3]
    have := blk_new ((w.alloc (.cells #[.int .i64 x.f0, .string x.f1, .int .i64 x.f2, .int .i64 x.f3, .slice A x.f4.length c] 24)).alloc (.cells #[.int .i64 0] 3)) (.cells #[.int .i64 x.f0, .string x.f1, .int .i64 x.f2, .int .i64 x.f3, .slice A x.f4.length c] 24)
    simpa using this
  rw [hW3]
  clear hW3 HW
  have hok : OkFp (w.heap.size + 1) 3 W3 := by
    intro v k hv hk
    rw [hbo] at hv
    injection hv with hv
    injection hv with hv
    injection hv with hv
    injection hv with hv
    subst hv
    simp [Value.ownBlock] at hk
  refine wpIn_rangeFunc_ownF rfl (by omega) (gf := 26) (lb := #[.pointer (some ⟨w.heap.size + 2, 0, none⟩)]) rfl trivial (enters_of Tryd.func26 (by kernel_rfl) rfl)
    (walk_stops Fence.wide rfl 8 trivial trivial rfl (preo 0 x).length (w.heap.size + 1) 3 (w.heap.size + 2) w W3 x _ HK.out hokT (Nat.le_refl _) hB3 (by omega) hok hbn)
    (fun h k => h.trans k) (fun W l o o' hl h hc _ => Kp.putObj (w := W3) (by omega) (by omega) hl h hc) (Below.refl _ _) (fun _ => rfl)
    (fun pre W => W.heap[w.heap.size + 1]? = some (.cells #[.int .i64 (wrap64 pre.length)] 3 (0, 0)) ∧ Below w.heap.size w W)
    (fun _ _ _ => False)
    (OwnFrom.and (ownFrom_blk _ _) (ownFrom_below (Nat.le_refl _) (by omega)))
    (fun _ _ _ _ _ hs _ _ => hs)
    ⟨by rw [show wrap64 (([] : List (El w)).length : Int) = 0 from by simp [wrap64]]; exact hbo, hB3⟩
    (fun y => { tmps := #[.agg #[.int .i64 x.f0, .string x.f1, .int .i64 x.f2, .int .i64 x.f3, .slice A x.f4.length c], .pointer (some ⟨w.heap.size, 0, none⟩), .int .i64 0, .pointer (some ⟨w.heap.size + 1, 0, none⟩), .agg #[.int .i64 x.f0, .string x.f1, .int .i64 x.f2, .int .i64 x.f3, .slice A x.f4.length c], .func (.func 26) #[] #[.pointer (some ⟨w.heap.size + 2, 0, none⟩)], .int .i64 y.1.1, .agg y.1.2.2.toArray, undef, undef, undef], defers := [] }) ?assign ?body ?done ?stop
  case assign =>
    intro l y W K hK
    gi_wp2
    simpa [elv] using hK
  case body =>
    rintro l pre y W ⟨hc, hB⟩ _
    have hcell : W.cell? ⟨w.heap.size + 1, 0, none⟩ = some (.int .i64 (wrap64 pre.length)) := (blk_cell hc 0).trans rfl
    have hfz := blk_frozen hc 0
    have HC := Aside0.mk hc
    clear hc
    gi_wp2
    have hset := blk_put HC.out 0 (.int .i64 (wrap64 (wrap64 pre.length + 1))) (cs' := #[.int .i64 (wrap64 (pre ++ [y]).length)]) (by simp [wrap_succ])
    have hbs : Below w.heap.size W (W.setCell ⟨w.heap.size + 1, 0, none⟩ (.int .i64 (wrap64 (wrap64 pre.length + 1)))) := (Below.refl _ _).setCell (by simp) _
    exact ⟨KeepsOthers.setCell _ _ _, Kp.step hbs hset (fun k hk => by simp [Value.ownBlock] at hk) (fun k hk hn => Below.heap_setCell _ _ _ _ (fun e => hn (.inl e))), hset, hB.trans hbs⟩
  case done =>
    rintro D ys W hD hys ⟨hc, hB⟩ hKD
    have hcell : W.cell? ⟨w.heap.size + 1, 0, none⟩ = some (.int .i64 (wrap64 ys.length)) := (blk_cell hc 0).trans rfl
    have HL := Aside0.mk (congrArg List.length hys)
    have HC := Aside0.mk hc
    clear hc hys
    gi_wp2
    refine ⟨by simp, .inl ⟨_, _, rfl, run_takeDeferred hKD, ?_⟩⟩
    refine ⟨_, results_tmp rfl _ _ _, ?_, ?_⟩
    · have := HL.out
      rw [List.length_map] at this
      rw [← this]
      rfl
    · exact hB.trans (belowK_b (w := w) (Nat.le_refl _) W D _ _ (by omega) hKD rfl rfl)
  case stop =>
    rintro D c pre W _ _ h _
    exact h.elim
end Go.Proofs.YtladneaaepcdbaaDoor.D
