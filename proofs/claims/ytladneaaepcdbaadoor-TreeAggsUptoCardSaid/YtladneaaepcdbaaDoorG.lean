/- The reference's Aggs, and that both answer alike. -/
import Derived.Test.YtladneaaepcdbaaDoorE
import Derived.Test.YtladneaaepcdbaaDoorF
namespace Go.Proofs.YtladneaaepcdbaaDoor.G
open Go.RowKit Go.Proofs.YtladneaaepcdbaaDoorW.PrintWords Go.Proofs.YtladneaaepcdbaaDoorW.PrintLast Go.Proofs.YtladneaaepcdbaaDoorW.PrintMore
open Go.Proofs.YtladneaaepcdbaaDoor.PTree Go.Proofs.YtladneaaepcdbaaDoor.B Go.Proofs.YtladneaaepcdbaaDoor.F
open Go.Proofs.YtladneaaepcdbaaDoor.C (preo preo_eq deep)
open Go.Proofs.YtladneaaepcdbaaDoor.E (stepA aggsOf)
open Go.Proofs.YtladneaaepcdbaaDoor.Q (okT sameT)
set_option linter.unusedVariables false
set_option linter.unusedSimpArgs false

set_option maxHeartbeats 4000000 in
theorem refAggs_calls (x : S24) (cs : List Value) (w : World) (hK : k24.K w x cs) (hok : okT x) (hN : nodes x ≤ 1073741824) :
    Calls Tryd.prog 10 #[.agg cs.toArray] w fun e w' => ∃ v, e = .returned v ∧ Kd.R k24 24 w' w.heap.size (fun _ => True) v (refA x []) ∧ Below w.heap.size w w' := by
  have HK := Aside0.mk hK
  obtain ⟨A, c, rfl, hl, hC⟩ := k24_open hK
  clear hK
  go_enter Tryd.func10, Tryd.ntmps10
  have hbx : ∀ W : World, W.heap.size = w.heap.size → (W.alloc (.cells #[.int .i64 x.f0, .string x.f1, .int .i64 x.f2, .int .i64 x.f3, .slice A x.f4.length c] 24)).heap[w.heap.size]? = some (.cells #[.int .i64 x.f0, .string x.f1, .int .i64 x.f2, .int .i64 x.f3, .slice A x.f4.length c] 24 (0, 0)) := fun W h => by rw [← h]; exact blk_new _ _
  obtain ⟨w1, hw1⟩ : ∃ w1 : World, w1 = w.alloc (.cells #[.int .i64 x.f0, .string x.f1, .int .i64 x.f2, .int .i64 x.f3, .slice A x.f4.length c] 24) := ⟨_, rfl⟩
  have hB1 : Below w.heap.size w w1 := by rw [hw1]; exact (Below.refl _ _).alloc (Nat.le_refl _) _
  have H := Aside0.mk (aggs_in _ x _ (.slice none 0 0) [] w.heap.size w w1 (Nat.le_refl _) HK.out hok (by simp) (Nat.le_refl _) hB1.size hB1 (Kd.R_nil _ _ _ _ _) (by simpa using hN))
  have HB1 := Aside0.mk hB1
  clear hB1
  go_wp2_with fail
  rw [← hw1]
  refine H.out.mono ?_
  rintro e W5 ⟨v5, rfl, hA5⟩
  have HA5 := Aside0.mk hA5
  clear hA5
  go_wp2_with fail
  go_ret
  exact ⟨_, rfl, HA5.out.1, HB1.out.trans (HA5.out.frame (by simp [Value.ownBlock]) (Nat.le_refl _) HB1.out.size)⟩

/-- Below an aggregate's node, or where the depth is above nought, nothing is added. -/
theorem step_deep (x : S24) : ∀ (wi : Int) (out : List S24), 0 < wi → wi + nodes x ≤ 9223372036854775807 → (preo wi x).foldl stepA out = out := by
  intro wi out h1 h2
  rw [preo_eq, List.foldl_cons]
  have hs : stepA out (wi, x) = out := by simp [stepA, h1]
  rw [hs]
  have hn := nodes_eq x
  have hd : 0 < deep wi x ∧ deep wi x ≤ wi + 1 := by
    unfold deep
    split
    · have : wrap64 (wi + 1) = wi + 1 := by unfold wrap64; omega
      omega
    · omega
  have : ∀ l : List S24, (∀ y ∈ l, y ∈ x.f4) → (l.map nodes).sum ≤ (x.f4.map nodes).sum → ∀ out, (l.flatMap (preo (deep wi x))).foldl stepA out = out := by
    intro l
    induction l with
    | nil => intro _ _ out; rfl
    | cons a l ih =>
      intro hl hs out
      rw [List.flatMap_cons, List.foldl_append]
      simp at hs
      rw [step_deep a (deep wi x) out hd.1 (by omega)]
      exact ih (fun y hy => hl y (by simp [hy])) (by omega) out
  exact this _ (fun _ h => h) (Nat.le_refl _) out
termination_by SizeOf.sizeOf x
decreasing_by exact Q.kid_lt (hl a (by simp))

theorem step_refA (x : S24) : ∀ (out : List S24), nodes x ≤ 1073741824 → (preo 0 x).foldl stepA out = refA x out := by
  intro out hN
  rw [preo_eq, List.foldl_cons, refA_eq]
  have hn := nodes_eq x
  by_cases h : x.f0 = 14
  · have hd : deep 0 x = 1 := by simp [deep, h, wrap64]
    rw [if_pos h, hd]
    have hs : stepA out (0, x) = if (out.any fun o => sameT o x) = true then out else out ++ [x] := by
      have : (out.any fun o => sameT x o) = out.any fun o => sameT o x := by congr 1; funext o; exact Q.sameT_comm _ _
      simp only [stepA, this]
      cases (out.any fun o => sameT o x) <;> simp [h]
    rw [hs]
    generalize (if (out.any fun o => sameT o x) = true then out else out ++ [x]) = o2
    have : ∀ l : List S24, (l.map nodes).sum ≤ (x.f4.map nodes).sum → ∀ out, (l.flatMap (preo 1)).foldl stepA out = out := by
      intro l
      induction l with
      | nil => intro _ out; rfl
      | cons a l ih =>
        intro hs out
        rw [List.flatMap_cons, List.foldl_append]
        simp at hs
        rw [step_deep a 1 out (by omega) (by omega)]
        exact ih (by omega) out
    exact this _ (Nat.le_refl _) o2
  · have hd : deep 0 x = 0 := by simp [deep, h]
    rw [if_neg h, hd]
    have hs : stepA out (0, x) = out := by simp [stepA, h]
    rw [hs]
    have : ∀ l : List S24, (∀ y ∈ l, y ∈ x.f4) → (l.map nodes).sum ≤ (x.f4.map nodes).sum → ∀ out, (l.flatMap (preo 0)).foldl stepA out = l.foldl (fun o y => refA y o) out := by
      intro l
      induction l with
      | nil => intro _ _ out; rfl
      | cons a l ih =>
        intro hl hs out
        rw [List.flatMap_cons, List.foldl_append, List.foldl_cons]
        simp at hs
        rw [step_refA a out (by omega)]
        exact ih (fun y hy => hl y (by simp [hy])) (by omega) _
    exact this _ (fun _ h => h) (Nat.le_refl _) out
termination_by SizeOf.sizeOf x
decreasing_by exact Q.kid_lt (hl a (by simp))

theorem aggsOf_refA (x : S24) (hN : nodes x ≤ 1073741824) : aggsOf (preo 0 x) = refA x [] := step_refA x [] hN
end Go.Proofs.YtladneaaepcdbaaDoor.G
