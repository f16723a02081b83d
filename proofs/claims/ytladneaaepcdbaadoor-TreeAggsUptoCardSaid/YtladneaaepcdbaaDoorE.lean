/- tree.Aggs: the aggregates that come, each once. -/
import Derived.Test.YtladneaaepcdbaaDoorT
namespace Go.Proofs.YtladneaaepcdbaaDoor.E
open Go.RowKit Go.Shelf Go.Proofs.YtladneaaepcdbaaDoorW.PrintWords Go.Proofs.YtladneaaepcdbaaDoorW.PrintLast Go.Proofs.YtladneaaepcdbaaDoorW.PrintMore
open Go.Proofs.YtladneaaepcdbaaDoor.PTree Go.Proofs.YtladneaaepcdbaaDoor.B Go.Proofs.YtladneaaepcdbaaDoor.C Go.Proofs.YtladneaaepcdbaaDoor.D
open Go.Proofs.YtladneaaepcdbaaDoor.Q (okT sameT same_some copy_some)

attribute [local go_sem] Oper.semAt_some
set_option linter.unusedVariables false
set_option linter.unusedSimpArgs false

def stepA (out : List S24) (p : Int × S24) : List S24 := if p.2.f0 = 14 ∧ ¬ 0 < p.1 ∧ (out.any fun o => sameT p.2 o) = false then out ++ [p.2] else out
def aggsOf (l : List (Int × S24)) : List S24 := l.foldl stepA []
theorem aggsOf_snoc (l : List (Int × S24)) (p : Int × S24) : aggsOf (l ++ [p]) = stepA (aggsOf l) p := by simp [aggsOf]

theorem aggsOf_len (l : List (Int × S24)) : (aggsOf l).length ≤ l.length := by
  have : ∀ (l : List (Int × S24)) (o : List S24), (l.foldl stepA o).length ≤ o.length + l.length := by
    intro l
    induction l with
    | nil => intro o; simp
    | cons a l ih =>
      intro o
      rw [List.foldl_cons]
      refine Nat.le_trans (ih _) ?_
      unfold stepA
      split <;> simp <;> omega
  simpa [aggsOf] using this l []

/-- What the loop carries: the box of out. -/
def IA (w : World) (bo : Nat) (pre : List (El w)) (W : World) : Prop :=
  ∃ v, W.heap[bo]? = some (.cells #[v] 22 (0, 0)) ∧ Kd.R k24 24 W w.heap.size (fun k => k ≠ bo) v (aggsOf (pre.map view)) ∧ Below w.heap.size w W

theorem IA_own (w : World) (bo B : Nat) (hB : w.heap.size ≤ B) : OwnFrom B (IA w bo) := by
  rintro s W W' row ⟨v, h1, h2, h3⟩ hg hr
  have hcells : ∀ k o, W.heap[k]? = some o → o.isCells = true → some k ≠ row := by
    rintro k o ho hc e
    obtain ⟨_, o', ho', hc'⟩ := hr k e.symm
    rw [ho] at ho'
    injection ho' with ho'
    rw [ho', hc'] at hc
    cases hc
  refine ⟨v, (hg.block bo (blk_lt h1) (hcells bo _ h1 rfl)).trans h1, ?_, h3.grown hg h3.size (fun k e => Nat.le_trans hB (hr k e).1)⟩
  refine Kd.R_mono (Kd.R_grown (Kd.R_bound h2) hg (fun k hk => ?_)) (fun k hk => hk.1)
  obtain ⟨_, _, _, q, _, cells, hc⟩ := hk
  exact hcells k _ hc rfl

theorem row_cells {W : World} {base g n cap : Nat} {xs : List Value} (h : W.ownsRow base 24 5 (.slice (some ⟨g, 0, none⟩) n cap) n xs) : ∃ cur, W.heap[g]? = some (.cells cur 24 (0, 0)) ∧ n * 5 ≤ cur.size := by
  rcases h.2 with ⟨hv, _⟩ | ⟨g', cap', cur, hv, hb, hh, hnc, hcm, hcs, _⟩
  · cases hv
  · injection hv with ha _ hc
    injection ha with ha
    injection ha with hg'
    subst hg'
    exact ⟨cur, hh, by rw [hcs]; exact Nat.mul_le_mul_right _ hnc⟩

theorem set_last {W : World} {base g cap A4 c4 : _} {bo : Nat} {xs : List S24} {inner : List Value} {y : S24} (h : Kd.R k24 24 W base (fun k => k ≠ bo) (.slice (some ⟨g, 0, none⟩) (xs.length + 1) cap) (xs ++ [z24]))
    (ho : W.ownsRow base 24 5 (.slice (some ⟨g, 0, none⟩) (xs.length + 1) cap) (xs.length + 1) (inner ++ [.int .i64 0, .string ⟨#[]⟩, .int .i64 0, .int .i64 0, .slice none 0 0]))
    (h4 : Kd.R k24 24 W base (fun k => k ≠ bo ∧ k ≠ g) (.slice A4 y.f4.length c4) y.f4) :
    Kd.R k24 24 (W.setCells g (xs.length * 5) [.int .i64 y.f0, .string y.f1, .int .i64 y.f2, .int .i64 y.f3, .slice A4 y.f4.length c4]) base (fun k => k ≠ bo) (.slice (some ⟨g, 0, none⟩) (xs.length + 1) cap) (xs ++ [y]) ∧
      W.grownBy (W.setCells g (xs.length * 5) [.int .i64 y.f0, .string y.f1, .int .i64 y.f2, .int .i64 y.f3, .slice A4 y.f4.length c4]) (some g) := by
  have hin : inner.length = xs.length * 5 := by have := ho.1; simp at this; omega
  have hcc : ∀ j u, ([.int .i64 0, .string ⟨#[]⟩, .int .i64 0, .int .i64 0, .slice none 0 0] : List Value)[j]? = some u → W.cell? ⟨g, (xs.length : Int).toNat * k24.sz + j, none⟩ = some u := by
    intro j u hu
    have := ho.cells (g := g) rfl (xs.length * 5 + j) u (by rw [List.getElem?_append_right (by omega)]; rw [hin, Nat.add_sub_cancel_left]; exact hu)
    rw [add_plain] at this
    exact this
  have := Kd.R_seg (d := k24) (okp := fun k => k ≠ bo ∧ k ≠ g) h (xs.length : Int) (by omega) (by omega) (c := [.int .i64 0, .string ⟨#[]⟩, .int .i64 0, .int .i64 0, .slice none 0 0]) (seg := [.int .i64 y.f0, .string y.f1, .int .i64 y.f2, .int .i64 y.f3, .slice A4 y.f4.length c4]) (j := 0) rfl hcc (show 0 + 5 ≤ 5 from Nat.le_refl _) (x' := y) (k24_mkM W base _ y h4) (fun k hk => hk)
  have hset : (xs ++ [z24]).set (xs.length : Int).toNat y = xs ++ [y] := by simp
  rw [hset] at this
  exact this

theorem one_slice (A : Option Addr) (n c : Nat) : ∀ q ∈ ([.slice A n c] : List Value), q.oneCell' = true := by
  intro q hq
  rw [List.mem_singleton.1 hq]
  rfl

theorem setCells_one (W : World) (b : Nat) (v : Value) : W.setCells b 0 [v] = W.setCell ⟨b, 0, none⟩ v := by
  simp only [World.setCells]

theorem fin_aggs {w W V w5 w7 : World} {bo g cap n : Nat} {v : Value} {xs : List S24} {pre : List (El w)} {y : El w} (hB : Below w.heap.size w W) (hV : W.heap[bo]? = some (.cells #[v] 22 (0, 0))) (hR : Kd.R k24 24 W w.heap.size (fun k => k ≠ bo) v xs)
    (hWV : Below W.heap.size W V) (hg5 : V.grownBy w5 v.ownBlock) (hat : v.ownBlock = some g ∨ g = V.heap.size) (hgl : g < w5.heap.size) (hgbo : g ≠ bo) (hbw : w.heap.size ≤ bo) (hst : aggsOf ((pre ++ [y]).map view) = xs ++ [y.1.2.1])
    (h7 : ∀ k, k ≠ bo → k ≠ g → w7.heap[k]? = w5.heap[k]?) (hsame : w7.os = w5.os ∧ w7.tape = w5.tape ∧ w7.output = w5.output ∧ w7.heap.size = w5.heap.size)
    (hns : w7.heap[bo]? = some (.cells #[.slice (some ⟨g, 0, none⟩) n cap] 22 (0, 0))) (hR7 : Kd.R k24 24 w7 w.heap.size (fun k => k ≠ bo) (.slice (some ⟨g, 0, none⟩) n cap) (xs ++ [y.1.2.1])) (B : Nat) :
    KeepsFrom B W w7 ∧ Kp w.heap.size bo 22 W w7 ∧ IA w bo (pre ++ [y]) w7 := by
  obtain ⟨s1, s2, s3, s4⟩ := hsame
  have hlt : ∀ k, v.ownBlock = some k → k < W.heap.size := fun k e => by obtain ⟨_, inner, hown, _⟩ := hR; exact own_lt hown k e
  have hfin := T.fin (w := w) (W := W) (w7 := w7) (v := v) hB hV
    (fun k e => by obtain ⟨_, inner, hown, _⟩ := hR; obtain ⟨c, hc⟩ := own_typed hown k e; exact ⟨c, _, _, hc⟩)
    (fun k e => by obtain ⟨_, inner, hown, _⟩ := hR; exact own_base hown k e) hbw
    (by rw [s4]; exact Nat.le_trans hWV.size hg5.size) (by rw [s1, hg5.os, hWV.os]) (by rw [s2, hg5.tape, hWV.tape]) (by rw [s3, hg5.output, hWV.output])
    (fun k hk hk1 hk2 => by
      have hkg : k ≠ g := by
        rintro rfl
        rcases hat with e | e
        · exact hk2 e
        · have := hWV.size; omega
      rw [h7 k hk1 hkg, hg5.block k (Nat.lt_of_lt_of_le hk hWV.size) (fun e => hk2 e.symm), hWV.block k hk])
    hns (fun k hk => by
      have : g = k := by simpa [Value.ownBlock] using hk
      subst this
      refine ⟨by rw [s4]; exact hgl, ?_⟩
      rcases hat with e | e
      · exact .inl e
      · right; have := hWV.size; omega) B
  exact ⟨hfin.1, hfin.2.1, _, hns, by rw [hst]; exact hR7, hfin.2.2⟩

set_option maxRecDepth 100000 in
set_option maxHeartbeats 8000000 in
theorem aggs_calls (x : S24) (cs : List Value) (w : World) (hK : k24.K w x cs) (hokT : okT x) (hlen : (preo 0 x).length ≤ 1048576) :
    Calls Tryd.prog 8 #[.agg cs.toArray] w fun e w' => (∃ v, e = .returned v ∧ Kd.R k24 24 w' w.heap.size (fun _ => True) v (aggsOf (preo 0 x))) ∧ Below w.heap.size w w' := by
  refine (callsIn_wide (n := 9)).1 ?_
  have HK := Aside0.mk hK
  obtain ⟨A, c, rfl, hl, hC⟩ := k24_open hK
  clear hC
  refine callsIn_of_wp_marks Tryd.func8 rfl trivial ?_ rfl
  simp only [Tryd.ntmps8, List.size_toArray, List.length_cons, List.length_nil, Nat.reduceAdd, Nat.reduceSub, Array.replicate_succ, Array.replicate_zero, List.push_toArray, List.append_toArray, List.nil_append, List.cons_append]
  have HW := Aside0.mk (fun W (hW : Below w.heap.size w W) => walk_in Fence.wide 8 trivial rfl x _ W (k24.K_below hW hK))
  gi_wp2_with fail
  refine ⟨trivial, (HW.out _ ((((Below.refl _ w).alloc (Nat.le_refl _) _).alloc (by simp) _))).mono ?_⟩
  rintro e W1 ⟨rfl, rfl⟩
  gi_wp2_with fail
  obtain ⟨W3, hW3⟩ : ∃ W3, ((w.alloc (.cells #[.int .i64 x.f0, .string x.f1, .int .i64 x.f2, .int .i64 x.f3, .slice A x.f4.length c] 24)).alloc (.cells #[.slice none 0 0] 22)).alloc (.cells #[.int .i64 x.f0, .string x.f1, .int .i64 x.f2, .int .i64 x.f3, .slice A x.f4.length c] 24) = W3 := ⟨_, rfl⟩
  have hB3 : Below w.heap.size w W3 := by rw [← hW3]; exact (((Below.refl _ w).alloc (Nat.le_refl _) _).alloc (by simp) _).alloc (by simp; omega) _
  have hs3 : W3.heap.size = w.heap.size + 3 := by rw [← hW3]; simp
  have hbo : W3.heap[w.heap.size + 1]? = some (.cells #[.slice none 0 0] 22 (0, 0)) := by
    rw [← hW3]
    have := blk_new (w.alloc (.cells #[.int .i64 x.f0, .string x.f1, .int .i64 x.f2, .int .i64 x.f3, .slice A x.f4.length c] 24)) (.cells #[.slice none 0 0] 22)
    exact blk_alloc (by simpa using this) _
  have hbn : W3.heap[w.heap.size + 2]? = some (.cells #[.int .i64 x.f0, .string x.f1, .int .i64 x.f2, .int .i64 x.f3, .slice A x.f4.length c] 24 (0, 0)) := by
    rw [← hW3]
    have := blk_new ((w.alloc (.cells #[.int .i64 x.f0, .string x.f1, .int .i64 x.f2, .int .i64 x.f3, .slice A x.f4.length c] 24)).alloc (.cells #[.slice none 0 0] 22)) (.cells #[.int .i64 x.f0, .string x.f1, .int .i64 x.f2, .int .i64 x.f3, .slice A x.f4.length c] 24)
    simpa using this
  rw [hW3]
  clear hW3 HW
  have hok : OkFp (w.heap.size + 1) 22 W3 := by
    intro v k hv hk
    rw [hbo] at hv
    injection hv with hv
    injection hv with hv
    injection hv with hv
    injection hv with hv
    subst hv
    simp [Value.ownBlock] at hk
  refine wpIn_rangeFunc_ownH rfl (by omega) (gf := 26) (lb := #[.pointer (some ⟨w.heap.size + 2, 0, none⟩)]) rfl trivial (enters_of Tryd.func26 (by kernel_rfl) rfl)
    (walk_stops Fence.wide rfl 8 trivial trivial rfl (preo 0 x).length (w.heap.size + 1) 22 (w.heap.size + 2) w W3 x _ HK.out hokT (Nat.le_refl _) hB3 (by omega) hok hbn)
    (fun h k => h.trans k) (fun W l o o' hl h hc _ => Kp.putObj (w := W3) (by omega) (by omega) hl h hc) (Below.refl _ _) (fun _ => rfl)
    (IA w (w.heap.size + 1)) (fun _ _ _ => False)
    (IA_own _ _ _ (by omega))
    (fun _ _ _ _ _ hs _ _ => hs)
    ⟨_, hbo, Kd.R_nil _ _ _ _ _, hB3⟩
    (fun y a' W => ∃ bx, w.heap.size + 1 < bx ∧ W.heap[bx]? = some (.cells y.1.2.2.toArray 24 (0, 0)) ∧ (∃ u, W.heap[w.heap.size + 1]? = some (.cells #[u] 22 (0, 0)) ∧ u.ownBlock ≠ some bx) ∧ a' = { tmps := #[.agg #[.int .i64 x.f0, .string x.f1, .int .i64 x.f2, .int .i64 x.f3, .slice A x.f4.length c], .pointer (some ⟨w.heap.size, 0, none⟩), .slice none 0 0, .pointer (some ⟨w.heap.size + 1, 0, none⟩), .int .i64 y.1.1, .pointer (some ⟨bx, 0, none⟩), .agg #[.int .i64 x.f0, .string x.f1, .int .i64 x.f2, .int .i64 x.f3, .slice A x.f4.length c], .func (.func 26) #[] #[.pointer (some ⟨w.heap.size + 2, 0, none⟩)], .int .i64 y.1.1, .agg y.1.2.2.toArray, undef, undef, undef, undef, undef, undef, undef, undef, undef, undef, undef, undef, undef, undef, undef, undef, undef, undef, undef, undef], defers := [] })
    ?hAx ?assign ?body ?done ?stop
  case hAx =>
    intro y a' s W W' row hs hg hr
    obtain ⟨bx, h1, h2, ⟨u, h4, h5⟩, h3⟩ := hs
    exact ⟨bx, h1, ownFrom_blk (β := Unit) (fun _ => y.1.2.2.toArray) 24 s W W' row h2 hg hr, ⟨u, ownFrom_blk (β := Unit) (fun _ => #[u]) 22 s W W' row h4 hg hr, h5⟩, h3⟩
  case assign =>
    rintro l pre ⟨⟨yi, yx, ycs⟩, hyK, hyok⟩ W K hI hK
    replace hyK : k24.K w yx ycs := hyK
    replace hyok : okT yx := hyok
    obtain ⟨A', c', rfl, hl', hC'⟩ := k24_open hyK
    have HI := Aside0.mk hI
    obtain ⟨v, hv, hR, hB⟩ := hI
    clear hR hv hyK hC'
    gi_wp2
    have hbW : Below W.heap.size W (W.alloc (.cells #[.int .i64 yx.f0, .string yx.f1, .int .i64 yx.f2, .int .i64 yx.f3, .slice A' yx.f4.length c'] 24)) := (Below.refl _ _).alloc (Nat.le_refl _) _
    have hbo' : w.heap.size + 1 < W.heap.size := by
      obtain ⟨v, hv, _⟩ := HI.out
      exact blk_lt hv
    refine hK _ _ ((KeepsOthers.alloc _ _).from _) (Kp.of_below hbW hbo' (by omega)) ?_ ⟨W.heap.size, hbo', blk_new W _, ?_, ?_⟩
    · obtain ⟨v, hv, hR, hB⟩ := HI.out
      exact ⟨v, blk_below hv hbW, Kd.R_below hR hbW, hB.trans (hbW.mono hB.size)⟩
    · obtain ⟨v, hv, hR, hB⟩ := HI.out
      refine ⟨v, blk_below hv hbW, fun e => ?_⟩
      have := own_lt hR.2.choose_spec.1 _ e
      omega
    · simp
  case body =>
    rintro l pre ⟨⟨yi, yx, ycs⟩, hyK, hyok⟩ a' W hl ⟨r, hr⟩ ⟨v, hv, hR, hB⟩ ⟨bx, hbx1, hbx, ⟨u, hu1, hu2⟩, rfl⟩ hlt
    replace hyK : k24.K w yx ycs := hyK
    have HYK := Aside0.mk hyK
    replace hyok : okT yx := hyok
    obtain ⟨A', c', rfl, hl', hC'⟩ := k24_open hyK
    have HC' := Aside0.mk (Kd.C_below hC' hB)
    have HR := Aside0.mk hR
    obtain ⟨Ao, co, rfl, hlo, hCo⟩ := Kd.R_reads hR
    have hc0 : W.cell? ⟨bx, 0, none⟩ = some (.int .i64 yx.f0) := (blk_cell hbx 0).trans rfl
    have hc1 : W.cell? ⟨bx, 1, none⟩ = some (.string yx.f1) := (blk_cell hbx 1).trans rfl
    have hc2 : W.cell? ⟨bx, 2, none⟩ = some (.int .i64 yx.f2) := (blk_cell hbx 2).trans rfl
    have hc3 : W.cell? ⟨bx, 3, none⟩ = some (.int .i64 yx.f3) := (blk_cell hbx 3).trans rfl
    have hc4 : W.cell? ⟨bx, 4, none⟩ = some (.slice A' yx.f4.length c') := (blk_cell hbx 4).trans rfl
    have hcv : W.cell? ⟨w.heap.size + 1, 0, none⟩ = some (.slice Ao (aggsOf (pre.map view)).length co) := (blk_cell hv 0).trans rfl
    have hne : (Value.slice Ao (aggsOf (pre.map view)).length co).ownBlock ≠ some bx := by
      rw [hv] at hu1
      injection hu1 with hu1
      injection hu1 with hu1
      injection hu1 with hu1
      injection hu1 with hu1
      rw [hu1]
      exact hu2
    have HNE := Aside0.mk hne
    clear hu1 hu2 hne
    have HV := Aside0.mk hv
    have HBX := Aside0.mk hbx
    have HB := Aside0.mk hB
    have HP := Aside0.mk (aggs1_pred W bx yx _ (k24.K_below hB HYK.out) hbx (sameT yx) (fun o => (same_some _ yx o (Nat.le_refl _) hyok).imp fun K h => h K (Nat.le_refl _)))
    have hlen2 := aggsOf_len (pre.map view)
    rw [List.length_map] at hlen2
    have HCF := Aside0.mk (containsFunc_calls Ao co _ _ (sameT yx) W hCo (by omega) HP.out)
    have hstep := aggsOf_snoc (pre.map view) (yi, yx)
    have HIW : Aside0 (IA w (w.heap.size + 1) pre W) := ⟨⟨_, HV.out, HR.out, HB.out⟩⟩
    clear hyK hC' hR hCo hbx hv hB
    by_cases h14 : yx.f0 = 14
    · by_cases hwi : 0 < yi
      · have hb1 : (yx.f0 != 14) = false := by simp [h14]
        have hst : stepA (aggsOf (pre.map view)) (yi, yx) = aggsOf (pre.map view) := by unfold stepA; rw [if_neg (by simp [hwi])]
        have HST := Aside0.mk (hstep.trans hst)
        clear hst hstep h14
        gi_wp2_with fail
        refine ⟨trivial, ?_⟩
        gi_wp2_with fail
        refine ⟨(KeepsOthers.refl _).from _, Kp.refl _ _ _ _, ?_⟩
        obtain ⟨v, h1, h2, h3⟩ := HIW.out
        exact ⟨v, h1, by rw [List.map_append]; exact HST.out ▸ h2, h3⟩
      · have hb1 : (yx.f0 != 14) = false := by simp [h14]
        cases hany : (aggsOf (pre.map view)).any (sameT yx) with
        | true =>
          have hst : stepA (aggsOf (pre.map view)) (yi, yx) = aggsOf (pre.map view) := by unfold stepA; rw [if_neg (by simp [hany])]
          have HST := Aside0.mk (hstep.trans hst)
          rw [hany] at HCF
          clear hst hstep h14 hany
          gi_wp2_with fail
          refine ⟨trivial, (CallsIn.inRound l (callsIn_wide.2 HCF.out)).mono ?_⟩
          rintro e W1 ⟨rfl, hW1⟩
          gi_wp2_with fail
          have hbo' : w.heap.size + 1 < W.heap.size := blk_lt HV.out
          refine ⟨(T.keepsOthers_below hW1).from _, Kp.of_below hW1 hbo' (by omega), ?_⟩
          obtain ⟨v, h1, h2, h3⟩ := HIW.out
          exact ⟨v, blk_below h1 hW1, by rw [List.map_append]; exact HST.out ▸ Kd.R_below h2 hW1, h3.trans (hW1.mono h3.size)⟩
        | false =>
          have hst : stepA (aggsOf (pre.map view)) (yi, yx) = aggsOf (pre.map view) ++ [yx] := by unfold stepA; rw [if_pos ⟨h14, hwi, hany⟩]
          have HST := Aside0.mk (hstep.trans hst)
          rw [hany] at HCF
          clear hst hstep h14 hany
          gi_wp2_with fail
          refine ⟨trivial, (CallsIn.inRound l (callsIn_wide.2 HCF.out)).mono ?_⟩
          rintro e W1 ⟨rfl, hW1⟩
          gi_wp2_with fail
          have hlW : bx < W.heap.size := blk_lt HBX.out
          have hbW : w.heap.size + 1 < W.heap.size := blk_lt HV.out
          have hS1 : W1.cell? ⟨w.heap.size + 1, 0, none⟩ = some (.slice Ao (aggsOf (pre.map view)).length co) ∧ W1.cell? ⟨bx, 0, none⟩ = some (.int .i64 yx.f0) ∧ W1.cell? ⟨bx, 1, none⟩ = some (.string yx.f1) ∧ W1.cell? ⟨bx, 2, none⟩ = some (.int .i64 yx.f2) ∧ W1.cell? ⟨bx, 3, none⟩ = some (.int .i64 yx.f3) ∧ W1.cell? ⟨bx, 4, none⟩ = some (.slice A' yx.f4.length c') :=
            ⟨(hW1.cell (p := ⟨w.heap.size + 1, 0, none⟩) hbW).trans hcv, (hW1.cell (p := ⟨bx, 0, none⟩) hlW).trans hc0, (hW1.cell (p := ⟨bx, 1, none⟩) hlW).trans hc1, (hW1.cell (p := ⟨bx, 2, none⟩) hlW).trans hc2, (hW1.cell (p := ⟨bx, 3, none⟩) hlW).trans hc3, (hW1.cell (p := ⟨bx, 4, none⟩) hlW).trans hc4⟩
          have HS1 := Aside0.mk hS1
          clear hS1 hcv hc0 hc1 hc2 hc3 hc4
          have hv1 : W1.cell? ⟨w.heap.size + 1, 0, none⟩ = some (.slice Ao (aggsOf (pre.map view)).length co) := HS1.out.1
          have hlV : w.heap.size + 1 < W1.heap.size := Nat.lt_of_lt_of_le hbW hW1.size
          have hlX : bx < W1.heap.size := Nat.lt_of_lt_of_le hlW hW1.size
          have HS : ∀ V, Below W1.heap.size W1 V → V.cell? ⟨bx, 0, none⟩ = some (.int .i64 yx.f0) ∧ V.cell? ⟨bx, 1, none⟩ = some (.string yx.f1) ∧ V.cell? ⟨bx, 2, none⟩ = some (.int .i64 yx.f2) ∧ V.cell? ⟨bx, 3, none⟩ = some (.int .i64 yx.f3) ∧ V.cell? ⟨bx, 4, none⟩ = some (.slice A' yx.f4.length c') := by
            intro V hV
            obtain ⟨_, g0, g1, g2, g3, g4⟩ := HS1.out
            exact ⟨(hV.cell (p := ⟨bx, 0, none⟩) hlX).trans g0, (hV.cell (p := ⟨bx, 1, none⟩) hlX).trans g1, (hV.cell (p := ⟨bx, 2, none⟩) hlX).trans g2, (hV.cell (p := ⟨bx, 3, none⟩) hlX).trans g3, (hV.cell (p := ⟨bx, 4, none⟩) hlX).trans g4⟩
          obtain ⟨kc, hkc⟩ := copy_some _ yx (Nat.le_refl _) hyok
          have HCP : ∀ V, Below W1.heap.size W1 V → Aside0 (Calls Tryd.prog 21 #[.agg #[.int .i64 yx.f0, .string yx.f1, .int .i64 yx.f2, .int .i64 yx.f3, .slice A' yx.f4.length c']] V fun e w' => ∃ v4_ : Value, e = .returned (.agg #[.int .i64 yx.f0, .string yx.f1, .int .i64 yx.f2, .int .i64 yx.f3, v4_]) ∧ Kd.R k24 24 w' V.heap.size (fun _ => True) v4_ yx.f4 ∧ Below V.heap.size V w') :=
            fun V hV => ⟨tree_Copy.calls kc yx.f0 yx.f1 yx.f2 yx.f3 A' c' yx.f4 _ _ _ _ _ V (Kd.C_below (Kd.C_below HC'.out hW1) hV) hl' (hkc kc (Nat.le_refl _))⟩
          have HSS := Aside0.mk HS
          have HCC := Aside0.mk HCP
          clear HS HCP hkc HS1
          have hVV : ∀ V, Below W1.heap.size W1 V → V.cell? ⟨w.heap.size + 1, 0, none⟩ = some (.slice Ao (aggsOf (pre.map view)).length co) := fun V hV => (hV.cell (p := ⟨w.heap.size + 1, 0, none⟩) hlV).trans hv1
          have HVV := Aside0.mk hVV
          clear hVV
          refine wpIn_region_any (by kernel_rfl) (T.anyIn_of_any (by kernel_rfl) (fun ⟨_, _, h⟩ => h) _ _ _ _ (wpAny_of_held (S := fun V => V.cell? ⟨bx, 0, none⟩ = some (.int .i64 yx.f0) ∧ V.cell? ⟨bx, 1, none⟩ = some (.string yx.f1) ∧ V.cell? ⟨bx, 2, none⟩ = some (.int .i64 yx.f2) ∧ V.cell? ⟨bx, 3, none⟩ = some (.int .i64 yx.f3) ∧ V.cell? ⟨bx, 4, none⟩ = some (.slice A' yx.f4.length c')) _ _ _ _ ?_))
          obtain ⟨V0, hV0⟩ : ∃ V0 : World, V0 = { W1 with drawn := W1.drawn + 1 } := ⟨_, rfl⟩
          have hB0 : Below W1.heap.size W1 V0 := by rw [hV0]; exact ⟨rfl, rfl, rfl, Nat.le_refl _, fun _ _ => rfl⟩
          rw [← hV0]
          clear hV0 hv1
          refine wpAnyH_take (i := 1) (v := .agg #[.int .i64 yx.f0, .string yx.f1, .int .i64 yx.f2, .int .i64 yx.f3, .slice A' yx.f4.length c']) rfl (by kernel_rfl) (by kernel_rfl) (by kernel_rfl) (fun _ _ _ h => h) (Or.inl ⟨rfl, fun V hV => ?_⟩) (HSS.out _ hB0) ?_
          · obtain ⟨g0, g1, g2, g3, g4⟩ := hV
            go_simp
          go_simp
          refine wpAnyH_all (rs := [0, 2, 4]) (by kernel_rfl) (by simp) ?_
          intro i hi
          have hi3 : i = 0 ∨ i = 2 ∨ i = 4 := by simpa using hi
          rcases hi3 with rfl | rfl | rfl
          · -- 0
            refine wpOp_step rfl (fun K hK => ?_)
            have hv := HVV.out _ hB0
            go_simp
            refine hK _ _ ⟨HSS.out _ hB0, ?_⟩
            clear hK hv
            go_simp
            refine wpAnyH_take (i := 3) (v := .int .i64 (aggsOf (pre.map view)).length) rfl (by kernel_rfl) (by kernel_rfl) (by kernel_rfl) (fun _ _ _ h => h) (Or.inl ⟨rfl, fun V hV => ?_⟩) (HSS.out _ hB0) ?_
            · go_simp
            go_simp
            refine wpAnyH_all (rs := [2, 4]) (by kernel_rfl) (by simp) ?_
            intro i hi
            have hi3 : i = 2 ∨ i = 4 := by simpa using hi
            rcases hi3 with rfl | rfl
            · -- 2
              refine wpOp_step rfl (fun K hK => ?_)
              go_simp
              refine (HCC.out _ hB0).out.mono ?_
              rintro e V22 ⟨v4, rfl, hR4, hB4⟩
              have hB22 := below_then hB0 hB0.size hB4
              replace hR4 := Kd.R_lower hR4 hB0.size
              refine hK _ _ ⟨HSS.out _ hB22, ?_⟩
              clear hK
              go_simp
              clear hB4
              refine wpAnyH_all (rs := [4]) (by kernel_rfl) (by simp) ?_
              intro i hi
              obtain rfl : i = 4 := by simpa using hi
              refine wpOp_step rfl (fun K hK => ?_)
              go_simp
              obtain ⟨V34, hV34⟩ : ∃ Vz : World, Vz = V22.alloc (.cells #[.int .i64 0, .string ⟨#[]⟩, .int .i64 0, .int .i64 0, .slice none 0 0] 24) := ⟨_, rfl⟩
              have hbV34 : Below V22.heap.size V22 V34 := by rw [hV34]; exact (Below.refl _ _).alloc (Nat.le_refl _) _
              have hz : V34.heap[V22.heap.size]? = some (.cells #[.int .i64 0, .string ⟨#[]⟩, .int .i64 0, .int .i64 0, .slice none 0 0] 24 (0, 0)) := by rw [hV34]; exact blk_new _ _
              obtain ⟨bz, hbz⟩ : ∃ bz, bz = V22.heap.size := ⟨_, rfl⟩
              rw [← hbz] at hz
              rw [← hV34, ← hbz]
              have hB34 := below_then hB22 hB22.size hbV34
              refine hK _ _ ⟨HSS.out _ hB34, ?_⟩
              clear hK hV34 hbz
              go_simp
              replace hR4 := Kd.R_below hR4 hbV34
              clear hbV34
              have HRV := Kd.R_below HR.out (below_then hW1 hW1.size hB34)
              obtain ⟨hokR, inner, hownR, hrepsR⟩ := HRV
              have hlr : (aggsOf (pre.map view)).length ≤ 1048576 := by omega
              obtain ⟨i0, hi0, hz0, hz1, hz2⟩ := info_parts info24
              refine wpAnyH_all (rs := [5]) (by kernel_rfl) (by simp) ?_
              intro i hi
              obtain rfl : i = 5 := by simpa using hi
              refine wpOp_step rfl (fun K hK => ?_)
              refine step_append_lies _ rfl (.tmp 22) (.tmp 26) 22 rfl w.heap.size 24 i0 _ 5 64 Tryd.underlying22 hi0 hz0 hz1 hz2 rfl (by decide) (.slice Ao (aggsOf (pre.map view)).length co) (aggsOf (pre.map view)).length inner rfl hownR ⟨bz, 0, none⟩ 1 1 [.int .i64 0, .string ⟨#[]⟩, .int .i64 0, .int .i64 0, .slice none 0 0] rfl rfl (fun j u hu => by rw [add_plain, blk_cell hz j]; simpa using hu) (by intro u hu; simp at hu; rcases hu with rfl | rfl | rfl | rfl | rfl <;> rfl) (by decide) (by unfold maxLen; omega) (by omega) (Nat.le_trans HB.out.size (below_then hW1 hW1.size hB34).size) V34.heap.size rfl ?_
              intro g cap w5 hown5 hg5 hat5 hgl
              have hgW : ∀ k, (Value.slice Ao (aggsOf (pre.map view)).length co).ownBlock = some k → k < W.heap.size := fun k e => by obtain ⟨_, inner', hown', _⟩ := HR.out; exact own_lt hown' k e
              have hgb : w.heap.size ≤ g := by
                rcases hat5 with e | e
                · exact own_base hownR g e
                · have := hB34.size; have := hW1.size; have := HB.out.size; omega
              have hgbo : g ≠ w.heap.size + 1 := by
                rcases hat5 with e | e
                · exact HR.out.1 g e
                · have := hB34.size; omega
              have hgbx : g ≠ bx := by
                rintro rfl
                rcases hat5 with e | e
                · exact HNE.out e
                · have := hB34.size; omega
              have hlen5 : (Value.slice Ao (aggsOf (pre.map view)).length co).ownBlock ≠ some bx := HNE.out
              have hS5 : w5.cell? ⟨bx, 0, none⟩ = some (.int .i64 yx.f0) ∧ w5.cell? ⟨bx, 1, none⟩ = some (.string yx.f1) ∧ w5.cell? ⟨bx, 2, none⟩ = some (.int .i64 yx.f2) ∧ w5.cell? ⟨bx, 3, none⟩ = some (.int .i64 yx.f3) ∧ w5.cell? ⟨bx, 4, none⟩ = some (.slice A' yx.f4.length c') := by
                have hb : w5.heap[bx]? = V34.heap[bx]? := hg5.block bx (by have := hB34.size; omega) (fun e => HNE.out e.symm)
                obtain ⟨g0, g1, g2, g3, g4⟩ := HSS.out _ hB34
                exact ⟨(World.cell?_of_block (a := ⟨bx, 0, none⟩) hb).trans g0, (World.cell?_of_block (a := ⟨bx, 1, none⟩) hb).trans g1, (World.cell?_of_block (a := ⟨bx, 2, none⟩) hb).trans g2, (World.cell?_of_block (a := ⟨bx, 3, none⟩) hb).trans g3, (World.cell?_of_block (a := ⟨bx, 4, none⟩) hb).trans g4⟩
              have hR5 : Kd.R k24 24 w5 w.heap.size (fun k => k ≠ w.heap.size + 1) (.slice (some ⟨g, 0, none⟩) ((aggsOf (pre.map view)).length + 1) cap) (aggsOf (pre.map view) ++ [z24]) :=
                Kd.R_appended (okp := fun _ => False) hokR hrepsR (k24_mkM V34 w.heap.size (fun _ => False) z24 (Kd.R_nil _ _ _ _ _)) (fun k hk => hk.elim) (fun k hk => by have := hB34.size; omega) hown5 hg5 (hat5.imp (fun e => e.symm) (fun e => ⟨g, rfl, by omega⟩))
              have h4b : Kd.R k24 24 w5 w.heap.size (fun k => k ≠ w.heap.size + 1 ∧ k ≠ g) v4 yx.f4 := by
                have h1 := Kd.R_bound hR4
                have h2 := Kd.R_grown h1 hg5 (fun k hk e => by
                  obtain ⟨_, hk1, _⟩ := hk
                  have := hgW k e.symm
                  have := hW1.size
                  omega)
                refine Kd.R_mono (Kd.R_lower h2 (by have := hW1.size; have := HB.out.size; omega)) (fun k hk => ?_)
                obtain ⟨_, hk1, hk2, _⟩ := hk
                refine ⟨by omega, fun e => ?_⟩
                rcases hat5 with e' | e'
                · have := hgW g e'; have := hW1.size; omega
                · omega
              have HR5 := Aside0.mk hR5
              have HR4 := Aside0.mk h4b
              have HS5 := Aside0.mk hS5
              have HOWN5 := Aside0.mk hown5
              have HG5 := Aside0.mk hg5
              have HAT5 := Aside0.mk hat5
              have hbo5 : w5.heap[w.heap.size + 1]? = some (.cells #[.slice Ao (aggsOf (pre.map view)).length co] 22 (0, 0)) := (hg5.block _ (by have := hB34.size; omega) (fun e => HR.out.1 _ e.symm rfl)).trans (blk_below HV.out (below_then hW1 hW1.size hB34))
              have HBO5 := Aside0.mk hbo5
              clear hbo5 hR5 h4b hS5 hown5 hg5 hat5 hownR hrepsR hokR hR4 hz
              refine hK _ _ ⟨HS5.out, ?_⟩
              clear hK
              go_simp
              refine wpAnyH_take (i := 6) (v := .pointer (some ⟨g, (aggsOf (pre.map view)).length * 5, none⟩)) rfl (by kernel_rfl) (by kernel_rfl) (by kernel_rfl) (fun _ _ _ h => h) (Or.inl ⟨rfl, fun V hV => ?_⟩) HS5.out ?_
              · go_simp
                intro h
                omega
              go_simp
              obtain ⟨A4, c4, rfl⟩ := Kd.R_slice HR4.out
              obtain ⟨cur, hcur, hcs⟩ := row_cells HOWN5.out
              have hcap : (aggsOf (pre.map view)).length * 5 + 5 ≤ cur.size := by omega
              have hsv : ∀ q ∈ ([.int .i64 yx.f0, .string yx.f1, .int .i64 yx.f2, .int .i64 yx.f3, .slice A4 yx.f4.length c4] : List Value), q.oneCell' = true := by
                intro u hu; simp at hu; rcases hu with rfl | rfl | rfl | rfl | rfl <;> rfl
              refine wpAnyH_all (rs := [7, 8]) (by kernel_rfl) (by simp) ?_
              intro i hi
              have hi3 : i = 7 ∨ i = 8 := by simpa using hi
              rcases hi3 with rfl | rfl
              · -- 7 8
                obtain ⟨hrow, hg7⟩ := set_last HR5.out HOWN5.out HR4.out
                have hst := run_store_run (P := Tryd.prog) 24 (.agg #[.int .i64 yx.f0, .string yx.f1, .int .i64 yx.f2, .int .i64 yx.f3, .slice A4 yx.f4.length c4]) _ hcur rfl (by kernel_rfl) hcap hsv
                refine wpOp_step rfl (fun K hK => ?_)
                refine T.store_step rfl 24 (.tmp 28) (.tmp 24) rfl rfl hst (hK _ _ ⟨?_, ?_⟩)
                · have hb : (w5.setCells g ((aggsOf (pre.map view)).length * 5) [.int .i64 yx.f0, .string yx.f1, .int .i64 yx.f2, .int .i64 yx.f3, .slice A4 yx.f4.length c4]).heap[bx]? = w5.heap[bx]? := setCells_far _ _ _ (fun e => hgbx e.symm)
                  obtain ⟨g0, g1, g2, g3, g4⟩ := HS5.out
                  exact ⟨(World.cell?_of_block (a := ⟨bx, 0, none⟩) hb).trans g0, (World.cell?_of_block (a := ⟨bx, 1, none⟩) hb).trans g1, (World.cell?_of_block (a := ⟨bx, 2, none⟩) hb).trans g2, (World.cell?_of_block (a := ⟨bx, 3, none⟩) hb).trans g3, (World.cell?_of_block (a := ⟨bx, 4, none⟩) hb).trans g4⟩
                have hbo6 : (w5.setCells g ((aggsOf (pre.map view)).length * 5) [.int .i64 yx.f0, .string yx.f1, .int .i64 yx.f2, .int .i64 yx.f3, .slice A4 yx.f4.length c4]).heap[w.heap.size + 1]? = some (.cells #[Value.slice Ao (aggsOf (pre.map view)).length co] 22 (0, 0)) := (setCells_far _ _ _ (fun e => hgbo e.symm)).trans HBO5.out
                have hst8 := run_store_run (P := Tryd.prog) (o := 0) 22 (.slice (some ⟨g, 0, none⟩) ((aggsOf (pre.map view)).length + 1) cap) _ hbo6 rfl (by kernel_rfl) (show 0 + 1 ≤ 1 from Nat.le_refl _) (one_slice _ _ _)
                clear hK hst
                go_simp
                refine wpAnyH_all (rs := [8]) (by kernel_rfl) (by simp) ?_
                intro i hi
                obtain rfl : i = 8 := by simpa using hi
                refine wpOp_step rfl (fun K hK => ?_)
                refine T.store_step rfl 22 (.tmp 3) (.tmp 27) rfl rfl hst8 (hK _ _ ⟨?_, ?_⟩)
                · have hb : ((w5.setCells g ((aggsOf (pre.map view)).length * 5) [.int .i64 yx.f0, .string yx.f1, .int .i64 yx.f2, .int .i64 yx.f3, .slice A4 yx.f4.length c4]).setCells (w.heap.size + 1) 0 [.slice (some ⟨g, 0, none⟩) ((aggsOf (pre.map view)).length + 1) cap]).heap[bx]? = w5.heap[bx]? := (setCells_far _ _ _ (by omega)).trans (setCells_far _ _ _ (fun e => hgbx e.symm))
                  obtain ⟨g0, g1, g2, g3, g4⟩ := HS5.out
                  exact ⟨(World.cell?_of_block (a := ⟨bx, 0, none⟩) hb).trans g0, (World.cell?_of_block (a := ⟨bx, 1, none⟩) hb).trans g1, (World.cell?_of_block (a := ⟨bx, 2, none⟩) hb).trans g2, (World.cell?_of_block (a := ⟨bx, 3, none⟩) hb).trans g3, (World.cell?_of_block (a := ⟨bx, 4, none⟩) hb).trans g4⟩
                clear hK hst8
                refine wpAnyH_done (by kernel_rfl) ?_ _
                have hsm1 := setCells_same (w.heap.size + 1) [.slice (some ⟨g, 0, none⟩) ((aggsOf (pre.map view)).length + 1) cap] 0 (w5.setCells g ((aggsOf (pre.map view)).length * 5) [.int .i64 yx.f0, .string yx.f1, .int .i64 yx.f2, .int .i64 yx.f3, .slice A4 yx.f4.length c4])
                have hsm2 := setCells_same g [.int .i64 yx.f0, .string yx.f1, .int .i64 yx.f2, .int .i64 yx.f3, .slice A4 yx.f4.length c4] ((aggsOf (pre.map view)).length * 5) w5
                exact fin_aggs (w7 := (w5.setCells g ((aggsOf (pre.map view)).length * 5) [.int .i64 yx.f0, .string yx.f1, .int .i64 yx.f2, .int .i64 yx.f3, .slice A4 yx.f4.length c4]).setCells (w.heap.size + 1) 0 [.slice (some ⟨g, 0, none⟩) ((aggsOf (pre.map view)).length + 1) cap]) HB.out HV.out HR.out (below_then hW1 hW1.size hB34) HG5.out HAT5.out hgl hgbo (by omega) (by rw [List.map_append]; exact HST.out) (fun k h1 h2 => (setCells_far _ _ _ h1).trans (setCells_far _ _ _ h2))
                  ⟨hsm1.1.trans hsm2.1, hsm1.2.1.trans hsm2.2.1, hsm1.2.2.1.trans hsm2.2.2.1, hsm1.2.2.2.trans hsm2.2.2.2⟩ (blk_set hbo6 0 _) (by rw [setCells_one]; exact Kd.R_far hrow (p := ⟨w.heap.size + 1, 0, none⟩) (fun k hk => hk) (.slice (some ⟨g, 0, none⟩) ((aggsOf (pre.map view)).length + 1) cap)) _
              · -- 8 7
                have hst8 := run_store_run (P := Tryd.prog) (o := 0) 22 (.slice (some ⟨g, 0, none⟩) ((aggsOf (pre.map view)).length + 1) cap) _ HBO5.out rfl (by kernel_rfl) (show 0 + 1 ≤ 1 from Nat.le_refl _) (one_slice _ _ _)
                refine wpOp_step rfl (fun K hK => ?_)
                refine T.store_step rfl 22 (.tmp 3) (.tmp 27) rfl rfl hst8 (hK _ _ ⟨?_, ?_⟩)
                · have hb : (w5.setCells (w.heap.size + 1) 0 [.slice (some ⟨g, 0, none⟩) ((aggsOf (pre.map view)).length + 1) cap]).heap[bx]? = w5.heap[bx]? := setCells_far _ _ _ (by omega)
                  obtain ⟨g0, g1, g2, g3, g4⟩ := HS5.out
                  exact ⟨(World.cell?_of_block (a := ⟨bx, 0, none⟩) hb).trans g0, (World.cell?_of_block (a := ⟨bx, 1, none⟩) hb).trans g1, (World.cell?_of_block (a := ⟨bx, 2, none⟩) hb).trans g2, (World.cell?_of_block (a := ⟨bx, 3, none⟩) hb).trans g3, (World.cell?_of_block (a := ⟨bx, 4, none⟩) hb).trans g4⟩
                have hcur6 : (w5.setCells (w.heap.size + 1) 0 [.slice (some ⟨g, 0, none⟩) ((aggsOf (pre.map view)).length + 1) cap]).heap[g]? = some (.cells cur 24 (0, 0)) := (setCells_far _ _ _ hgbo).trans hcur
                have hR6 := Kd.R_far HR5.out (p := ⟨w.heap.size + 1, 0, none⟩) (fun k hk => hk) (.slice (some ⟨g, 0, none⟩) ((aggsOf (pre.map view)).length + 1) cap)
                rw [← setCells_one] at hR6
                have ho6 := own_move HOWN5.out (w1 := w5.setCells (w.heap.size + 1) 0 [.slice (some ⟨g, 0, none⟩) ((aggsOf (pre.map view)).length + 1) cap]) (fun k hk => setCells_far _ _ _ (fun e => by have : g = k := (by simpa [Value.ownBlock] using hk); omega))
                have h46 := Kd.R_far HR4.out (p := ⟨w.heap.size + 1, 0, none⟩) (fun k hk => hk.1) (.slice (some ⟨g, 0, none⟩) ((aggsOf (pre.map view)).length + 1) cap)
                rw [← setCells_one] at h46
                obtain ⟨hrow, hg7⟩ := set_last (W := w5.setCells (w.heap.size + 1) 0 [.slice (some ⟨g, 0, none⟩) ((aggsOf (pre.map view)).length + 1) cap]) hR6 ho6 h46
                have hst := run_store_run (P := Tryd.prog) 24 (.agg #[.int .i64 yx.f0, .string yx.f1, .int .i64 yx.f2, .int .i64 yx.f3, .slice A4 yx.f4.length c4]) _ hcur6 rfl (by kernel_rfl) hcap hsv
                clear hK hst8 hR6 ho6 h46
                go_simp
                refine wpAnyH_all (rs := [7]) (by kernel_rfl) (by simp) ?_
                intro i hi
                obtain rfl : i = 7 := by simpa using hi
                refine wpOp_step rfl (fun K hK => ?_)
                refine T.store_step rfl 24 (.tmp 28) (.tmp 24) rfl rfl hst (hK _ _ ⟨?_, ?_⟩)
                · have hb : ((w5.setCells (w.heap.size + 1) 0 [.slice (some ⟨g, 0, none⟩) ((aggsOf (pre.map view)).length + 1) cap]).setCells g ((aggsOf (pre.map view)).length * 5) [.int .i64 yx.f0, .string yx.f1, .int .i64 yx.f2, .int .i64 yx.f3, .slice A4 yx.f4.length c4]).heap[bx]? = w5.heap[bx]? := (setCells_far _ _ _ (fun e => hgbx e.symm)).trans (setCells_far _ _ _ (by omega))
                  obtain ⟨g0, g1, g2, g3, g4⟩ := HS5.out
                  exact ⟨(World.cell?_of_block (a := ⟨bx, 0, none⟩) hb).trans g0, (World.cell?_of_block (a := ⟨bx, 1, none⟩) hb).trans g1, (World.cell?_of_block (a := ⟨bx, 2, none⟩) hb).trans g2, (World.cell?_of_block (a := ⟨bx, 3, none⟩) hb).trans g3, (World.cell?_of_block (a := ⟨bx, 4, none⟩) hb).trans g4⟩
                clear hK
                refine wpAnyH_done (by kernel_rfl) ?_ _
                have hsm1 := setCells_same (w.heap.size + 1) [.slice (some ⟨g, 0, none⟩) ((aggsOf (pre.map view)).length + 1) cap] 0 w5
                have hsm2 := setCells_same g [.int .i64 yx.f0, .string yx.f1, .int .i64 yx.f2, .int .i64 yx.f3, .slice A4 yx.f4.length c4] ((aggsOf (pre.map view)).length * 5) (w5.setCells (w.heap.size + 1) 0 [.slice (some ⟨g, 0, none⟩) ((aggsOf (pre.map view)).length + 1) cap])
                exact fin_aggs (w7 := (w5.setCells (w.heap.size + 1) 0 [.slice (some ⟨g, 0, none⟩) ((aggsOf (pre.map view)).length + 1) cap]).setCells g ((aggsOf (pre.map view)).length * 5) [.int .i64 yx.f0, .string yx.f1, .int .i64 yx.f2, .int .i64 yx.f3, .slice A4 yx.f4.length c4]) HB.out HV.out HR.out (below_then hW1 hW1.size hB34) HG5.out HAT5.out hgl hgbo (by omega) (by rw [List.map_append]; exact HST.out) (fun k h1 h2 => (setCells_far _ _ _ h2).trans (setCells_far _ _ _ h1))
                  ⟨hsm2.1.trans hsm1.1, hsm2.2.1.trans hsm1.2.1, hsm2.2.2.1.trans hsm1.2.2.1, hsm2.2.2.2.trans hsm1.2.2.2⟩ ((setCells_far _ _ _ (fun e => hgbo e.symm)).trans (blk_set HBO5.out 0 _)) hrow _
            · -- 4
              refine wpOp_step rfl (fun K hK => ?_)
              go_simp
              obtain ⟨V24, hV24⟩ : ∃ Vz : World, Vz = V0.alloc (.cells #[.int .i64 0, .string ⟨#[]⟩, .int .i64 0, .int .i64 0, .slice none 0 0] 24) := ⟨_, rfl⟩
              have hbV24 : Below V0.heap.size V0 V24 := by rw [hV24]; exact (Below.refl _ _).alloc (Nat.le_refl _) _
              have hz : V24.heap[V0.heap.size]? = some (.cells #[.int .i64 0, .string ⟨#[]⟩, .int .i64 0, .int .i64 0, .slice none 0 0] 24 (0, 0)) := by rw [hV24]; exact blk_new _ _
              obtain ⟨bz, hbz⟩ : ∃ bz, bz = V0.heap.size := ⟨_, rfl⟩
              rw [← hbz] at hz
              rw [← hV24, ← hbz]
              have hB24 := below_then hB0 hB0.size hbV24
              refine hK _ _ ⟨HSS.out _ hB24, ?_⟩
              clear hK hV24 hbz
              go_simp
              clear hbV24
              refine wpAnyH_all (rs := [2]) (by kernel_rfl) (by simp) ?_
              intro i hi
              obtain rfl : i = 2 := by simpa using hi
              refine wpOp_step rfl (fun K hK => ?_)
              go_simp
              refine (HCC.out _ hB24).out.mono ?_
              rintro e V32 ⟨v4, rfl, hR4, hB4⟩
              have hB32 := below_then hB24 hB24.size hB4
              replace hR4 := Kd.R_lower hR4 hB24.size
              refine hK _ _ ⟨HSS.out _ hB32, ?_⟩
              clear hK
              go_simp
              replace hz := blk_below hz hB4
              clear hB4
              have HRV := Kd.R_below HR.out (below_then hW1 hW1.size hB32)
              obtain ⟨hokR, inner, hownR, hrepsR⟩ := HRV
              have hlr : (aggsOf (pre.map view)).length ≤ 1048576 := by omega
              obtain ⟨i0, hi0, hz0, hz1, hz2⟩ := info_parts info24
              refine wpAnyH_all (rs := [5]) (by kernel_rfl) (by simp) ?_
              intro i hi
              obtain rfl : i = 5 := by simpa using hi
              refine wpOp_step rfl (fun K hK => ?_)
              refine step_append_lies _ rfl (.tmp 22) (.tmp 26) 22 rfl w.heap.size 24 i0 _ 5 64 Tryd.underlying22 hi0 hz0 hz1 hz2 rfl (by decide) (.slice Ao (aggsOf (pre.map view)).length co) (aggsOf (pre.map view)).length inner rfl hownR ⟨bz, 0, none⟩ 1 1 [.int .i64 0, .string ⟨#[]⟩, .int .i64 0, .int .i64 0, .slice none 0 0] rfl rfl (fun j u hu => by rw [add_plain, blk_cell hz j]; simpa using hu) (by intro u hu; simp at hu; rcases hu with rfl | rfl | rfl | rfl | rfl <;> rfl) (by decide) (by unfold maxLen; omega) (by omega) (Nat.le_trans HB.out.size (below_then hW1 hW1.size hB32).size) V32.heap.size rfl ?_
              intro g cap w5 hown5 hg5 hat5 hgl
              have hgW : ∀ k, (Value.slice Ao (aggsOf (pre.map view)).length co).ownBlock = some k → k < W.heap.size := fun k e => by obtain ⟨_, inner', hown', _⟩ := HR.out; exact own_lt hown' k e
              have hgb : w.heap.size ≤ g := by
                rcases hat5 with e | e
                · exact own_base hownR g e
                · have := hB32.size; have := hW1.size; have := HB.out.size; omega
              have hgbo : g ≠ w.heap.size + 1 := by
                rcases hat5 with e | e
                · exact HR.out.1 g e
                · have := hB32.size; omega
              have hgbx : g ≠ bx := by
                rintro rfl
                rcases hat5 with e | e
                · exact HNE.out e
                · have := hB32.size; omega
              have hlen5 : (Value.slice Ao (aggsOf (pre.map view)).length co).ownBlock ≠ some bx := HNE.out
              have hS5 : w5.cell? ⟨bx, 0, none⟩ = some (.int .i64 yx.f0) ∧ w5.cell? ⟨bx, 1, none⟩ = some (.string yx.f1) ∧ w5.cell? ⟨bx, 2, none⟩ = some (.int .i64 yx.f2) ∧ w5.cell? ⟨bx, 3, none⟩ = some (.int .i64 yx.f3) ∧ w5.cell? ⟨bx, 4, none⟩ = some (.slice A' yx.f4.length c') := by
                have hb : w5.heap[bx]? = V32.heap[bx]? := hg5.block bx (by have := hB32.size; omega) (fun e => HNE.out e.symm)
                obtain ⟨g0, g1, g2, g3, g4⟩ := HSS.out _ hB32
                exact ⟨(World.cell?_of_block (a := ⟨bx, 0, none⟩) hb).trans g0, (World.cell?_of_block (a := ⟨bx, 1, none⟩) hb).trans g1, (World.cell?_of_block (a := ⟨bx, 2, none⟩) hb).trans g2, (World.cell?_of_block (a := ⟨bx, 3, none⟩) hb).trans g3, (World.cell?_of_block (a := ⟨bx, 4, none⟩) hb).trans g4⟩
              have hR5 : Kd.R k24 24 w5 w.heap.size (fun k => k ≠ w.heap.size + 1) (.slice (some ⟨g, 0, none⟩) ((aggsOf (pre.map view)).length + 1) cap) (aggsOf (pre.map view) ++ [z24]) :=
                Kd.R_appended (okp := fun _ => False) hokR hrepsR (k24_mkM V32 w.heap.size (fun _ => False) z24 (Kd.R_nil _ _ _ _ _)) (fun k hk => hk.elim) (fun k hk => by have := hB32.size; omega) hown5 hg5 (hat5.imp (fun e => e.symm) (fun e => ⟨g, rfl, by omega⟩))
              have h4b : Kd.R k24 24 w5 w.heap.size (fun k => k ≠ w.heap.size + 1 ∧ k ≠ g) v4 yx.f4 := by
                have h1 := Kd.R_bound hR4
                have h2 := Kd.R_grown h1 hg5 (fun k hk e => by
                  obtain ⟨_, hk1, _⟩ := hk
                  have := hgW k e.symm
                  have := hW1.size
                  omega)
                refine Kd.R_mono (Kd.R_lower h2 (by have := hW1.size; have := HB.out.size; omega)) (fun k hk => ?_)
                obtain ⟨_, hk1, hk2, _⟩ := hk
                refine ⟨by omega, fun e => ?_⟩
                rcases hat5 with e' | e'
                · have := hgW g e'; have := hW1.size; omega
                · omega
              have HR5 := Aside0.mk hR5
              have HR4 := Aside0.mk h4b
              have HS5 := Aside0.mk hS5
              have HOWN5 := Aside0.mk hown5
              have HG5 := Aside0.mk hg5
              have HAT5 := Aside0.mk hat5
              have hbo5 : w5.heap[w.heap.size + 1]? = some (.cells #[.slice Ao (aggsOf (pre.map view)).length co] 22 (0, 0)) := (hg5.block _ (by have := hB32.size; omega) (fun e => HR.out.1 _ e.symm rfl)).trans (blk_below HV.out (below_then hW1 hW1.size hB32))
              have HBO5 := Aside0.mk hbo5
              clear hbo5 hR5 h4b hS5 hown5 hg5 hat5 hownR hrepsR hokR hR4 hz
              refine hK _ _ ⟨HS5.out, ?_⟩
              clear hK
              go_simp
              refine wpAnyH_take (i := 6) (v := .pointer (some ⟨g, (aggsOf (pre.map view)).length * 5, none⟩)) rfl (by kernel_rfl) (by kernel_rfl) (by kernel_rfl) (fun _ _ _ h => h) (Or.inl ⟨rfl, fun V hV => ?_⟩) HS5.out ?_
              · go_simp
                intro h
                omega
              go_simp
              obtain ⟨A4, c4, rfl⟩ := Kd.R_slice HR4.out
              obtain ⟨cur, hcur, hcs⟩ := row_cells HOWN5.out
              have hcap : (aggsOf (pre.map view)).length * 5 + 5 ≤ cur.size := by omega
              have hsv : ∀ q ∈ ([.int .i64 yx.f0, .string yx.f1, .int .i64 yx.f2, .int .i64 yx.f3, .slice A4 yx.f4.length c4] : List Value), q.oneCell' = true := by
                intro u hu; simp at hu; rcases hu with rfl | rfl | rfl | rfl | rfl <;> rfl
              refine wpAnyH_all (rs := [7, 8]) (by kernel_rfl) (by simp) ?_
              intro i hi
              have hi3 : i = 7 ∨ i = 8 := by simpa using hi
              rcases hi3 with rfl | rfl
              · -- 7 8
                obtain ⟨hrow, hg7⟩ := set_last HR5.out HOWN5.out HR4.out
                have hst := run_store_run (P := Tryd.prog) 24 (.agg #[.int .i64 yx.f0, .string yx.f1, .int .i64 yx.f2, .int .i64 yx.f3, .slice A4 yx.f4.length c4]) _ hcur rfl (by kernel_rfl) hcap hsv
                refine wpOp_step rfl (fun K hK => ?_)
                refine T.store_step rfl 24 (.tmp 28) (.tmp 24) rfl rfl hst (hK _ _ ⟨?_, ?_⟩)
                · have hb : (w5.setCells g ((aggsOf (pre.map view)).length * 5) [.int .i64 yx.f0, .string yx.f1, .int .i64 yx.f2, .int .i64 yx.f3, .slice A4 yx.f4.length c4]).heap[bx]? = w5.heap[bx]? := setCells_far _ _ _ (fun e => hgbx e.symm)
                  obtain ⟨g0, g1, g2, g3, g4⟩ := HS5.out
                  exact ⟨(World.cell?_of_block (a := ⟨bx, 0, none⟩) hb).trans g0, (World.cell?_of_block (a := ⟨bx, 1, none⟩) hb).trans g1, (World.cell?_of_block (a := ⟨bx, 2, none⟩) hb).trans g2, (World.cell?_of_block (a := ⟨bx, 3, none⟩) hb).trans g3, (World.cell?_of_block (a := ⟨bx, 4, none⟩) hb).trans g4⟩
                have hbo6 : (w5.setCells g ((aggsOf (pre.map view)).length * 5) [.int .i64 yx.f0, .string yx.f1, .int .i64 yx.f2, .int .i64 yx.f3, .slice A4 yx.f4.length c4]).heap[w.heap.size + 1]? = some (.cells #[Value.slice Ao (aggsOf (pre.map view)).length co] 22 (0, 0)) := (setCells_far _ _ _ (fun e => hgbo e.symm)).trans HBO5.out
                have hst8 := run_store_run (P := Tryd.prog) (o := 0) 22 (.slice (some ⟨g, 0, none⟩) ((aggsOf (pre.map view)).length + 1) cap) _ hbo6 rfl (by kernel_rfl) (show 0 + 1 ≤ 1 from Nat.le_refl _) (one_slice _ _ _)
                clear hK hst
                go_simp
                refine wpAnyH_all (rs := [8]) (by kernel_rfl) (by simp) ?_
                intro i hi
                obtain rfl : i = 8 := by simpa using hi
                refine wpOp_step rfl (fun K hK => ?_)
                refine T.store_step rfl 22 (.tmp 3) (.tmp 27) rfl rfl hst8 (hK _ _ ⟨?_, ?_⟩)
                · have hb : ((w5.setCells g ((aggsOf (pre.map view)).length * 5) [.int .i64 yx.f0, .string yx.f1, .int .i64 yx.f2, .int .i64 yx.f3, .slice A4 yx.f4.length c4]).setCells (w.heap.size + 1) 0 [.slice (some ⟨g, 0, none⟩) ((aggsOf (pre.map view)).length + 1) cap]).heap[bx]? = w5.heap[bx]? := (setCells_far _ _ _ (by omega)).trans (setCells_far _ _ _ (fun e => hgbx e.symm))
                  obtain ⟨g0, g1, g2, g3, g4⟩ := HS5.out
                  exact ⟨(World.cell?_of_block (a := ⟨bx, 0, none⟩) hb).trans g0, (World.cell?_of_block (a := ⟨bx, 1, none⟩) hb).trans g1, (World.cell?_of_block (a := ⟨bx, 2, none⟩) hb).trans g2, (World.cell?_of_block (a := ⟨bx, 3, none⟩) hb).trans g3, (World.cell?_of_block (a := ⟨bx, 4, none⟩) hb).trans g4⟩
                clear hK hst8
                refine wpAnyH_done (by kernel_rfl) ?_ _
                have hsm1 := setCells_same (w.heap.size + 1) [.slice (some ⟨g, 0, none⟩) ((aggsOf (pre.map view)).length + 1) cap] 0 (w5.setCells g ((aggsOf (pre.map view)).length * 5) [.int .i64 yx.f0, .string yx.f1, .int .i64 yx.f2, .int .i64 yx.f3, .slice A4 yx.f4.length c4])
                have hsm2 := setCells_same g [.int .i64 yx.f0, .string yx.f1, .int .i64 yx.f2, .int .i64 yx.f3, .slice A4 yx.f4.length c4] ((aggsOf (pre.map view)).length * 5) w5
                exact fin_aggs (w7 := (w5.setCells g ((aggsOf (pre.map view)).length * 5) [.int .i64 yx.f0, .string yx.f1, .int .i64 yx.f2, .int .i64 yx.f3, .slice A4 yx.f4.length c4]).setCells (w.heap.size + 1) 0 [.slice (some ⟨g, 0, none⟩) ((aggsOf (pre.map view)).length + 1) cap]) HB.out HV.out HR.out (below_then hW1 hW1.size hB32) HG5.out HAT5.out hgl hgbo (by omega) (by rw [List.map_append]; exact HST.out) (fun k h1 h2 => (setCells_far _ _ _ h1).trans (setCells_far _ _ _ h2))
                  ⟨hsm1.1.trans hsm2.1, hsm1.2.1.trans hsm2.2.1, hsm1.2.2.1.trans hsm2.2.2.1, hsm1.2.2.2.trans hsm2.2.2.2⟩ (blk_set hbo6 0 _) (by rw [setCells_one]; exact Kd.R_far hrow (p := ⟨w.heap.size + 1, 0, none⟩) (fun k hk => hk) (.slice (some ⟨g, 0, none⟩) ((aggsOf (pre.map view)).length + 1) cap)) _
              · -- 8 7
                have hst8 := run_store_run (P := Tryd.prog) (o := 0) 22 (.slice (some ⟨g, 0, none⟩) ((aggsOf (pre.map view)).length + 1) cap) _ HBO5.out rfl (by kernel_rfl) (show 0 + 1 ≤ 1 from Nat.le_refl _) (one_slice _ _ _)
                refine wpOp_step rfl (fun K hK => ?_)
                refine T.store_step rfl 22 (.tmp 3) (.tmp 27) rfl rfl hst8 (hK _ _ ⟨?_, ?_⟩)
                · have hb : (w5.setCells (w.heap.size + 1) 0 [.slice (some ⟨g, 0, none⟩) ((aggsOf (pre.map view)).length + 1) cap]).heap[bx]? = w5.heap[bx]? := setCells_far _ _ _ (by omega)
                  obtain ⟨g0, g1, g2, g3, g4⟩ := HS5.out
                  exact ⟨(World.cell?_of_block (a := ⟨bx, 0, none⟩) hb).trans g0, (World.cell?_of_block (a := ⟨bx, 1, none⟩) hb).trans g1, (World.cell?_of_block (a := ⟨bx, 2, none⟩) hb).trans g2, (World.cell?_of_block (a := ⟨bx, 3, none⟩) hb).trans g3, (World.cell?_of_block (a := ⟨bx, 4, none⟩) hb).trans g4⟩
                have hcur6 : (w5.setCells (w.heap.size + 1) 0 [.slice (some ⟨g, 0, none⟩) ((aggsOf (pre.map view)).length + 1) cap]).heap[g]? = some (.cells cur 24 (0, 0)) := (setCells_far _ _ _ hgbo).trans hcur
                have hR6 := Kd.R_far HR5.out (p := ⟨w.heap.size + 1, 0, none⟩) (fun k hk => hk) (.slice (some ⟨g, 0, none⟩) ((aggsOf (pre.map view)).length + 1) cap)
                rw [← setCells_one] at hR6
                have ho6 := own_move HOWN5.out (w1 := w5.setCells (w.heap.size + 1) 0 [.slice (some ⟨g, 0, none⟩) ((aggsOf (pre.map view)).length + 1) cap]) (fun k hk => setCells_far _ _ _ (fun e => by have : g = k := (by simpa [Value.ownBlock] using hk); omega))
                have h46 := Kd.R_far HR4.out (p := ⟨w.heap.size + 1, 0, none⟩) (fun k hk => hk.1) (.slice (some ⟨g, 0, none⟩) ((aggsOf (pre.map view)).length + 1) cap)
                rw [← setCells_one] at h46
                obtain ⟨hrow, hg7⟩ := set_last (W := w5.setCells (w.heap.size + 1) 0 [.slice (some ⟨g, 0, none⟩) ((aggsOf (pre.map view)).length + 1) cap]) hR6 ho6 h46
                have hst := run_store_run (P := Tryd.prog) 24 (.agg #[.int .i64 yx.f0, .string yx.f1, .int .i64 yx.f2, .int .i64 yx.f3, .slice A4 yx.f4.length c4]) _ hcur6 rfl (by kernel_rfl) hcap hsv
                clear hK hst8 hR6 ho6 h46
                go_simp
                refine wpAnyH_all (rs := [7]) (by kernel_rfl) (by simp) ?_
                intro i hi
                obtain rfl : i = 7 := by simpa using hi
                refine wpOp_step rfl (fun K hK => ?_)
                refine T.store_step rfl 24 (.tmp 28) (.tmp 24) rfl rfl hst (hK _ _ ⟨?_, ?_⟩)
                · have hb : ((w5.setCells (w.heap.size + 1) 0 [.slice (some ⟨g, 0, none⟩) ((aggsOf (pre.map view)).length + 1) cap]).setCells g ((aggsOf (pre.map view)).length * 5) [.int .i64 yx.f0, .string yx.f1, .int .i64 yx.f2, .int .i64 yx.f3, .slice A4 yx.f4.length c4]).heap[bx]? = w5.heap[bx]? := (setCells_far _ _ _ (fun e => hgbx e.symm)).trans (setCells_far _ _ _ (by omega))
                  obtain ⟨g0, g1, g2, g3, g4⟩ := HS5.out
                  exact ⟨(World.cell?_of_block (a := ⟨bx, 0, none⟩) hb).trans g0, (World.cell?_of_block (a := ⟨bx, 1, none⟩) hb).trans g1, (World.cell?_of_block (a := ⟨bx, 2, none⟩) hb).trans g2, (World.cell?_of_block (a := ⟨bx, 3, none⟩) hb).trans g3, (World.cell?_of_block (a := ⟨bx, 4, none⟩) hb).trans g4⟩
                clear hK
                refine wpAnyH_done (by kernel_rfl) ?_ _
                have hsm1 := setCells_same (w.heap.size + 1) [.slice (some ⟨g, 0, none⟩) ((aggsOf (pre.map view)).length + 1) cap] 0 w5
                have hsm2 := setCells_same g [.int .i64 yx.f0, .string yx.f1, .int .i64 yx.f2, .int .i64 yx.f3, .slice A4 yx.f4.length c4] ((aggsOf (pre.map view)).length * 5) (w5.setCells (w.heap.size + 1) 0 [.slice (some ⟨g, 0, none⟩) ((aggsOf (pre.map view)).length + 1) cap])
                exact fin_aggs (w7 := (w5.setCells (w.heap.size + 1) 0 [.slice (some ⟨g, 0, none⟩) ((aggsOf (pre.map view)).length + 1) cap]).setCells g ((aggsOf (pre.map view)).length * 5) [.int .i64 yx.f0, .string yx.f1, .int .i64 yx.f2, .int .i64 yx.f3, .slice A4 yx.f4.length c4]) HB.out HV.out HR.out (below_then hW1 hW1.size hB32) HG5.out HAT5.out hgl hgbo (by omega) (by rw [List.map_append]; exact HST.out) (fun k h1 h2 => (setCells_far _ _ _ h2).trans (setCells_far _ _ _ h1))
                  ⟨hsm2.1.trans hsm1.1, hsm2.2.1.trans hsm1.2.1, hsm2.2.2.1.trans hsm1.2.2.1, hsm2.2.2.2.trans hsm1.2.2.2⟩ ((setCells_far _ _ _ (fun e => hgbo e.symm)).trans (blk_set HBO5.out 0 _)) hrow _
          · -- 2
            refine wpOp_step rfl (fun K hK => ?_)
            go_simp
            refine (HCC.out _ hB0).out.mono ?_
            rintro e V12 ⟨v4, rfl, hR4, hB4⟩
            have hB12 := below_then hB0 hB0.size hB4
            replace hR4 := Kd.R_lower hR4 hB0.size
            refine hK _ _ ⟨HSS.out _ hB12, ?_⟩
            clear hK
            go_simp
            clear hB4
            refine wpAnyH_all (rs := [0, 4]) (by kernel_rfl) (by simp) ?_
            intro i hi
            have hi3 : i = 0 ∨ i = 4 := by simpa using hi
            rcases hi3 with rfl | rfl
            · -- 0
              refine wpOp_step rfl (fun K hK => ?_)
              have hv := HVV.out _ hB12
              go_simp
              refine hK _ _ ⟨HSS.out _ hB12, ?_⟩
              clear hK hv
              go_simp
              refine wpAnyH_take (i := 3) (v := .int .i64 (aggsOf (pre.map view)).length) rfl (by kernel_rfl) (by kernel_rfl) (by kernel_rfl) (fun _ _ _ h => h) (Or.inl ⟨rfl, fun V hV => ?_⟩) (HSS.out _ hB12) ?_
              · go_simp
              go_simp
              refine wpAnyH_all (rs := [4]) (by kernel_rfl) (by simp) ?_
              intro i hi
              obtain rfl : i = 4 := by simpa using hi
              refine wpOp_step rfl (fun K hK => ?_)
              go_simp
              obtain ⟨V34, hV34⟩ : ∃ Vz : World, Vz = V12.alloc (.cells #[.int .i64 0, .string ⟨#[]⟩, .int .i64 0, .int .i64 0, .slice none 0 0] 24) := ⟨_, rfl⟩
              have hbV34 : Below V12.heap.size V12 V34 := by rw [hV34]; exact (Below.refl _ _).alloc (Nat.le_refl _) _
              have hz : V34.heap[V12.heap.size]? = some (.cells #[.int .i64 0, .string ⟨#[]⟩, .int .i64 0, .int .i64 0, .slice none 0 0] 24 (0, 0)) := by rw [hV34]; exact blk_new _ _
              obtain ⟨bz, hbz⟩ : ∃ bz, bz = V12.heap.size := ⟨_, rfl⟩
              rw [← hbz] at hz
              rw [← hV34, ← hbz]
              have hB34 := below_then hB12 hB12.size hbV34
              refine hK _ _ ⟨HSS.out _ hB34, ?_⟩
              clear hK hV34 hbz
              go_simp
              replace hR4 := Kd.R_below hR4 hbV34
              clear hbV34
              have HRV := Kd.R_below HR.out (below_then hW1 hW1.size hB34)
              obtain ⟨hokR, inner, hownR, hrepsR⟩ := HRV
              have hlr : (aggsOf (pre.map view)).length ≤ 1048576 := by omega
              obtain ⟨i0, hi0, hz0, hz1, hz2⟩ := info_parts info24
              refine wpAnyH_all (rs := [5]) (by kernel_rfl) (by simp) ?_
              intro i hi
              obtain rfl : i = 5 := by simpa using hi
              refine wpOp_step rfl (fun K hK => ?_)
              refine step_append_lies _ rfl (.tmp 22) (.tmp 26) 22 rfl w.heap.size 24 i0 _ 5 64 Tryd.underlying22 hi0 hz0 hz1 hz2 rfl (by decide) (.slice Ao (aggsOf (pre.map view)).length co) (aggsOf (pre.map view)).length inner rfl hownR ⟨bz, 0, none⟩ 1 1 [.int .i64 0, .string ⟨#[]⟩, .int .i64 0, .int .i64 0, .slice none 0 0] rfl rfl (fun j u hu => by rw [add_plain, blk_cell hz j]; simpa using hu) (by intro u hu; simp at hu; rcases hu with rfl | rfl | rfl | rfl | rfl <;> rfl) (by decide) (by unfold maxLen; omega) (by omega) (Nat.le_trans HB.out.size (below_then hW1 hW1.size hB34).size) V34.heap.size rfl ?_
              intro g cap w5 hown5 hg5 hat5 hgl
              have hgW : ∀ k, (Value.slice Ao (aggsOf (pre.map view)).length co).ownBlock = some k → k < W.heap.size := fun k e => by obtain ⟨_, inner', hown', _⟩ := HR.out; exact own_lt hown' k e
              have hgb : w.heap.size ≤ g := by
                rcases hat5 with e | e
                · exact own_base hownR g e
                · have := hB34.size; have := hW1.size; have := HB.out.size; omega
              have hgbo : g ≠ w.heap.size + 1 := by
                rcases hat5 with e | e
                · exact HR.out.1 g e
                · have := hB34.size; omega
              have hgbx : g ≠ bx := by
                rintro rfl
                rcases hat5 with e | e
                · exact HNE.out e
                · have := hB34.size; omega
              have hlen5 : (Value.slice Ao (aggsOf (pre.map view)).length co).ownBlock ≠ some bx := HNE.out
              have hS5 : w5.cell? ⟨bx, 0, none⟩ = some (.int .i64 yx.f0) ∧ w5.cell? ⟨bx, 1, none⟩ = some (.string yx.f1) ∧ w5.cell? ⟨bx, 2, none⟩ = some (.int .i64 yx.f2) ∧ w5.cell? ⟨bx, 3, none⟩ = some (.int .i64 yx.f3) ∧ w5.cell? ⟨bx, 4, none⟩ = some (.slice A' yx.f4.length c') := by
                have hb : w5.heap[bx]? = V34.heap[bx]? := hg5.block bx (by have := hB34.size; omega) (fun e => HNE.out e.symm)
                obtain ⟨g0, g1, g2, g3, g4⟩ := HSS.out _ hB34
                exact ⟨(World.cell?_of_block (a := ⟨bx, 0, none⟩) hb).trans g0, (World.cell?_of_block (a := ⟨bx, 1, none⟩) hb).trans g1, (World.cell?_of_block (a := ⟨bx, 2, none⟩) hb).trans g2, (World.cell?_of_block (a := ⟨bx, 3, none⟩) hb).trans g3, (World.cell?_of_block (a := ⟨bx, 4, none⟩) hb).trans g4⟩
              have hR5 : Kd.R k24 24 w5 w.heap.size (fun k => k ≠ w.heap.size + 1) (.slice (some ⟨g, 0, none⟩) ((aggsOf (pre.map view)).length + 1) cap) (aggsOf (pre.map view) ++ [z24]) :=
                Kd.R_appended (okp := fun _ => False) hokR hrepsR (k24_mkM V34 w.heap.size (fun _ => False) z24 (Kd.R_nil _ _ _ _ _)) (fun k hk => hk.elim) (fun k hk => by have := hB34.size; omega) hown5 hg5 (hat5.imp (fun e => e.symm) (fun e => ⟨g, rfl, by omega⟩))
              have h4b : Kd.R k24 24 w5 w.heap.size (fun k => k ≠ w.heap.size + 1 ∧ k ≠ g) v4 yx.f4 := by
                have h1 := Kd.R_bound hR4
                have h2 := Kd.R_grown h1 hg5 (fun k hk e => by
                  obtain ⟨_, hk1, _⟩ := hk
                  have := hgW k e.symm
                  have := hW1.size
                  omega)
                refine Kd.R_mono (Kd.R_lower h2 (by have := hW1.size; have := HB.out.size; omega)) (fun k hk => ?_)
                obtain ⟨_, hk1, hk2, _⟩ := hk
                refine ⟨by omega, fun e => ?_⟩
                rcases hat5 with e' | e'
                · have := hgW g e'; have := hW1.size; omega
                · omega
              have HR5 := Aside0.mk hR5
              have HR4 := Aside0.mk h4b
              have HS5 := Aside0.mk hS5
              have HOWN5 := Aside0.mk hown5
              have HG5 := Aside0.mk hg5
              have HAT5 := Aside0.mk hat5
              have hbo5 : w5.heap[w.heap.size + 1]? = some (.cells #[.slice Ao (aggsOf (pre.map view)).length co] 22 (0, 0)) := (hg5.block _ (by have := hB34.size; omega) (fun e => HR.out.1 _ e.symm rfl)).trans (blk_below HV.out (below_then hW1 hW1.size hB34))
              have HBO5 := Aside0.mk hbo5
              clear hbo5 hR5 h4b hS5 hown5 hg5 hat5 hownR hrepsR hokR hR4 hz
              refine hK _ _ ⟨HS5.out, ?_⟩
              clear hK
              go_simp
              refine wpAnyH_take (i := 6) (v := .pointer (some ⟨g, (aggsOf (pre.map view)).length * 5, none⟩)) rfl (by kernel_rfl) (by kernel_rfl) (by kernel_rfl) (fun _ _ _ h => h) (Or.inl ⟨rfl, fun V hV => ?_⟩) HS5.out ?_
              · go_simp
                intro h
                omega
              go_simp
              obtain ⟨A4, c4, rfl⟩ := Kd.R_slice HR4.out
              obtain ⟨cur, hcur, hcs⟩ := row_cells HOWN5.out
              have hcap : (aggsOf (pre.map view)).length * 5 + 5 ≤ cur.size := by omega
              have hsv : ∀ q ∈ ([.int .i64 yx.f0, .string yx.f1, .int .i64 yx.f2, .int .i64 yx.f3, .slice A4 yx.f4.length c4] : List Value), q.oneCell' = true := by
                intro u hu; simp at hu; rcases hu with rfl | rfl | rfl | rfl | rfl <;> rfl
              refine wpAnyH_all (rs := [7, 8]) (by kernel_rfl) (by simp) ?_
              intro i hi
              have hi3 : i = 7 ∨ i = 8 := by simpa using hi
              rcases hi3 with rfl | rfl
              · -- 7 8
                obtain ⟨hrow, hg7⟩ := set_last HR5.out HOWN5.out HR4.out
                have hst := run_store_run (P := Tryd.prog) 24 (.agg #[.int .i64 yx.f0, .string yx.f1, .int .i64 yx.f2, .int .i64 yx.f3, .slice A4 yx.f4.length c4]) _ hcur rfl (by kernel_rfl) hcap hsv
                refine wpOp_step rfl (fun K hK => ?_)
                refine T.store_step rfl 24 (.tmp 28) (.tmp 24) rfl rfl hst (hK _ _ ⟨?_, ?_⟩)
                · have hb : (w5.setCells g ((aggsOf (pre.map view)).length * 5) [.int .i64 yx.f0, .string yx.f1, .int .i64 yx.f2, .int .i64 yx.f3, .slice A4 yx.f4.length c4]).heap[bx]? = w5.heap[bx]? := setCells_far _ _ _ (fun e => hgbx e.symm)
                  obtain ⟨g0, g1, g2, g3, g4⟩ := HS5.out
                  exact ⟨(World.cell?_of_block (a := ⟨bx, 0, none⟩) hb).trans g0, (World.cell?_of_block (a := ⟨bx, 1, none⟩) hb).trans g1, (World.cell?_of_block (a := ⟨bx, 2, none⟩) hb).trans g2, (World.cell?_of_block (a := ⟨bx, 3, none⟩) hb).trans g3, (World.cell?_of_block (a := ⟨bx, 4, none⟩) hb).trans g4⟩
                have hbo6 : (w5.setCells g ((aggsOf (pre.map view)).length * 5) [.int .i64 yx.f0, .string yx.f1, .int .i64 yx.f2, .int .i64 yx.f3, .slice A4 yx.f4.length c4]).heap[w.heap.size + 1]? = some (.cells #[Value.slice Ao (aggsOf (pre.map view)).length co] 22 (0, 0)) := (setCells_far _ _ _ (fun e => hgbo e.symm)).trans HBO5.out
                have hst8 := run_store_run (P := Tryd.prog) (o := 0) 22 (.slice (some ⟨g, 0, none⟩) ((aggsOf (pre.map view)).length + 1) cap) _ hbo6 rfl (by kernel_rfl) (show 0 + 1 ≤ 1 from Nat.le_refl _) (one_slice _ _ _)
                clear hK hst
                go_simp
                refine wpAnyH_all (rs := [8]) (by kernel_rfl) (by simp) ?_
                intro i hi
                obtain rfl : i = 8 := by simpa using hi
                refine wpOp_step rfl (fun K hK => ?_)
                refine T.store_step rfl 22 (.tmp 3) (.tmp 27) rfl rfl hst8 (hK _ _ ⟨?_, ?_⟩)
                · have hb : ((w5.setCells g ((aggsOf (pre.map view)).length * 5) [.int .i64 yx.f0, .string yx.f1, .int .i64 yx.f2, .int .i64 yx.f3, .slice A4 yx.f4.length c4]).setCells (w.heap.size + 1) 0 [.slice (some ⟨g, 0, none⟩) ((aggsOf (pre.map view)).length + 1) cap]).heap[bx]? = w5.heap[bx]? := (setCells_far _ _ _ (by omega)).trans (setCells_far _ _ _ (fun e => hgbx e.symm))
                  obtain ⟨g0, g1, g2, g3, g4⟩ := HS5.out
                  exact ⟨(World.cell?_of_block (a := ⟨bx, 0, none⟩) hb).trans g0, (World.cell?_of_block (a := ⟨bx, 1, none⟩) hb).trans g1, (World.cell?_of_block (a := ⟨bx, 2, none⟩) hb).trans g2, (World.cell?_of_block (a := ⟨bx, 3, none⟩) hb).trans g3, (World.cell?_of_block (a := ⟨bx, 4, none⟩) hb).trans g4⟩
                clear hK hst8
                refine wpAnyH_done (by kernel_rfl) ?_ _
                have hsm1 := setCells_same (w.heap.size + 1) [.slice (some ⟨g, 0, none⟩) ((aggsOf (pre.map view)).length + 1) cap] 0 (w5.setCells g ((aggsOf (pre.map view)).length * 5) [.int .i64 yx.f0, .string yx.f1, .int .i64 yx.f2, .int .i64 yx.f3, .slice A4 yx.f4.length c4])
                have hsm2 := setCells_same g [.int .i64 yx.f0, .string yx.f1, .int .i64 yx.f2, .int .i64 yx.f3, .slice A4 yx.f4.length c4] ((aggsOf (pre.map view)).length * 5) w5
                exact fin_aggs (w7 := (w5.setCells g ((aggsOf (pre.map view)).length * 5) [.int .i64 yx.f0, .string yx.f1, .int .i64 yx.f2, .int .i64 yx.f3, .slice A4 yx.f4.length c4]).setCells (w.heap.size + 1) 0 [.slice (some ⟨g, 0, none⟩) ((aggsOf (pre.map view)).length + 1) cap]) HB.out HV.out HR.out (below_then hW1 hW1.size hB34) HG5.out HAT5.out hgl hgbo (by omega) (by rw [List.map_append]; exact HST.out) (fun k h1 h2 => (setCells_far _ _ _ h1).trans (setCells_far _ _ _ h2))
                  ⟨hsm1.1.trans hsm2.1, hsm1.2.1.trans hsm2.2.1, hsm1.2.2.1.trans hsm2.2.2.1, hsm1.2.2.2.trans hsm2.2.2.2⟩ (blk_set hbo6 0 _) (by rw [setCells_one]; exact Kd.R_far hrow (p := ⟨w.heap.size + 1, 0, none⟩) (fun k hk => hk) (.slice (some ⟨g, 0, none⟩) ((aggsOf (pre.map view)).length + 1) cap)) _
              · -- 8 7
                have hst8 := run_store_run (P := Tryd.prog) (o := 0) 22 (.slice (some ⟨g, 0, none⟩) ((aggsOf (pre.map view)).length + 1) cap) _ HBO5.out rfl (by kernel_rfl) (show 0 + 1 ≤ 1 from Nat.le_refl _) (one_slice _ _ _)
                refine wpOp_step rfl (fun K hK => ?_)
                refine T.store_step rfl 22 (.tmp 3) (.tmp 27) rfl rfl hst8 (hK _ _ ⟨?_, ?_⟩)
                · have hb : (w5.setCells (w.heap.size + 1) 0 [.slice (some ⟨g, 0, none⟩) ((aggsOf (pre.map view)).length + 1) cap]).heap[bx]? = w5.heap[bx]? := setCells_far _ _ _ (by omega)
                  obtain ⟨g0, g1, g2, g3, g4⟩ := HS5.out
                  exact ⟨(World.cell?_of_block (a := ⟨bx, 0, none⟩) hb).trans g0, (World.cell?_of_block (a := ⟨bx, 1, none⟩) hb).trans g1, (World.cell?_of_block (a := ⟨bx, 2, none⟩) hb).trans g2, (World.cell?_of_block (a := ⟨bx, 3, none⟩) hb).trans g3, (World.cell?_of_block (a := ⟨bx, 4, none⟩) hb).trans g4⟩
                have hcur6 : (w5.setCells (w.heap.size + 1) 0 [.slice (some ⟨g, 0, none⟩) ((aggsOf (pre.map view)).length + 1) cap]).heap[g]? = some (.cells cur 24 (0, 0)) := (setCells_far _ _ _ hgbo).trans hcur
                have hR6 := Kd.R_far HR5.out (p := ⟨w.heap.size + 1, 0, none⟩) (fun k hk => hk) (.slice (some ⟨g, 0, none⟩) ((aggsOf (pre.map view)).length + 1) cap)
                rw [← setCells_one] at hR6
                have ho6 := own_move HOWN5.out (w1 := w5.setCells (w.heap.size + 1) 0 [.slice (some ⟨g, 0, none⟩) ((aggsOf (pre.map view)).length + 1) cap]) (fun k hk => setCells_far _ _ _ (fun e => by have : g = k := (by simpa [Value.ownBlock] using hk); omega))
                have h46 := Kd.R_far HR4.out (p := ⟨w.heap.size + 1, 0, none⟩) (fun k hk => hk.1) (.slice (some ⟨g, 0, none⟩) ((aggsOf (pre.map view)).length + 1) cap)
                rw [← setCells_one] at h46
                obtain ⟨hrow, hg7⟩ := set_last (W := w5.setCells (w.heap.size + 1) 0 [.slice (some ⟨g, 0, none⟩) ((aggsOf (pre.map view)).length + 1) cap]) hR6 ho6 h46
                have hst := run_store_run (P := Tryd.prog) 24 (.agg #[.int .i64 yx.f0, .string yx.f1, .int .i64 yx.f2, .int .i64 yx.f3, .slice A4 yx.f4.length c4]) _ hcur6 rfl (by kernel_rfl) hcap hsv
                clear hK hst8 hR6 ho6 h46
                go_simp
                refine wpAnyH_all (rs := [7]) (by kernel_rfl) (by simp) ?_
                intro i hi
                obtain rfl : i = 7 := by simpa using hi
                refine wpOp_step rfl (fun K hK => ?_)
                refine T.store_step rfl 24 (.tmp 28) (.tmp 24) rfl rfl hst (hK _ _ ⟨?_, ?_⟩)
                · have hb : ((w5.setCells (w.heap.size + 1) 0 [.slice (some ⟨g, 0, none⟩) ((aggsOf (pre.map view)).length + 1) cap]).setCells g ((aggsOf (pre.map view)).length * 5) [.int .i64 yx.f0, .string yx.f1, .int .i64 yx.f2, .int .i64 yx.f3, .slice A4 yx.f4.length c4]).heap[bx]? = w5.heap[bx]? := (setCells_far _ _ _ (fun e => hgbx e.symm)).trans (setCells_far _ _ _ (by omega))
                  obtain ⟨g0, g1, g2, g3, g4⟩ := HS5.out
                  exact ⟨(World.cell?_of_block (a := ⟨bx, 0, none⟩) hb).trans g0, (World.cell?_of_block (a := ⟨bx, 1, none⟩) hb).trans g1, (World.cell?_of_block (a := ⟨bx, 2, none⟩) hb).trans g2, (World.cell?_of_block (a := ⟨bx, 3, none⟩) hb).trans g3, (World.cell?_of_block (a := ⟨bx, 4, none⟩) hb).trans g4⟩
                clear hK
                refine wpAnyH_done (by kernel_rfl) ?_ _
                have hsm1 := setCells_same (w.heap.size + 1) [.slice (some ⟨g, 0, none⟩) ((aggsOf (pre.map view)).length + 1) cap] 0 w5
                have hsm2 := setCells_same g [.int .i64 yx.f0, .string yx.f1, .int .i64 yx.f2, .int .i64 yx.f3, .slice A4 yx.f4.length c4] ((aggsOf (pre.map view)).length * 5) (w5.setCells (w.heap.size + 1) 0 [.slice (some ⟨g, 0, none⟩) ((aggsOf (pre.map view)).length + 1) cap])
                exact fin_aggs (w7 := (w5.setCells (w.heap.size + 1) 0 [.slice (some ⟨g, 0, none⟩) ((aggsOf (pre.map view)).length + 1) cap]).setCells g ((aggsOf (pre.map view)).length * 5) [.int .i64 yx.f0, .string yx.f1, .int .i64 yx.f2, .int .i64 yx.f3, .slice A4 yx.f4.length c4]) HB.out HV.out HR.out (below_then hW1 hW1.size hB34) HG5.out HAT5.out hgl hgbo (by omega) (by rw [List.map_append]; exact HST.out) (fun k h1 h2 => (setCells_far _ _ _ h2).trans (setCells_far _ _ _ h1))
                  ⟨hsm2.1.trans hsm1.1, hsm2.2.1.trans hsm1.2.1, hsm2.2.2.1.trans hsm1.2.2.1, hsm2.2.2.2.trans hsm1.2.2.2⟩ ((setCells_far _ _ _ (fun e => hgbo e.symm)).trans (blk_set HBO5.out 0 _)) hrow _
            · -- 4
              refine wpOp_step rfl (fun K hK => ?_)
              go_simp
              obtain ⟨V24, hV24⟩ : ∃ Vz : World, Vz = V12.alloc (.cells #[.int .i64 0, .string ⟨#[]⟩, .int .i64 0, .int .i64 0, .slice none 0 0] 24) := ⟨_, rfl⟩
              have hbV24 : Below V12.heap.size V12 V24 := by rw [hV24]; exact (Below.refl _ _).alloc (Nat.le_refl _) _
              have hz : V24.heap[V12.heap.size]? = some (.cells #[.int .i64 0, .string ⟨#[]⟩, .int .i64 0, .int .i64 0, .slice none 0 0] 24 (0, 0)) := by rw [hV24]; exact blk_new _ _
              obtain ⟨bz, hbz⟩ : ∃ bz, bz = V12.heap.size := ⟨_, rfl⟩
              rw [← hbz] at hz
              rw [← hV24, ← hbz]
              have hB24 := below_then hB12 hB12.size hbV24
              refine hK _ _ ⟨HSS.out _ hB24, ?_⟩
              clear hK hV24 hbz
              go_simp
              replace hR4 := Kd.R_below hR4 hbV24
              clear hbV24
              refine wpAnyH_all (rs := [0]) (by kernel_rfl) (by simp) ?_
              intro i hi
              obtain rfl : i = 0 := by simpa using hi
              refine wpOp_step rfl (fun K hK => ?_)
              have hv := HVV.out _ hB24
              go_simp
              refine hK _ _ ⟨HSS.out _ hB24, ?_⟩
              clear hK hv
              go_simp
              refine wpAnyH_take (i := 3) (v := .int .i64 (aggsOf (pre.map view)).length) rfl (by kernel_rfl) (by kernel_rfl) (by kernel_rfl) (fun _ _ _ h => h) (Or.inl ⟨rfl, fun V hV => ?_⟩) (HSS.out _ hB24) ?_
              · go_simp
              go_simp
              have HRV := Kd.R_below HR.out (below_then hW1 hW1.size hB24)
              obtain ⟨hokR, inner, hownR, hrepsR⟩ := HRV
              have hlr : (aggsOf (pre.map view)).length ≤ 1048576 := by omega
              obtain ⟨i0, hi0, hz0, hz1, hz2⟩ := info_parts info24
              refine wpAnyH_all (rs := [5]) (by kernel_rfl) (by simp) ?_
              intro i hi
              obtain rfl : i = 5 := by simpa using hi
              refine wpOp_step rfl (fun K hK => ?_)
              refine step_append_lies _ rfl (.tmp 22) (.tmp 26) 22 rfl w.heap.size 24 i0 _ 5 64 Tryd.underlying22 hi0 hz0 hz1 hz2 rfl (by decide) (.slice Ao (aggsOf (pre.map view)).length co) (aggsOf (pre.map view)).length inner rfl hownR ⟨bz, 0, none⟩ 1 1 [.int .i64 0, .string ⟨#[]⟩, .int .i64 0, .int .i64 0, .slice none 0 0] rfl rfl (fun j u hu => by rw [add_plain, blk_cell hz j]; simpa using hu) (by intro u hu; simp at hu; rcases hu with rfl | rfl | rfl | rfl | rfl <;> rfl) (by decide) (by unfold maxLen; omega) (by omega) (Nat.le_trans HB.out.size (below_then hW1 hW1.size hB24).size) V24.heap.size rfl ?_
              intro g cap w5 hown5 hg5 hat5 hgl
              have hgW : ∀ k, (Value.slice Ao (aggsOf (pre.map view)).length co).ownBlock = some k → k < W.heap.size := fun k e => by obtain ⟨_, inner', hown', _⟩ := HR.out; exact own_lt hown' k e
              have hgb : w.heap.size ≤ g := by
                rcases hat5 with e | e
                · exact own_base hownR g e
                · have := hB24.size; have := hW1.size; have := HB.out.size; omega
              have hgbo : g ≠ w.heap.size + 1 := by
                rcases hat5 with e | e
                · exact HR.out.1 g e
                · have := hB24.size; omega
              have hgbx : g ≠ bx := by
                rintro rfl
                rcases hat5 with e | e
                · exact HNE.out e
                · have := hB24.size; omega
              have hlen5 : (Value.slice Ao (aggsOf (pre.map view)).length co).ownBlock ≠ some bx := HNE.out
              have hS5 : w5.cell? ⟨bx, 0, none⟩ = some (.int .i64 yx.f0) ∧ w5.cell? ⟨bx, 1, none⟩ = some (.string yx.f1) ∧ w5.cell? ⟨bx, 2, none⟩ = some (.int .i64 yx.f2) ∧ w5.cell? ⟨bx, 3, none⟩ = some (.int .i64 yx.f3) ∧ w5.cell? ⟨bx, 4, none⟩ = some (.slice A' yx.f4.length c') := by
                have hb : w5.heap[bx]? = V24.heap[bx]? := hg5.block bx (by have := hB24.size; omega) (fun e => HNE.out e.symm)
                obtain ⟨g0, g1, g2, g3, g4⟩ := HSS.out _ hB24
                exact ⟨(World.cell?_of_block (a := ⟨bx, 0, none⟩) hb).trans g0, (World.cell?_of_block (a := ⟨bx, 1, none⟩) hb).trans g1, (World.cell?_of_block (a := ⟨bx, 2, none⟩) hb).trans g2, (World.cell?_of_block (a := ⟨bx, 3, none⟩) hb).trans g3, (World.cell?_of_block (a := ⟨bx, 4, none⟩) hb).trans g4⟩
              have hR5 : Kd.R k24 24 w5 w.heap.size (fun k => k ≠ w.heap.size + 1) (.slice (some ⟨g, 0, none⟩) ((aggsOf (pre.map view)).length + 1) cap) (aggsOf (pre.map view) ++ [z24]) :=
                Kd.R_appended (okp := fun _ => False) hokR hrepsR (k24_mkM V24 w.heap.size (fun _ => False) z24 (Kd.R_nil _ _ _ _ _)) (fun k hk => hk.elim) (fun k hk => by have := hB24.size; omega) hown5 hg5 (hat5.imp (fun e => e.symm) (fun e => ⟨g, rfl, by omega⟩))
              have h4b : Kd.R k24 24 w5 w.heap.size (fun k => k ≠ w.heap.size + 1 ∧ k ≠ g) v4 yx.f4 := by
                have h1 := Kd.R_bound hR4
                have h2 := Kd.R_grown h1 hg5 (fun k hk e => by
                  obtain ⟨_, hk1, _⟩ := hk
                  have := hgW k e.symm
                  have := hW1.size
                  omega)
                refine Kd.R_mono (Kd.R_lower h2 (by have := hW1.size; have := HB.out.size; omega)) (fun k hk => ?_)
                obtain ⟨_, hk1, hk2, _⟩ := hk
                refine ⟨by omega, fun e => ?_⟩
                rcases hat5 with e' | e'
                · have := hgW g e'; have := hW1.size; omega
                · omega
              have HR5 := Aside0.mk hR5
              have HR4 := Aside0.mk h4b
              have HS5 := Aside0.mk hS5
              have HOWN5 := Aside0.mk hown5
              have HG5 := Aside0.mk hg5
              have HAT5 := Aside0.mk hat5
              have hbo5 : w5.heap[w.heap.size + 1]? = some (.cells #[.slice Ao (aggsOf (pre.map view)).length co] 22 (0, 0)) := (hg5.block _ (by have := hB24.size; omega) (fun e => HR.out.1 _ e.symm rfl)).trans (blk_below HV.out (below_then hW1 hW1.size hB24))
              have HBO5 := Aside0.mk hbo5
              clear hbo5 hR5 h4b hS5 hown5 hg5 hat5 hownR hrepsR hokR hR4 hz
              refine hK _ _ ⟨HS5.out, ?_⟩
              clear hK
              go_simp
              refine wpAnyH_take (i := 6) (v := .pointer (some ⟨g, (aggsOf (pre.map view)).length * 5, none⟩)) rfl (by kernel_rfl) (by kernel_rfl) (by kernel_rfl) (fun _ _ _ h => h) (Or.inl ⟨rfl, fun V hV => ?_⟩) HS5.out ?_
              · go_simp
                intro h
                omega
              go_simp
              obtain ⟨A4, c4, rfl⟩ := Kd.R_slice HR4.out
              obtain ⟨cur, hcur, hcs⟩ := row_cells HOWN5.out
              have hcap : (aggsOf (pre.map view)).length * 5 + 5 ≤ cur.size := by omega
              have hsv : ∀ q ∈ ([.int .i64 yx.f0, .string yx.f1, .int .i64 yx.f2, .int .i64 yx.f3, .slice A4 yx.f4.length c4] : List Value), q.oneCell' = true := by
                intro u hu; simp at hu; rcases hu with rfl | rfl | rfl | rfl | rfl <;> rfl
              refine wpAnyH_all (rs := [7, 8]) (by kernel_rfl) (by simp) ?_
              intro i hi
              have hi3 : i = 7 ∨ i = 8 := by simpa using hi
              rcases hi3 with rfl | rfl
              · -- 7 8
                obtain ⟨hrow, hg7⟩ := set_last HR5.out HOWN5.out HR4.out
                have hst := run_store_run (P := Tryd.prog) 24 (.agg #[.int .i64 yx.f0, .string yx.f1, .int .i64 yx.f2, .int .i64 yx.f3, .slice A4 yx.f4.length c4]) _ hcur rfl (by kernel_rfl) hcap hsv
                refine wpOp_step rfl (fun K hK => ?_)
                refine T.store_step rfl 24 (.tmp 28) (.tmp 24) rfl rfl hst (hK _ _ ⟨?_, ?_⟩)
                · have hb : (w5.setCells g ((aggsOf (pre.map view)).length * 5) [.int .i64 yx.f0, .string yx.f1, .int .i64 yx.f2, .int .i64 yx.f3, .slice A4 yx.f4.length c4]).heap[bx]? = w5.heap[bx]? := setCells_far _ _ _ (fun e => hgbx e.symm)
                  obtain ⟨g0, g1, g2, g3, g4⟩ := HS5.out
                  exact ⟨(World.cell?_of_block (a := ⟨bx, 0, none⟩) hb).trans g0, (World.cell?_of_block (a := ⟨bx, 1, none⟩) hb).trans g1, (World.cell?_of_block (a := ⟨bx, 2, none⟩) hb).trans g2, (World.cell?_of_block (a := ⟨bx, 3, none⟩) hb).trans g3, (World.cell?_of_block (a := ⟨bx, 4, none⟩) hb).trans g4⟩
                have hbo6 : (w5.setCells g ((aggsOf (pre.map view)).length * 5) [.int .i64 yx.f0, .string yx.f1, .int .i64 yx.f2, .int .i64 yx.f3, .slice A4 yx.f4.length c4]).heap[w.heap.size + 1]? = some (.cells #[Value.slice Ao (aggsOf (pre.map view)).length co] 22 (0, 0)) := (setCells_far _ _ _ (fun e => hgbo e.symm)).trans HBO5.out
                have hst8 := run_store_run (P := Tryd.prog) (o := 0) 22 (.slice (some ⟨g, 0, none⟩) ((aggsOf (pre.map view)).length + 1) cap) _ hbo6 rfl (by kernel_rfl) (show 0 + 1 ≤ 1 from Nat.le_refl _) (one_slice _ _ _)
                clear hK hst
                go_simp
                refine wpAnyH_all (rs := [8]) (by kernel_rfl) (by simp) ?_
                intro i hi
                obtain rfl : i = 8 := by simpa using hi
                refine wpOp_step rfl (fun K hK => ?_)
                refine T.store_step rfl 22 (.tmp 3) (.tmp 27) rfl rfl hst8 (hK _ _ ⟨?_, ?_⟩)
                · have hb : ((w5.setCells g ((aggsOf (pre.map view)).length * 5) [.int .i64 yx.f0, .string yx.f1, .int .i64 yx.f2, .int .i64 yx.f3, .slice A4 yx.f4.length c4]).setCells (w.heap.size + 1) 0 [.slice (some ⟨g, 0, none⟩) ((aggsOf (pre.map view)).length + 1) cap]).heap[bx]? = w5.heap[bx]? := (setCells_far _ _ _ (by omega)).trans (setCells_far _ _ _ (fun e => hgbx e.symm))
                  obtain ⟨g0, g1, g2, g3, g4⟩ := HS5.out
                  exact ⟨(World.cell?_of_block (a := ⟨bx, 0, none⟩) hb).trans g0, (World.cell?_of_block (a := ⟨bx, 1, none⟩) hb).trans g1, (World.cell?_of_block (a := ⟨bx, 2, none⟩) hb).trans g2, (World.cell?_of_block (a := ⟨bx, 3, none⟩) hb).trans g3, (World.cell?_of_block (a := ⟨bx, 4, none⟩) hb).trans g4⟩
                clear hK hst8
                refine wpAnyH_done (by kernel_rfl) ?_ _
                have hsm1 := setCells_same (w.heap.size + 1) [.slice (some ⟨g, 0, none⟩) ((aggsOf (pre.map view)).length + 1) cap] 0 (w5.setCells g ((aggsOf (pre.map view)).length * 5) [.int .i64 yx.f0, .string yx.f1, .int .i64 yx.f2, .int .i64 yx.f3, .slice A4 yx.f4.length c4])
                have hsm2 := setCells_same g [.int .i64 yx.f0, .string yx.f1, .int .i64 yx.f2, .int .i64 yx.f3, .slice A4 yx.f4.length c4] ((aggsOf (pre.map view)).length * 5) w5
                exact fin_aggs (w7 := (w5.setCells g ((aggsOf (pre.map view)).length * 5) [.int .i64 yx.f0, .string yx.f1, .int .i64 yx.f2, .int .i64 yx.f3, .slice A4 yx.f4.length c4]).setCells (w.heap.size + 1) 0 [.slice (some ⟨g, 0, none⟩) ((aggsOf (pre.map view)).length + 1) cap]) HB.out HV.out HR.out (below_then hW1 hW1.size hB24) HG5.out HAT5.out hgl hgbo (by omega) (by rw [List.map_append]; exact HST.out) (fun k h1 h2 => (setCells_far _ _ _ h1).trans (setCells_far _ _ _ h2))
                  ⟨hsm1.1.trans hsm2.1, hsm1.2.1.trans hsm2.2.1, hsm1.2.2.1.trans hsm2.2.2.1, hsm1.2.2.2.trans hsm2.2.2.2⟩ (blk_set hbo6 0 _) (by rw [setCells_one]; exact Kd.R_far hrow (p := ⟨w.heap.size + 1, 0, none⟩) (fun k hk => hk) (.slice (some ⟨g, 0, none⟩) ((aggsOf (pre.map view)).length + 1) cap)) _
              · -- 8 7
                have hst8 := run_store_run (P := Tryd.prog) (o := 0) 22 (.slice (some ⟨g, 0, none⟩) ((aggsOf (pre.map view)).length + 1) cap) _ HBO5.out rfl (by kernel_rfl) (show 0 + 1 ≤ 1 from Nat.le_refl _) (one_slice _ _ _)
                refine wpOp_step rfl (fun K hK => ?_)
                refine T.store_step rfl 22 (.tmp 3) (.tmp 27) rfl rfl hst8 (hK _ _ ⟨?_, ?_⟩)
                · have hb : (w5.setCells (w.heap.size + 1) 0 [.slice (some ⟨g, 0, none⟩) ((aggsOf (pre.map view)).length + 1) cap]).heap[bx]? = w5.heap[bx]? := setCells_far _ _ _ (by omega)
                  obtain ⟨g0, g1, g2, g3, g4⟩ := HS5.out
                  exact ⟨(World.cell?_of_block (a := ⟨bx, 0, none⟩) hb).trans g0, (World.cell?_of_block (a := ⟨bx, 1, none⟩) hb).trans g1, (World.cell?_of_block (a := ⟨bx, 2, none⟩) hb).trans g2, (World.cell?_of_block (a := ⟨bx, 3, none⟩) hb).trans g3, (World.cell?_of_block (a := ⟨bx, 4, none⟩) hb).trans g4⟩
                have hcur6 : (w5.setCells (w.heap.size + 1) 0 [.slice (some ⟨g, 0, none⟩) ((aggsOf (pre.map view)).length + 1) cap]).heap[g]? = some (.cells cur 24 (0, 0)) := (setCells_far _ _ _ hgbo).trans hcur
                have hR6 := Kd.R_far HR5.out (p := ⟨w.heap.size + 1, 0, none⟩) (fun k hk => hk) (.slice (some ⟨g, 0, none⟩) ((aggsOf (pre.map view)).length + 1) cap)
                rw [← setCells_one] at hR6
                have ho6 := own_move HOWN5.out (w1 := w5.setCells (w.heap.size + 1) 0 [.slice (some ⟨g, 0, none⟩) ((aggsOf (pre.map view)).length + 1) cap]) (fun k hk => setCells_far _ _ _ (fun e => by have : g = k := (by simpa [Value.ownBlock] using hk); omega))
                have h46 := Kd.R_far HR4.out (p := ⟨w.heap.size + 1, 0, none⟩) (fun k hk => hk.1) (.slice (some ⟨g, 0, none⟩) ((aggsOf (pre.map view)).length + 1) cap)
                rw [← setCells_one] at h46
                obtain ⟨hrow, hg7⟩ := set_last (W := w5.setCells (w.heap.size + 1) 0 [.slice (some ⟨g, 0, none⟩) ((aggsOf (pre.map view)).length + 1) cap]) hR6 ho6 h46
                have hst := run_store_run (P := Tryd.prog) 24 (.agg #[.int .i64 yx.f0, .string yx.f1, .int .i64 yx.f2, .int .i64 yx.f3, .slice A4 yx.f4.length c4]) _ hcur6 rfl (by kernel_rfl) hcap hsv
                clear hK hst8 hR6 ho6 h46
                go_simp
                refine wpAnyH_all (rs := [7]) (by kernel_rfl) (by simp) ?_
                intro i hi
                obtain rfl : i = 7 := by simpa using hi
                refine wpOp_step rfl (fun K hK => ?_)
                refine T.store_step rfl 24 (.tmp 28) (.tmp 24) rfl rfl hst (hK _ _ ⟨?_, ?_⟩)
                · have hb : ((w5.setCells (w.heap.size + 1) 0 [.slice (some ⟨g, 0, none⟩) ((aggsOf (pre.map view)).length + 1) cap]).setCells g ((aggsOf (pre.map view)).length * 5) [.int .i64 yx.f0, .string yx.f1, .int .i64 yx.f2, .int .i64 yx.f3, .slice A4 yx.f4.length c4]).heap[bx]? = w5.heap[bx]? := (setCells_far _ _ _ (fun e => hgbx e.symm)).trans (setCells_far _ _ _ (by omega))
                  obtain ⟨g0, g1, g2, g3, g4⟩ := HS5.out
                  exact ⟨(World.cell?_of_block (a := ⟨bx, 0, none⟩) hb).trans g0, (World.cell?_of_block (a := ⟨bx, 1, none⟩) hb).trans g1, (World.cell?_of_block (a := ⟨bx, 2, none⟩) hb).trans g2, (World.cell?_of_block (a := ⟨bx, 3, none⟩) hb).trans g3, (World.cell?_of_block (a := ⟨bx, 4, none⟩) hb).trans g4⟩
                clear hK
                refine wpAnyH_done (by kernel_rfl) ?_ _
                have hsm1 := setCells_same (w.heap.size + 1) [.slice (some ⟨g, 0, none⟩) ((aggsOf (pre.map view)).length + 1) cap] 0 w5
                have hsm2 := setCells_same g [.int .i64 yx.f0, .string yx.f1, .int .i64 yx.f2, .int .i64 yx.f3, .slice A4 yx.f4.length c4] ((aggsOf (pre.map view)).length * 5) (w5.setCells (w.heap.size + 1) 0 [.slice (some ⟨g, 0, none⟩) ((aggsOf (pre.map view)).length + 1) cap])
                exact fin_aggs (w7 := (w5.setCells (w.heap.size + 1) 0 [.slice (some ⟨g, 0, none⟩) ((aggsOf (pre.map view)).length + 1) cap]).setCells g ((aggsOf (pre.map view)).length * 5) [.int .i64 yx.f0, .string yx.f1, .int .i64 yx.f2, .int .i64 yx.f3, .slice A4 yx.f4.length c4]) HB.out HV.out HR.out (below_then hW1 hW1.size hB24) HG5.out HAT5.out hgl hgbo (by omega) (by rw [List.map_append]; exact HST.out) (fun k h1 h2 => (setCells_far _ _ _ h2).trans (setCells_far _ _ _ h1))
                  ⟨hsm2.1.trans hsm1.1, hsm2.2.1.trans hsm1.2.1, hsm2.2.2.1.trans hsm1.2.2.1, hsm2.2.2.2.trans hsm1.2.2.2⟩ ((setCells_far _ _ _ (fun e => hgbo e.symm)).trans (blk_set HBO5.out 0 _)) hrow _
          · -- 4
            refine wpOp_step rfl (fun K hK => ?_)
            go_simp
            obtain ⟨V14, hV14⟩ : ∃ Vz : World, Vz = V0.alloc (.cells #[.int .i64 0, .string ⟨#[]⟩, .int .i64 0, .int .i64 0, .slice none 0 0] 24) := ⟨_, rfl⟩
            have hbV14 : Below V0.heap.size V0 V14 := by rw [hV14]; exact (Below.refl _ _).alloc (Nat.le_refl _) _
            have hz : V14.heap[V0.heap.size]? = some (.cells #[.int .i64 0, .string ⟨#[]⟩, .int .i64 0, .int .i64 0, .slice none 0 0] 24 (0, 0)) := by rw [hV14]; exact blk_new _ _
            obtain ⟨bz, hbz⟩ : ∃ bz, bz = V0.heap.size := ⟨_, rfl⟩
            rw [← hbz] at hz
            rw [← hV14, ← hbz]
            have hB14 := below_then hB0 hB0.size hbV14
            refine hK _ _ ⟨HSS.out _ hB14, ?_⟩
            clear hK hV14 hbz
            go_simp
            clear hbV14
            refine wpAnyH_all (rs := [0, 2]) (by kernel_rfl) (by simp) ?_
            intro i hi
            have hi3 : i = 0 ∨ i = 2 := by simpa using hi
            rcases hi3 with rfl | rfl
            · -- 0
              refine wpOp_step rfl (fun K hK => ?_)
              have hv := HVV.out _ hB14
              go_simp
              refine hK _ _ ⟨HSS.out _ hB14, ?_⟩
              clear hK hv
              go_simp
              refine wpAnyH_take (i := 3) (v := .int .i64 (aggsOf (pre.map view)).length) rfl (by kernel_rfl) (by kernel_rfl) (by kernel_rfl) (fun _ _ _ h => h) (Or.inl ⟨rfl, fun V hV => ?_⟩) (HSS.out _ hB14) ?_
              · go_simp
              go_simp
              refine wpAnyH_all (rs := [2]) (by kernel_rfl) (by simp) ?_
              intro i hi
              obtain rfl : i = 2 := by simpa using hi
              refine wpOp_step rfl (fun K hK => ?_)
              go_simp
              refine (HCC.out _ hB14).out.mono ?_
              rintro e V32 ⟨v4, rfl, hR4, hB4⟩
              have hB32 := below_then hB14 hB14.size hB4
              replace hR4 := Kd.R_lower hR4 hB14.size
              refine hK _ _ ⟨HSS.out _ hB32, ?_⟩
              clear hK
              go_simp
              replace hz := blk_below hz hB4
              clear hB4
              have HRV := Kd.R_below HR.out (below_then hW1 hW1.size hB32)
              obtain ⟨hokR, inner, hownR, hrepsR⟩ := HRV
              have hlr : (aggsOf (pre.map view)).length ≤ 1048576 := by omega
              obtain ⟨i0, hi0, hz0, hz1, hz2⟩ := info_parts info24
              refine wpAnyH_all (rs := [5]) (by kernel_rfl) (by simp) ?_
              intro i hi
              obtain rfl : i = 5 := by simpa using hi
              refine wpOp_step rfl (fun K hK => ?_)
              refine step_append_lies _ rfl (.tmp 22) (.tmp 26) 22 rfl w.heap.size 24 i0 _ 5 64 Tryd.underlying22 hi0 hz0 hz1 hz2 rfl (by decide) (.slice Ao (aggsOf (pre.map view)).length co) (aggsOf (pre.map view)).length inner rfl hownR ⟨bz, 0, none⟩ 1 1 [.int .i64 0, .string ⟨#[]⟩, .int .i64 0, .int .i64 0, .slice none 0 0] rfl rfl (fun j u hu => by rw [add_plain, blk_cell hz j]; simpa using hu) (by intro u hu; simp at hu; rcases hu with rfl | rfl | rfl | rfl | rfl <;> rfl) (by decide) (by unfold maxLen; omega) (by omega) (Nat.le_trans HB.out.size (below_then hW1 hW1.size hB32).size) V32.heap.size rfl ?_
              intro g cap w5 hown5 hg5 hat5 hgl
              have hgW : ∀ k, (Value.slice Ao (aggsOf (pre.map view)).length co).ownBlock = some k → k < W.heap.size := fun k e => by obtain ⟨_, inner', hown', _⟩ := HR.out; exact own_lt hown' k e
              have hgb : w.heap.size ≤ g := by
                rcases hat5 with e | e
                · exact own_base hownR g e
                · have := hB32.size; have := hW1.size; have := HB.out.size; omega
              have hgbo : g ≠ w.heap.size + 1 := by
                rcases hat5 with e | e
                · exact HR.out.1 g e
                · have := hB32.size; omega
              have hgbx : g ≠ bx := by
                rintro rfl
                rcases hat5 with e | e
                · exact HNE.out e
                · have := hB32.size; omega
              have hlen5 : (Value.slice Ao (aggsOf (pre.map view)).length co).ownBlock ≠ some bx := HNE.out
              have hS5 : w5.cell? ⟨bx, 0, none⟩ = some (.int .i64 yx.f0) ∧ w5.cell? ⟨bx, 1, none⟩ = some (.string yx.f1) ∧ w5.cell? ⟨bx, 2, none⟩ = some (.int .i64 yx.f2) ∧ w5.cell? ⟨bx, 3, none⟩ = some (.int .i64 yx.f3) ∧ w5.cell? ⟨bx, 4, none⟩ = some (.slice A' yx.f4.length c') := by
                have hb : w5.heap[bx]? = V32.heap[bx]? := hg5.block bx (by have := hB32.size; omega) (fun e => HNE.out e.symm)
                obtain ⟨g0, g1, g2, g3, g4⟩ := HSS.out _ hB32
                exact ⟨(World.cell?_of_block (a := ⟨bx, 0, none⟩) hb).trans g0, (World.cell?_of_block (a := ⟨bx, 1, none⟩) hb).trans g1, (World.cell?_of_block (a := ⟨bx, 2, none⟩) hb).trans g2, (World.cell?_of_block (a := ⟨bx, 3, none⟩) hb).trans g3, (World.cell?_of_block (a := ⟨bx, 4, none⟩) hb).trans g4⟩
              have hR5 : Kd.R k24 24 w5 w.heap.size (fun k => k ≠ w.heap.size + 1) (.slice (some ⟨g, 0, none⟩) ((aggsOf (pre.map view)).length + 1) cap) (aggsOf (pre.map view) ++ [z24]) :=
                Kd.R_appended (okp := fun _ => False) hokR hrepsR (k24_mkM V32 w.heap.size (fun _ => False) z24 (Kd.R_nil _ _ _ _ _)) (fun k hk => hk.elim) (fun k hk => by have := hB32.size; omega) hown5 hg5 (hat5.imp (fun e => e.symm) (fun e => ⟨g, rfl, by omega⟩))
              have h4b : Kd.R k24 24 w5 w.heap.size (fun k => k ≠ w.heap.size + 1 ∧ k ≠ g) v4 yx.f4 := by
                have h1 := Kd.R_bound hR4
                have h2 := Kd.R_grown h1 hg5 (fun k hk e => by
                  obtain ⟨_, hk1, _⟩ := hk
                  have := hgW k e.symm
                  have := hW1.size
                  omega)
                refine Kd.R_mono (Kd.R_lower h2 (by have := hW1.size; have := HB.out.size; omega)) (fun k hk => ?_)
                obtain ⟨_, hk1, hk2, _⟩ := hk
                refine ⟨by omega, fun e => ?_⟩
                rcases hat5 with e' | e'
                · have := hgW g e'; have := hW1.size; omega
                · omega
              have HR5 := Aside0.mk hR5
              have HR4 := Aside0.mk h4b
              have HS5 := Aside0.mk hS5
              have HOWN5 := Aside0.mk hown5
              have HG5 := Aside0.mk hg5
              have HAT5 := Aside0.mk hat5
              have hbo5 : w5.heap[w.heap.size + 1]? = some (.cells #[.slice Ao (aggsOf (pre.map view)).length co] 22 (0, 0)) := (hg5.block _ (by have := hB32.size; omega) (fun e => HR.out.1 _ e.symm rfl)).trans (blk_below HV.out (below_then hW1 hW1.size hB32))
              have HBO5 := Aside0.mk hbo5
              clear hbo5 hR5 h4b hS5 hown5 hg5 hat5 hownR hrepsR hokR hR4 hz
              refine hK _ _ ⟨HS5.out, ?_⟩
              clear hK
              go_simp
              refine wpAnyH_take (i := 6) (v := .pointer (some ⟨g, (aggsOf (pre.map view)).length * 5, none⟩)) rfl (by kernel_rfl) (by kernel_rfl) (by kernel_rfl) (fun _ _ _ h => h) (Or.inl ⟨rfl, fun V hV => ?_⟩) HS5.out ?_
              · go_simp
                intro h
                omega
              go_simp
              obtain ⟨A4, c4, rfl⟩ := Kd.R_slice HR4.out
              obtain ⟨cur, hcur, hcs⟩ := row_cells HOWN5.out
              have hcap : (aggsOf (pre.map view)).length * 5 + 5 ≤ cur.size := by omega
              have hsv : ∀ q ∈ ([.int .i64 yx.f0, .string yx.f1, .int .i64 yx.f2, .int .i64 yx.f3, .slice A4 yx.f4.length c4] : List Value), q.oneCell' = true := by
                intro u hu; simp at hu; rcases hu with rfl | rfl | rfl | rfl | rfl <;> rfl
              refine wpAnyH_all (rs := [7, 8]) (by kernel_rfl) (by simp) ?_
              intro i hi
              have hi3 : i = 7 ∨ i = 8 := by simpa using hi
              rcases hi3 with rfl | rfl
              · -- 7 8
                obtain ⟨hrow, hg7⟩ := set_last HR5.out HOWN5.out HR4.out
                have hst := run_store_run (P := Tryd.prog) 24 (.agg #[.int .i64 yx.f0, .string yx.f1, .int .i64 yx.f2, .int .i64 yx.f3, .slice A4 yx.f4.length c4]) _ hcur rfl (by kernel_rfl) hcap hsv
                refine wpOp_step rfl (fun K hK => ?_)
                refine T.store_step rfl 24 (.tmp 28) (.tmp 24) rfl rfl hst (hK _ _ ⟨?_, ?_⟩)
                · have hb : (w5.setCells g ((aggsOf (pre.map view)).length * 5) [.int .i64 yx.f0, .string yx.f1, .int .i64 yx.f2, .int .i64 yx.f3, .slice A4 yx.f4.length c4]).heap[bx]? = w5.heap[bx]? := setCells_far _ _ _ (fun e => hgbx e.symm)
                  obtain ⟨g0, g1, g2, g3, g4⟩ := HS5.out
                  exact ⟨(World.cell?_of_block (a := ⟨bx, 0, none⟩) hb).trans g0, (World.cell?_of_block (a := ⟨bx, 1, none⟩) hb).trans g1, (World.cell?_of_block (a := ⟨bx, 2, none⟩) hb).trans g2, (World.cell?_of_block (a := ⟨bx, 3, none⟩) hb).trans g3, (World.cell?_of_block (a := ⟨bx, 4, none⟩) hb).trans g4⟩
                have hbo6 : (w5.setCells g ((aggsOf (pre.map view)).length * 5) [.int .i64 yx.f0, .string yx.f1, .int .i64 yx.f2, .int .i64 yx.f3, .slice A4 yx.f4.length c4]).heap[w.heap.size + 1]? = some (.cells #[Value.slice Ao (aggsOf (pre.map view)).length co] 22 (0, 0)) := (setCells_far _ _ _ (fun e => hgbo e.symm)).trans HBO5.out
                have hst8 := run_store_run (P := Tryd.prog) (o := 0) 22 (.slice (some ⟨g, 0, none⟩) ((aggsOf (pre.map view)).length + 1) cap) _ hbo6 rfl (by kernel_rfl) (show 0 + 1 ≤ 1 from Nat.le_refl _) (one_slice _ _ _)
                clear hK hst
                go_simp
                refine wpAnyH_all (rs := [8]) (by kernel_rfl) (by simp) ?_
                intro i hi
                obtain rfl : i = 8 := by simpa using hi
                refine wpOp_step rfl (fun K hK => ?_)
                refine T.store_step rfl 22 (.tmp 3) (.tmp 27) rfl rfl hst8 (hK _ _ ⟨?_, ?_⟩)
                · have hb : ((w5.setCells g ((aggsOf (pre.map view)).length * 5) [.int .i64 yx.f0, .string yx.f1, .int .i64 yx.f2, .int .i64 yx.f3, .slice A4 yx.f4.length c4]).setCells (w.heap.size + 1) 0 [.slice (some ⟨g, 0, none⟩) ((aggsOf (pre.map view)).length + 1) cap]).heap[bx]? = w5.heap[bx]? := (setCells_far _ _ _ (by omega)).trans (setCells_far _ _ _ (fun e => hgbx e.symm))
                  obtain ⟨g0, g1, g2, g3, g4⟩ := HS5.out
                  exact ⟨(World.cell?_of_block (a := ⟨bx, 0, none⟩) hb).trans g0, (World.cell?_of_block (a := ⟨bx, 1, none⟩) hb).trans g1, (World.cell?_of_block (a := ⟨bx, 2, none⟩) hb).trans g2, (World.cell?_of_block (a := ⟨bx, 3, none⟩) hb).trans g3, (World.cell?_of_block (a := ⟨bx, 4, none⟩) hb).trans g4⟩
                clear hK hst8
                refine wpAnyH_done (by kernel_rfl) ?_ _
                have hsm1 := setCells_same (w.heap.size + 1) [.slice (some ⟨g, 0, none⟩) ((aggsOf (pre.map view)).length + 1) cap] 0 (w5.setCells g ((aggsOf (pre.map view)).length * 5) [.int .i64 yx.f0, .string yx.f1, .int .i64 yx.f2, .int .i64 yx.f3, .slice A4 yx.f4.length c4])
                have hsm2 := setCells_same g [.int .i64 yx.f0, .string yx.f1, .int .i64 yx.f2, .int .i64 yx.f3, .slice A4 yx.f4.length c4] ((aggsOf (pre.map view)).length * 5) w5
                exact fin_aggs (w7 := (w5.setCells g ((aggsOf (pre.map view)).length * 5) [.int .i64 yx.f0, .string yx.f1, .int .i64 yx.f2, .int .i64 yx.f3, .slice A4 yx.f4.length c4]).setCells (w.heap.size + 1) 0 [.slice (some ⟨g, 0, none⟩) ((aggsOf (pre.map view)).length + 1) cap]) HB.out HV.out HR.out (below_then hW1 hW1.size hB32) HG5.out HAT5.out hgl hgbo (by omega) (by rw [List.map_append]; exact HST.out) (fun k h1 h2 => (setCells_far _ _ _ h1).trans (setCells_far _ _ _ h2))
                  ⟨hsm1.1.trans hsm2.1, hsm1.2.1.trans hsm2.2.1, hsm1.2.2.1.trans hsm2.2.2.1, hsm1.2.2.2.trans hsm2.2.2.2⟩ (blk_set hbo6 0 _) (by rw [setCells_one]; exact Kd.R_far hrow (p := ⟨w.heap.size + 1, 0, none⟩) (fun k hk => hk) (.slice (some ⟨g, 0, none⟩) ((aggsOf (pre.map view)).length + 1) cap)) _
              · -- 8 7
                have hst8 := run_store_run (P := Tryd.prog) (o := 0) 22 (.slice (some ⟨g, 0, none⟩) ((aggsOf (pre.map view)).length + 1) cap) _ HBO5.out rfl (by kernel_rfl) (show 0 + 1 ≤ 1 from Nat.le_refl _) (one_slice _ _ _)
                refine wpOp_step rfl (fun K hK => ?_)
                refine T.store_step rfl 22 (.tmp 3) (.tmp 27) rfl rfl hst8 (hK _ _ ⟨?_, ?_⟩)
                · have hb : (w5.setCells (w.heap.size + 1) 0 [.slice (some ⟨g, 0, none⟩) ((aggsOf (pre.map view)).length + 1) cap]).heap[bx]? = w5.heap[bx]? := setCells_far _ _ _ (by omega)
                  obtain ⟨g0, g1, g2, g3, g4⟩ := HS5.out
                  exact ⟨(World.cell?_of_block (a := ⟨bx, 0, none⟩) hb).trans g0, (World.cell?_of_block (a := ⟨bx, 1, none⟩) hb).trans g1, (World.cell?_of_block (a := ⟨bx, 2, none⟩) hb).trans g2, (World.cell?_of_block (a := ⟨bx, 3, none⟩) hb).trans g3, (World.cell?_of_block (a := ⟨bx, 4, none⟩) hb).trans g4⟩
                have hcur6 : (w5.setCells (w.heap.size + 1) 0 [.slice (some ⟨g, 0, none⟩) ((aggsOf (pre.map view)).length + 1) cap]).heap[g]? = some (.cells cur 24 (0, 0)) := (setCells_far _ _ _ hgbo).trans hcur
                have hR6 := Kd.R_far HR5.out (p := ⟨w.heap.size + 1, 0, none⟩) (fun k hk => hk) (.slice (some ⟨g, 0, none⟩) ((aggsOf (pre.map view)).length + 1) cap)
                rw [← setCells_one] at hR6
                have ho6 := own_move HOWN5.out (w1 := w5.setCells (w.heap.size + 1) 0 [.slice (some ⟨g, 0, none⟩) ((aggsOf (pre.map view)).length + 1) cap]) (fun k hk => setCells_far _ _ _ (fun e => by have : g = k := (by simpa [Value.ownBlock] using hk); omega))
                have h46 := Kd.R_far HR4.out (p := ⟨w.heap.size + 1, 0, none⟩) (fun k hk => hk.1) (.slice (some ⟨g, 0, none⟩) ((aggsOf (pre.map view)).length + 1) cap)
                rw [← setCells_one] at h46
                obtain ⟨hrow, hg7⟩ := set_last (W := w5.setCells (w.heap.size + 1) 0 [.slice (some ⟨g, 0, none⟩) ((aggsOf (pre.map view)).length + 1) cap]) hR6 ho6 h46
                have hst := run_store_run (P := Tryd.prog) 24 (.agg #[.int .i64 yx.f0, .string yx.f1, .int .i64 yx.f2, .int .i64 yx.f3, .slice A4 yx.f4.length c4]) _ hcur6 rfl (by kernel_rfl) hcap hsv
                clear hK hst8 hR6 ho6 h46
                go_simp
                refine wpAnyH_all (rs := [7]) (by kernel_rfl) (by simp) ?_
                intro i hi
                obtain rfl : i = 7 := by simpa using hi
                refine wpOp_step rfl (fun K hK => ?_)
                refine T.store_step rfl 24 (.tmp 28) (.tmp 24) rfl rfl hst (hK _ _ ⟨?_, ?_⟩)
                · have hb : ((w5.setCells (w.heap.size + 1) 0 [.slice (some ⟨g, 0, none⟩) ((aggsOf (pre.map view)).length + 1) cap]).setCells g ((aggsOf (pre.map view)).length * 5) [.int .i64 yx.f0, .string yx.f1, .int .i64 yx.f2, .int .i64 yx.f3, .slice A4 yx.f4.length c4]).heap[bx]? = w5.heap[bx]? := (setCells_far _ _ _ (fun e => hgbx e.symm)).trans (setCells_far _ _ _ (by omega))
                  obtain ⟨g0, g1, g2, g3, g4⟩ := HS5.out
                  exact ⟨(World.cell?_of_block (a := ⟨bx, 0, none⟩) hb).trans g0, (World.cell?_of_block (a := ⟨bx, 1, none⟩) hb).trans g1, (World.cell?_of_block (a := ⟨bx, 2, none⟩) hb).trans g2, (World.cell?_of_block (a := ⟨bx, 3, none⟩) hb).trans g3, (World.cell?_of_block (a := ⟨bx, 4, none⟩) hb).trans g4⟩
                clear hK
                refine wpAnyH_done (by kernel_rfl) ?_ _
                have hsm1 := setCells_same (w.heap.size + 1) [.slice (some ⟨g, 0, none⟩) ((aggsOf (pre.map view)).length + 1) cap] 0 w5
                have hsm2 := setCells_same g [.int .i64 yx.f0, .string yx.f1, .int .i64 yx.f2, .int .i64 yx.f3, .slice A4 yx.f4.length c4] ((aggsOf (pre.map view)).length * 5) (w5.setCells (w.heap.size + 1) 0 [.slice (some ⟨g, 0, none⟩) ((aggsOf (pre.map view)).length + 1) cap])
                exact fin_aggs (w7 := (w5.setCells (w.heap.size + 1) 0 [.slice (some ⟨g, 0, none⟩) ((aggsOf (pre.map view)).length + 1) cap]).setCells g ((aggsOf (pre.map view)).length * 5) [.int .i64 yx.f0, .string yx.f1, .int .i64 yx.f2, .int .i64 yx.f3, .slice A4 yx.f4.length c4]) HB.out HV.out HR.out (below_then hW1 hW1.size hB32) HG5.out HAT5.out hgl hgbo (by omega) (by rw [List.map_append]; exact HST.out) (fun k h1 h2 => (setCells_far _ _ _ h2).trans (setCells_far _ _ _ h1))
                  ⟨hsm2.1.trans hsm1.1, hsm2.2.1.trans hsm1.2.1, hsm2.2.2.1.trans hsm1.2.2.1, hsm2.2.2.2.trans hsm1.2.2.2⟩ ((setCells_far _ _ _ (fun e => hgbo e.symm)).trans (blk_set HBO5.out 0 _)) hrow _
            · -- 2
              refine wpOp_step rfl (fun K hK => ?_)
              go_simp
              refine (HCC.out _ hB14).out.mono ?_
              rintro e V22 ⟨v4, rfl, hR4, hB4⟩
              have hB22 := below_then hB14 hB14.size hB4
              replace hR4 := Kd.R_lower hR4 hB14.size
              refine hK _ _ ⟨HSS.out _ hB22, ?_⟩
              clear hK
              go_simp
              replace hz := blk_below hz hB4
              clear hB4
              refine wpAnyH_all (rs := [0]) (by kernel_rfl) (by simp) ?_
              intro i hi
              obtain rfl : i = 0 := by simpa using hi
              refine wpOp_step rfl (fun K hK => ?_)
              have hv := HVV.out _ hB22
              go_simp
              refine hK _ _ ⟨HSS.out _ hB22, ?_⟩
              clear hK hv
              go_simp
              refine wpAnyH_take (i := 3) (v := .int .i64 (aggsOf (pre.map view)).length) rfl (by kernel_rfl) (by kernel_rfl) (by kernel_rfl) (fun _ _ _ h => h) (Or.inl ⟨rfl, fun V hV => ?_⟩) (HSS.out _ hB22) ?_
              · go_simp
              go_simp
              have HRV := Kd.R_below HR.out (below_then hW1 hW1.size hB22)
              obtain ⟨hokR, inner, hownR, hrepsR⟩ := HRV
              have hlr : (aggsOf (pre.map view)).length ≤ 1048576 := by omega
              obtain ⟨i0, hi0, hz0, hz1, hz2⟩ := info_parts info24
              refine wpAnyH_all (rs := [5]) (by kernel_rfl) (by simp) ?_
              intro i hi
              obtain rfl : i = 5 := by simpa using hi
              refine wpOp_step rfl (fun K hK => ?_)
              refine step_append_lies _ rfl (.tmp 22) (.tmp 26) 22 rfl w.heap.size 24 i0 _ 5 64 Tryd.underlying22 hi0 hz0 hz1 hz2 rfl (by decide) (.slice Ao (aggsOf (pre.map view)).length co) (aggsOf (pre.map view)).length inner rfl hownR ⟨bz, 0, none⟩ 1 1 [.int .i64 0, .string ⟨#[]⟩, .int .i64 0, .int .i64 0, .slice none 0 0] rfl rfl (fun j u hu => by rw [add_plain, blk_cell hz j]; simpa using hu) (by intro u hu; simp at hu; rcases hu with rfl | rfl | rfl | rfl | rfl <;> rfl) (by decide) (by unfold maxLen; omega) (by omega) (Nat.le_trans HB.out.size (below_then hW1 hW1.size hB22).size) V22.heap.size rfl ?_
              intro g cap w5 hown5 hg5 hat5 hgl
              have hgW : ∀ k, (Value.slice Ao (aggsOf (pre.map view)).length co).ownBlock = some k → k < W.heap.size := fun k e => by obtain ⟨_, inner', hown', _⟩ := HR.out; exact own_lt hown' k e
              have hgb : w.heap.size ≤ g := by
                rcases hat5 with e | e
                · exact own_base hownR g e
                · have := hB22.size; have := hW1.size; have := HB.out.size; omega
              have hgbo : g ≠ w.heap.size + 1 := by
                rcases hat5 with e | e
                · exact HR.out.1 g e
                · have := hB22.size; omega
              have hgbx : g ≠ bx := by
                rintro rfl
                rcases hat5 with e | e
                · exact HNE.out e
                · have := hB22.size; omega
              have hlen5 : (Value.slice Ao (aggsOf (pre.map view)).length co).ownBlock ≠ some bx := HNE.out
              have hS5 : w5.cell? ⟨bx, 0, none⟩ = some (.int .i64 yx.f0) ∧ w5.cell? ⟨bx, 1, none⟩ = some (.string yx.f1) ∧ w5.cell? ⟨bx, 2, none⟩ = some (.int .i64 yx.f2) ∧ w5.cell? ⟨bx, 3, none⟩ = some (.int .i64 yx.f3) ∧ w5.cell? ⟨bx, 4, none⟩ = some (.slice A' yx.f4.length c') := by
                have hb : w5.heap[bx]? = V22.heap[bx]? := hg5.block bx (by have := hB22.size; omega) (fun e => HNE.out e.symm)
                obtain ⟨g0, g1, g2, g3, g4⟩ := HSS.out _ hB22
                exact ⟨(World.cell?_of_block (a := ⟨bx, 0, none⟩) hb).trans g0, (World.cell?_of_block (a := ⟨bx, 1, none⟩) hb).trans g1, (World.cell?_of_block (a := ⟨bx, 2, none⟩) hb).trans g2, (World.cell?_of_block (a := ⟨bx, 3, none⟩) hb).trans g3, (World.cell?_of_block (a := ⟨bx, 4, none⟩) hb).trans g4⟩
              have hR5 : Kd.R k24 24 w5 w.heap.size (fun k => k ≠ w.heap.size + 1) (.slice (some ⟨g, 0, none⟩) ((aggsOf (pre.map view)).length + 1) cap) (aggsOf (pre.map view) ++ [z24]) :=
                Kd.R_appended (okp := fun _ => False) hokR hrepsR (k24_mkM V22 w.heap.size (fun _ => False) z24 (Kd.R_nil _ _ _ _ _)) (fun k hk => hk.elim) (fun k hk => by have := hB22.size; omega) hown5 hg5 (hat5.imp (fun e => e.symm) (fun e => ⟨g, rfl, by omega⟩))
              have h4b : Kd.R k24 24 w5 w.heap.size (fun k => k ≠ w.heap.size + 1 ∧ k ≠ g) v4 yx.f4 := by
                have h1 := Kd.R_bound hR4
                have h2 := Kd.R_grown h1 hg5 (fun k hk e => by
                  obtain ⟨_, hk1, _⟩ := hk
                  have := hgW k e.symm
                  have := hW1.size
                  omega)
                refine Kd.R_mono (Kd.R_lower h2 (by have := hW1.size; have := HB.out.size; omega)) (fun k hk => ?_)
                obtain ⟨_, hk1, hk2, _⟩ := hk
                refine ⟨by omega, fun e => ?_⟩
                rcases hat5 with e' | e'
                · have := hgW g e'; have := hW1.size; omega
                · omega
              have HR5 := Aside0.mk hR5
              have HR4 := Aside0.mk h4b
              have HS5 := Aside0.mk hS5
              have HOWN5 := Aside0.mk hown5
              have HG5 := Aside0.mk hg5
              have HAT5 := Aside0.mk hat5
              have hbo5 : w5.heap[w.heap.size + 1]? = some (.cells #[.slice Ao (aggsOf (pre.map view)).length co] 22 (0, 0)) := (hg5.block _ (by have := hB22.size; omega) (fun e => HR.out.1 _ e.symm rfl)).trans (blk_below HV.out (below_then hW1 hW1.size hB22))
              have HBO5 := Aside0.mk hbo5
              clear hbo5 hR5 h4b hS5 hown5 hg5 hat5 hownR hrepsR hokR hR4 hz
              refine hK _ _ ⟨HS5.out, ?_⟩
              clear hK
              go_simp
              refine wpAnyH_take (i := 6) (v := .pointer (some ⟨g, (aggsOf (pre.map view)).length * 5, none⟩)) rfl (by kernel_rfl) (by kernel_rfl) (by kernel_rfl) (fun _ _ _ h => h) (Or.inl ⟨rfl, fun V hV => ?_⟩) HS5.out ?_
              · go_simp
                intro h
                omega
              go_simp
              obtain ⟨A4, c4, rfl⟩ := Kd.R_slice HR4.out
              obtain ⟨cur, hcur, hcs⟩ := row_cells HOWN5.out
              have hcap : (aggsOf (pre.map view)).length * 5 + 5 ≤ cur.size := by omega
              have hsv : ∀ q ∈ ([.int .i64 yx.f0, .string yx.f1, .int .i64 yx.f2, .int .i64 yx.f3, .slice A4 yx.f4.length c4] : List Value), q.oneCell' = true := by
                intro u hu; simp at hu; rcases hu with rfl | rfl | rfl | rfl | rfl <;> rfl
              refine wpAnyH_all (rs := [7, 8]) (by kernel_rfl) (by simp) ?_
              intro i hi
              have hi3 : i = 7 ∨ i = 8 := by simpa using hi
              rcases hi3 with rfl | rfl
              · -- 7 8
                obtain ⟨hrow, hg7⟩ := set_last HR5.out HOWN5.out HR4.out
                have hst := run_store_run (P := Tryd.prog) 24 (.agg #[.int .i64 yx.f0, .string yx.f1, .int .i64 yx.f2, .int .i64 yx.f3, .slice A4 yx.f4.length c4]) _ hcur rfl (by kernel_rfl) hcap hsv
                refine wpOp_step rfl (fun K hK => ?_)
                refine T.store_step rfl 24 (.tmp 28) (.tmp 24) rfl rfl hst (hK _ _ ⟨?_, ?_⟩)
                · have hb : (w5.setCells g ((aggsOf (pre.map view)).length * 5) [.int .i64 yx.f0, .string yx.f1, .int .i64 yx.f2, .int .i64 yx.f3, .slice A4 yx.f4.length c4]).heap[bx]? = w5.heap[bx]? := setCells_far _ _ _ (fun e => hgbx e.symm)
                  obtain ⟨g0, g1, g2, g3, g4⟩ := HS5.out
                  exact ⟨(World.cell?_of_block (a := ⟨bx, 0, none⟩) hb).trans g0, (World.cell?_of_block (a := ⟨bx, 1, none⟩) hb).trans g1, (World.cell?_of_block (a := ⟨bx, 2, none⟩) hb).trans g2, (World.cell?_of_block (a := ⟨bx, 3, none⟩) hb).trans g3, (World.cell?_of_block (a := ⟨bx, 4, none⟩) hb).trans g4⟩
                have hbo6 : (w5.setCells g ((aggsOf (pre.map view)).length * 5) [.int .i64 yx.f0, .string yx.f1, .int .i64 yx.f2, .int .i64 yx.f3, .slice A4 yx.f4.length c4]).heap[w.heap.size + 1]? = some (.cells #[Value.slice Ao (aggsOf (pre.map view)).length co] 22 (0, 0)) := (setCells_far _ _ _ (fun e => hgbo e.symm)).trans HBO5.out
                have hst8 := run_store_run (P := Tryd.prog) (o := 0) 22 (.slice (some ⟨g, 0, none⟩) ((aggsOf (pre.map view)).length + 1) cap) _ hbo6 rfl (by kernel_rfl) (show 0 + 1 ≤ 1 from Nat.le_refl _) (one_slice _ _ _)
                clear hK hst
                go_simp
                refine wpAnyH_all (rs := [8]) (by kernel_rfl) (by simp) ?_
                intro i hi
                obtain rfl : i = 8 := by simpa using hi
                refine wpOp_step rfl (fun K hK => ?_)
                refine T.store_step rfl 22 (.tmp 3) (.tmp 27) rfl rfl hst8 (hK _ _ ⟨?_, ?_⟩)
                · have hb : ((w5.setCells g ((aggsOf (pre.map view)).length * 5) [.int .i64 yx.f0, .string yx.f1, .int .i64 yx.f2, .int .i64 yx.f3, .slice A4 yx.f4.length c4]).setCells (w.heap.size + 1) 0 [.slice (some ⟨g, 0, none⟩) ((aggsOf (pre.map view)).length + 1) cap]).heap[bx]? = w5.heap[bx]? := (setCells_far _ _ _ (by omega)).trans (setCells_far _ _ _ (fun e => hgbx e.symm))
                  obtain ⟨g0, g1, g2, g3, g4⟩ := HS5.out
                  exact ⟨(World.cell?_of_block (a := ⟨bx, 0, none⟩) hb).trans g0, (World.cell?_of_block (a := ⟨bx, 1, none⟩) hb).trans g1, (World.cell?_of_block (a := ⟨bx, 2, none⟩) hb).trans g2, (World.cell?_of_block (a := ⟨bx, 3, none⟩) hb).trans g3, (World.cell?_of_block (a := ⟨bx, 4, none⟩) hb).trans g4⟩
                clear hK hst8
                refine wpAnyH_done (by kernel_rfl) ?_ _
                have hsm1 := setCells_same (w.heap.size + 1) [.slice (some ⟨g, 0, none⟩) ((aggsOf (pre.map view)).length + 1) cap] 0 (w5.setCells g ((aggsOf (pre.map view)).length * 5) [.int .i64 yx.f0, .string yx.f1, .int .i64 yx.f2, .int .i64 yx.f3, .slice A4 yx.f4.length c4])
                have hsm2 := setCells_same g [.int .i64 yx.f0, .string yx.f1, .int .i64 yx.f2, .int .i64 yx.f3, .slice A4 yx.f4.length c4] ((aggsOf (pre.map view)).length * 5) w5
                exact fin_aggs (w7 := (w5.setCells g ((aggsOf (pre.map view)).length * 5) [.int .i64 yx.f0, .string yx.f1, .int .i64 yx.f2, .int .i64 yx.f3, .slice A4 yx.f4.length c4]).setCells (w.heap.size + 1) 0 [.slice (some ⟨g, 0, none⟩) ((aggsOf (pre.map view)).length + 1) cap]) HB.out HV.out HR.out (below_then hW1 hW1.size hB22) HG5.out HAT5.out hgl hgbo (by omega) (by rw [List.map_append]; exact HST.out) (fun k h1 h2 => (setCells_far _ _ _ h1).trans (setCells_far _ _ _ h2))
                  ⟨hsm1.1.trans hsm2.1, hsm1.2.1.trans hsm2.2.1, hsm1.2.2.1.trans hsm2.2.2.1, hsm1.2.2.2.trans hsm2.2.2.2⟩ (blk_set hbo6 0 _) (by rw [setCells_one]; exact Kd.R_far hrow (p := ⟨w.heap.size + 1, 0, none⟩) (fun k hk => hk) (.slice (some ⟨g, 0, none⟩) ((aggsOf (pre.map view)).length + 1) cap)) _
              · -- 8 7
                have hst8 := run_store_run (P := Tryd.prog) (o := 0) 22 (.slice (some ⟨g, 0, none⟩) ((aggsOf (pre.map view)).length + 1) cap) _ HBO5.out rfl (by kernel_rfl) (show 0 + 1 ≤ 1 from Nat.le_refl _) (one_slice _ _ _)
                refine wpOp_step rfl (fun K hK => ?_)
                refine T.store_step rfl 22 (.tmp 3) (.tmp 27) rfl rfl hst8 (hK _ _ ⟨?_, ?_⟩)
                · have hb : (w5.setCells (w.heap.size + 1) 0 [.slice (some ⟨g, 0, none⟩) ((aggsOf (pre.map view)).length + 1) cap]).heap[bx]? = w5.heap[bx]? := setCells_far _ _ _ (by omega)
                  obtain ⟨g0, g1, g2, g3, g4⟩ := HS5.out
                  exact ⟨(World.cell?_of_block (a := ⟨bx, 0, none⟩) hb).trans g0, (World.cell?_of_block (a := ⟨bx, 1, none⟩) hb).trans g1, (World.cell?_of_block (a := ⟨bx, 2, none⟩) hb).trans g2, (World.cell?_of_block (a := ⟨bx, 3, none⟩) hb).trans g3, (World.cell?_of_block (a := ⟨bx, 4, none⟩) hb).trans g4⟩
                have hcur6 : (w5.setCells (w.heap.size + 1) 0 [.slice (some ⟨g, 0, none⟩) ((aggsOf (pre.map view)).length + 1) cap]).heap[g]? = some (.cells cur 24 (0, 0)) := (setCells_far _ _ _ hgbo).trans hcur
                have hR6 := Kd.R_far HR5.out (p := ⟨w.heap.size + 1, 0, none⟩) (fun k hk => hk) (.slice (some ⟨g, 0, none⟩) ((aggsOf (pre.map view)).length + 1) cap)
                rw [← setCells_one] at hR6
                have ho6 := own_move HOWN5.out (w1 := w5.setCells (w.heap.size + 1) 0 [.slice (some ⟨g, 0, none⟩) ((aggsOf (pre.map view)).length + 1) cap]) (fun k hk => setCells_far _ _ _ (fun e => by have : g = k := (by simpa [Value.ownBlock] using hk); omega))
                have h46 := Kd.R_far HR4.out (p := ⟨w.heap.size + 1, 0, none⟩) (fun k hk => hk.1) (.slice (some ⟨g, 0, none⟩) ((aggsOf (pre.map view)).length + 1) cap)
                rw [← setCells_one] at h46
                obtain ⟨hrow, hg7⟩ := set_last (W := w5.setCells (w.heap.size + 1) 0 [.slice (some ⟨g, 0, none⟩) ((aggsOf (pre.map view)).length + 1) cap]) hR6 ho6 h46
                have hst := run_store_run (P := Tryd.prog) 24 (.agg #[.int .i64 yx.f0, .string yx.f1, .int .i64 yx.f2, .int .i64 yx.f3, .slice A4 yx.f4.length c4]) _ hcur6 rfl (by kernel_rfl) hcap hsv
                clear hK hst8 hR6 ho6 h46
                go_simp
                refine wpAnyH_all (rs := [7]) (by kernel_rfl) (by simp) ?_
                intro i hi
                obtain rfl : i = 7 := by simpa using hi
                refine wpOp_step rfl (fun K hK => ?_)
                refine T.store_step rfl 24 (.tmp 28) (.tmp 24) rfl rfl hst (hK _ _ ⟨?_, ?_⟩)
                · have hb : ((w5.setCells (w.heap.size + 1) 0 [.slice (some ⟨g, 0, none⟩) ((aggsOf (pre.map view)).length + 1) cap]).setCells g ((aggsOf (pre.map view)).length * 5) [.int .i64 yx.f0, .string yx.f1, .int .i64 yx.f2, .int .i64 yx.f3, .slice A4 yx.f4.length c4]).heap[bx]? = w5.heap[bx]? := (setCells_far _ _ _ (fun e => hgbx e.symm)).trans (setCells_far _ _ _ (by omega))
                  obtain ⟨g0, g1, g2, g3, g4⟩ := HS5.out
                  exact ⟨(World.cell?_of_block (a := ⟨bx, 0, none⟩) hb).trans g0, (World.cell?_of_block (a := ⟨bx, 1, none⟩) hb).trans g1, (World.cell?_of_block (a := ⟨bx, 2, none⟩) hb).trans g2, (World.cell?_of_block (a := ⟨bx, 3, none⟩) hb).trans g3, (World.cell?_of_block (a := ⟨bx, 4, none⟩) hb).trans g4⟩
                clear hK
                refine wpAnyH_done (by kernel_rfl) ?_ _
                have hsm1 := setCells_same (w.heap.size + 1) [.slice (some ⟨g, 0, none⟩) ((aggsOf (pre.map view)).length + 1) cap] 0 w5
                have hsm2 := setCells_same g [.int .i64 yx.f0, .string yx.f1, .int .i64 yx.f2, .int .i64 yx.f3, .slice A4 yx.f4.length c4] ((aggsOf (pre.map view)).length * 5) (w5.setCells (w.heap.size + 1) 0 [.slice (some ⟨g, 0, none⟩) ((aggsOf (pre.map view)).length + 1) cap])
                exact fin_aggs (w7 := (w5.setCells (w.heap.size + 1) 0 [.slice (some ⟨g, 0, none⟩) ((aggsOf (pre.map view)).length + 1) cap]).setCells g ((aggsOf (pre.map view)).length * 5) [.int .i64 yx.f0, .string yx.f1, .int .i64 yx.f2, .int .i64 yx.f3, .slice A4 yx.f4.length c4]) HB.out HV.out HR.out (below_then hW1 hW1.size hB22) HG5.out HAT5.out hgl hgbo (by omega) (by rw [List.map_append]; exact HST.out) (fun k h1 h2 => (setCells_far _ _ _ h2).trans (setCells_far _ _ _ h1))
                  ⟨hsm2.1.trans hsm1.1, hsm2.2.1.trans hsm1.2.1, hsm2.2.2.1.trans hsm1.2.2.1, hsm2.2.2.2.trans hsm1.2.2.2⟩ ((setCells_far _ _ _ (fun e => hgbo e.symm)).trans (blk_set HBO5.out 0 _)) hrow _
    · have hb1 : (yx.f0 != 14) = true := by simp [h14]
      have hst : stepA (aggsOf (pre.map view)) (yi, yx) = aggsOf (pre.map view) := by unfold stepA; rw [if_neg (by simp [h14])]
      have HST := Aside0.mk (hstep.trans hst)
      clear hst hstep h14
      gi_wp2_with fail
      refine ⟨trivial, ?_⟩
      gi_wp2_with fail
      refine ⟨(KeepsOthers.refl _).from _, Kp.refl _ _ _ _, ?_⟩
      obtain ⟨v, h1, h2, h3⟩ := HIW.out
      exact ⟨v, h1, by rw [List.map_append]; exact HST.out ▸ h2, h3⟩
  case done =>
    rintro D ys W hD hys hI hKD
    have HI := Aside0.mk hI
    obtain ⟨v, hc, hR, hB⟩ := hI
    obtain ⟨Ao, co, rfl, _, _⟩ := Kd.R_reads hR
    have hcell : W.cell? ⟨w.heap.size + 1, 0, none⟩ = some (.slice Ao (aggsOf (ys.map view)).length co) := (blk_cell hc 0).trans rfl
    have HC := Aside0.mk hc
    have HYS := Aside0.mk hys
    clear hc hys hR hB
    gi_wp2
    refine ⟨by simp, .inl ⟨_, _, rfl, run_takeDeferred hKD, ?_⟩⟩
    refine ⟨_, results_tmp rfl _ _ _, ?_⟩
    obtain ⟨v', h1, h2, h3⟩ := (IA_own w (w.heap.size + 1) w.heap.size (Nat.le_refl _)).putObj (.deferred none) HI.out (by omega) hKD rfl
    have hlt : w.heap.size + 1 < W.heap.size := blk_lt HC.out
    have he : (W.putObj D (.deferred none)).heap[w.heap.size + 1]? = W.heap[w.heap.size + 1]? := (grownBy_putObj' W D (.deferred none)).block _ hlt (fun e => by
      injection e with e
      have h := HC.out
      rw [e, hKD] at h
      injection h with h
      cases h)
    rw [he, HC.out] at h1
    injection h1 with h1
    injection h1 with h1
    injection h1 with h1
    injection h1 with h1
    rw [HYS.out, ← h1] at h2
    exact ⟨⟨_, rfl, Kd.R_mono h2 (fun _ _ => trivial)⟩, h3⟩
  case stop =>
    rintro D c pre W _ _ h _
    exact h.elim
end Go.Proofs.YtladneaaepcdbaaDoor.E
