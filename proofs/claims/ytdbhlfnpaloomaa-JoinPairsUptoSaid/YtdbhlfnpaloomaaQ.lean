/- (*join.Join).Add at either side. -/
import Derived.Test.YtdbhlfnpaloomaaO
namespace Go.Proofs.Ytdbhlfnpaloomaa.Q
open Go.RowKit Go.Proofs.YtdbhlfnpaloomaaW.PrintWords Go.Proofs.YtdbhlfnpaloomaaW.PrintLast Go.Proofs.YtdbhlfnpaloomaaW.PrintMore
open Go.Proofs.Ytdbhlfnpaloomaa.PSame Go.Proofs.Ytdbhlfnpaloomaa.A Go.Proofs.Ytdbhlfnpaloomaa.B Go.Proofs.Ytdbhlfnpaloomaa.F Go.Proofs.Ytdbhlfnpaloomaa.G Go.Proofs.Ytdbhlfnpaloomaa.H Go.Proofs.Ytdbhlfnpaloomaa.I Go.Proofs.Ytdbhlfnpaloomaa.J Go.Proofs.Ytdbhlfnpaloomaa.K Go.Proofs.Ytdbhlfnpaloomaa.L Go.Proofs.Ytdbhlfnpaloomaa.M Go.Proofs.Ytdbhlfnpaloomaa.N Go.Proofs.Ytdbhlfnpaloomaa.O
set_option linter.unusedVariables false
set_option linter.unusedSimpArgs false

theorem Sh.set40 {w : World} {base g i : Nat} {ok : Nat → Prop} {v : Value} {xs : List S30} {cells : Array Value} (h : Sh w base ok v xs) (hb : w.heap[g]? = some (.cells cells 40 (0, 0))) (u : Value) : Sh (w.setCell ⟨g, i, none⟩ u) base ok v xs := by
  have he : Eff (fun k => k = g) w (w.setCell ⟨g, i, none⟩ u) := (Eff.refl w (fun k => k = g)).set hb (by decide) (.inl rfl) u
  exact h.move he.k46 (fun k hk => he.kept.2 k (Kd.R_lt h k hk) (fun e => Kd.R_ne h hb (by decide) (e ▸ hk.symm)))
theorem SetIs.set40 {w : World} {base s g i : Nat} {n now last : Int} {took : Bool} {V H : List S30} {ok : Nat → Prop} {cells : Array Value} (h : SetIs w base s n now last took V H ok) (hb : w.heap[g]? = some (.cells cells 40 (0, 0))) (u : Value) : SetIs (w.setCell ⟨g, i, none⟩ u) base s n now last took V H ok := by
  obtain ⟨vs, vv, nb, vl, vh, h1, h2, h3, h4, h5, h6, h7, h8, h9⟩ := h
  exact ⟨vs, vv, nb, vl, vh, blk_far h1 (p := ⟨g, i, none⟩) (blk_ne h1 hb (by decide)) u, Kd.R_set h2 hb (by simp [Kd.raw]) i u, Kd.R_set h3 hb (by simp [Kd.raw]) i u, blk_far h4 (p := ⟨g, i, none⟩) (blk_ne h4 hb (by decide)) u, Sh.set40 h5 hb u, Sh.set40 h6 hb u, h7, h8, h9⟩
theorem JoinIs.set40 {w : World} {base j g i : Nat} {okA : Nat → Prop} {x y : St} {P : List S30} {cells : Array Value} (h : JoinIs w base okA j x y P) (hb : w.heap[g]? = some (.cells cells 40 (0, 0))) (u : Value) : JoinIs (w.setCell ⟨g, i, none⟩ u) base okA j x y P := by
  obtain ⟨s0, s1, vh, ok0, ok1, okj, b1, b2, b3, b4, b5, b6, b7, b8, b9⟩ := h
  have hz : (w.setCell ⟨g, i, none⟩ u).heap.size = w.heap.size := by simp [World.setCell]
  refine ⟨s0, s1, vh, ok0, ok1, okj, blk_far b1 (p := ⟨g, i, none⟩) (blk_ne b1 hb (by decide)) u, SetIs.set40 b2 hb u, SetIs.set40 b3 hb u, Sh.set40 b4 hb u, b5, b6, b7, b8, by rw [hz]; exact b9⟩

set_option maxRecDepth 100000 in
set_option maxHeartbeats 8000000 in
theorem joinAdd0_calls (base j : Nat) (okA : Nat → Prop) (x y : St) (P : List S30) (a : S30) (A2 : Option Addr) (c2 : Nat) (w : World) (h : JoinIs w base okA j x y P) (ha : Kd.C k46 w A2 a.f2.length a.f2) (hc2 : a.f2.length ≤ c2)
    (h0 : x.last < a.f0) (h1 : x.now ≤ a.f1) (h2 : a.f1 ≤ 1099511627776) (hn1 : 1 ≤ x.n) (hn2 : x.n ≤ 65536) (hVl : x.V.length ≤ 999999) (hV : Short x.V) (hH : Short x.H) (har : a.f2.length ≤ 4194304)
    (fx : Fine (x.add a).H) (fy : Fine y.H) (sP : Short P) (sQ : Short (pairs (x.add a).H y.H)) (hle : base ≤ w.heap.size) :
    Calls Try.prog 11 #[.pointer (some ⟨j, 0, none⟩), .int .i64 0, .agg #[.int .i64 a.f0, .int .i64 a.f1, .slice A2 a.f2.length c2]] w fun e w' => ∃ N' B1 e1 B2 e2, e = .returned (.agg #[.slice B1 (news (pairs (x.add a).H y.H) P).length e1, .slice B2 (news P (pairs (x.add a).H y.H)).length e2]) ∧ Kd.R k30 30 w' N' (fun _ => True) (.slice B1 (news (pairs (x.add a).H y.H) P).length e1) (news (pairs (x.add a).H y.H) P) ∧ Kd.R k30 30 w' N' (fun _ => True) (.slice B2 (news P (pairs (x.add a).H y.H)).length e2) (news P (pairs (x.add a).H y.H)) ∧ JoinIs w' base (fun k => okA k ∨ (w.heap.size ≤ k ∧ k < N')) j (x.add a) y (pairs (x.add a).H y.H) ∧ Eff okA w w' ∧ w.heap.size ≤ N' ∧ N' ≤ w'.heap.size := by
  obtain ⟨s0, s1, vh, ok0, ok1, okj, b1, b2, b3, b4, b5, b6, b7, b8, b9⟩ := h
  have P1 := Aside0.mk b1
  have P2 := Aside0.mk b2
  have P3 := Aside0.mk b3
  have P4 := Aside0.mk b4
  have P5 := Aside0.mk b5
  have P6 := Aside0.mk b6
  have P7 := Aside0.mk b7
  have P8 := Aside0.mk b8
  have P9 := Aside0.mk b9
  have HA := Aside0.mk ha
  clear b1 b2 b3 b4 b5 b6 b7 b8 b9 ha
  go_enter Try.func11, Try.ntmps11
  go_wp2_with fail
  obtain ⟨wa, hwa⟩ : ∃ wa : World, wa = (w.alloc (.cells #[.int .i64 a.f0, .int .i64 a.f1, .slice A2 a.f2.length c2] 30)).alloc (.cells #[.slice none 0 0, .slice none 0 0] 40) := ⟨_, rfl⟩
  have hBa : Below w.heap.size w wa := by rw [hwa]; exact below_alloc (below_alloc (Below.refl _ _) _) _
  have hgb : wa.heap[w.heap.size]? = some (.cells #[.int .i64 a.f0, .int .i64 a.f1, .slice A2 a.f2.length c2] 30 (0, 0)) := by rw [hwa]; exact blk_alloc (blk_new _ _) _
  have hg : wa.heap[w.heap.size + 1]? = some (.cells #[.slice none 0 0, .slice none 0 0] 40 (0, 0)) := by rw [hwa]; have := blk_new (w.alloc (.cells #[.int .i64 a.f0, .int .i64 a.f1, .slice A2 a.f2.length c2] 30)) (.cells #[.slice none 0 0, .slice none 0 0] 40); simpa using this
  rw [← hwa]
  obtain ⟨g, hge⟩ : ∃ g, g = w.heap.size + 1 := ⟨_, rfl⟩
  rw [← hge] at hg ⊢
  obtain ⟨gb, hgbe⟩ : ∃ gb, gb = w.heap.size := ⟨_, rfl⟩
  rw [← hgbe] at hgb ⊢
  have HGW := Aside0.mk (show w.heap.size ≤ g ∧ w.heap.size ≤ gb by omega)
  clear hwa hge hgbe
  refine wp_region_held (S := fun V' => (V'.cell? ⟨gb, 0, none⟩ = some (.int .i64 a.f0) ∧ V'.cell? ⟨gb, 1, none⟩ = some (.int .i64 a.f1) ∧ V'.cell? ⟨gb, 2, none⟩ = some (.slice A2 a.f2.length c2)) ∧ V'.cell? ⟨j, 0, none⟩ = some (.pointer (some ⟨s0, 0, none⟩)) ∧ V'.cell? ⟨j, 1, none⟩ = some (.pointer (some ⟨s1, 0, none⟩))) (by kernel_rfl) ?_
  obtain ⟨V1, hV1⟩ : ∃ V1 : World, V1 = { wa with drawn := wa.drawn + 1 } := ⟨_, rfl⟩
  have hB1 : Below wa.heap.size wa V1 := by rw [hV1]; exact ⟨rfl, rfl, rfl, Nat.le_refl _, fun _ _ => rfl⟩
  rw [← hV1]
  have HB1 := Aside0.mk (below_then hBa hBa.size hB1)
  have HG1 := Aside0.mk (blk_below hg hB1)
  have HGB1 := Aside0.mk (blk_below hgb hB1)
  have HJ1 := Aside0.mk (blk_below P1.out HB1.out)
  clear hV1 hB1 hBa hg hgb
  have HQ : Aside0 (∀ (V' : World), V'.heap[gb]? = some (.cells #[.int .i64 a.f0, .int .i64 a.f1, .slice A2 a.f2.length c2] 30 (0, 0)) → V'.heap[j]? = some (.cells #[.pointer (some ⟨s0, 0, none⟩), .pointer (some ⟨s1, 0, none⟩), vh] 51 (0, 0)) → ((V'.cell? ⟨gb, 0, none⟩ = some (.int .i64 a.f0) ∧ V'.cell? ⟨gb, 1, none⟩ = some (.int .i64 a.f1) ∧ V'.cell? ⟨gb, 2, none⟩ = some (.slice A2 a.f2.length c2)) ∧ V'.cell? ⟨j, 0, none⟩ = some (.pointer (some ⟨s0, 0, none⟩)) ∧ V'.cell? ⟨j, 1, none⟩ = some (.pointer (some ⟨s1, 0, none⟩)))) := ⟨fun V' h h' => ⟨⟨(blk_cell h 0).trans rfl, (blk_cell h 1).trans rfl, (blk_cell h 2).trans rfl⟩, (blk_cell h' 0).trans rfl, (blk_cell h' 1).trans rfl⟩⟩
  refine wpAnyH_take (i := 0) (v := (.pointer (some ⟨j, 0, none⟩))) rfl (by kernel_rfl) (by kernel_rfl) (by kernel_rfl) (fun _ _ _ h => h) (Or.inl ⟨by kernel_rfl, fun V hV => ?_⟩) (HQ.out _ HGB1.out HJ1.out) ?_
  · obtain ⟨⟨g0, g1, g2⟩, j0, j1⟩ := hV
    go_simp
  refine wpAnyH_take (i := 1) (v := (.int .i64 0)) rfl (by kernel_rfl) (by kernel_rfl) (by kernel_rfl) (fun _ _ _ h => h) (Or.inl ⟨by kernel_rfl, fun V hV => ?_⟩) (HQ.out _ HGB1.out HJ1.out) ?_
  · obtain ⟨⟨g0, g1, g2⟩, j0, j1⟩ := hV
    go_simp
  refine wpAnyH_take (i := 2) (v := (.pointer (some ⟨j, 0, none⟩))) rfl (by kernel_rfl) (by kernel_rfl) (by kernel_rfl) (fun _ _ _ h => h) (Or.inl ⟨by kernel_rfl, fun V hV => ?_⟩) (HQ.out _ HGB1.out HJ1.out) ?_
  · obtain ⟨⟨g0, g1, g2⟩, j0, j1⟩ := hV
    go_simp
  refine wpAnyH_take (i := 3) (v := (.pointer (some ⟨j, 0, none⟩))) rfl (by kernel_rfl) (by kernel_rfl) (by kernel_rfl) (fun _ _ _ h => h) (Or.inl ⟨by kernel_rfl, fun V hV => ?_⟩) (HQ.out _ HGB1.out HJ1.out) ?_
  · obtain ⟨⟨g0, g1, g2⟩, j0, j1⟩ := hV
    go_simp
  refine wpAnyH_take (i := 4) (v := (.pointer (some ⟨j, 0, none⟩))) rfl (by kernel_rfl) (by kernel_rfl) (by kernel_rfl) (fun _ _ _ h => h) (Or.inl ⟨by kernel_rfl, fun V hV => ?_⟩) (HQ.out _ HGB1.out HJ1.out) ?_
  · obtain ⟨⟨g0, g1, g2⟩, j0, j1⟩ := hV
    go_simp
  refine wpAnyH_take (i := 5) (v := (.pointer (some ⟨s0, 0, none⟩))) rfl (by kernel_rfl) (by kernel_rfl) (by kernel_rfl) (fun _ _ _ h => h) (Or.inl ⟨by kernel_rfl, fun V hV => ?_⟩) (HQ.out _ HGB1.out HJ1.out) ?_
  · obtain ⟨⟨g0, g1, g2⟩, j0, j1⟩ := hV
    go_simp
  refine wpAnyH_take (i := 6) (v := (.agg #[.int .i64 a.f0, .int .i64 a.f1, .slice A2 a.f2.length c2])) rfl (by kernel_rfl) (by kernel_rfl) (by kernel_rfl) (fun _ _ _ h => h) (Or.inl ⟨by kernel_rfl, fun V hV => ?_⟩) (HQ.out _ HGB1.out HJ1.out) ?_
  · obtain ⟨⟨g0, g1, g2⟩, j0, j1⟩ := hV
    go_simp
  go_simp
  refine wpAnyH_all (rs := [7]) (by kernel_rfl) (by simp) ?_
  intro i' hi'
  obtain rfl : i' = 7 := by simpa using hi'
  refine wpOp_step rfl (fun K hK => ?_)
  go_simp
  refine (setAdd_calls base s0 _ _ _ _ _ _ ok0 a A2 c2 V1 (SetIs.below P2.out HB1.out) (Kd.C_below HA.out HB1.out) hc2 h0 h1 h2 hn1 hn2 hVl hV hH har (Nat.le_trans hle HB1.out.size) (fun k hk => (P6.out k hk).1)).mono ?_
  rintro e w2 ⟨⟨r, rfl⟩, hs2, he2⟩
  have hj2 := blk_kept HJ1.out he2.kept (fun h => (P6.out _ h).2.2.2 P5.out)
  have hgb2 := blk_kept HGB1.out he2.kept (fun h => by have := P9.out _ (P6.out _ h).2.1; have := HGW.out; omega)
  have hg2 := blk_kept HG1.out he2.kept (fun h => by have := P9.out _ (P6.out _ h).2.1; have := HGW.out; omega)
  refine hK _ _ ⟨HQ.out _ hgb2 hj2, ?_⟩
  clear hK
  refine wpAnyH_done (by kernel_rfl) ?_ _
  have hgl : g < V1.heap.size := blk_lt HG1.out
  have hp9 := P9.out
  have hz2 : V1.heap.size ≤ w2.heap.size := he2.kept.1
  have hz1 : w.heap.size ≤ V1.heap.size := HB1.out.size
  have hs2b : SetSt w2 base s0 (x.add a) (fun k => ok0 k ∨ (V1.heap.size ≤ k ∧ k < w2.heap.size)) := SetIs.mono (SetIs.bound hs2) (fun k hk => hk.1.elim (fun h => .inl h) (fun h => .inr ⟨h, hk.2⟩))
  have hJ : JoinIs w2 base (fun k => okA k ∨ (w.heap.size ≤ k ∧ k < w2.heap.size)) j (x.add a) y P := by
    refine ⟨s0, s1, vh, fun k => ok0 k ∨ (V1.heap.size ≤ k ∧ k < w2.heap.size), ok1, okj, hj2, hs2b, SetIs.eff (SetIs.below P3.out HB1.out) he2 (fun k hk h => (P6.out k h).2.2.1 hk), ((P4.out.below HB1.out).eff he2 (fun k hk h => (P6.out k h).2.2.2 hk)), P5.out, ?_, ?_, ?_, fun k hk => hk.elim (fun h => ⟨(P9.out k h).1, by have := P9.out k h; omega⟩) (fun h => ⟨by omega, h.2⟩)⟩
    · intro k hk
      rcases hk with hk | hk
      · have := P6.out k hk; exact ⟨this.1, .inl this.2.1, this.2.2⟩
      · exact ⟨by omega, .inr ⟨by omega, hk.2⟩, fun h => by have := P9.out _ (P7.out k h).2.1; omega, fun h => by have := P9.out _ (P8.out k h).2; omega⟩
    · intro k hk; have := P7.out k hk; exact ⟨this.1, .inl this.2.1, this.2.2⟩
    · intro k hk; have := P8.out k hk; exact ⟨this.1, .inl this.2⟩
  have HE2 : Aside0 (Eff okA w w2) := ⟨(Eff.of_below HB1.out okA).then_ he2 (fun k hk => .inl (P6.out k hk).2.1)⟩
  have HJ := Aside0.mk hJ
  have HG2 := Aside0.mk hg2
  have HZ := Aside0.mk (show w.heap.size ≤ w2.heap.size by omega)
  clear hJ hg2 hj2 hgb2 he2 hs2 hs2b hgl hz1 hz2 HQ HG1 HGB1 HJ1
  go_wp2_with fail
  refine (turn_calls base j _ (x.add a) y P w2 HJ.out fx fy sP sQ (Nat.le_trans hle HZ.out)).mono ?_
  rintro e w3 ⟨N', B1, e1, B2, e2, rfl, hr1, hr2, hj3, he3, hn3, hn4⟩
  obtain ⟨N1, hN1⟩ : ∃ X, X = news (pairs (x.add a).H y.H) P := ⟨_, rfl⟩
  obtain ⟨N2, hN2⟩ : ∃ X, X = news P (pairs (x.add a).H y.H) := ⟨_, rfl⟩
  rw [← hN1] at hr1 ⊢
  rw [← hN2] at hr2 ⊢
  have HN1 := Aside0.mk hN1
  have HN2 := Aside0.mk hN2
  clear hN1 hN2
  have hgj : g ≠ j := by have := blk_lt P1.out; have := HGW.out; omega
  have hg3 := blk_kept HG2.out he3.kept hgj
  have HR1 := Aside0.mk hr1
  have HR2 := Aside0.mk hr2
  have HJ3 := Aside0.mk hj3
  have HE3 := Aside0.mk he3
  have HG3 := Aside0.mk hg3
  have HN3 := Aside0.mk hn3
  have HN4 := Aside0.mk hn4
  clear hr1 hr2 hj3 he3 hg3 hgj hn3 hn4
  have n0 : w3.cell? ⟨g, 0, none⟩ = some (.slice none 0 0) := (blk_cell HG3.out 0).trans rfl
  have n1 : w3.cell? ⟨g, 1, none⟩ = some (.slice none 0 0) := (blk_cell HG3.out 1).trans rfl
  have n2 : w3.frozen? ⟨g, 0, none⟩ = false := blk_frozen HG3.out 0
  have n3 : w3.frozen? ⟨g, 1, none⟩ = false := blk_frozen HG3.out 1
  go_wp2_with fail
  have hp : (w3.setCell ⟨g, 0, none⟩ (.slice B1 N1.length e1)).heap[g]? = some (.cells #[.slice B1 N1.length e1, .slice none 0 0] 40 (0, 0)) := blk_put HG3.out 0 _ rfl
  refine bodyPost_ret (results_cell_row rfl _ _ g 40 #[.slice B1 N1.length e1, .slice B2 N2.length e2] (0, 0) _ rfl (blk_put hp 1 _ rfl) Try.underlying40 rfl (by kernel_rfl)) rfl ?_
  have heg : Eff (fun k => k = g) w3 ((w3.setCell ⟨g, 0, none⟩ (.slice B1 N1.length e1)).setCell ⟨g, 1, none⟩ (.slice B2 N2.length e2)) := ((Eff.refl w3 (fun k => k = g)).set HG3.out (by decide) (.inl rfl) _).set hp (by decide) (.inl rfl) _
  rw [← HN1.out, ← HN2.out]
  have hE : ∀ q, q ∈ 30 :: k30.E → q ≠ 40 := by simp [k30, k46, Kd.iso, Kd.pair, Kd.slice, Kd.int, Kd.string, Kd.scalar]
  have hzF : ((w3.setCell ⟨g, 0, none⟩ (.slice B1 N1.length e1)).setCell ⟨g, 1, none⟩ (.slice B2 N2.length e2)).heap.size = w3.heap.size := by simp [World.setCell]
  refine ⟨N', B1, e1, B2, e2, rfl, Kd.R_set (Kd.R_set HR1.out HG3.out hE 0 _) hp hE 1 _, Kd.R_set (Kd.R_set HR2.out HG3.out hE 0 _) hp hE 1 _, (JoinIs.set40 (JoinIs.set40 HJ3.out HG3.out _) hp _).mono (fun k hk => ?_) (fun k hk => ?_), (HE2.out.then_ HE3.out (fun k hk => .inl (hk ▸ (P8.out _ P5.out).2))).then_ heg (fun k hk => .inr (by have := HGW.out; omega)), Nat.le_trans HZ.out HN3.out, by rw [hzF]; exact HN4.out⟩
  · have := HN3.out; have := HZ.out; rcases hk with (h | h) | h; exact .inl h; exact .inr (by omega); exact .inr (by omega)
  · rw [hzF]; rcases hk with h | h; exact ⟨(P9.out k h).1, by have := P9.out k h; have := HZ.out; have := HN3.out; have := HN4.out; omega⟩; exact ⟨by omega, by have := HN4.out; omega⟩

set_option maxRecDepth 100000 in
set_option maxHeartbeats 8000000 in
theorem joinAdd1_calls (base j : Nat) (okA : Nat → Prop) (x y : St) (P : List S30) (a : S30) (A2 : Option Addr) (c2 : Nat) (w : World) (h : JoinIs w base okA j x y P) (ha : Kd.C k46 w A2 a.f2.length a.f2) (hc2 : a.f2.length ≤ c2)
    (h0 : y.last < a.f0) (h1 : y.now ≤ a.f1) (h2 : a.f1 ≤ 1099511627776) (hn1 : 1 ≤ y.n) (hn2 : y.n ≤ 65536) (hVl : y.V.length ≤ 999999) (hV : Short y.V) (hH : Short y.H) (har : a.f2.length ≤ 4194304)
    (fx : Fine x.H) (fy : Fine (y.add a).H) (sP : Short P) (sQ : Short (pairs x.H (y.add a).H)) (hle : base ≤ w.heap.size) :
    Calls Try.prog 11 #[.pointer (some ⟨j, 0, none⟩), .int .i64 1, .agg #[.int .i64 a.f0, .int .i64 a.f1, .slice A2 a.f2.length c2]] w fun e w' => ∃ N' B1 e1 B2 e2, e = .returned (.agg #[.slice B1 (news (pairs x.H (y.add a).H) P).length e1, .slice B2 (news P (pairs x.H (y.add a).H)).length e2]) ∧ Kd.R k30 30 w' N' (fun _ => True) (.slice B1 (news (pairs x.H (y.add a).H) P).length e1) (news (pairs x.H (y.add a).H) P) ∧ Kd.R k30 30 w' N' (fun _ => True) (.slice B2 (news P (pairs x.H (y.add a).H)).length e2) (news P (pairs x.H (y.add a).H)) ∧ JoinIs w' base (fun k => okA k ∨ (w.heap.size ≤ k ∧ k < N')) j x (y.add a) (pairs x.H (y.add a).H) ∧ Eff okA w w' ∧ w.heap.size ≤ N' ∧ N' ≤ w'.heap.size := by
  obtain ⟨s0, s1, vh, ok0, ok1, okj, b1, b2, b3, b4, b5, b6, b7, b8, b9⟩ := h
  have P1 := Aside0.mk b1
  have P2 := Aside0.mk b2
  have P3 := Aside0.mk b3
  have P4 := Aside0.mk b4
  have P5 := Aside0.mk b5
  have P6 := Aside0.mk b6
  have P7 := Aside0.mk b7
  have P8 := Aside0.mk b8
  have P9 := Aside0.mk b9
  have HA := Aside0.mk ha
  clear b1 b2 b3 b4 b5 b6 b7 b8 b9 ha
  go_enter Try.func11, Try.ntmps11
  go_wp2_with fail
  obtain ⟨wa, hwa⟩ : ∃ wa : World, wa = (w.alloc (.cells #[.int .i64 a.f0, .int .i64 a.f1, .slice A2 a.f2.length c2] 30)).alloc (.cells #[.slice none 0 0, .slice none 0 0] 40) := ⟨_, rfl⟩
  have hBa : Below w.heap.size w wa := by rw [hwa]; exact below_alloc (below_alloc (Below.refl _ _) _) _
  have hgb : wa.heap[w.heap.size]? = some (.cells #[.int .i64 a.f0, .int .i64 a.f1, .slice A2 a.f2.length c2] 30 (0, 0)) := by rw [hwa]; exact blk_alloc (blk_new _ _) _
  have hg : wa.heap[w.heap.size + 1]? = some (.cells #[.slice none 0 0, .slice none 0 0] 40 (0, 0)) := by rw [hwa]; have := blk_new (w.alloc (.cells #[.int .i64 a.f0, .int .i64 a.f1, .slice A2 a.f2.length c2] 30)) (.cells #[.slice none 0 0, .slice none 0 0] 40); simpa using this
  rw [← hwa]
  obtain ⟨g, hge⟩ : ∃ g, g = w.heap.size + 1 := ⟨_, rfl⟩
  rw [← hge] at hg ⊢
  obtain ⟨gb, hgbe⟩ : ∃ gb, gb = w.heap.size := ⟨_, rfl⟩
  rw [← hgbe] at hgb ⊢
  have HGW := Aside0.mk (show w.heap.size ≤ g ∧ w.heap.size ≤ gb by omega)
  clear hwa hge hgbe
  refine wp_region_held (S := fun V' => (V'.cell? ⟨gb, 0, none⟩ = some (.int .i64 a.f0) ∧ V'.cell? ⟨gb, 1, none⟩ = some (.int .i64 a.f1) ∧ V'.cell? ⟨gb, 2, none⟩ = some (.slice A2 a.f2.length c2)) ∧ V'.cell? ⟨j, 0, none⟩ = some (.pointer (some ⟨s0, 0, none⟩)) ∧ V'.cell? ⟨j, 1, none⟩ = some (.pointer (some ⟨s1, 0, none⟩))) (by kernel_rfl) ?_
  obtain ⟨V1, hV1⟩ : ∃ V1 : World, V1 = { wa with drawn := wa.drawn + 1 } := ⟨_, rfl⟩
  have hB1 : Below wa.heap.size wa V1 := by rw [hV1]; exact ⟨rfl, rfl, rfl, Nat.le_refl _, fun _ _ => rfl⟩
  rw [← hV1]
  have HB1 := Aside0.mk (below_then hBa hBa.size hB1)
  have HG1 := Aside0.mk (blk_below hg hB1)
  have HGB1 := Aside0.mk (blk_below hgb hB1)
  have HJ1 := Aside0.mk (blk_below P1.out HB1.out)
  clear hV1 hB1 hBa hg hgb
  have HQ : Aside0 (∀ (V' : World), V'.heap[gb]? = some (.cells #[.int .i64 a.f0, .int .i64 a.f1, .slice A2 a.f2.length c2] 30 (0, 0)) → V'.heap[j]? = some (.cells #[.pointer (some ⟨s0, 0, none⟩), .pointer (some ⟨s1, 0, none⟩), vh] 51 (0, 0)) → ((V'.cell? ⟨gb, 0, none⟩ = some (.int .i64 a.f0) ∧ V'.cell? ⟨gb, 1, none⟩ = some (.int .i64 a.f1) ∧ V'.cell? ⟨gb, 2, none⟩ = some (.slice A2 a.f2.length c2)) ∧ V'.cell? ⟨j, 0, none⟩ = some (.pointer (some ⟨s0, 0, none⟩)) ∧ V'.cell? ⟨j, 1, none⟩ = some (.pointer (some ⟨s1, 0, none⟩)))) := ⟨fun V' h h' => ⟨⟨(blk_cell h 0).trans rfl, (blk_cell h 1).trans rfl, (blk_cell h 2).trans rfl⟩, (blk_cell h' 0).trans rfl, (blk_cell h' 1).trans rfl⟩⟩
  refine wpAnyH_take (i := 0) (v := (.pointer (some ⟨j, 0, none⟩))) rfl (by kernel_rfl) (by kernel_rfl) (by kernel_rfl) (fun _ _ _ h => h) (Or.inl ⟨by kernel_rfl, fun V hV => ?_⟩) (HQ.out _ HGB1.out HJ1.out) ?_
  · obtain ⟨⟨g0, g1, g2⟩, j0, j1⟩ := hV
    go_simp
  refine wpAnyH_take (i := 1) (v := (.int .i64 1)) rfl (by kernel_rfl) (by kernel_rfl) (by kernel_rfl) (fun _ _ _ h => h) (Or.inl ⟨by kernel_rfl, fun V hV => ?_⟩) (HQ.out _ HGB1.out HJ1.out) ?_
  · obtain ⟨⟨g0, g1, g2⟩, j0, j1⟩ := hV
    go_simp
  refine wpAnyH_take (i := 2) (v := (.pointer (some ⟨j, 0, none⟩))) rfl (by kernel_rfl) (by kernel_rfl) (by kernel_rfl) (fun _ _ _ h => h) (Or.inl ⟨by kernel_rfl, fun V hV => ?_⟩) (HQ.out _ HGB1.out HJ1.out) ?_
  · obtain ⟨⟨g0, g1, g2⟩, j0, j1⟩ := hV
    go_simp
  refine wpAnyH_take (i := 3) (v := (.pointer (some ⟨j, 0, none⟩))) rfl (by kernel_rfl) (by kernel_rfl) (by kernel_rfl) (fun _ _ _ h => h) (Or.inl ⟨by kernel_rfl, fun V hV => ?_⟩) (HQ.out _ HGB1.out HJ1.out) ?_
  · obtain ⟨⟨g0, g1, g2⟩, j0, j1⟩ := hV
    go_simp
  refine wpAnyH_take (i := 4) (v := (.pointer (some ⟨j, 1, none⟩))) rfl (by kernel_rfl) (by kernel_rfl) (by kernel_rfl) (fun _ _ _ h => h) (Or.inl ⟨by kernel_rfl, fun V hV => ?_⟩) (HQ.out _ HGB1.out HJ1.out) ?_
  · obtain ⟨⟨g0, g1, g2⟩, j0, j1⟩ := hV
    go_simp
  refine wpAnyH_take (i := 5) (v := (.pointer (some ⟨s1, 0, none⟩))) rfl (by kernel_rfl) (by kernel_rfl) (by kernel_rfl) (fun _ _ _ h => h) (Or.inl ⟨by kernel_rfl, fun V hV => ?_⟩) (HQ.out _ HGB1.out HJ1.out) ?_
  · obtain ⟨⟨g0, g1, g2⟩, j0, j1⟩ := hV
    go_simp
  refine wpAnyH_take (i := 6) (v := (.agg #[.int .i64 a.f0, .int .i64 a.f1, .slice A2 a.f2.length c2])) rfl (by kernel_rfl) (by kernel_rfl) (by kernel_rfl) (fun _ _ _ h => h) (Or.inl ⟨by kernel_rfl, fun V hV => ?_⟩) (HQ.out _ HGB1.out HJ1.out) ?_
  · obtain ⟨⟨g0, g1, g2⟩, j0, j1⟩ := hV
    go_simp
  go_simp
  refine wpAnyH_all (rs := [7]) (by kernel_rfl) (by simp) ?_
  intro i' hi'
  obtain rfl : i' = 7 := by simpa using hi'
  refine wpOp_step rfl (fun K hK => ?_)
  go_simp
  refine (setAdd_calls base s1 _ _ _ _ _ _ ok1 a A2 c2 V1 (SetIs.below P3.out HB1.out) (Kd.C_below HA.out HB1.out) hc2 h0 h1 h2 hn1 hn2 hVl hV hH har (Nat.le_trans hle HB1.out.size) (fun k hk => (P7.out k hk).1)).mono ?_
  rintro e w2 ⟨⟨r, rfl⟩, hs2, he2⟩
  have hj2 := blk_kept HJ1.out he2.kept (fun h => (P7.out _ h).2.2 P5.out)
  have hgb2 := blk_kept HGB1.out he2.kept (fun h => by have := P9.out _ (P7.out _ h).2.1; have := HGW.out; omega)
  have hg2 := blk_kept HG1.out he2.kept (fun h => by have := P9.out _ (P7.out _ h).2.1; have := HGW.out; omega)
  refine hK _ _ ⟨HQ.out _ hgb2 hj2, ?_⟩
  clear hK
  refine wpAnyH_done (by kernel_rfl) ?_ _
  have hgl : g < V1.heap.size := blk_lt HG1.out
  have hp9 := P9.out
  have hz2 : V1.heap.size ≤ w2.heap.size := he2.kept.1
  have hz1 : w.heap.size ≤ V1.heap.size := HB1.out.size
  have hs2b : SetSt w2 base s1 (y.add a) (fun k => ok1 k ∨ (V1.heap.size ≤ k ∧ k < w2.heap.size)) := SetIs.mono (SetIs.bound hs2) (fun k hk => hk.1.elim (fun h => .inl h) (fun h => .inr ⟨h, hk.2⟩))
  have hJ : JoinIs w2 base (fun k => okA k ∨ (w.heap.size ≤ k ∧ k < w2.heap.size)) j x (y.add a) P := by
    refine ⟨s0, s1, vh, ok0, fun k => ok1 k ∨ (V1.heap.size ≤ k ∧ k < w2.heap.size), okj, hj2, SetIs.eff (SetIs.below P2.out HB1.out) he2 (fun k hk h => (P6.out k hk).2.2.1 h), hs2b, ((P4.out.below HB1.out).eff he2 (fun k hk h => (P7.out k h).2.2 hk)), P5.out, ?_, ?_, ?_, fun k hk => hk.elim (fun h => ⟨(P9.out k h).1, by have := P9.out k h; omega⟩) (fun h => ⟨by omega, h.2⟩)⟩
    · intro k hk; have := P6.out k hk; exact ⟨this.1, .inl this.2.1, fun h => h.elim this.2.2.1 (fun h => by have := P9.out _ this.2.1; omega), this.2.2.2⟩
    · intro k hk
      rcases hk with hk | hk
      · have := P7.out k hk; exact ⟨this.1, .inl this.2.1, this.2.2⟩
      · exact ⟨by omega, .inr ⟨by omega, hk.2⟩, fun h => by have := P9.out _ (P8.out k h).2; omega⟩
    · intro k hk; have := P8.out k hk; exact ⟨this.1, .inl this.2⟩
  have HE2 : Aside0 (Eff okA w w2) := ⟨(Eff.of_below HB1.out okA).then_ he2 (fun k hk => .inl (P7.out k hk).2.1)⟩
  have HJ := Aside0.mk hJ
  have HG2 := Aside0.mk hg2
  have HZ := Aside0.mk (show w.heap.size ≤ w2.heap.size by omega)
  clear hJ hg2 hj2 hgb2 he2 hs2 hs2b hgl hz1 hz2 HQ HG1 HGB1 HJ1
  go_wp2_with fail
  refine (turn_calls base j _ x (y.add a) P w2 HJ.out fx fy sP sQ (Nat.le_trans hle HZ.out)).mono ?_
  rintro e w3 ⟨N', B1, e1, B2, e2, rfl, hr1, hr2, hj3, he3, hn3, hn4⟩
  obtain ⟨N1, hN1⟩ : ∃ X, X = news (pairs x.H (y.add a).H) P := ⟨_, rfl⟩
  obtain ⟨N2, hN2⟩ : ∃ X, X = news P (pairs x.H (y.add a).H) := ⟨_, rfl⟩
  rw [← hN1] at hr1 ⊢
  rw [← hN2] at hr2 ⊢
  have HN1 := Aside0.mk hN1
  have HN2 := Aside0.mk hN2
  clear hN1 hN2
  have hgj : g ≠ j := by have := blk_lt P1.out; have := HGW.out; omega
  have hg3 := blk_kept HG2.out he3.kept hgj
  have HR1 := Aside0.mk hr1
  have HR2 := Aside0.mk hr2
  have HJ3 := Aside0.mk hj3
  have HE3 := Aside0.mk he3
  have HG3 := Aside0.mk hg3
  have HN3 := Aside0.mk hn3
  have HN4 := Aside0.mk hn4
  clear hr1 hr2 hj3 he3 hg3 hgj hn3 hn4
  have n0 : w3.cell? ⟨g, 0, none⟩ = some (.slice none 0 0) := (blk_cell HG3.out 0).trans rfl
  have n1 : w3.cell? ⟨g, 1, none⟩ = some (.slice none 0 0) := (blk_cell HG3.out 1).trans rfl
  have n2 : w3.frozen? ⟨g, 0, none⟩ = false := blk_frozen HG3.out 0
  have n3 : w3.frozen? ⟨g, 1, none⟩ = false := blk_frozen HG3.out 1
  go_wp2_with fail
  have hp : (w3.setCell ⟨g, 0, none⟩ (.slice B1 N1.length e1)).heap[g]? = some (.cells #[.slice B1 N1.length e1, .slice none 0 0] 40 (0, 0)) := blk_put HG3.out 0 _ rfl
  refine bodyPost_ret (results_cell_row rfl _ _ g 40 #[.slice B1 N1.length e1, .slice B2 N2.length e2] (0, 0) _ rfl (blk_put hp 1 _ rfl) Try.underlying40 rfl (by kernel_rfl)) rfl ?_
  have heg : Eff (fun k => k = g) w3 ((w3.setCell ⟨g, 0, none⟩ (.slice B1 N1.length e1)).setCell ⟨g, 1, none⟩ (.slice B2 N2.length e2)) := ((Eff.refl w3 (fun k => k = g)).set HG3.out (by decide) (.inl rfl) _).set hp (by decide) (.inl rfl) _
  rw [← HN1.out, ← HN2.out]
  have hE : ∀ q, q ∈ 30 :: k30.E → q ≠ 40 := by simp [k30, k46, Kd.iso, Kd.pair, Kd.slice, Kd.int, Kd.string, Kd.scalar]
  have hzF : ((w3.setCell ⟨g, 0, none⟩ (.slice B1 N1.length e1)).setCell ⟨g, 1, none⟩ (.slice B2 N2.length e2)).heap.size = w3.heap.size := by simp [World.setCell]
  refine ⟨N', B1, e1, B2, e2, rfl, Kd.R_set (Kd.R_set HR1.out HG3.out hE 0 _) hp hE 1 _, Kd.R_set (Kd.R_set HR2.out HG3.out hE 0 _) hp hE 1 _, (JoinIs.set40 (JoinIs.set40 HJ3.out HG3.out _) hp _).mono (fun k hk => ?_) (fun k hk => ?_), (HE2.out.then_ HE3.out (fun k hk => .inl (hk ▸ (P8.out _ P5.out).2))).then_ heg (fun k hk => .inr (by have := HGW.out; omega)), Nat.le_trans HZ.out HN3.out, by rw [hzF]; exact HN4.out⟩
  · have := HN3.out; have := HZ.out; rcases hk with (h | h) | h; exact .inl h; exact .inr (by omega); exact .inr (by omega)
  · rw [hzF]; rcases hk with h | h; exact ⟨(P9.out k h).1, by have := P9.out k h; have := HZ.out; have := HN3.out; have := HN4.out; omega⟩; exact ⟨by omega, by have := HN4.out; omega⟩

end Go.Proofs.Ytdbhlfnpaloomaa.Q
