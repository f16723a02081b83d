/- Rows of arrivals that share what lies in them; what a call writes; slices.Clone at such rows. -/
import Derived.Test.YtdbhlfnpaloomaaH
namespace Go.Proofs.Ytdbhlfnpaloomaa.I
open Go.RowKit Go.Proofs.YtdbhlfnpaloomaaW.PrintWords Go.Proofs.YtdbhlfnpaloomaaW.PrintLast Go.Proofs.YtdbhlfnpaloomaaW.PrintMore
open Go.Proofs.Ytdbhlfnpaloomaa.PSame Go.Proofs.Ytdbhlfnpaloomaa.A Go.Proofs.Ytdbhlfnpaloomaa.B Go.Proofs.Ytdbhlfnpaloomaa.F Go.Proofs.Ytdbhlfnpaloomaa.G
set_option linter.unusedVariables false
set_option linter.unusedSimpArgs false

/-- What a call leaves: all but the blocks of S, and every row of values. -/
structure Eff (S : Nat → Prop) (w w' : World) : Prop where
  os : w'.os = w.os
  tape : w'.tape = w.tape
  output : w'.output = w.output
  kept : Kept w w' S
  k46 : ∀ (k : Nat) (cells : Array Value), w.heap[k]? = some (.cells cells 46 (0, 0)) → w'.heap[k]? = some (.cells cells 46 (0, 0))

theorem Eff.of_below {w w' : World} (h : Below w.heap.size w w') (S : Nat → Prop) : Eff S w w' :=
  ⟨h.os, h.tape, h.output, Kept.of_below h S, fun k cells hk => blk_below hk h⟩
theorem Eff.refl (w : World) (S : Nat → Prop) : Eff S w w := Eff.of_below (Below.refl _ _) S
theorem Eff.then_ {S S2 : Nat → Prop} {w w1 w2 : World} (h : Eff S w w1) (k : Eff S2 w1 w2) (hs : ∀ k, S2 k → S k ∨ w.heap.size ≤ k) : Eff S w w2 :=
  ⟨k.os.trans h.os, k.tape.trans h.tape, k.output.trans h.output, h.kept.then_ k.kept hs, fun j cells hj => k.k46 j cells (h.k46 j cells hj)⟩
theorem Eff.mono {S S' : Nat → Prop} {w w' : World} (h : Eff S w w') (hs : ∀ k, S k → S' k) : Eff S' w w' := ⟨h.os, h.tape, h.output, h.kept.mono hs, h.k46⟩
theorem Eff.then_below {S : Nat → Prop} {w w1 w2 : World} (h : Eff S w w1) (k : Below w1.heap.size w1 w2) : Eff S w w2 := h.then_ (Eff.of_below k (fun _ => False)) (fun _ hk => hk.elim)
theorem Eff.below {S : Nat → Prop} {base : Nat} {w0 w w' : World} (h : Eff S w w') (hb : Below base w0 w) (hle : base ≤ w.heap.size) (hs : ∀ k, S k → base ≤ k) : Below base w0 w' :=
  hb.trans ⟨h.os, h.tape, h.output, h.kept.1, fun k hk => h.kept.2 k (by omega) (fun hk2 => by have := hs k hk2; omega)⟩
theorem Eff.set {S : Nat → Prop} {w w1 : World} (h : Eff S w w1) {g j : Nat} {t : TypeId} {cells : Array Value} (hb : w1.heap[g]? = some (.cells cells t (0, 0))) (ht : t ≠ 46) (hg : S g ∨ w.heap.size ≤ g) (u : Value) : Eff S w (w1.setCell ⟨g, j, none⟩ u) :=
  h.then_ (S2 := fun k => k = g) ⟨rfl, rfl, rfl, (Kept.refl w1 (fun k => k = g)).setCell (p := ⟨g, j, none⟩) (.inl rfl) u, fun k cs hk => blk_far hk (p := ⟨g, j, none⟩) (by
    rintro rfl
    rw [hk] at hb
    injection hb with hb
    injection hb with _ hb
    exact ht hb.symm) u⟩ (fun k hk => by rw [hk]; exact hg)
theorem Eff.grown {S : Nat → Prop} {w w1 w2 : World} (h : Eff S w w1) {row : Option Nat} (hg : w1.grownBy w2 row) (hr : ∀ k, row = some k → (S k ∨ w.heap.size ≤ k) ∧ ∃ cells, w1.heap[k]? = some (.cells cells 30 (0, 0))) : Eff S w w2 :=
  h.then_ (S2 := fun k => row = some k) ⟨hg.os, hg.tape, hg.output, Kept.of_grown hg (Kept.refl w1 _) (fun k hk => .inl hk), fun k cs hk => blk_grown hk hg (fun e => by
    obtain ⟨_, cells, hc⟩ := hr k e.symm
    rw [hk] at hc
    injection hc with hc
    injection hc with _ hc
    cases hc)⟩ (fun k hk => (hr k hk).1)

/-- Arrivals whose rows were read in W0. -/
def k30at (W0 : World) (base : Nat) : Kd S30 where
  sz := 3
  E := []
  K := fun _ x cs => k30.M W0 base (fun _ => True) x cs
  M := fun _ _ _ x cs => k30.M W0 base (fun _ => True) x cs
  K_len := fun h => k30.K_len (k30.K_of_M h)
  K_one := fun h => k30.K_one (k30.K_of_M h)
  K_below := fun _ h => h
  K_of_M := fun h => h
  M_mono := fun _ h => h
  M_bound := fun h => h
  M_move := fun _ h => h
  M_lower := fun _ h => h

/-- A row of arrivals of one's own; the rows in it were made from base on, and may be others' too. -/
def Sh (w : World) (base : Nat) (ok : Nat → Prop) (v : Value) (xs : List S30) : Prop := (k30at w base).R 30 w base ok v xs

theorem M_at {w w1 : World} {base : Nat} {x : S30} {cs : List Value} (h46 : ∀ (k : Nat) (cells : Array Value), w.heap[k]? = some (.cells cells 46 (0, 0)) → w1.heap[k]? = some (.cells cells 46 (0, 0))) (h : k30.M w base (fun _ => True) x cs) : k30.M w1 base (fun _ => True) x cs :=
  k30.M_mono (fun _ _ => trivial) (k30.M_move (fun k hk => by
    obtain ⟨_, _, _, q, hq, cells, hc⟩ := hk
    have : q = 46 := by simpa [k30, Kd.iso, Kd.pair, Kd.slice, Kd.int, Kd.scalar, k46, Kd.string] using hq
    subst this
    exact (h46 k cells hc).trans hc.symm) (k30.M_bound h))

theorem Sh.move {w w1 : World} {base : Nat} {ok : Nat → Prop} {v : Value} {xs : List S30} (h : Sh w base ok v xs) (h46 : ∀ (k : Nat) (cells : Array Value), w.heap[k]? = some (.cells cells 46 (0, 0)) → w1.heap[k]? = some (.cells cells 46 (0, 0))) (hown : ∀ k, v.ownBlock = some k → w1.heap[k]? = w.heap[k]?) : Sh w1 base ok v xs := by
  obtain ⟨h0, inner, ho, hr⟩ := h
  exact ⟨h0, inner, own_move ho hown, hr.imp_ (fun _ _ hp => M_at h46 hp)⟩
theorem Sh.eff {w w1 : World} {base : Nat} {ok S : Nat → Prop} {v : Value} {xs : List S30} (h : Sh w base ok v xs) (he : Eff S w w1) (hn : ∀ k, ok k → ¬ S k) : Sh w1 base ok v xs :=
  h.move he.k46 (fun k hk => he.kept.2 k (Kd.R_lt h k hk) (hn k (h.1 k hk)))
theorem Sh.below {w w1 : World} {base : Nat} {ok : Nat → Prop} {v : Value} {xs : List S30} (h : Sh w base ok v xs) (hb : Below w.heap.size w w1) : Sh w1 base ok v xs := h.eff (Eff.of_below hb (fun _ => False)) (fun _ _ h => h)
theorem Sh.mono {w : World} {base : Nat} {ok ok' : Nat → Prop} {v : Value} {xs : List S30} (h : Sh w base ok v xs) (hk : ∀ k, v.ownBlock = some k → ok k → ok' k) : Sh w base ok' v xs := ⟨fun k hv => hk k hv (h.1 k hv), h.2⟩
theorem Sh.reads {w : World} {base : Nat} {ok : Nat → Prop} {v : Value} {xs : List S30} (h : Sh w base ok v xs) : ∃ A c, v = .slice A xs.length c ∧ xs.length ≤ c ∧ (k30at w base).C w A xs.length xs := Kd.R_reads h
theorem C_of_at {w : World} {base : Nat} {A : Option Addr} {xs : List S30} (h : (k30at w base).C w A xs.length xs) : Kd.C k30 w A xs.length xs := ReadsRow.imp_ h (Below.refl _ _) (fun _ _ hp => k30.K_of_M hp)
theorem Sh.of_R {w : World} {base : Nat} {ok : Nat → Prop} {v : Value} {xs : List S30} (h : Kd.R k30 30 w base ok v xs) : Sh w base ok v xs := ⟨h.1, h.2.imp_ (fun _ _ hp => k30.M_mono (fun _ _ => trivial) hp)⟩
theorem Sh.of_at {w w1 : World} {base b1 : Nat} {ok : Nat → Prop} {v : Value} {xs : List S30} (h : (k30at w base).R 30 w1 b1 ok v xs) (hb : base ≤ b1) (h46 : ∀ (k : Nat) (cells : Array Value), w.heap[k]? = some (.cells cells 46 (0, 0)) → w1.heap[k]? = some (.cells cells 46 (0, 0))) : Sh w1 base ok v xs := by
  obtain ⟨h0, inner, ho, hr⟩ := Kd.R_lower h hb
  exact ⟨h0, inner, ho, hr.imp_ (fun _ _ hp => M_at h46 hp)⟩
theorem Sh.nil (w : World) (base : Nat) (ok : Nat → Prop) : Sh w base ok (.slice none 0 0) [] := Kd.R_nil _ _ _ _ _

set_option maxHeartbeats 2000000 in
theorem clone22_calls (xs : List S30) (A : Option Addr) (c base : Nat) (w : World) (hl : (k30at w base).C w A xs.length xs) (hc : xs.length ≤ c) (hb : xs.length ≤ 2000000) (hle : base ≤ w.heap.size) :
    Calls Try.prog 36 #[.slice A xs.length c] w fun e w' => ∃ v, e = .returned v ∧ Sh w' base (fun k => w.heap.size ≤ k) v xs ∧ Below w.heap.size w w' := by
  have HL := Aside0.mk hl
  clear hl
  have q22 : ∀ (w : World) (a : Option Addr) (n c n' c' : Nat), (binOp .eql 22 (.slice a n c) (.slice none n' c')).run Try.prog w = .ok (.bool a.isNone) w := fun w a n c n' c' => Lib.run_eql_slice_nil w _ _ a n c n' c' Try.underlying22
  go_enter Try.func36, Try.ntmps36
  cases A with
  | none =>
    obtain rfl := nil_of_none HL.out
    go_wp2_with fail
    go_ret
    exact ⟨_, rfl, Sh.nil _ _ _, Below.refl _ _⟩
  | some ad =>
    have HR0 := Aside0.mk (R_lit0 (k30at w base) 30 w w.heap.size (Nat.le_refl _))
    have hb0 : Below w.heap.size w (w.alloc (.cells #[] 30)) := (Below.refl _ _).alloc (Nat.le_refl _) _
    have HC := Aside0.mk (Kd.C_below HL.out hb0)
    have HB0 := Aside0.mk hb0
    clear hb0
    go_wp2_with ((with_reducible refine gate_builtin (b := .append) (xs := #[.tmp 5, .tmp 6]) rfl ?_); at_builtin; refine Kd.R_append_rows (k30at w base) (Rr := (k30at w base).K (w.alloc (.cells #[] 30))) (w0 := w) w.heap.size rfl (.tmp 5) (.tmp 6) 22 30 (.agg #[(.int .i64 0), (.int .i64 0), (.slice none 0 0)]) 40 rfl Try.underlying22 inf30 rfl (Nat.succ_pos 2) (by omega) (.slice (some ⟨w.heap.size, 0, none⟩) 0 0) [] xs (some ad) xs.length c (fun _ => True) (fun k => True ∧ some k ≠ (Value.slice (some ⟨w.heap.size, 0, none⟩) 0 0).ownBlock) rfl rfl HR0.out HC.out (fun p q hp => hp) (fun k hk => hk) (fun _ _ => trivial) HB0.out HB0.out.size (by simp; omega) ?_; intro v1 w1 ho hb hg hat; rw [List.nil_append] at ho; have HO := Aside0.mk ho; have HB := Aside0.mk hb; clear ho hb hg hat)
    go_ret
    exact ⟨_, rfl, (Sh.of_at HO.out hle (fun k cells hk => blk_below hk HB.out)).mono (fun k hv _ => Kd.R_base HO.out k hv), HB.out⟩

theorem cut_from {P : Program} (t e : TypeId) (kl : IntKind) {i : TypeInfo} (ht : P.underlying t = some (.slice e)) (hi : P.info? e = some i) (size : Nat) (hsz : i.size = size) (A : Option Addr) (n c : Nat) (lo : Int) (h0 : 0 ≤ lo) (h1 : lo ≤ n) (hc : n ≤ c) :
    ∀ W : World, (Instr.slice t (.slice A n c) (some (.int kl lo)) none none).run P W = .ok (.slice (if c = lo.toNat then A else A.map (·.add (lo.toNat * size))) (n - lo.toNat) (c - lo.toNat)) W := by
  intro W
  have hel : P.elem t = e := by simp [Program.elem, ht]
  have hu : P.underlying t = some (.slice (P.elem t)) := by rw [hel]; exact ht
  rw [run_slice_l W t A n c hu kl lo h0 h1, hel]
  simp [sizeOf, typeInfo, hi, hsz, sliced, Result.andThen]
end Go.Proofs.Ytdbhlfnpaloomaa.I
