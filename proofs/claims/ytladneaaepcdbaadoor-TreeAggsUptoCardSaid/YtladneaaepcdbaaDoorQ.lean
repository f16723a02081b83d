/- Plain laws on trees: what the printed functions answer. -/
import Derived.Test.YtladneaaepcdbaaDoorPTreex
namespace Go.Proofs.YtladneaaepcdbaaDoor.Q
open Go.RowKit Go.Proofs.YtladneaaepcdbaaDoorW.PrintWords Go.Proofs.YtladneaaepcdbaaDoorW.PrintLast Go.Proofs.YtladneaaepcdbaaDoorW.PrintMore
open Go.Proofs.YtladneaaepcdbaaDoor.PTree
set_option linter.unusedVariables false
set_option linter.unusedSimpArgs false

/-- No list of kids in the tree has as many as 2^41. -/
inductive okT : S24 → Prop
  | mk (x : S24) (h : x.f4.length ≤ 2199023255552) (hk : ∀ y ∈ x.f4, okT y) : okT x

theorem okT.len {x : S24} (h : okT x) : x.f4.length ≤ 2199023255552 := by cases h; assumption
theorem okT.kid {x y : S24} (h : okT x) (hy : y ∈ x.f4) : okT y := by cases h with | mk _ _ hk => exact hk y hy

theorem eta24 (z : S24) : (⟨z.f0, z.f1, z.f2, z.f3, z.f4⟩ : S24) = z := by cases z; rfl

theorem kid_lt {x y : S24} (hy : y ∈ x.f4) : SizeOf.sizeOf y < SizeOf.sizeOf x := by
  have h1 := List.sizeOf_lt_of_mem hy
  cases x
  simp at h1 ⊢
  omega

def sameT (x y : S24) : Bool :=
  x.f0 == y.f0 && x.f1.toList == y.f1.toList && x.f2 == y.f2 && x.f4.length == y.f4.length && (x.f4.attach.zip y.f4).all fun p => sameT p.1.1 p.2
termination_by SizeOf.sizeOf x
decreasing_by exact kid_lt p.1.2

def sameL : List S24 → List S24 → Bool
  | [], _ => true
  | _ :: _, [] => true
  | x :: xs, y :: ys => sameT x y && sameL xs ys

theorem attach_zip (f : S24 → S24 → Bool) : ∀ (xs ys : List S24), ((xs.attach.zip ys).all fun p => f p.1.1 p.2) = (xs.zip ys).all fun p => f p.1 p.2 := by
  intro xs ys
  have : xs.zip ys = (xs.attach.zip ys).map fun p => (p.1.1, p.2) := by
    conv => lhs; rw [← List.attach_map_subtype_val xs]
    rw [List.zip_map_left]
    rfl
  rw [this, List.all_map]
  rfl
theorem zip_sameL : ∀ (xs ys : List S24), ((xs.zip ys).all fun p => sameT p.1 p.2) = sameL xs ys
  | [], _ => by simp [sameL]
  | _ :: _, [] => by simp [sameL]
  | x :: xs, y :: ys => by simp [sameL, zip_sameL xs ys]
theorem sameT_eq (x y : S24) : sameT x y = (x.f0 == y.f0 && x.f1.toList == y.f1.toList && x.f2 == y.f2 && x.f4.length == y.f4.length && sameL x.f4 y.f4) := by
  rw [sameT, attach_zip sameT, zip_sameL]

theorem sameT_refl (x : S24) : sameT x x = true := by
  rw [sameT_eq]
  suffices h : sameL x.f4 x.f4 = true by simp [h]
  have : ∀ l : List S24, (∀ y ∈ l, sameT y y = true) → sameL l l = true := by
    intro l
    induction l with
    | nil => intro _; rfl
    | cons a l ih => intro h; simp [sameL, h a (by simp), ih (fun y hy => h y (by simp [hy]))]
  exact this _ (fun y hy => sameT_refl y)
termination_by SizeOf.sizeOf x
decreasing_by exact kid_lt hy

theorem sameT_comm (x y : S24) : sameT x y = sameT y x := by
  rw [sameT_eq, sameT_eq y]
  have : ∀ l r : List S24, (∀ a ∈ l, ∀ b, sameT a b = sameT b a) → sameL l r = sameL r l := by
    intro l
    induction l with
    | nil => intro r _; cases r <;> rfl
    | cons a l ih =>
      intro r h
      cases r with
      | nil => rfl
      | cons b r => simp [sameL, h a (by simp) b, ih r (fun y hy => h y (by simp [hy]))]
  rw [this x.f4 y.f4 (fun a ha b => sameT_comm a b)]
  rw [Bool.eq_iff_iff]
  simp only [Bool.and_eq_true, beq_iff_eq]
  constructor <;> (rintro ⟨⟨⟨⟨h1, h2⟩, h3⟩, h4⟩, h5⟩; exact ⟨⟨⟨⟨h1.symm, h2.symm⟩, h3.symm⟩, h4.symm⟩, h5⟩)
termination_by SizeOf.sizeOf x
decreasing_by exact kid_lt ha

theorem wrap_succ {k n : Nat} (h : k < n) (hn : n ≤ 2199023255552) : wrap64 ((k : Int) + 1) = ((k + 1 : Nat) : Int) := by unfold wrap64; omega
theorem rd_at (xs : List S24) (k : Nat) (h : k < xs.length) : rd_T24 xs k = xs[k] := by simp [rd_T24, List.getD_eq_getElem?_getD, List.getElem?_eq_getElem h]

/-- tree.Same answers sameT. -/
theorem same_some (d : Nat) : ∀ x y : S24, SizeOf.sizeOf x ≤ d → okT x → ∃ K, ∀ k, K ≤ k → tree_Same.f k x.f0 x.f1 x.f2 x.f3 x.f4 y.f0 y.f1 y.f2 y.f3 y.f4 = some (sameT x y) := by
  induction d with
  | zero => intro x y h; have : 0 < SizeOf.sizeOf x := by cases x; simp; omega
            omega
  | succ d ih =>
    intro x y hsz hok
    -- the loop
    have loop : x.f4.length = y.f4.length → ∀ m k : Nat, m = x.f4.length - k → k ≤ x.f4.length → ∃ K, ∀ q, K ≤ q → tree_Same.l0 q (x.f4.length : Int) k x.f0 x.f1 x.f2 x.f3 x.f4 y.f0 y.f1 y.f2 y.f3 y.f4 = some (sameL (x.f4.drop k) (y.f4.drop k)) := by
      intro hlen m
      induction m with
      | zero =>
        intro k hm hk
        refine ⟨1, fun q hq => ?_⟩
        obtain ⟨q, rfl⟩ : ∃ r, q = r + 1 := ⟨q - 1, by omega⟩
        simp only [tree_Same.l0]
        rw [if_neg (by omega), List.drop_eq_nil_of_le (by omega)]
        rfl
      | succ m ihm =>
        intro k hm hk
        have hlt : k < x.f4.length := by omega
        obtain ⟨K1, h1⟩ := ih x.f4[k] y.f4[k] (by have := kid_lt (List.getElem_mem hlt); omega) (hok.kid (List.getElem_mem hlt))
        obtain ⟨K2, h2⟩ := ihm (k + 1) (by omega) (by omega)
        refine ⟨K1 + K2 + 1, fun q hq => ?_⟩
        obtain ⟨q, rfl⟩ : ∃ r, q = r + 1 := ⟨q - 1, by omega⟩
        simp only [tree_Same.l0]
        rw [if_pos (by omega), if_pos (by omega), if_pos (by omega), if_pos (by omega), rd_at _ _ hlt, rd_at _ _ (by omega), h1 q (by omega), Option.bind_some, wrap_succ hlt hok.len, h2 q (by omega)]
        rw [List.drop_eq_getElem_cons hlt, List.drop_eq_getElem_cons (show k < y.f4.length by omega)]
        simp only [sameL]
        cases sameT x.f4[k] y.f4[k] <;> simp
    by_cases hlen : x.f4.length = y.f4.length
    · obtain ⟨K, hK⟩ := loop hlen x.f4.length 0 (by omega) (by omega)
      refine ⟨K + 2, fun k hk => ?_⟩
      obtain ⟨k, rfl⟩ : ∃ r, k = r + 2 := ⟨k - 2, by omega⟩
      have h0 := hK k (by omega)
      simp only [Int.ofNat_zero, List.drop_zero] at h0
      simp only [tree_Same.f, tree_Same.j0]
      rw [sameT_eq]
      by_cases a : x.f0 = y.f0 <;> by_cases b : x.f1.toList = y.f1.toList <;> by_cases c : x.f2 = y.f2 <;> simp [a, b, c, hlen]
      rw [← hlen]; simpa [a, b, c, hlen] using h0
    · refine ⟨2, fun k hk => ?_⟩
      obtain ⟨k, rfl⟩ : ∃ r, k = r + 2 := ⟨k - 2, by omega⟩
      simp only [tree_Same.f, tree_Same.j0]
      rw [sameT_eq]
      have hl2 : ((x.f4.length : Int) != (y.f4.length : Int)) = true := by rw [bne_iff_ne]; omega
      by_cases a : x.f0 = y.f0 <;> by_cases b : x.f1.toList = y.f1.toList <;> by_cases c : x.f2 = y.f2 <;> simp [a, b, c, hlen, hl2]
/-- The reference's Same answers sameT. -/
theorem refSame_some (d : Nat) : ∀ x y : S24, SizeOf.sizeOf x ≤ d → okT x → ∃ K, ∀ k, K ≤ k → marqueeref06_Same.f k x.f0 x.f1 x.f2 x.f3 x.f4 y.f0 y.f1 y.f2 y.f3 y.f4 = some (sameT x y) := by
  induction d with
  | zero => intro x y h; have : 0 < SizeOf.sizeOf x := by cases x; simp; omega
            omega
  | succ d ih =>
    intro x y hsz hok
    -- the loop
    have loop : x.f4.length = y.f4.length → ∀ m k : Nat, m = x.f4.length - k → k ≤ x.f4.length → ∃ K, ∀ q, K ≤ q → marqueeref06_Same.l0 q k x.f0 x.f1 x.f2 x.f3 x.f4 y.f0 y.f1 y.f2 y.f3 y.f4 = some (sameL (x.f4.drop k) (y.f4.drop k)) := by
      intro hlen m
      induction m with
      | zero =>
        intro k hm hk
        refine ⟨1, fun q hq => ?_⟩
        obtain ⟨q, rfl⟩ : ∃ r, q = r + 1 := ⟨q - 1, by omega⟩
        simp only [marqueeref06_Same.l0]
        rw [if_neg (by omega), List.drop_eq_nil_of_le (by omega)]
        rfl
      | succ m ihm =>
        intro k hm hk
        have hlt : k < x.f4.length := by omega
        obtain ⟨K1, h1⟩ := ih x.f4[k] y.f4[k] (by have := kid_lt (List.getElem_mem hlt); omega) (hok.kid (List.getElem_mem hlt))
        obtain ⟨K2, h2⟩ := ihm (k + 1) (by omega) (by omega)
        refine ⟨K1 + K2 + 1, fun q hq => ?_⟩
        obtain ⟨q, rfl⟩ : ∃ r, q = r + 1 := ⟨q - 1, by omega⟩
        simp only [marqueeref06_Same.l0]
        rw [if_pos (by omega), if_pos (by omega), if_pos (by omega), rd_at _ _ hlt, rd_at _ _ (by omega), h1 q (by omega), Option.bind_some, wrap_succ hlt hok.len, h2 q (by omega)]
        rw [List.drop_eq_getElem_cons hlt, List.drop_eq_getElem_cons (show k < y.f4.length by omega)]
        simp only [sameL]
        cases sameT x.f4[k] y.f4[k] <;> simp
    by_cases hlen : x.f4.length = y.f4.length
    · obtain ⟨K, hK⟩ := loop hlen x.f4.length 0 (by omega) (by omega)
      refine ⟨K + 2, fun k hk => ?_⟩
      obtain ⟨k, rfl⟩ : ∃ r, k = r + 2 := ⟨k - 2, by omega⟩
      have h0 := hK k (by omega)
      simp only [Int.ofNat_zero, List.drop_zero] at h0
      simp only [marqueeref06_Same.f, marqueeref06_Same.j0]
      rw [sameT_eq]
      by_cases a : x.f0 = y.f0 <;> by_cases b : x.f1.toList = y.f1.toList <;> by_cases c : x.f2 = y.f2 <;> simp [a, b, c, hlen]
      simpa [a, b, c, hlen] using h0
    · refine ⟨2, fun k hk => ?_⟩
      obtain ⟨k, rfl⟩ : ∃ r, k = r + 2 := ⟨k - 2, by omega⟩
      simp only [marqueeref06_Same.f, marqueeref06_Same.j0]
      rw [sameT_eq]
      have hl2 : ((x.f4.length : Int) != (y.f4.length : Int)) = true := by rw [bne_iff_ne]; omega
      by_cases a : x.f0 = y.f0 <;> by_cases b : x.f1.toList = y.f1.toList <;> by_cases c : x.f2 = y.f2 <;> simp [a, b, c, hlen, hl2]

/-- tree.Copy answers the tree itself. -/
theorem copy_some (d : Nat) : ∀ x : S24, SizeOf.sizeOf x ≤ d → okT x → ∃ K, ∀ k, K ≤ k → tree_Copy.f k x.f0 x.f1 x.f2 x.f3 x.f4 = some (x.f0, x.f1, x.f2, x.f3, x.f4) := by
  induction d with
  | zero => intro x h; have : 0 < SizeOf.sizeOf x := by cases x; simp; omega
            omega
  | succ d ih =>
    intro x hsz hok
    have loop : ∀ m k : Nat, m = x.f4.length - k → k ≤ x.f4.length → ∃ K, ∀ q, K ≤ q → tree_Copy.l0 q (x.f4.take k) x.f4 (x.f4.length : Int) k x.f0 x.f1 x.f2 x.f3 x.f4 = some (x.f0, x.f1, x.f2, x.f3, x.f4) := by
      intro m
      induction m with
      | zero =>
        intro k hm hk
        refine ⟨1, fun q hq => ?_⟩
        obtain ⟨q, rfl⟩ : ∃ r, q = r + 1 := ⟨q - 1, by omega⟩
        simp only [tree_Copy.l0]
        rw [if_neg (by omega), List.take_of_length_le (by omega)]
      | succ m ihm =>
        intro k hm hk
        have hlt : k < x.f4.length := by omega
        have hl := hok.len
        obtain ⟨K1, h1⟩ := ih x.f4[k] (by have := kid_lt (List.getElem_mem hlt); omega) (hok.kid (List.getElem_mem hlt))
        obtain ⟨K2, h2⟩ := ihm (k + 1) (by omega) (by omega)
        refine ⟨K1 + K2 + 1, fun q hq => ?_⟩
        obtain ⟨q, rfl⟩ : ∃ r, q = r + 1 := ⟨q - 1, by omega⟩
        simp only [tree_Copy.l0]
        rw [if_pos (by omega), if_pos (by omega), if_pos (by omega), rd_at _ _ hlt, h1 q (by omega), Option.bind_some, if_pos (by rw [List.length_take]; omega), wrap_succ hlt hok.len]
        have := h2 q (by omega)
        rw [List.take_succ_eq_append_getElem hlt] at this
        dsimp only
        rw [eta24]
        exact this
    obtain ⟨K, hK⟩ := loop x.f4.length 0 (by omega) (by omega)
    refine ⟨K + 1, fun k hk => ?_⟩
    obtain ⟨k, rfl⟩ : ∃ r, k = r + 1 := ⟨k - 1, by omega⟩
    simp only [tree_Copy.f]
    simpa using hK k (by omega)

/-- The reference's Copy answers the tree itself. -/
theorem refCopy_some (d : Nat) : ∀ x : S24, SizeOf.sizeOf x ≤ d → okT x → ∃ K, ∀ k, K ≤ k → marqueeref06_Copy.f k x.f0 x.f1 x.f2 x.f3 x.f4 = some (x.f0, x.f1, x.f2, x.f3, x.f4) := by
  induction d with
  | zero => intro x h; have : 0 < SizeOf.sizeOf x := by cases x; simp; omega
            omega
  | succ d ih =>
    intro x hsz hok
    have loop : ∀ m k : Nat, m = x.f4.length - k → k ≤ x.f4.length → ∃ K, ∀ q, K ≤ q → marqueeref06_Copy.l0 q k x.f0 x.f1 x.f2 x.f3 x.f4 x.f0 x.f1 x.f2 x.f3 (x.f4.take k) = some (x.f0, x.f1, x.f2, x.f3, x.f4) := by
      intro m
      induction m with
      | zero =>
        intro k hm hk
        refine ⟨1, fun q hq => ?_⟩
        obtain ⟨q, rfl⟩ : ∃ r, q = r + 1 := ⟨q - 1, by omega⟩
        simp only [marqueeref06_Copy.l0]
        rw [if_neg (by omega), List.take_of_length_le (by omega)]
      | succ m ihm =>
        intro k hm hk
        have hlt : k < x.f4.length := by omega
        have hl := hok.len
        obtain ⟨K1, h1⟩ := ih x.f4[k] (by have := kid_lt (List.getElem_mem hlt); omega) (hok.kid (List.getElem_mem hlt))
        obtain ⟨K2, h2⟩ := ihm (k + 1) (by omega) (by omega)
        refine ⟨K1 + K2 + 1, fun q hq => ?_⟩
        obtain ⟨q, rfl⟩ : ∃ r, q = r + 1 := ⟨q - 1, by omega⟩
        simp only [marqueeref06_Copy.l0]
        rw [if_pos (by omega), if_pos (by omega), rd_at _ _ hlt, h1 q (by omega), Option.bind_some, if_pos (by rw [List.length_take]; omega), wrap_succ hlt hok.len]
        have := h2 q (by omega)
        rw [List.take_succ_eq_append_getElem hlt] at this
        dsimp only
        rw [eta24]
        exact this
    obtain ⟨K, hK⟩ := loop x.f4.length 0 (by omega) (by omega)
    refine ⟨K + 1, fun k hk => ?_⟩
    obtain ⟨k, rfl⟩ : ∃ r, k = r + 1 := ⟨k - 1, by omega⟩
    simp only [marqueeref06_Copy.f]
    simpa using hK k (by omega)

/-- The reference's SameAll of a list and itself. -/
theorem sameAll_refl (l : List S24) (hl : l.length ≤ 2199023255552) (hok : ∀ y ∈ l, okT y) : ∃ K, marqueeref06_SameAll.f K l l = some true := by
  have loop : ∀ m k : Nat, m = l.length - k → k ≤ l.length → ∃ K, ∀ q, K ≤ q → marqueeref06_SameAll.l0 q l l k = some true := by
    intro m
    induction m with
    | zero =>
      intro k hm hk
      refine ⟨1, fun q hq => ?_⟩
      obtain ⟨q, rfl⟩ : ∃ r, q = r + 1 := ⟨q - 1, by omega⟩
      simp only [marqueeref06_SameAll.l0]
      rw [if_neg (by omega)]
    | succ m ihm =>
      intro k hm hk
      have hlt : k < l.length := by omega
      obtain ⟨K1, h1⟩ := refSame_some (SizeOf.sizeOf l[k]) l[k] l[k] (Nat.le_refl _) (hok _ (List.getElem_mem hlt))
      obtain ⟨K2, h2⟩ := ihm (k + 1) (by omega) (by omega)
      refine ⟨K1 + K2 + 1, fun q hq => ?_⟩
      obtain ⟨q, rfl⟩ : ∃ r, q = r + 1 := ⟨q - 1, by omega⟩
      simp only [marqueeref06_SameAll.l0]
      rw [if_pos (by omega), if_pos (by omega), if_pos (by omega), rd_at _ _ hlt, h1 q (by omega), Option.bind_some, sameT_refl, if_pos rfl, wrap_succ hlt hl, h2 q (by omega)]
  obtain ⟨K, hK⟩ := loop l.length 0 (by omega) (by omega)
  exact ⟨K, by simp only [marqueeref06_SameAll.f]; rw [if_pos trivial]; exact hK K (Nat.le_refl _)⟩
end Go.Proofs.YtladneaaepcdbaaDoor.Q
