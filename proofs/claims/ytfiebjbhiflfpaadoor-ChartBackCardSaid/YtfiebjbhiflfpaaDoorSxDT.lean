/- The first colours of which none clashes with one before: looked for by trying and going back, and by trying one after the other. No conditions. -/
set_option linter.unusedVariables false
set_option linter.unusedSimpArgs false
namespace Go.Sx.Ch
structure Fits (J : Nat → Nat → Bool) (most : Int) (l : List Int) : Prop where
  rng : ∀ (i : Nat), i < l.length → 0 ≤ l.getD i 0 ∧ l.getD i 0 < most
  ok : ∀ p q, q < p → p < l.length → ¬ (l.getD q 0 = l.getD p 0 ∧ J p q = true)
def LexLe (a b : List Int) : Prop := ∀ i, i < a.length → (∀ j, j < i → a.getD j 0 = b.getD j 0) → a.getD i 0 ≤ b.getD i 0
structure First (J : Nat → Nat → Bool) (P : Nat) (most : Int) (l : List Int) : Prop where
  fits : Fits J most l
  len : l.length = P
  low : ∀ m, Fits J most m → m.length = P → LexLe l m
theorem lex_eq {a b : List Int} (hl : a.length = b.length) (h1 : LexLe a b) (h2 : LexLe b a) : a = b := by
  have key : ∀ n i, i < n → i < a.length → a.getD i 0 = b.getD i 0 := by
    intro n
    induction n with
    | zero => intro i hi; omega
    | succ n ih =>
      intro i hi hia
      by_cases e : i < n
      · exact ih i e hia
      · have hin : i = n := by omega
        subst hin
        have e1 := h1 i hia (fun j hj => ih j hj (by omega))
        have e2 := h2 i (by omega) (fun j hj => (ih j hj (by omega)).symm)
        omega
  apply List.ext_getElem hl
  intro i h1 h2
  have := key (i + 1) i (by omega) h1
  simpa [List.getD_eq_getElem?_getD, h1, h2] using this
theorem First.unique {J P most a b} (ha : First J P most a) (hb : First J P most b) : a = b :=
  lex_eq (by rw [ha.len, hb.len]) (ha.low b hb.fits hb.len) (hb.low a ha.fits ha.len)
/-! ### Trying one after the other -/
/-! ### Trying and going back -/
def bk (most : Int) : List Int → Int → Option (List Int × Int)
  | [], c => if c < most then some ([], c) else none
  | a :: r, c => if c < most then some (a :: r, c) else bk most r (a + 1)
/-! ### That it ends -/
def val (B : Nat) (l : List Int) : Nat := l.foldl (fun v x => v * B + x.toNat) 0
end Go.Sx.Ch
