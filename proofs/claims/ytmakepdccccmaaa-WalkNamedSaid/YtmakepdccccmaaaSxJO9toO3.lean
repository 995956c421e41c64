/- Groups, as the specification has it: plain facts. No conditions. -/
import Derived.Test.YtmakepdccccmaaaSxJO1toO2
set_option linter.unusedVariables false
set_option linter.unusedSimpArgs false
namespace Go.Sx.Wk
open Go Go.Sx Go.Proofs

def bA : List Int → AV
  | [] => .v (.slice none 0 0)
  | x :: r => .il (ints (x :: r)) (x :: r).length false
@[simp] theorem bA_nil : bA [] = .v (.slice none 0 0) := rfl
@[simp] theorem ren_bA (g : Nat → Nat) (b : List Int) : ren g (bA b) = bA b := by cases b <;> simp [bA]
def grpV (t : List Int) : AV := if chk t = 0 then .tup [.il (ints (best t).1) (best t).1.length false, vI 0] else .tup [.il [] 0 false, vI (chk t)]
theorem grp_ok8 {d t : List Int} {g : Int} (ht : ok8 t = true) (h4 : t.length ≤ 4) : g78 (grpL d t g) = true := by
  have h8 := ok8_iff.1 ht
  have := own_len (l := d) (t := t) (g := g)
  simp only [g78, Bool.and_eq_true, decide_eq_true_eq]
  exact ⟨ok8_iff.2 fun y hy => h8 y (own_mem hy), by omega⟩
theorem grp_drop {d t : List Int} {g : Int} {s : Nat} {x y : Int} {r q : List Int} (hd : d.drop s = x :: r) (ht : t.drop s = y :: q) : grpL (d.drop s) (t.drop s) g = if x = g then y :: grpL r q g else grpL r q g := by
  rw [hd, ht]; rfl
set_option maxRecDepth 4000
@[simp] theorem grpL_nil (t : List Int) (g : Int) : grpL [] t g = [] := by cases t <;> rfl
@[simp] theorem grpL_nil' (d : List Int) (g : Int) : grpL d [] g = [] := by cases d <;> rfl
end Go.Sx.Wk
namespace Go.Sx.Wk
open Go Go.Sx Go.Proofs

def maxL : Int → List Int → Int
  | a, [] => a
  | a, x :: r => maxL (max a x) r
theorem maxL_next : ∀ (r : List Int) (a b : Int), b = a + 1 → r.foldl (fun a g => max a (g + 1)) b = maxL a r + 1
  | [], a, b, h => by simp [maxL, h]
  | x :: r, a, b, h => by
    simp only [List.foldl_cons, maxL]
    exact maxL_next r (max a x) _ (by omega)
theorem maxL_top {x : Int} {r : List Int} (h : 0 ≤ x) : nextL (x :: r) = maxL x r + 1 := by
  simp only [nextL, List.foldl_cons]
  exact maxL_next r x _ (by omega)
theorem big_if (a b : Int) : (if a < b then b else a) = max a b := by
  rw [Int.max_def]; split <;> split <;> omega
def maxF : List Int → Option (AV × HL × Nat)
  | [] => none
  | x :: r => res (small (x :: r)) (vI (maxL x r))
def s49 : Sp := spT 49 [.l] fun (t : List Int) => maxF t
@[simp] theorem s49_g : s49.g = 49 := rfl
@[simp] theorem s49_f : s49.f = (spT 49 [.l] fun (t : List Int) => maxF t).f := rfl
theorem s49_ok : s49.ok Try.prog := by
  apply spT_ok
  simp only [OkT, Ty.all, List.nil_append, List.cons_append]
  intro (t : List Int) ut r' h' k' hh
  rcases t with _ | ⟨x, r⟩
  · simp [maxF] at hh
  simp only [maxF, res] at hh
  split at hh
  · rename_i hs
    have hl : r.length + 1 ≤ 1000000 := by simpa [small] using hs
    cases hh
    rw [hp_eq]
    refine P49.rz (ss := []) trivial (by simp) fun Q hQ => ?_
    delta p49 p49_r0 p49_r1 p49_r2 p49_r3 p49_r4
    simp (disch := omega) [oLt, oLe, oLtN, oLeN, nLt, nLe, nLtN, nLeN]
    refine XZ_for (fun p : Nat × Int => ⟨[(0, .il (ints (x :: r)) (x :: r).length ut), (3, vI p.2), (4, vI ((p.1 + 1 : Nat) : Int))], [], 0⟩) (fun p => r.length - p.1) (fun p => p.1 ≤ r.length ∧ maxL p.2 (r.drop p.1) = maxL x r) (0, x) (by simp) (.to [] (by simp)) ?_
    rintro ⟨i, a⟩ ⟨hi, hb⟩ N Q' hN hE
    simp only at hi hb ⊢
    rcases Nat.lt_or_ge i r.length with h | h
    · obtain ⟨y, q, e1, e2, e3, e4, e5⟩ := drop_split h
      rw [e1] at hb
      simp only [maxL] at hb
      have h1 : i + 1 < r.length + 1 := by omega
      by_cases hay : a < y
      · have hm : max a y = y := by omega
        rw [hm] at hb
        delta p49_l0 p49_r5 p49_r6 p49_r7
        simp (disch := omega) [oLt, oLe, oLtN, oLeN, nLt, nLe, nLtN, nLeN, h, h1, e2, e3, hay]
        exact hN _ (i + 1, y) (by simp only; omega) ⟨h, by simp only [e4]; exact hb⟩ (.to [] (by simp))
      · have hm : max a y = a := by omega
        rw [hm] at hb
        delta p49_l0 p49_r5 p49_r6 p49_r7
        simp (disch := omega) [oLt, oLe, oLtN, oLeN, nLt, nLe, nLtN, nLeN, h, h1, e2, e3, hay]
        exact hN _ (i + 1, a) (by simp only; omega) ⟨h, by simp only [e4]; exact hb⟩ (.to [] (by simp))
    · have h' : ¬ i < r.length := by omega
      simp [List.drop_eq_nil_of_le h, maxL] at hb
      delta p49_l0 p49_r5 p49_r6 p49_r7
      simp (disch := omega) [oLt, oLe, oLtN, oLeN, nLt, nLe, nLtN, nLeN, h']
      refine hE _ _ _ .refl ?_
      delta p49_r8
      simp (disch := omega) [oLt, oLe, oLtN, oLeN, nLt, nLe, nLtN, nLeN]
      exact hQ _ _ (.p (.inl rfl) (by simp [hb]) rfl)
  · cases hh
end Go.Sx.Wk
