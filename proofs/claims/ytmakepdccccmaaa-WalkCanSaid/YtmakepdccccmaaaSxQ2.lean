/- What functions of the walk layer return: checks and weights. No conditions. -/
import Derived.Test.YtmakepdccccmaaaSxQ1
set_option linter.unusedVariables false
set_option linter.unusedSimpArgs false
namespace Go.Sx.Wk
open Go Go.Sx Go.Proofs

def sp58 (g : Nat) (c : Int → AV) (p : Int → Bool) (f : Nat) : Sp := ⟨f, fun args h k => match args, h, k with
  | [.il cs n _, .fn (.func g') [] []], [], 0 => if g' = g then (match unints cs with
    | some l => if n = l.length ∧ l.length ≤ 1000000 then some (c (first p l 0), [], 0) else none
    | none => none) else none
  | _, _, _ => none⟩
def s80c : Sp := sp58 59 vI (fun t => !within 1 t 8) 80
theorem s80c_ok : s80c.ok Try.prog := by
  intro args h k r h' k' hh
  simp only [s80c, sp58] at hh
  split at hh
  · rename_i cs n u g'
    split at hh
    · split at hh
      · rename_i hg _ l hl
        split at hh
        · rename_i hn
          cases hh
          rw [unints_inv hl, hn.1, hg]
          have := indexFunc_runs (ss := [s59]) (hss := ⟨s59_ok, trivial⟩) (g := 59) (cap := []) (k := 0) (H := []) (p := fun t => !within 1 t 8) (l := l) (u := u) hn.2 rfl rfl (fun _ => rfl) (fun _ => trivial) (fun x _ t => ⟨[], [], [], by simp, rfl⟩)
          simpa only [hp_eq, s80c, sp58] using this
        · cases hh
      · cases hh
    · cases hh
  · cases hh
def s58c : Sp := sp58 59 (fun n => vB (decide (0 ≤ n))) (fun t => !within 1 t 8) 58
theorem s58c_ok : s58c.ok Try.prog := by
  intro args h k r h' k' hh
  simp only [s58c, sp58] at hh
  split at hh
  · rename_i cs n u g'
    split at hh
    · split at hh
      · rename_i hg _ l hl
        split at hh
        · rename_i hn
          cases hh
          rw [unints_inv hl, hn.1, hg, hp_eq]
          refine P58.rz (ss := [s80c]) ⟨s80c_ok, trivial⟩ (by simp) fun Q hQ => ?_
          delta p58 p58_r0 p58_r1
          simp [s80c, sp58, hn.2]
          refine hQ _ _ (.p (.inl rfl) ?_ rfl)
          simp
          rw [Bool.eq_iff_iff]; simp
        · cases hh
      · cases hh
    · cases hh
  · cases hh

theorem any_all (l : List Int) : l.any (fun t => !within 1 t 8) = !l.all (within 1 · 8) := by
  rw [Bool.eq_iff_iff]; simp
def s23 : Sp := spT 23 [.l] fun l => res (small l) (vI (chk l))
@[simp] theorem s23_g : s23.g = 23 := rfl
@[simp] theorem s23_f : s23.f = (spT 23 [.l] fun l => res (small l) (vI (chk l))).f := rfl
theorem s23_ok : s23.ok Try.prog := by
  apply spT_ok
  simp only [OkT, Ty.all, List.nil_append, List.cons_append]
  intro (l : List Int) u
  apply okT_res; intro hs
  refine P23.rz (ss := [s58c]) ⟨s58c_ok, trivial⟩ (by simp) fun Q hQ => ?_
  delta p23 p23_r0 p23_r1 p23_r2 p23_r3 p23_r4 p23_r5 p23_r6 p23_r7
  simp [small] at hs
  simp [s58c, sp58, hs]
  have h1 := first_any (fun t => !within 1 t 8) l 0
  rw [any_all] at h1
  have h2 : 0 ≤ first (fun t => !within 1 t 8) l 0 ↔ ¬ (l.all (within 1 · 8) = true) := by
    rw [← decide_eq_true_iff (p := 0 ≤ first (fun t => !within 1 t 8) l 0)]
    rw [show ((0 : Nat) : Int) = 0 from rfl] at h1
    rw [h1]; simp
  clear h1; have h1 := h2
  refine ⟨fun h => hQ _ _ (.p (.inl rfl) (by simp [chk, h]) rfl), fun h0 => ⟨fun h => hQ _ _ (.p (.inl rfl) ?_ rfl), fun h4 => ⟨fun h => hQ _ _ (.p (.inl rfl) ?_ rfl), fun h => hQ _ _ (.p (.inl rfl) ?_ rfl)⟩⟩⟩
  · simp [chk, h0]; omega
  · simp only [chk]
    rw [if_neg (by simpa using h0), if_neg (by omega), if_neg (h1.1 h)]; simp
  · simp only [chk]
    rw [if_neg (by simpa using h0), if_neg (by omega), if_pos]
    · simp
    · false_or_by_contra
      rename_i hc
      have := h1.2 hc
      omega

/-! ### Weights -/
def s53 : Sp := spT 53 [.i, .i] fun (a b : Int) => res (decide (0 ≤ a) && decide (0 ≤ b) && decide (b ≤ 1000000)) (vI (Int.gcd a b))
@[simp] theorem s53_g : s53.g = 53 := rfl
@[simp] theorem s53_f : s53.f = (spT 53 [.i, .i] fun (a b : Int) => res (decide (0 ≤ a) && decide (0 ≤ b) && decide (b ≤ 1000000)) (vI (Int.gcd a b))).f := rfl
theorem s53_ok : s53.ok Try.prog := by
  apply spT_ok
  simp only [OkT, Ty.all, List.nil_append, List.cons_append]
  intro (a : Int) (b : Int)
  apply okT_res; intro hs
  refine P53.rz (ss := []) trivial (by simp) fun Q hQ => ?_
  delta p53 p53_r0
  simp at hs
  obtain ⟨⟨ha, hb⟩, hb2⟩ := hs
  obtain ⟨a, rfl⟩ := Int.eq_ofNat_of_zero_le ha
  obtain ⟨b, rfl⟩ := Int.eq_ofNat_of_zero_le hb
  simp
  refine XZ_for (fun p : Nat × Nat => ⟨[(0, vI p.1), (1, vI p.2)], [], 0⟩) (fun p => p.2) (fun p => p.2 ≤ 1000000 ∧ Nat.gcd p.1 p.2 = Nat.gcd a b) (a, b) ⟨by simp only; omega, rfl⟩ (.to [] (by simp)) ?_
  rintro ⟨x, y⟩ ⟨hi, hg⟩ N Q' hN hE
  delta p53_l0 p53_r1 p53_r2
  simp only at hi hg ⊢
  by_cases h : y = 0
  · subst h
    simp (disch := omega) [oLt, oLe, oLtN, oLeN, nLt, nLe, nLtN, nLeN]
    refine hE _ _ _ .refl ?_
    delta p53_r3
    simp
    refine hQ _ _ (.p (.inl rfl) ?_ rfl)
    simp at hg ⊢; omega
  · simp (disch := omega) [oLt, oLe, oLtN, oLeN, nLt, nLe, nLtN, nLeN, h]
    refine hN _ (y, x % y) (Nat.mod_lt _ (by omega)) ⟨?_, ?_⟩ (.to [] (by simp))
    · have := Nat.mod_lt x (show 0 < y by omega); simp only; omega
    · simp only; rw [Nat.gcd_comm, ← Nat.gcd_rec, Nat.gcd_comm]; exact hg

def num : List Int → Nat
  | [] => 0
  | t :: r => 840 / t.toNat + num r
def wA (l : List Int) : Int := ((num l / Nat.gcd (num l) 840 : Nat) : Int)
def wB (l : List Int) : Int := ((840 / Nat.gcd (num l) 840 : Nat) : Int)
def weightF (l : List Int) : AV := if chk l = 0 then .tup [vI (wA l), vI (wB l), vI 0] else .tup [vI 0, vI 0, vI (chk l)]

theorem chk_ok {l : List Int} (h : chk l = 0) : l ≠ [] ∧ l.length ≤ 4 ∧ ∀ t ∈ l, 1 ≤ t ∧ t ≤ 8 := by
  unfold chk at h
  split at h
  · cases h
  · rename_i h0
    split at h
    · cases h
    · rename_i h4
      split at h
      · rename_i ha
        refine ⟨fun e => h0 (by rw [e]; rfl), by omega, fun t ht => ?_⟩
        have := List.all_eq_true.1 ha t ht
        simpa [within] using this
      · cases h
theorem lowest {a b m : Nat} {n : Nat} (hb : 0 < b) (hm : 0 < m) (h : a * m = n * b) : a / Nat.gcd a b = n / Nat.gcd n m ∧ b / Nat.gcd a b = m / Nat.gcd n m := by
  have g1 : 0 < Nat.gcd a b := Nat.gcd_pos_of_pos_right _ hb
  have g2 : 0 < Nat.gcd n m := Nat.gcd_pos_of_pos_right _ hm
  have c1 := Nat.coprime_div_gcd_div_gcd g1
  have c2 := Nat.coprime_div_gcd_div_gcd g2
  obtain ⟨a', ha⟩ := Nat.gcd_dvd_left a b
  obtain ⟨b', hb'⟩ := Nat.gcd_dvd_right a b
  obtain ⟨n', hn⟩ := Nat.gcd_dvd_left n m
  obtain ⟨m', hm'⟩ := Nat.gcd_dvd_right n m
  have ea : a / Nat.gcd a b = a' := Nat.div_eq_of_eq_mul_right g1 ha
  have eb : b / Nat.gcd a b = b' := Nat.div_eq_of_eq_mul_right g1 hb'
  have en : n / Nat.gcd n m = n' := Nat.div_eq_of_eq_mul_right g2 hn
  have em : m / Nat.gcd n m = m' := Nat.div_eq_of_eq_mul_right g2 hm'
  rw [ea, eb] at c1
  rw [en, em] at c2
  rw [ea, eb, en, em]
  generalize Nat.gcd a b = G1 at *
  generalize Nat.gcd n m = G2 at *
  have key : a' * m' = n' * b' := by
    have : (G1 * G2) * (a' * m') = (G1 * G2) * (n' * b') := by
      calc (G1 * G2) * (a' * m') = (G1 * a') * (G2 * m') := by ac_rfl
        _ = a * m := by rw [← ha, ← hm']
        _ = n * b := h
        _ = (G2 * n') * (G1 * b') := by rw [← hn, ← hb']
        _ = (G1 * G2) * (n' * b') := by ac_rfl
    exact Nat.eq_of_mul_eq_mul_left (Nat.mul_pos g1 g2) this
  have d1 : b' ∣ m' := c1.symm.dvd_of_dvd_mul_left (by rw [key]; exact Nat.dvd_mul_left _ _)
  have d2 : m' ∣ b' := c2.symm.dvd_of_dvd_mul_left (by rw [← key]; exact Nat.dvd_mul_left _ _)
  have ebm := Nat.dvd_antisymm d1 d2
  refine ⟨?_, ebm⟩
  subst ebm
  have : 0 < b' := by
    rcases Nat.eq_zero_or_pos b' with h0 | h0
    · subst h0; simp at hb'; omega
    · exact h0
  exact Nat.eq_of_mul_eq_mul_right this key

theorem dvd840 {t : Nat} (h1 : 1 ≤ t) (h8 : t ≤ 8) : 840 / t * t = 840 := by
  have : t = 1 ∨ t = 2 ∨ t = 3 ∨ t = 4 ∨ t = 5 ∨ t = 6 ∨ t = 7 ∨ t = 8 := by omega
  rcases this with h | h | h | h | h | h | h | h <;> subst h <;> rfl

end Go.Sx.Wk
