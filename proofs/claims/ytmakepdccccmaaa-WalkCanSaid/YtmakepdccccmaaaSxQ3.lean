/- What functions of the walk layer return: weights. No conditions. -/
import Derived.Test.YtmakepdccccmaaaSxQ2
set_option linter.unusedVariables false
set_option linter.unusedSimpArgs false
namespace Go.Sx.Wk
open Go Go.Sx Go.Proofs

def gA (n : Nat) : Nat := n / Nat.gcd n 840
def gB (n : Nat) : Nat := 840 / Nat.gcd n 840
theorem gA_le (n : Nat) : gA n ≤ n := Nat.div_le_self _ _
theorem gB_le (n : Nat) : gB n ≤ 840 := Nat.div_le_self _ _
theorem gB_pos (n : Nat) : 0 < gB n := Nat.div_pos (Nat.le_of_dvd (by omega) (Nat.gcd_dvd_right n 840)) (Nat.gcd_pos_of_pos_right _ (by omega))
theorem gAB (n : Nat) : gA n * 840 = n * gB n := by
  obtain ⟨a, ha⟩ := Nat.gcd_dvd_left n 840
  obtain ⟨b, hb⟩ := Nat.gcd_dvd_right n 840
  have g : 0 < Nat.gcd n 840 := Nat.gcd_pos_of_pos_right _ (by omega)
  have e1 : gA n = a := Nat.div_eq_of_eq_mul_right g ha
  have e2 : gB n = b := Nat.div_eq_of_eq_mul_right g hb
  rw [e1, e2]
  calc a * 840 = a * (Nat.gcd n 840 * b) := by rw [← hb]
    _ = (Nat.gcd n 840 * a) * b := by ac_rfl
    _ = n * b := by rw [← ha]
theorem gstep {n t : Nat} (h1 : 1 ≤ t) (h8 : t ≤ 8) : (gA n * t + gB n) / Nat.gcd (gA n * t + gB n) (gB n * t) = gA (840 / t + n) ∧ gB n * t / Nat.gcd (gA n * t + gB n) (gB n * t) = gB (840 / t + n) := by
  refine lowest (Nat.mul_pos (gB_pos n) (by omega)) (by omega) ?_
  have e := gAB n
  have d := dvd840 h1 h8
  calc (gA n * t + gB n) * 840 = gA n * 840 * t + 840 * gB n := by rw [Nat.add_mul]; ac_rfl
    _ = n * gB n * t + (840 / t * t) * gB n := by rw [e, d]
    _ = (840 / t + n) * (gB n * t) := by rw [Nat.add_mul]; rw [Nat.add_comm]; congr 1 <;> ac_rfl
theorem num_le : ∀ l : List Int, num l ≤ 840 * l.length
  | [] => by simp [num]
  | t :: r => by have := num_le r; have := Nat.div_le_self 840 t.toNat; simp only [num, List.length_cons]; omega

theorem divstep {a b d n : Nat} (hd0 : ¬ d = 0) (h2 : d ∣ a) (h3 : d ∣ b) (hb0 : 0 < b) (hab : a * 840 = n * b) (hc : ∀ c, c ∣ a → c ∣ b → c ≤ d) :
    0 < b / d ∧ a / d * 840 = n * (b / d) ∧ ∀ c, c ∣ a / d → c ∣ b / d → c ≤ 1 := by
  obtain ⟨a', rfl⟩ := h2
  obtain ⟨b', rfl⟩ := h3
  have ea : d * a' / d = a' := Nat.mul_div_cancel_left _ (by omega)
  have eb : d * b' / d = b' := Nat.mul_div_cancel_left _ (by omega)
  rw [ea, eb]
  refine ⟨?_, ?_, fun c c1 c2 => ?_⟩
  · rcases Nat.eq_zero_or_pos b' with h | h
    · subst h; simp at hb0
    · exact h
  · have : d * (a' * 840) = d * (n * b') := by
      calc d * (a' * 840) = d * a' * 840 := by ac_rfl
        _ = n * (d * b') := hab
        _ = d * (n * b') := by ac_rfl
    exact Nat.eq_of_mul_eq_mul_left (by omega) this
  · have := hc (d * c) (Nat.mul_dvd_mul_left d c1) (Nat.mul_dvd_mul_left d c2)
    exact Nat.le_of_mul_le_mul_left (by rw [Nat.mul_one]; exact this) (show 0 < d by omega)

def s17 : Sp := spT 17 [.l] fun l => res (small l) (weightF l)
@[simp] theorem s17_g : s17.g = 17 := rfl
@[simp] theorem s17_f : s17.f = (spT 17 [.l] fun l => res (small l) (weightF l)).f := rfl
theorem s17_ok : s17.ok Try.prog := by
  apply spT_ok
  simp only [OkT, Ty.all, List.nil_append, List.cons_append]
  intro (l : List Int) u
  apply okT_res; intro hs
  refine P17.rz (ss := [s23, s53]) ⟨s23_ok, s53_ok, trivial⟩ (by simp) fun Q hQ => ?_
  delta p17 p17_r0 p17_r1 p17_r2 p17_r3 p17_r4 p17_r5
  have hs' := hs
  simp [small] at hs
  by_cases h0 : chk l = 0
  case neg =>
    simp [hs', h0]
    exact hQ _ _ (.p (.inl rfl) (by simp [weightF, h0]) (by simp [weightF, h0]))
  simp [hs', h0]
  obtain ⟨-, h4, h8⟩ := chk_ok h0
  refine XZ_for (fun p : Nat × Nat => ⟨[(2, vI (gA p.2)), (3, vI (gB p.2)), (14, .il (ints l) l.length u), (15, vI l.length), (16, vI p.1)], [], 0⟩) (fun p => l.length - p.1) (fun p => p.1 ≤ l.length ∧ p.2 + num (l.drop p.1) = num l) (0, 0) (by simp) (.to [] (by simp [gA, gB])) ?_
  rintro ⟨i, n⟩ ⟨hi, hb⟩ N Q' hN hE
  simp only at hi hb ⊢
  delta p17_l0 p17_r6 p17_r7 p17_r8 p17_r9 p17_r10 p17_r11
  rcases Nat.lt_or_ge i l.length with h | h
  · obtain ⟨x, r, e1, e2, e3, e4, e5⟩ := drop_split h
    obtain ⟨x1, x8⟩ := h8 x e5
    obtain ⟨t, rfl⟩ := Int.eq_ofNat_of_zero_le (show 0 ≤ x by omega)
    rw [e1] at hb
    simp only [num, Int.toNat_natCast] at hb
    have hn := num_le l
    have b1 : gA n * t ≤ 3360 * 8 := Nat.mul_le_mul (Nat.le_trans (gA_le n) (by have := Nat.zero_le (840 / t); omega)) (by omega)
    have b2 : gB n * t ≤ 840 * 8 := Nat.mul_le_mul (gB_le n) (by omega)
    have b3 := gB_le n
    have hpos : 0 < gB n * t := Nat.mul_pos (gB_pos n) (by omega)
    have hg : 0 < Nat.gcd (gA n * t + gB n) (gB n * t) := Nat.gcd_pos_of_pos_right _ hpos
    have eg : Int.gcd ((gA n : Int) * t + gB n) ((gB n : Int) * t) = Nat.gcd (gA n * t + gB n) (gB n * t) := by
      rw [← Int.natCast_mul, ← Int.natCast_mul, ← Int.natCast_add]; rfl
    have s := gstep (n := n) (t := t) (by omega) (by omega)
    have ss1 : ((gA n : Int) * t + gB n) / (Nat.gcd (gA n * t + gB n) (gB n * t) : Nat) = (gA (840 / t + n) : Int) := by rw [← s.1]; simp
    have ss2 : ((gB n : Int) * t) / (Nat.gcd (gA n * t + gB n) (gB n * t) : Nat) = (gB (840 / t + n) : Int) := by rw [← s.2]; simp
    have c1 : (gA n : Int) * t ≤ 26880 := by rw [← Int.natCast_mul]; omega
    have c0 : 0 ≤ (gA n : Int) * t := by rw [← Int.natCast_mul]; omega
    have c2 : (gB n : Int) * t ≤ 6720 := by rw [← Int.natCast_mul]; omega
    have c3 : 0 ≤ (gB n : Int) * t := by rw [← Int.natCast_mul]; omega
    have hA := gA_le (840 / t + n)
    have hB := gB_le (840 / t + n)
    have hg0 : ¬ (Nat.gcd (gA n * t + gB n) (gB n * t) = 0) := by omega
    have k1 : (0 : Int) ≤ (gA n : Int) * t + gB n := by omega
    have k2 : (gB n : Int) * t ≤ 1000000 := by omega
    have k3 := Nat.div_le_self 840 t
    simp (disch := omega) [oLt, oLe, oLtN, oLeN, nLt, nLe, nLtN, nLeN, h, e2, e3, eg, ss1, ss2, hg0, k1, c3, k2]
    refine hN _ (i + 1, 840 / t + n) (by simp only; omega) ⟨h, ?_⟩ (.to [] (by simp))
    simp only [e4]; omega
  · have h' : ¬ i < l.length := by omega
    simp (disch := omega) [oLt, oLe, oLtN, oLeN, nLt, nLe, nLtN, nLeN, h']
    refine hE _ _ _ .refl ?_
    delta p17_r12
    simp
    refine hQ _ _ (.p (.inl rfl) ?_ ?_)
    · simp [List.drop_eq_nil_of_le h, num] at hb
      simp [weightF, h0, wA, wB, gA, gB, hb]
    · simp [weightF, h0]

def s18 : Sp := spT 18 [.l] fun l => res (small l) (weightF l)
@[simp] theorem s18_g : s18.g = 18 := rfl
@[simp] theorem s18_f : s18.f = (spT 18 [.l] fun l => res (small l) (weightF l)).f := rfl
theorem s18_ok : s18.ok Try.prog := by
  apply spT_ok
  simp only [OkT, Ty.all, List.nil_append, List.cons_append]
  intro (l : List Int) u
  apply okT_res; intro hs
  refine P18.rz (ss := [s24]) ⟨s24_ok, trivial⟩ (by simp) fun Q hQ => ?_
  delta p18 p18_r0 p18_r1 p18_r2 p18_r3 p18_r4 p18_r5
  have hs' := hs
  simp [small] at hs
  by_cases h0 : chk l = 0
  case neg =>
    simp [hs', h0]
    exact hQ _ _ (.p (.inl rfl) (by simp [weightF, h0]) (by simp [weightF, h0]))
  simp [hs', h0]
  obtain ⟨-, h4, h8⟩ := chk_ok h0
  refine XZ_for (fun p : Nat × Nat => ⟨[(0, .il (ints l) l.length u), (6, vI p.2), (7, vI 840), (8, vI p.1)], [], 0⟩) (fun p => l.length - p.1) (fun p => p.1 ≤ l.length ∧ p.2 + num (l.drop p.1) = num l) (0, 0) (by simp) (.to [] (by simp)) ?_
  rintro ⟨i, n⟩ ⟨hi, hb⟩ N Q' hN hE
  simp only at hi hb ⊢
  delta p18_l0 p18_r6 p18_r7 p18_r8
  rcases Nat.lt_or_ge i l.length with h | h
  · obtain ⟨x, r, e1, e2, e3, e4, e5⟩ := drop_split h
    obtain ⟨x1, x8⟩ := h8 x e5
    obtain ⟨t, rfl⟩ := Int.eq_ofNat_of_zero_le (show 0 ≤ x by omega)
    rw [e1] at hb
    simp only [num, Int.toNat_natCast] at hb
    have hn := num_le l
    have k0 : (840 : Int) / (t : Int) = ((840 / t : Nat) : Int) := by simp
    have k3 := Nat.div_le_self 840 t
    have k5 : 0 ≤ (840 : Int) / (t : Int) := by rw [k0]; exact Int.natCast_nonneg _
    have k6 : (840 : Int) / (t : Int) ≤ 840 := by rw [k0]; exact Int.ofNat_le.2 k3
    have hg0 : ¬ t = 0 := by omega
    simp (disch := omega) [oLt, oLe, oLtN, oLeN, nLt, nLe, nLtN, nLeN, h, e2, e3, hg0]
    refine hN _ (i + 1, n + 840 / t) (by simp only; omega) ⟨h, ?_⟩ (.to [] (by simp))
    simp only [e4]; omega
  · have h' : ¬ i < l.length := by omega
    simp (disch := omega) [oLt, oLe, oLtN, oLeN, nLt, nLe, nLtN, nLeN, h']
    refine hE _ _ _ .refl ?_
    simp [List.drop_eq_nil_of_le h, num] at hb
    subst hb
    delta p18_r9
    simp
    have hn : num l ≤ 3360 := by have := num_le l; omega
    refine XZ_for (fun p : Nat × Nat × Nat => ⟨[(6, vI p.1), (7, vI p.2.1), (9, vI p.2.2)], [], 0⟩) (fun p => p.2.2) (fun p => p.2.2 ≤ 840 ∧ p.1 ≤ 3360 ∧ 0 < p.2.1 ∧ p.2.1 ≤ 840 ∧ p.1 * 840 = num l * p.2.1 ∧ ∀ c, c ∣ p.1 → c ∣ p.2.1 → c ≤ p.2.2) (num l, 840, 840) ⟨by simp, (by simp only; omega), by simp, by simp, by simp, fun c _ h => by simpa using Nat.le_of_dvd (n := 840) (by omega) (by simpa using h)⟩ (.to [] (by simp)) ?_
    rintro ⟨a, b, d⟩ ⟨hd, ha, hb0, hb8, hab, hc⟩ N2 Q2 hN2 hE2
    simp only at hd ha hb0 hb8 hab hc ⊢
    delta p18_l1 p18_r10 p18_r11 p18_r12 p18_r13
    by_cases hd1 : d ≤ 1
    · have h1 : ¬ ((1 : Int) < d) := by omega
      simp (disch := omega) [oLt, oLe, oLtN, oLeN, nLt, nLe, nLtN, nLeN, h1]
      refine hE2 _ _ _ .refl ?_
      delta p18_r14
      simp
      have g1 : Nat.gcd a b = 1 := by
        have := hc _ (Nat.gcd_dvd_left a b) (Nat.gcd_dvd_right a b)
        have := Nat.gcd_pos_of_pos_right a hb0
        omega
      have := lowest hb0 (show 0 < 840 by omega) hab
      rw [g1] at this
      simp only [Nat.div_one] at this
      refine hQ _ _ (.p (.inl rfl) ?_ ?_)
      · simp [weightF, h0, wA, wB, this.1, this.2]
      · simp [weightF, h0]
    · have h1 : (1 : Int) < d := by omega
      have hd0 : ¬ d = 0 := by omega
      by_cases h2 : d ∣ a
      · by_cases h3 : d ∣ b
        · have m1 : (a : Int) % d = 0 := by rw [← Int.natCast_emod, Nat.mod_eq_zero_of_dvd h2]; rfl
          have m2 : (b : Int) % d = 0 := by rw [← Int.natCast_emod, Nat.mod_eq_zero_of_dvd h3]; rfl
          have q1 : (a : Int) / d = ((a / d : Nat) : Int) := by simp
          have q2 : (b : Int) / d = ((b / d : Nat) : Int) := by simp
          have l1 := Nat.div_le_self a d
          have l2 := Nat.div_le_self b d
          have p1 : ((a / d : Nat) : Int) ≤ 3360 := by omega
          have p2 : ((b / d : Nat) : Int) ≤ 840 := by omega
          obtain ⟨r1, r2, r3⟩ := divstep hd0 h2 h3 hb0 hab hc
          simp (disch := omega) [oLt, oLe, oLtN, oLeN, nLt, nLe, nLtN, nLeN, h1, hd0, m1, m2, q1, q2, -Int.natCast_ediv]
          exact hN2 _ (a / d, b / d, d - 1) (by simp only; omega) ⟨by simp only; omega, Nat.le_trans l1 ha, r1, Nat.le_trans l2 hb8, r2, fun c c1 c2 => by have := r3 c c1 c2; simp only; omega⟩ (.to [] (by simp [-Int.natCast_ediv]; omega))
        · have m1 : (a : Int) % d = 0 := by rw [← Int.natCast_emod, Nat.mod_eq_zero_of_dvd h2]; rfl
          have m2 : ¬ (b : Int) % d = 0 := by rw [← Int.natCast_emod]; intro e; exact h3 (Nat.dvd_of_mod_eq_zero (by omega))
          simp (disch := omega) [oLt, oLe, oLtN, oLeN, nLt, nLe, nLtN, nLeN, h1, hd0, m1, m2]
          refine hN2 _ (a, b, d - 1) (by simp only; omega) ⟨by simp only; omega, ha, hb0, hb8, hab, fun c c1 c2 => ?_⟩ (.to [] (by simp; omega))
          have := hc c c1 c2
          have : c ≠ d := fun e => h3 (e ▸ c2)
          simp only; omega
      · have m1 : ¬ (a : Int) % d = 0 := by rw [← Int.natCast_emod]; intro e; exact h2 (Nat.dvd_of_mod_eq_zero (by omega))
        simp (disch := omega) [oLt, oLe, oLtN, oLeN, nLt, nLe, nLtN, nLeN, h1, hd0, m1]
        refine hN2 _ (a, b, d - 1) (by simp only; omega) ⟨by simp only; omega, ha, hb0, hb8, hab, fun c c1 c2 => ?_⟩ (.to [] (by simp; omega))
        have := hc c c1 c2
        have : c ≠ d := fun e => h2 (e ▸ c1)
        simp only; omega
end Go.Sx.Wk
