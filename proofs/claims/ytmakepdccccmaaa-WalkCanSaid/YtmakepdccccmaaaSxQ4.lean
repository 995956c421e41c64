/- What functions of the walk layer return: states. No conditions. -/
import Derived.Test.YtmakepdccccmaaaSxQ3
set_option linter.unusedVariables false
set_option linter.unusedSimpArgs false
namespace Go.Sx
/-- A slice that a function has made by appending: nothing yet, or a block of its own. -/
def ow (id : Nat) : List Int → AV
  | [] => .v (.slice none 0 0)
  | a :: r => .ref id 0 (r.length + 1) 1 none
def owh (id : Nat) (l : List Int) (h : HL) : HL :=
  match l with
  | [] => h
  | a :: r => (id, .cells (.v (.int .i64 a) :: ints r)) :: h
def own (l : List Int) (n : Nat) : Nat :=
  match l with
  | [] => n
  | _ :: _ => n + 1
@[simp] theorem ow_nil (id : Nat) : ow id [] = .v (.slice none 0 0) := rfl
@[simp] theorem ow_cons (id : Nat) (a : Int) (r : List Int) : ow id (a :: r) = .ref id 0 (r.length + 1) 1 none := rfl
@[simp] theorem owh_nil (id : Nat) (h : HL) : owh id [] h = h := rfl
@[simp] theorem owh_cons (id : Nat) (a : Int) (r : List Int) (h : HL) : owh id (a :: r) h = (id, .cells (.v (.int .i64 a) :: ints r)) :: h := rfl
@[simp] theorem own_nil (n : Nat) : own [] n = n := rfl
@[simp] theorem own_cons (a : Int) (r : List Int) (n : Nat) : own (a :: r) n = n + 1 := rfl
end Go.Sx
namespace Go.Sx.Wk
open Go Go.Sx Go.Proofs

def idxL : List Int → List Int → Int → Int
  | t :: ts, x :: xs, a => idxL ts xs (a * t + x - 1)
  | _, _, a => a
def ok8 (l : List Int) : Bool := l.all (within 1 · 8)
@[simp] theorem within_iff {a n b : Int} : within a n b = true ↔ a ≤ n ∧ n ≤ b := by simp [within]
theorem ok8_iff {l : List Int} : ok8 l = true ↔ ∀ t ∈ l, 1 ≤ t ∧ t ≤ 8 := by simp [ok8]

def s65 : Sp := spT 65 [.l, .l] fun (t x : List Int) => res (ok8 t && ok8 x && decide (t.length = x.length) && decide (t.length ≤ 4)) (vI (idxL t x 0))
@[simp] theorem s65_g : s65.g = 65 := rfl
@[simp] theorem s65_f : s65.f = (spT 65 [.l, .l] fun (t x : List Int) => res (ok8 t && ok8 x && decide (t.length = x.length) && decide (t.length ≤ 4)) (vI (idxL t x 0))).f := rfl
theorem s65_ok : s65.ok Try.prog := by
  apply spT_ok
  simp only [OkT, Ty.all, List.nil_append, List.cons_append]
  intro (t : List Int) ut (x : List Int) ux
  apply okT_res; intro hs
  refine P65.rz (ss := []) trivial (by simp) fun Q hQ => ?_
  delta p65 p65_r0 p65_r1 p65_r2
  simp only [Bool.and_eq_true, decide_eq_true_eq] at hs
  obtain ⟨⟨⟨ht, hx⟩, hl⟩, h4⟩ := hs
  simp
  refine XZ_for (fun p : Nat × Nat => ⟨[(0, .il (ints t) t.length ut), (1, .il (ints x) x.length ux), (5, vI p.2), (6, vI p.1)], [], 0⟩) (fun p => t.length - p.1) (fun p => p.1 ≤ t.length ∧ p.2 < 8 ^ p.1 ∧ idxL (t.drop p.1) (x.drop p.1) p.2 = idxL t x 0) (0, 0) (by simp) (.to [] (by simp)) ?_
  rintro ⟨i, a⟩ ⟨hi, ha, hb⟩ N Q' hN hE
  simp only at hi ha hb ⊢
  delta p65_l0 p65_r3 p65_r4 p65_r5
  rcases Nat.lt_or_ge i t.length with h | h
  · obtain ⟨y, r, e1, e2, e3, e4, e5⟩ := drop_split h
    obtain ⟨z, q, f1, f2, f3, f4, f5⟩ := drop_split (show i < x.length by omega)
    have hz := ok8_iff.1 hx z f5
    have hy := ok8_iff.1 ht y e5
    rw [e1, f1] at hb
    simp only [idxL] at hb
    have hp : 8 ^ (i + 1) = 8 ^ i * 8 := Nat.pow_succ ..
    have hpi : 8 ^ i ≤ 8 ^ 4 := Nat.pow_le_pow_right (by omega) (by omega)
    obtain ⟨y, rfl⟩ := Int.eq_ofNat_of_zero_le (show 0 ≤ y by omega)
    obtain ⟨z, rfl⟩ := Int.eq_ofNat_of_zero_le (show 0 ≤ z by omega)
    have m1 : a * y + (z - 1) < 8 ^ (i + 1) := by
      have : a * y ≤ (8 ^ i - 1) * 8 := Nat.mul_le_mul (by omega) (by omega)
      omega
    have m2 : ((a : Int) * y + z - 1) = ((a * y + (z - 1) : Nat) : Int) := by
      have : 1 ≤ z := by omega
      rw [Int.natCast_add, Int.natCast_mul, Int.ofNat_sub this]; omega
    have m3 : (a : Int) * y ≤ 32768 := by
      have : a * y ≤ 8 ^ 4 * 8 := Nat.mul_le_mul (by omega) (by omega)
      rw [← Int.natCast_mul]; omega
    have m4 : 0 ≤ (a : Int) * y := by rw [← Int.natCast_mul]; omega
    have hx' : i < x.length := by omega
    simp (disch := omega) [oLt, oLe, oLtN, oLeN, nLt, nLe, nLtN, nLeN, h, hx', e2, e3, f2, f3]
    refine hN _ (i + 1, a * y + (z - 1)) (by simp only; omega) ⟨h, m1, ?_⟩ (.to [] (by simp [m2]))
    simp only [e4, f4]
    rw [← m2]; exact hb
  · have h' : ¬ i < t.length := by omega
    simp (disch := omega) [oLt, oLe, oLtN, oLeN, nLt, nLe, nLtN, nLeN, h']
    refine hE _ _ _ .refl ?_
    delta p65_r6
    simp
    refine hQ _ _ (.p (.inl rfl) ?_ rfl)
    simpa [List.drop_eq_nil_of_le h, List.drop_eq_nil_of_le (show x.length ≤ i by omega), idxL] using hb

def aftG (s : Int) : List Int → List Int → Int → Option (List Int)
  | [], _, _ => some []
  | _ :: _, [], _ => none
  | t :: ts, x :: xs, i => if i = s then (aftG s ts xs (i + 1)).map (t :: ·) else if x = 1 then none else (aftG s ts xs (i + 1)).map ((x - 1) :: ·)
def avAft (o : Option (List Int)) : AV :=
  match o with
  | some l => .tup [.il (ints l) l.length false, vB true]
  | none => .tup [.il [] 0 false, vB false]
theorem map_app (acc : List Int) (y : Int) (o : Option (List Int)) : (o.map (y :: ·)).map (acc ++ ·) = o.map ((acc ++ [y]) ++ ·) := by
  cases o <;> simp

def s79 : Sp := spT 79 [.l, .l, .i] fun (t x : List Int) (s : Int) => res (decide (t.length = x.length) && small t && x.all (within 0 · 1000000)) (avAft (aftG s t x 0))
@[simp] theorem s79_g : s79.g = 79 := rfl
@[simp] theorem s79_f : s79.f = (spT 79 [.l, .l, .i] fun (t x : List Int) (s : Int) => res (decide (t.length = x.length) && small t && x.all (within 0 · 1000000)) (avAft (aftG s t x 0))).f := rfl
theorem s79_ok : s79.ok Try.prog := by
  apply spT_ok
  simp only [OkT, Ty.all, List.nil_append, List.cons_append]
  intro (t : List Int) ut (x : List Int) ux (s : Int)
  apply okT_res; intro hs
  refine P79.rz (ss := []) trivial (by simp) fun Q hQ => ?_
  delta p79 p79_r0 p79_r1 p79_r2
  simp only [Bool.and_eq_true, decide_eq_true_eq, small] at hs
  obtain ⟨⟨hl, h4⟩, hx⟩ := hs
  simp
  refine XZ_for (fun p : Nat × List Int => ⟨[(0, .il (ints t) t.length ut), (1, .il (ints x) x.length ux), (2, vI s), (8, ow 0 p.2), (9, vI p.1)], owh 0 p.2 [], own p.2 0⟩) (fun p => t.length - p.1) (fun p => p.1 ≤ t.length ∧ p.2.length = p.1 ∧ (aftG s (t.drop p.1) (x.drop p.1) p.1).map (p.2 ++ ·) = aftG s t x 0) (0, []) (by simp) (.to [] (by simp)) ?_
  rintro ⟨i, acc⟩ ⟨hi, hacc, hb⟩ N Q' hN hE
  simp only at hi hacc hb ⊢
  rcases Nat.lt_or_ge i t.length with h | h
  · obtain ⟨y, r, e1, e2, e3, e4, e5⟩ := drop_split h
    obtain ⟨z, q, f1, f2, f3, f4, f5⟩ := drop_split (show i < x.length by omega)
    have hz := List.all_eq_true.1 hx z f5
    simp only [within_iff] at hz
    have hx' : i < x.length := by omega
    rw [e1, f1] at hb
    simp only [aftG] at hb
    by_cases his : (i : Int) = s
    · rw [if_pos his, map_app] at hb
      subst his
      have fin : ∀ s', ChgT 0 s' ⟨[(0, .il (ints t) t.length ut), (1, .il (ints x) x.length ux), (2, vI i), (8, ow 0 (acc ++ [y])), (9, vI ((i + 1 : Nat) : Int))], owh 0 (acc ++ [y]) [], own (acc ++ [y]) 0⟩ → N s' := fun s' hc => hN s' (i + 1, acc ++ [y]) (by simp only; omega) ⟨h, by simp [hacc], by simp only [e4, f4]; exact hb⟩ hc
      rcases acc with _ | ⟨a0, ar⟩ <;> (simp only [List.length_cons, List.length_nil] at hacc; delta p79_l0 p79_r3 p79_r4 p79_r5 p79_r6 p79_r7 p79_r8 p79_r9; simp (disch := omega) [oLt, oLe, oLtN, oLeN, nLt, nLe, nLtN, nLeN, h, hx', e2, e3, f2, f3]; exact fin _ (.tot [8] (by simp (disch := omega))))
    · rw [if_neg his] at hb
      by_cases hz1 : z = 1
      · rw [if_pos hz1] at hb
        simp only [Option.map_none] at hb
        rcases acc with _ | ⟨a0, ar⟩ <;> (simp only [List.length_cons, List.length_nil] at hacc; delta p79_l0 p79_r3 p79_r4 p79_r5 p79_r6 p79_r7 p79_r8 p79_r9; simp (disch := omega) [oLt, oLe, oLtN, oLeN, nLt, nLe, nLtN, nLeN, his, h, hx', e2, e3, f2, f3, hz1]; exact hE _ _ _ .refl (hQ _ _ (.fz [6, 7] _ (.inl rfl) (by simp; rfl) (by simp [← hb, avAft]) (by simp [← hb, avAft]))))
      · rw [if_neg hz1, map_app] at hb
        have fin : ∀ s', ChgT 0 s' ⟨[(0, .il (ints t) t.length ut), (1, .il (ints x) x.length ux), (2, vI s), (8, ow 0 (acc ++ [z - 1])), (9, vI ((i + 1 : Nat) : Int))], owh 0 (acc ++ [z - 1]) [], own (acc ++ [z - 1]) 0⟩ → N s' := fun s' hc => hN s' (i + 1, acc ++ [z - 1]) (by simp only; omega) ⟨h, by simp [hacc], by simp only [e4, f4]; exact hb⟩ hc
        rcases acc with _ | ⟨a0, ar⟩ <;> (simp only [List.length_cons, List.length_nil] at hacc; delta p79_l0 p79_r3 p79_r4 p79_r5 p79_r6 p79_r7 p79_r8 p79_r9; simp (disch := omega) [oLt, oLe, oLtN, oLeN, nLt, nLe, nLtN, nLeN, his, h, hx', e2, e3, f2, f3, hz1]; exact fin _ (.tot [8] (by simp (disch := omega))))
  · have h' : ¬ i < t.length := by omega
    simp only [List.drop_eq_nil_of_le h, aftG, Option.map_some, List.append_nil] at hb
    rcases acc with _ | ⟨a0, ar⟩ <;> (simp only [List.length_cons, List.length_nil] at hacc; delta p79_l0 p79_r3 p79_r4 p79_r5 p79_r6 p79_r7 p79_r8 p79_r9; simp (disch := omega) [oLt, oLe, oLtN, oLeN, nLt, nLe, nLtN, nLeN, h']; refine hE _ _ _ .refl ?_; delta p79_r10; simp (disch := omega) [oLt, oLe, oLtN, oLeN, nLt, nLe, nLtN, nLeN]; exact hQ _ _ (.fz [6, 7] _ (.inl rfl) (by simp; rfl) (by simp [← hb, avAft]) (by simp [← hb, avAft])))
end Go.Sx.Wk
