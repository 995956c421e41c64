/- What functions of the walk layer return: states. No conditions. -/
import Derived.Test.YtmakepdccccmaaaSxJQ1toQ3
set_option linter.unusedVariables false
set_option linter.unusedSimpArgs false
namespace Go.Sx
/-- A slice that a function has made by appending: nothing yet, or a block of its own. -/
def ow (id : Nat) : List Int → AV
  | [] => .v (.slice none 0 0)
  | a :: r => .ref id 0 (r.length + 1) 1 none
def owh (id : Nat) (l : List Int) (h : HL) : HL :=
  match l with
  | [] => h
  | a :: r => (id, .cells (.v (.int .i64 a) :: ints r)) :: h
def own (l : List Int) (n : Nat) : Nat :=
  match l with
  | [] => n
  | _ :: _ => n + 1
@[simp] theorem ow_nil (id : Nat) : ow id [] = .v (.slice none 0 0) := rfl
@[simp] theorem ow_cons (id : Nat) (a : Int) (r : List Int) : ow id (a :: r) = .ref id 0 (r.length + 1) 1 none := rfl
@[simp] theorem owh_nil (id : Nat) (h : HL) : owh id [] h = h := rfl
@[simp] theorem owh_cons (id : Nat) (a : Int) (r : List Int) (h : HL) : owh id (a :: r) h = (id, .cells (.v (.int .i64 a) :: ints r)) :: h := rfl
@[simp] theorem own_nil (n : Nat) : own [] n = n := rfl
@[simp] theorem own_cons (a : Int) (r : List Int) (n : Nat) : own (a :: r) n = n + 1 := rfl
end Go.Sx
namespace Go.Sx.Wk
open Go Go.Sx Go.Proofs

def idxL : List Int → List Int → Int → Int
  | t :: ts, x :: xs, a => idxL ts xs (a * t + x - 1)
  | _, _, a => a
def ok8 (l : List Int) : Bool := l.all (within 1 · 8)
@[simp] theorem within_iff {a n b : Int} : within a n b = true ↔ a ≤ n ∧ n ≤ b := by simp [within]
theorem ok8_iff {l : List Int} : ok8 l = true ↔ ∀ t ∈ l, 1 ≤ t ∧ t ≤ 8 := by simp [ok8]

def s65 : Sp := spT 65 [.l, .l] fun (t x : List Int) => res (ok8 t && ok8 x && decide (t.length = x.length) && decide (t.length ≤ 4)) (vI (idxL t x 0))
@[simp] theorem s65_g : s65.g = 65 := rfl
@[simp] theorem s65_f : s65.f = (spT 65 [.l, .l] fun (t x : List Int) => res (ok8 t && ok8 x && decide (t.length = x.length) && decide (t.length ≤ 4)) (vI (idxL t x 0))).f := rfl
theorem s65_ok : s65.ok Try.prog := by
  apply spT_ok
  simp only [OkT, Ty.all, List.nil_append, List.cons_append]
  intro (t : List Int) ut (x : List Int) ux
  apply okT_res; intro hs
  refine P65.rz (ss := []) trivial (by simp) fun Q hQ => ?_
  delta p65 p65_r0 p65_r1 p65_r2
  simp only [Bool.and_eq_true, decide_eq_true_eq] at hs
  obtain ⟨⟨⟨ht, hx⟩, hl⟩, h4⟩ := hs
  simp
  refine XZ_for (fun p : Nat × Nat => ⟨[(0, .il (ints t) t.length ut), (1, .il (ints x) x.length ux), (5, vI p.2), (6, vI p.1)], [], 0⟩) (fun p => t.length - p.1) (fun p => p.1 ≤ t.length ∧ p.2 < 8 ^ p.1 ∧ idxL (t.drop p.1) (x.drop p.1) p.2 = idxL t x 0) (0, 0) (by simp) (.to [] (by simp)) ?_
  rintro ⟨i, a⟩ ⟨hi, ha, hb⟩ N Q' hN hE
  simp only at hi ha hb ⊢
  delta p65_l0 p65_r3 p65_r4 p65_r5
  rcases Nat.lt_or_ge i t.length with h | h
  · obtain ⟨y, r, e1, e2, e3, e4, e5⟩ := drop_split h
    obtain ⟨z, q, f1, f2, f3, f4, f5⟩ := drop_split (show i < x.length by omega)
    have hz := ok8_iff.1 hx z f5
    have hy := ok8_iff.1 ht y e5
    rw [e1, f1] at hb
    simp only [idxL] at hb
    have hp : 8 ^ (i + 1) = 8 ^ i * 8 := Nat.pow_succ ..
    have hpi : 8 ^ i ≤ 8 ^ 4 := Nat.pow_le_pow_right (by omega) (by omega)
    obtain ⟨y, rfl⟩ := Int.eq_ofNat_of_zero_le (show 0 ≤ y by omega)
    obtain ⟨z, rfl⟩ := Int.eq_ofNat_of_zero_le (show 0 ≤ z by omega)
    have m1 : a * y + (z - 1) < 8 ^ (i + 1) := by
      have : a * y ≤ (8 ^ i - 1) * 8 := Nat.mul_le_mul (by omega) (by omega)
      omega
    have m2 : ((a : Int) * y + z - 1) = ((a * y + (z - 1) : Nat) : Int) := by
      have : 1 ≤ z := by omega
      rw [Int.natCast_add, Int.natCast_mul, Int.ofNat_sub this]; omega
    have m3 : (a : Int) * y ≤ 32768 := by
      have : a * y ≤ 8 ^ 4 * 8 := Nat.mul_le_mul (by omega) (by omega)
      rw [← Int.natCast_mul]; omega
    have m4 : 0 ≤ (a : Int) * y := by rw [← Int.natCast_mul]; omega
    have hx' : i < x.length := by omega
    simp (disch := omega) [oLt, oLe, oLtN, oLeN, nLt, nLe, nLtN, nLeN, h, hx', e2, e3, f2, f3]
    refine hN _ (i + 1, a * y + (z - 1)) (by simp only; omega) ⟨h, m1, ?_⟩ (.to [] (by simp [m2]))
    simp only [e4, f4]
    rw [← m2]; exact hb
  · have h' : ¬ i < t.length := by omega
    simp (disch := omega) [oLt, oLe, oLtN, oLeN, nLt, nLe, nLtN, nLeN, h']
    refine hE _ _ _ .refl ?_
    delta p65_r6
    simp
    refine hQ _ _ (.p (.inl rfl) ?_ rfl)
    simpa [List.drop_eq_nil_of_le h, List.drop_eq_nil_of_le (show x.length ≤ i by omega), idxL] using hb

def aftG (s : Int) : List Int → List Int → Int → Option (List Int)
  | [], _, _ => some []
  | _ :: _, [], _ => none
  | t :: ts, x :: xs, i => if i = s then (aftG s ts xs (i + 1)).map (t :: ·) else if x = 1 then none else (aftG s ts xs (i + 1)).map ((x - 1) :: ·)
def avAft (o : Option (List Int)) : AV :=
  match o with
  | some l => .tup [.il (ints l) l.length false, vB true]
  | none => .tup [.il [] 0 false, vB false]
theorem map_app (acc : List Int) (y : Int) (o : Option (List Int)) : (o.map (y :: ·)).map (acc ++ ·) = o.map ((acc ++ [y]) ++ ·) := by
  cases o <;> simp

def s79 : Sp := spT 79 [.l, .l, .i] fun (t x : List Int) (s : Int) => res (decide (t.length = x.length) && small t && x.all (within 0 · 1000000)) (avAft (aftG s t x 0))
@[simp] theorem s79_g : s79.g = 79 := rfl
@[simp] theorem s79_f : s79.f = (spT 79 [.l, .l, .i] fun (t x : List Int) (s : Int) => res (decide (t.length = x.length) && small t && x.all (within 0 · 1000000)) (avAft (aftG s t x 0))).f := rfl
theorem s79_ok : s79.ok Try.prog := by
  apply spT_ok
  simp only [OkT, Ty.all, List.nil_append, List.cons_append]
  intro (t : List Int) ut (x : List Int) ux (s : Int)
  apply okT_res; intro hs
  refine P79.rz (ss := []) trivial (by simp) fun Q hQ => ?_
  delta p79 p79_r0 p79_r1 p79_r2
  simp only [Bool.and_eq_true, decide_eq_true_eq, small] at hs
  obtain ⟨⟨hl, h4⟩, hx⟩ := hs
  simp
  refine XZ_for (fun p : Nat × List Int => ⟨[(0, .il (ints t) t.length ut), (1, .il (ints x) x.length ux), (2, vI s), (8, ow 0 p.2), (9, vI p.1)], owh 0 p.2 [], own p.2 0⟩) (fun p => t.length - p.1) (fun p => p.1 ≤ t.length ∧ p.2.length = p.1 ∧ (aftG s (t.drop p.1) (x.drop p.1) p.1).map (p.2 ++ ·) = aftG s t x 0) (0, []) (by simp) (.to [] (by simp)) ?_
  rintro ⟨i, acc⟩ ⟨hi, hacc, hb⟩ N Q' hN hE
  simp only at hi hacc hb ⊢
  rcases Nat.lt_or_ge i t.length with h | h
  · obtain ⟨y, r, e1, e2, e3, e4, e5⟩ := drop_split h
    obtain ⟨z, q, f1, f2, f3, f4, f5⟩ := drop_split (show i < x.length by omega)
    have hz := List.all_eq_true.1 hx z f5
    simp only [within_iff] at hz
    have hx' : i < x.length := by omega
    rw [e1, f1] at hb
    simp only [aftG] at hb
    by_cases his : (i : Int) = s
    · rw [if_pos his, map_app] at hb
      subst his
      have fin : ∀ s', ChgT 0 s' ⟨[(0, .il (ints t) t.length ut), (1, .il (ints x) x.length ux), (2, vI i), (8, ow 0 (acc ++ [y])), (9, vI ((i + 1 : Nat) : Int))], owh 0 (acc ++ [y]) [], own (acc ++ [y]) 0⟩ → N s' := fun s' hc => hN s' (i + 1, acc ++ [y]) (by simp only; omega) ⟨h, by simp [hacc], by simp only [e4, f4]; exact hb⟩ hc
      rcases acc with _ | ⟨a0, ar⟩ <;> (simp only [List.length_cons, List.length_nil] at hacc; delta p79_l0 p79_r3 p79_r4 p79_r5 p79_r6 p79_r7 p79_r8 p79_r9; simp (disch := omega) [oLt, oLe, oLtN, oLeN, nLt, nLe, nLtN, nLeN, h, hx', e2, e3, f2, f3]; exact fin _ (.tot [8] (by simp (disch := omega))))
    · rw [if_neg his] at hb
      by_cases hz1 : z = 1
      · rw [if_pos hz1] at hb
        simp only [Option.map_none] at hb
        rcases acc with _ | ⟨a0, ar⟩ <;> (simp only [List.length_cons, List.length_nil] at hacc; delta p79_l0 p79_r3 p79_r4 p79_r5 p79_r6 p79_r7 p79_r8 p79_r9; simp (disch := omega) [oLt, oLe, oLtN, oLeN, nLt, nLe, nLtN, nLeN, his, h, hx', e2, e3, f2, f3, hz1]; exact hE _ _ _ .refl (hQ _ _ (.fz [6, 7] _ (.inl rfl) (by simp; rfl) (by simp [← hb, avAft]) (by simp [← hb, avAft]))))
      · rw [if_neg hz1, map_app] at hb
        have fin : ∀ s', ChgT 0 s' ⟨[(0, .il (ints t) t.length ut), (1, .il (ints x) x.length ux), (2, vI s), (8, ow 0 (acc ++ [z - 1])), (9, vI ((i + 1 : Nat) : Int))], owh 0 (acc ++ [z - 1]) [], own (acc ++ [z - 1]) 0⟩ → N s' := fun s' hc => hN s' (i + 1, acc ++ [z - 1]) (by simp only; omega) ⟨h, by simp [hacc], by simp only [e4, f4]; exact hb⟩ hc
        rcases acc with _ | ⟨a0, ar⟩ <;> (simp only [List.length_cons, List.length_nil] at hacc; delta p79_l0 p79_r3 p79_r4 p79_r5 p79_r6 p79_r7 p79_r8 p79_r9; simp (disch := omega) [oLt, oLe, oLtN, oLeN, nLt, nLe, nLtN, nLeN, his, h, hx', e2, e3, f2, f3, hz1]; exact fin _ (.tot [8] (by simp (disch := omega))))
  · have h' : ¬ i < t.length := by omega
    simp only [List.drop_eq_nil_of_le h, aftG, Option.map_some, List.append_nil] at hb
    rcases acc with _ | ⟨a0, ar⟩ <;> (simp only [List.length_cons, List.length_nil] at hacc; delta p79_l0 p79_r3 p79_r4 p79_r5 p79_r6 p79_r7 p79_r8 p79_r9; simp (disch := omega) [oLt, oLe, oLtN, oLeN, nLt, nLe, nLtN, nLeN, h']; refine hE _ _ _ .refl ?_; delta p79_r10; simp (disch := omega) [oLt, oLe, oLtN, oLeN, nLt, nLe, nLtN, nLeN]; exact hQ _ _ (.fz [6, 7] _ (.inl rfl) (by simp; rfl) (by simp [← hb, avAft]) (by simp [← hb, avAft])))
end Go.Sx.Wk
namespace Go.Sx
def owL (id : Nat) : List (List Int) → AV
  | [] => .v (.slice none 0 0)
  | a :: r => .ref id 0 (r.length + 1) 1 none
def owhL (id : Nat) (l : List (List Int)) (h : HL) : HL :=
  match l with
  | [] => h
  | a :: r => (id, .cells (lls (a :: r))) :: h
def ownL (l : List (List Int)) (n : Nat) : Nat :=
  match l with
  | [] => n
  | _ :: _ => n + 1
@[simp] theorem owL_nil (id : Nat) : owL id [] = .v (.slice none 0 0) := rfl
@[simp] theorem owL_cons (id : Nat) (a : List Int) (r : List (List Int)) : owL id (a :: r) = .ref id 0 (r.length + 1) 1 none := rfl
@[simp] theorem owhL_nil (id : Nat) (h : HL) : owhL id [] h = h := rfl
@[simp] theorem owhL_cons (id : Nat) (a : List Int) (r : List (List Int)) (h : HL) : owhL id (a :: r) h = (id, .cells (lls (a :: r))) :: h := rfl
@[simp] theorem ownL_nil (n : Nat) : ownL [] n = n := rfl
@[simp] theorem ownL_cons (a : List Int) (r : List (List Int)) (n : Nat) : ownL (a :: r) n = n + 1 := rfl
end Go.Sx
namespace Go.Sx.Wk
open Go Go.Sx Go.Proofs

def upTo (l : List Int) (k n : Nat) : List (List Int) := (List.range n).map fun j => l ++ [((k + j : Nat) : Int)]
theorem upTo_zero (l : List Int) (k : Nat) : upTo l k 0 = [] := rfl
theorem upTo_succ (l : List Int) (k n : Nat) : upTo l k (n + 1) = (l ++ [(k : Int)]) :: upTo l (k + 1) n := by
  simp only [upTo, List.range_succ_eq_map, List.map_cons, List.map_map, Nat.add_zero]
  congr 1
  apply List.map_congr_left
  intro j _
  simp; omega
def stR : List Int → List (List Int)
  | [] => [[]]
  | t :: r => (stR r).flatMap fun l => upTo l 1 t.toNat
def stL (t : List Int) : List (List Int) := stR t.reverse
theorem stL_snoc (ts : List Int) (x : Int) : stL (ts ++ [x]) = (stL ts).flatMap fun l => upTo l 1 x.toNat := by simp [stL, stR]
theorem flatMap_len {l : List (List Int)} {n : Nat} : (l.flatMap fun x => upTo x 1 n).length = l.length * n := by
  induction l with
  | nil => simp
  | cons a l ih => simp only [List.flatMap_cons, List.length_append, ih, List.length_cons]; simp [upTo, Nat.add_mul, Nat.add_comm]
theorem stR_len : ∀ {r : List Int}, (∀ t ∈ r, 1 ≤ t ∧ t ≤ 8) → (stR r).length ≤ 8 ^ r.length
  | [], _ => by simp [stR]
  | t :: r, h => by
    simp only [stR, flatMap_len, List.length_cons, Nat.pow_succ]
    have := stR_len (r := r) (fun t ht => h t (by simp [ht]))
    have := h t (by simp)
    exact Nat.mul_le_mul (by assumption) (by omega)
theorem stL_len {t : List Int} (h : ok8 t = true) (h4 : t.length ≤ 4) : (stL t).length ≤ 4096 := by
  have := stR_len (r := t.reverse) (fun x hx => ok8_iff.1 h x (by simpa using hx))
  have h8 : 8 ^ t.reverse.length ≤ 8 ^ 4 := Nat.pow_le_pow_right (by omega) (by simpa using h4)
  exact Nat.le_trans this h8
theorem stR_elen : ∀ {r : List Int} {l : List Int}, l ∈ stR r → l.length = r.length
  | [], l, h => by simp [stR] at h; subst h; rfl
  | t :: r, l, h => by
    simp only [stR, List.mem_flatMap] at h
    obtain ⟨a, ha, hl⟩ := h
    simp only [upTo, List.mem_map] at hl
    obtain ⟨j, _, rfl⟩ := hl
    simp [stR_elen ha]

def g78 (t : List Int) : Bool := ok8 t && decide (t.length ≤ 4)
def s78n (n : Nat) : Sp := spT 78 [.l] fun (t : List Int) => res (decide (t.length < n) && g78 t) (.il (lls (stL t)) (stL t).length false)
@[simp] theorem s78n_g (n : Nat) : (s78n n).g = 78 := rfl
@[simp] theorem s78n_f (n : Nat) : (s78n n).f = (spT 78 [.l] fun (t : List Int) => res (decide (t.length < n) && g78 t) (.il (lls (stL t)) (stL t).length false)).f := rfl

set_option maxHeartbeats 4000000 in
theorem s78n_ok : ∀ n, (s78n n).ok Try.prog
  | 0 => by
    apply spT_ok
    simp only [OkT, Ty.all, List.nil_append, List.cons_append]
    intro l u
    apply okT_res; intro hs
    simp at hs
  | n + 1 => by
    apply spT_ok
    simp only [OkT, Ty.all, List.nil_append, List.cons_append]
    intro (t : List Int) ut
    apply okT_res; intro hs
    simp only [Bool.and_eq_true, decide_eq_true_eq, g78] at hs
    obtain ⟨hn, ht, h4⟩ := hs
    refine P78.rz (ss := [s78n n]) ⟨s78n_ok n, trivial⟩ (by simp) fun Q hQ => ?_
    delta p78 p78_r0 p78_r1 p78_r2 p78_r3 p78_r4 p78_r5
    rcases List.eq_nil_or_concat t with rfl | ⟨ts, x, rfl⟩
    · simp
      refine hQ _ _ (.chg (.weak (s' := ⟨[(2, .ref 4 0 1 1 (some 1))], [(4, .cells [.il [] 0 false])], 6⟩) ?_ ?_ ?_ .refl) (.fz [2] _ (.inl rfl) (by simp; rfl) (by simp [stL, stR]) (by simp [stL, stR])))
      · exact ⟨rfl, .refl, trivial⟩
      · refine ⟨rfl, ⟨rfl, fun i x y hx hy => ?_⟩, trivial⟩
        rcases i with _ | i
        · simp at hx hy; subst hx hy; exact .nil
        · simp at hx
      · rfl
    · have hts : ok8 ts = true := ok8_iff.2 fun y hy => ok8_iff.1 ht y (by simp [hy])
      have hx := ok8_iff.1 ht x (by simp)
      obtain ⟨x, rfl⟩ := Int.eq_ofNat_of_zero_le (show 0 ≤ x by omega)
      simp only [List.concat_eq_append, List.length_append, List.length_cons, List.length_nil] at hn h4 ht hQ ⊢
      have h78 : g78 ts = true := by simp [g78, hts]; omega
      have hlen := stL_len hts (by omega)
      have hn' : ts.length < n := by omega
      rw [stL_snoc] at hQ
      generalize hL : stL ts = L at hQ hlen
      simp (disch := omega) [h78, hn', hL]
      simp only [Int.toNat_natCast] at hQ
      refine XZ_for (fun p : Nat × List (List Int) => ⟨[(0, .il (ints (ts ++ [(x : Int)])) (ts.length + 1) ut), (3, owL 0 p.2), (4, .il (lls L) L.length false), (5, vI p.1)], owhL 0 p.2 [], ownL p.2 0⟩) (fun p => L.length - p.1) (fun p => p.1 ≤ L.length ∧ p.2.length ≤ 8 * p.1 ∧ p.2 ++ ((L.drop p.1).flatMap fun l => upTo l 1 x) = L.flatMap fun l => upTo l 1 x) (0, []) (by simp) (.to [] (by simp)) ?_
      rintro ⟨i, acc⟩ ⟨hi, hacc, hb⟩ N Q' hN hE
      simp only at hi hacc hb ⊢
      rcases Nat.lt_or_ge i L.length with h | h
      · obtain ⟨y, r, e1, e2, e3, e4, e5⟩ := drop_split h
        have hy : y.length ≤ 4 := by
          have := stR_elen (r := ts.reverse) (l := y) (by rw [show stR ts.reverse = L from hL]; exact e5)
          rw [this, List.length_reverse]; omega
        rw [e1] at hb
        simp only [List.flatMap_cons] at hb
        have inner : ∀ (s : ST) (Q2 : Exit → ST → Prop), ChgT 0 s ⟨[(0, .il (ints (ts ++ [(x : Int)])) (ts.length + 1) ut), (3, owL 0 acc), (4, .il (lls L) L.length false), (5, vI i), (6, vI 1)], owhL 0 acc [], ownL acc 0⟩ →
            (∀ acc', acc' = acc ++ upTo y 1 x → acc'.length ≤ 8 * (i + 1) → Q2 (.exit 2) ⟨[(0, .il (ints (ts ++ [(x : Int)])) (ts.length + 1) ut), (3, owL 0 acc'), (4, .il (lls L) L.length false), (5, vI i)], owhL 0 acc' [], ownL acc' 0⟩) → XZ (rZ (spc [s78n n])) 0 (.loop p78_l0) s Q2 := by
          intro s Q2 hs hq
          refine XZ_for (fun p : Nat × List (List Int) => ⟨[(0, .il (ints (ts ++ [(x : Int)])) (ts.length + 1) ut), (3, owL 0 p.2), (4, .il (lls L) L.length false), (5, vI i), (6, vI ((p.1 + 1 : Nat) : Int))], owhL 0 p.2 [], ownL p.2 0⟩) (fun p => x - p.1) (fun p => p.1 ≤ x ∧ p.2.length ≤ 8 * i + p.1 ∧ p.2 ++ upTo y (p.1 + 1) (x - p.1) = acc ++ upTo y 1 x) (0, acc) ⟨by simp, by simpa using hacc, by simp⟩ hs ?_
          rintro ⟨k, acc2⟩ ⟨hk, hacc2, hb2⟩ N2 Q3 hN2 hE2
          simp only at hk hacc2 hb2 ⊢
          rcases Nat.lt_or_ge k x with h2 | h2
          · obtain ⟨m, hm⟩ : ∃ m, x - k = m + 1 := ⟨x - k - 1, by omega⟩
            have hm' : x - (k + 1) = m := by omega
            rw [hm, upTo_succ] at hb2
            have fin : ∀ s', ChgT 0 s' ⟨[(0, .il (ints (ts ++ [(x : Int)])) (ts.length + 1) ut), (3, owL 0 (acc2 ++ [y ++ [((k + 1 : Nat) : Int)]])), (4, .il (lls L) L.length false), (5, vI i), (6, vI ((k + 1 + 1 : Nat) : Int))], owhL 0 (acc2 ++ [y ++ [((k + 1 : Nat) : Int)]]) [], ownL (acc2 ++ [y ++ [((k + 1 : Nat) : Int)]]) 0⟩ → N2 s' := fun s' hc => hN2 s' (k + 1, acc2 ++ [y ++ [((k + 1 : Nat) : Int)]]) (by simp only; omega) ⟨h2, by simp; omega, by simp only [hm']; simpa using hb2⟩ hc
            have h3 : (k : Int) + 1 ≤ x := by omega
            rcases acc2 with _ | ⟨a0, ar⟩
            · rcases y with _ | ⟨y0, yr⟩ <;> (simp only [List.length_cons, List.length_nil] at hy; delta p78_l0 p78_r8 p78_r9 p78_r10; simp (disch := omega) [oLt, oLe, oLtN, oLeN, nLt, nLe, nLtN, nLeN, h, e2, e3, h3]; exact fin _ (.frz 17 (by simp; rfl) (by simp) (.tot [3] (by simp))))
            · simp only [List.length_cons, List.length_nil] at hacc2
              rcases y with _ | ⟨y0, yr⟩ <;> (simp only [List.length_cons, List.length_nil] at hy; delta p78_l0 p78_r8 p78_r9 p78_r10; simp (disch := omega) [oLt, oLe, oLtN, oLeN, nLt, nLe, nLtN, nLeN, h, e2, e3, h3]; exact fin _ (.frz 18 (by simp; rfl) (by simp) (.tot [3] (by simp))))
          · have : k = x := by omega
            subst this
            simp only [Nat.sub_self, upTo_zero, List.append_nil] at hb2
            have hl2 : acc2.length ≤ 8 * (i + 1) := by omega
            rcases acc2 with _ | ⟨a0, ar⟩
            · delta p78_l0 p78_r8 p78_r9 p78_r10
              simp (disch := omega) [oLt, oLe, oLtN, oLeN, nLt, nLe, nLtN, nLeN]
              exact hE2 _ _ _ (.to [] (by simp)) (hq _ hb2 hl2)
            · delta p78_l0 p78_r8 p78_r9 p78_r10
              simp (disch := omega) [oLt, oLe, oLtN, oLeN, nLt, nLe, nLtN, nLeN]
              exact hE2 _ _ _ (.tot [3] (by simp)) (hq _ hb2 hl2)
        have rest : ∀ acc', acc' = acc ++ upTo y 1 x → acc'.length ≤ 8 * (i + 1) → ∀ s', ChgT 0 s' ⟨[(0, .il (ints (ts ++ [(x : Int)])) (ts.length + 1) ut), (3, owL 0 acc'), (4, .il (lls L) L.length false), (5, vI ((i + 1 : Nat) : Int))], owhL 0 acc' [], ownL acc' 0⟩ → N s' := fun acc' ha hl s' hc =>
          hN s' (i + 1, acc') (by simp only; omega) ⟨h, hl, by simp only [e4, ha]; rw [List.append_assoc]; exact hb⟩ hc
        have outer : ∀ s1, ChgT 0 s1 ⟨[(0, .il (ints (ts ++ [(x : Int)])) (ts.length + 1) ut), (3, owL 0 acc), (4, .il (lls L) L.length false), (5, vI i), (6, vI 1)], owhL 0 acc [], ownL acc 0⟩ → XZ (rZ (spc [s78n n])) 0 (.loop p78_l0) s1 (inBE 2 (inBE 1 (thenE (fun s' => XZ (rZ (spc [s78n n])) 0 (.reg p78_r11 [0, 3, 4, 5]) s' (thenE N Q')) (thenE N Q')))) := by
          intro s1 hs1
          refine inner _ _ hs1 fun acc' ha hl => ?_
          have hr := rest acc' ha hl
          rcases acc' with _ | ⟨b0, br⟩
          · delta p78_r11
            simp (disch := omega) [oLt, oLe, oLtN, oLeN, nLt, nLe, nLtN, nLeN]
            exact hr _ (.to [] (by simp))
          · delta p78_r11
            simp (disch := omega) [oLt, oLe, oLtN, oLeN, nLt, nLe, nLtN, nLeN]
            exact hr _ (.tot [3] (by simp))
        rcases acc with _ | ⟨a0, ar⟩
        · delta p78_l1 p78_r6 p78_r7
          simp (disch := omega) [oLt, oLe, oLtN, oLeN, nLt, nLe, nLtN, nLeN, h, e2, e3]
          exact outer _ (.to [] (by simp))
        · delta p78_l1 p78_r6 p78_r7
          simp (disch := omega) [oLt, oLe, oLtN, oLeN, nLt, nLe, nLtN, nLeN, h, e2, e3]
          exact outer _ (.tot [3] (by simp))
      · have h' : ¬ i < L.length := by omega
        simp only [List.drop_eq_nil_of_le h, List.flatMap_nil, List.append_nil] at hb
        rcases acc with _ | ⟨a0, ar⟩ <;> (simp only [List.length_cons, List.length_nil] at hacc; delta p78_l1 p78_r6 p78_r7; simp (disch := omega) [oLt, oLe, oLtN, oLeN, nLt, nLe, nLtN, nLeN, h']; refine hE _ _ _ .refl ?_; delta p78_r12; simp (disch := omega) [oLt, oLe, oLtN, oLeN, nLt, nLe, nLtN, nLeN]; exact hQ _ _ (.fz [2] _ (.inl rfl) (by simp; rfl) (by simp [← hb]) (by simp [← hb])))
end Go.Sx.Wk
namespace Go.Sx.Wk
open Go Go.Sx Go.Proofs
def s78 : Sp := s78n 5
@[simp] theorem s78_g : s78.g = 78 := rfl
@[simp] theorem s78_f : s78.f = (spT 78 [.l] fun (t : List Int) => res (decide (t.length < 5) && g78 t) (.il (lls (stL t)) (stL t).length false)).f := rfl
theorem s78_ok : s78.ok Try.prog := s78n_ok 5
end Go.Sx.Wk
namespace Go.Sx.Wk
open Go Go.Sx Go.Proofs

def val : List Int → List Int → Prop
  | [], [] => True
  | t :: ts, x :: xs => 1 ≤ x ∧ x ≤ t ∧ val ts xs
  | _, _ => False
theorem val_len : ∀ {t x : List Int}, val t x → t.length = x.length
  | [], [], _ => rfl
  | t :: ts, x :: xs, h => by simp [val_len h.2.2]
theorem val_self : ∀ {t : List Int}, (∀ y ∈ t, 1 ≤ y ∧ y ≤ 8) → val t t
  | [], _ => trivial
  | t :: ts, h => ⟨(h t (by simp)).1, Int.le_refl _, val_self fun y hy => h y (by simp [hy])⟩
theorem val_ok8 : ∀ {t x : List Int}, val t x → (∀ y ∈ t, 1 ≤ y ∧ y ≤ 8) → ∀ y ∈ x, 1 ≤ y ∧ y ≤ 8
  | [], [], _, _, y, hy => by simp at hy
  | t :: ts, x :: xs, h, h8, y, hy => by
    have := h8 t (by simp)
    simp only [List.mem_cons] at hy
    rcases hy with rfl | hy
    · exact ⟨h.1, by have := h.2.1; omega⟩
    · exact val_ok8 h.2.2 (fun z hz => h8 z (by simp [hz])) y hy
theorem val_snoc : ∀ {ts xs : List Int} {t x : Int}, val (ts ++ [t]) (xs ++ [x]) ↔ val ts xs ∧ 1 ≤ x ∧ x ≤ t
  | [], [], t, x => by simp [val]
  | [], y :: xs, t, x => by
    simp only [List.nil_append, List.cons_append, val, false_and, iff_false]
    rintro ⟨_, _, h⟩
    cases xs <;> simp [val] at h
  | a :: ts, [], t, x => by
    simp only [List.nil_append, List.cons_append, val, false_and, iff_false]
    rintro ⟨_, _, h⟩
    cases ts <;> simp [val] at h
  | a :: ts, y :: xs, t, x => by
    simp only [List.cons_append, val, val_snoc]
    constructor
    · rintro ⟨a, b, c, d⟩; exact ⟨⟨a, b, c⟩, d⟩
    · rintro ⟨⟨a, b, c⟩, d⟩; exact ⟨a, b, c, d⟩
theorem aft_val {s : Int} : ∀ {t x l : List Int} {i : Int}, val t x → (∀ y ∈ t, 1 ≤ y) → aftG s t x i = some l → val t l
  | [], [], l, i, _, _, h => by simp [aftG] at h; subst h; trivial
  | t :: ts, x :: xs, l, i, hv, h1, h => by
    simp only [aftG] at h
    have ht := h1 t (by simp)
    split at h
    · cases hr : aftG s ts xs (i + 1) with
      | none => simp [hr] at h
      | some r => simp [hr] at h; subst h; exact ⟨ht, Int.le_refl _, aft_val hv.2.2 (fun y hy => h1 y (by simp [hy])) hr⟩
    · split at h
      · cases h
      · cases hr : aftG s ts xs (i + 1) with
        | none => simp [hr] at h
        | some r =>
          simp [hr] at h; subst h
          have a := hv.1; have b := hv.2.1
          exact ⟨by omega, by omega, aft_val hv.2.2 (fun y hy => h1 y (by simp [hy])) hr⟩

theorem idxL_snoc : ∀ {ts xs : List Int} {t x a : Int}, ts.length = xs.length → idxL (ts ++ [t]) (xs ++ [x]) a = idxL ts xs a * t + x - 1
  | [], [], t, x, a, _ => rfl
  | b :: ts, y :: xs, t, x, a, h => by simp only [List.cons_append, idxL]; exact idxL_snoc (by simpa using h)
theorem upTo_len (l : List Int) (k n : Nat) : (upTo l k n).length = n := by simp [upTo]
theorem flat_get {n : Nat} : ∀ (L : List (List Int)) (q r : Nat), r < n → (L.flatMap fun l => upTo l 1 n)[q * n + r]? = (L[q]?).map (· ++ [((1 + r : Nat) : Int)])
  | [], q, r, h => by simp
  | a :: L, 0, r, h => by
    simp only [List.flatMap_cons, Nat.zero_mul, Nat.zero_add, List.getElem?_cons_zero, Option.map_some]
    rw [List.getElem?_append_left (by rw [upTo_len]; exact h)]
    simp [upTo, h]
  | a :: L, q + 1, r, h => by
    simp only [List.flatMap_cons, List.getElem?_cons_succ]
    rw [List.getElem?_append_right (by rw [upTo_len, Nat.add_mul]; omega), upTo_len]
    rw [show (q + 1) * n + r - n = q * n + r by rw [Nat.add_mul]; omega]
    exact flat_get L q r h
theorem stR_get : ∀ {r x : List Int}, val r.reverse x → ∃ i : Nat, idxL r.reverse x 0 = i ∧ (stL r.reverse)[i]? = some x
  | [], x, h => by
    cases x with
    | nil => exact ⟨0, rfl, by simp [stL, stR]⟩
    | cons y xs => simp [val] at h
  | t :: r, x, h => by
    rw [List.reverse_cons] at h ⊢
    rcases List.eq_nil_or_concat x with rfl | ⟨xs, y, rfl⟩
    · have := val_len h; simp at this
    · rw [List.concat_eq_append] at h ⊢
      obtain ⟨h1, h2, h3⟩ := val_snoc.1 h
      obtain ⟨i, e1, e2⟩ := stR_get h1
      have hl := val_len h1
      obtain ⟨t, rfl⟩ := Int.eq_ofNat_of_zero_le (show 0 ≤ t by omega)
      obtain ⟨y, rfl⟩ := Int.eq_ofNat_of_zero_le (show 0 ≤ y by omega)
      refine ⟨i * t + (y - 1), ?_, ?_⟩
      · rw [idxL_snoc hl, e1]
        have : 1 ≤ y := by omega
        rw [Int.natCast_add, Int.natCast_mul, Int.ofNat_sub this]; omega
      · rw [stL_snoc, Int.toNat_natCast, flat_get _ _ _ (by omega), e2]
        simp only [Option.map_some]
        congr 3
        omega
theorem idx_get {t x : List Int} (h : val t x) : ∃ i : Nat, idxL t x 0 = i ∧ (stL t)[i]? = some x := by
  have := stR_get (r := t.reverse) (x := x) (by simpa using h)
  simpa using this
theorem stR_val : ∀ {r x : List Int}, (∀ y ∈ r, 1 ≤ y) → x ∈ stR r → val r.reverse x
  | [], x, _, h => by simp [stR] at h; subst h; trivial
  | t :: r, x, h1, h => by
    simp only [stR, List.mem_flatMap, upTo, List.mem_map, List.mem_range] at h
    obtain ⟨a, ha, j, hj, rfl⟩ := h
    rw [List.reverse_cons]
    have := h1 t (by simp)
    exact val_snoc.2 ⟨stR_val (fun y hy => h1 y (by simp [hy])) ha, by omega, by omega⟩
theorem st_val {t x : List Int} (h1 : ∀ y ∈ t, 1 ≤ y) (h : x ∈ stL t) : val t x := by
  have := stR_val (r := t.reverse) (fun y hy => h1 y (by simpa using hy)) h
  simpa using this

/-- So many tides can be walked. -/
def canK (t : List Int) : Nat → List Int → Bool
  | 0, _ => true
  | k + 1, x => (List.range t.length).any fun s => match aftG s t x 0 with
    | some l => canK t k l
    | none => false
theorem canK_succ {t : List Int} {k : Nat} {x : List Int} : canK t (k + 1) x = true ↔ ∃ s, s < t.length ∧ ∃ l, aftG (s : Nat) t x 0 = some l ∧ canK t k l = true := by
  simp only [canK, List.any_eq_true, List.mem_range]
  constructor
  · rintro ⟨s, h1, h2⟩
    split at h2
    · rename_i l hl; exact ⟨s, h1, l, hl, h2⟩
    · cases h2
  · rintro ⟨s, h1, l, hl, h2⟩
    exact ⟨s, h1, by rw [hl]; exact h2⟩
theorem canK_anti {t : List Int} : ∀ {k : Nat} {x : List Int}, canK t (k + 1) x = true → canK t k x = true
  | 0, _, _ => rfl
  | k + 1, x, h => by
    obtain ⟨s, h1, l, hl, h2⟩ := canK_succ.1 h
    exact canK_succ.2 ⟨s, h1, l, hl, canK_anti h2⟩
theorem canK_le {t : List Int} {j k : Nat} {x : List Int} (hjk : j ≤ k) (h : canK t k x = true) : canK t j x = true := by
  induction hjk with
  | refl => exact h
  | step _ ih => exact ih (canK_anti h)
def cnt (t : List Int) (k : Nat) : Nat := (stL t).countP (canK t k)
theorem cnt_lt_aux {p q : List Int → Bool} (h : ∀ x, q x = true → p x = true) : ∀ {L : List (List Int)}, L.map q ≠ L.map p → L.countP q < L.countP p
  | [], hne => (hne rfl).elim
  | x :: L, hne => by
    have mono : L.countP q ≤ L.countP p := List.countP_mono_left fun y _ hy => h y hy
    simp only [List.countP_cons]
    by_cases hx : q x = p x
    · have : L.map q ≠ L.map p := fun e => hne (by simp [hx, e])
      have := cnt_lt_aux h this
      rw [hx]; omega
    · have hq : q x = false := by
        cases hq : q x
        · rfl
        · exact absurd (hq.trans (h x hq).symm) hx
      have hp : p x = true := by
        cases hp : p x
        · exact absurd (hq.trans hp.symm) hx
        · rfl
      rw [hq, hp]; simp; omega
theorem cnt_lt {t : List Int} {k : Nat} (h : (stL t).map (canK t (k + 1)) ≠ (stL t).map (canK t k)) : cnt t (k + 1) < cnt t k :=
  cnt_lt_aux (fun _ => canK_anti) h

/-- What 'alive' returns. -/
def alv (t : List Int) : Nat → Nat → List Bool × Int
  | 0, _ => ([], 0)
  | f + 1, k => if canK t k t = false then ((stL t).map (canK t k), (k : Int) - 1) else
    if (stL t).map (canK t (k + 1)) = (stL t).map (canK t k) then ((stL t).map (canK t k), -1) else alv t f (k + 1)
def aliveF (t : List Int) : List Bool × Int := alv t 5000 0

theorem canK_stable {t : List Int} (h1 : ∀ y ∈ t, 1 ≤ y) {k : Nat} (h : (stL t).map (canK t (k + 1)) = (stL t).map (canK t k)) : ∀ (j : Nat) (x : List Int), val t x → canK t k x = true → canK t (k + j) x = true := by
  have h' : ∀ x, val t x → canK t k x = true → canK t (k + 1) x = true := fun x hx hk => by
    obtain ⟨i, _, hi⟩ := idx_get hx
    have e : ((stL t).map (canK t (k + 1)))[i]? = ((stL t).map (canK t k))[i]? := by rw [h]
    rw [List.getElem?_map, List.getElem?_map, hi] at e
    simp at e
    rw [e]; exact hk
  intro j
  induction j with
  | zero => intro x _ h; exact h
  | succ j ih =>
    intro x hx hk
    have h2 := h' x hx hk
    obtain ⟨s, h3, l, hl, h4⟩ := canK_succ.1 h2
    exact canK_succ.2 ⟨s, h3, l, hl, ih l (aft_val hx h1 hl) h4⟩

/-- A walk can go on for ever. -/
def Ever (t x : List Int) : Prop := ∀ k, canK t k x = true
theorem alv_spec {t : List Int} (h1 : ∀ y ∈ t, 1 ≤ y) (ht : val t t) : ∀ (f k : Nat), cnt t k < f → (∀ j, j < k → canK t j t = true) →
    (Ever t t ∧ (alv t f k).2 = -1 ∧ ∀ (i : Nat) (x : List Int), (stL t)[i]? = some x → (((alv t f k).1)[i]? = some true ↔ Ever t x)) ∨ (∃ n : Nat, (alv t f k).2 = n ∧ canK t n t = true ∧ canK t (n + 1) t = false) := by
  intro f
  induction f with
  | zero => intro k h; omega
  | succ f ih =>
    intro k hk hj
    simp only [alv]
    by_cases h0 : canK t k t = false
    · rw [if_pos h0]
      right
      cases k with
      | zero => simp [canK] at h0
      | succ k => exact ⟨k, by simp only; omega, hj k (by omega), h0⟩
    · rw [if_neg h0]
      have h0' : canK t k t = true := by simpa using h0
      by_cases hs : (stL t).map (canK t (k + 1)) = (stL t).map (canK t k)
      · rw [if_pos hs]
        left
        have ev : ∀ x, val t x → (canK t k x = true ↔ Ever t x) := fun x hx => ⟨fun h j => by
          rcases Nat.le_total j k with hjk | hjk
          · exact canK_le hjk h
          · have := canK_stable h1 hs (j - k) x hx h
            rwa [show k + (j - k) = j by omega] at this, fun h => h k⟩
        refine ⟨(ev t ht).1 h0', rfl, fun i x hx => ?_⟩
        simp only [List.getElem?_map, hx, Option.map_some, Option.some.injEq]
        exact ev x (st_val h1 (List.mem_of_getElem? hx))
      · rw [if_neg hs]
        have := cnt_lt hs
        refine ih (k + 1) (by omega) (fun j hj' => ?_)
        rcases Nat.lt_or_ge j k with h | h
        · exact hj j h
        · have : j = k := by omega
          subst this; exact h0'

end Go.Sx.Wk
