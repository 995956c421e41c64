/- What functions of the walk layer return: all states. No conditions. -/
import Derived.Test.YtmakepdccccmaaaSxQ4
set_option linter.unusedVariables false
set_option linter.unusedSimpArgs false
namespace Go.Sx
def owL (id : Nat) : List (List Int) → AV
  | [] => .v (.slice none 0 0)
  | a :: r => .ref id 0 (r.length + 1) 1 none
def owhL (id : Nat) (l : List (List Int)) (h : HL) : HL :=
  match l with
  | [] => h
  | a :: r => (id, .cells (lls (a :: r))) :: h
def ownL (l : List (List Int)) (n : Nat) : Nat :=
  match l with
  | [] => n
  | _ :: _ => n + 1
@[simp] theorem owL_nil (id : Nat) : owL id [] = .v (.slice none 0 0) := rfl
@[simp] theorem owL_cons (id : Nat) (a : List Int) (r : List (List Int)) : owL id (a :: r) = .ref id 0 (r.length + 1) 1 none := rfl
@[simp] theorem owhL_nil (id : Nat) (h : HL) : owhL id [] h = h := rfl
@[simp] theorem owhL_cons (id : Nat) (a : List Int) (r : List (List Int)) (h : HL) : owhL id (a :: r) h = (id, .cells (lls (a :: r))) :: h := rfl
@[simp] theorem ownL_nil (n : Nat) : ownL [] n = n := rfl
@[simp] theorem ownL_cons (a : List Int) (r : List (List Int)) (n : Nat) : ownL (a :: r) n = n + 1 := rfl
end Go.Sx
namespace Go.Sx.Wk
open Go Go.Sx Go.Proofs

def upTo (l : List Int) (k n : Nat) : List (List Int) := (List.range n).map fun j => l ++ [((k + j : Nat) : Int)]
theorem upTo_zero (l : List Int) (k : Nat) : upTo l k 0 = [] := rfl
theorem upTo_succ (l : List Int) (k n : Nat) : upTo l k (n + 1) = (l ++ [(k : Int)]) :: upTo l (k + 1) n := by
  simp only [upTo, List.range_succ_eq_map, List.map_cons, List.map_map, Nat.add_zero]
  congr 1
  apply List.map_congr_left
  intro j _
  simp; omega
def stR : List Int → List (List Int)
  | [] => [[]]
  | t :: r => (stR r).flatMap fun l => upTo l 1 t.toNat
def stL (t : List Int) : List (List Int) := stR t.reverse
theorem stL_snoc (ts : List Int) (x : Int) : stL (ts ++ [x]) = (stL ts).flatMap fun l => upTo l 1 x.toNat := by simp [stL, stR]
theorem flatMap_len {l : List (List Int)} {n : Nat} : (l.flatMap fun x => upTo x 1 n).length = l.length * n := by
  induction l with
  | nil => simp
  | cons a l ih => simp only [List.flatMap_cons, List.length_append, ih, List.length_cons]; simp [upTo, Nat.add_mul, Nat.add_comm]
theorem stR_len : ∀ {r : List Int}, (∀ t ∈ r, 1 ≤ t ∧ t ≤ 8) → (stR r).length ≤ 8 ^ r.length
  | [], _ => by simp [stR]
  | t :: r, h => by
    simp only [stR, flatMap_len, List.length_cons, Nat.pow_succ]
    have := stR_len (r := r) (fun t ht => h t (by simp [ht]))
    have := h t (by simp)
    exact Nat.mul_le_mul (by assumption) (by omega)
theorem stL_len {t : List Int} (h : ok8 t = true) (h4 : t.length ≤ 4) : (stL t).length ≤ 4096 := by
  have := stR_len (r := t.reverse) (fun x hx => ok8_iff.1 h x (by simpa using hx))
  have h8 : 8 ^ t.reverse.length ≤ 8 ^ 4 := Nat.pow_le_pow_right (by omega) (by simpa using h4)
  exact Nat.le_trans this h8
theorem stR_elen : ∀ {r : List Int} {l : List Int}, l ∈ stR r → l.length = r.length
  | [], l, h => by simp [stR] at h; subst h; rfl
  | t :: r, l, h => by
    simp only [stR, List.mem_flatMap] at h
    obtain ⟨a, ha, hl⟩ := h
    simp only [upTo, List.mem_map] at hl
    obtain ⟨j, _, rfl⟩ := hl
    simp [stR_elen ha]

def g78 (t : List Int) : Bool := ok8 t && decide (t.length ≤ 4)
def s78n (n : Nat) : Sp := spT 78 [.l] fun (t : List Int) => res (decide (t.length < n) && g78 t) (.il (lls (stL t)) (stL t).length false)
@[simp] theorem s78n_g (n : Nat) : (s78n n).g = 78 := rfl
@[simp] theorem s78n_f (n : Nat) : (s78n n).f = (spT 78 [.l] fun (t : List Int) => res (decide (t.length < n) && g78 t) (.il (lls (stL t)) (stL t).length false)).f := rfl

set_option maxHeartbeats 4000000 in
theorem s78n_ok : ∀ n, (s78n n).ok Try.prog
  | 0 => by
    apply spT_ok
    simp only [OkT, Ty.all, List.nil_append, List.cons_append]
    intro l u
    apply okT_res; intro hs
    simp at hs
  | n + 1 => by
    apply spT_ok
    simp only [OkT, Ty.all, List.nil_append, List.cons_append]
    intro (t : List Int) ut
    apply okT_res; intro hs
    simp only [Bool.and_eq_true, decide_eq_true_eq, g78] at hs
    obtain ⟨hn, ht, h4⟩ := hs
    refine P78.rz (ss := [s78n n]) ⟨s78n_ok n, trivial⟩ (by simp) fun Q hQ => ?_
    delta p78 p78_r0 p78_r1 p78_r2 p78_r3 p78_r4 p78_r5
    rcases List.eq_nil_or_concat t with rfl | ⟨ts, x, rfl⟩
    · simp
      refine hQ _ _ (.chg (.weak (s' := ⟨[(2, .ref 4 0 1 1 (some 1))], [(4, .cells [.il [] 0 false])], 6⟩) ?_ ?_ ?_ .refl) (.fz [2] _ (.inl rfl) (by simp; rfl) (by simp [stL, stR]) (by simp [stL, stR])))
      · exact ⟨rfl, .refl, trivial⟩
      · refine ⟨rfl, ⟨rfl, fun i x y hx hy => ?_⟩, trivial⟩
        rcases i with _ | i
        · simp at hx hy; subst hx hy; exact .nil
        · simp at hx
      · rfl
    · have hts : ok8 ts = true := ok8_iff.2 fun y hy => ok8_iff.1 ht y (by simp [hy])
      have hx := ok8_iff.1 ht x (by simp)
      obtain ⟨x, rfl⟩ := Int.eq_ofNat_of_zero_le (show 0 ≤ x by omega)
      simp only [List.concat_eq_append, List.length_append, List.length_cons, List.length_nil] at hn h4 ht hQ ⊢
      have h78 : g78 ts = true := by simp [g78, hts]; omega
      have hlen := stL_len hts (by omega)
      have hn' : ts.length < n := by omega
      rw [stL_snoc] at hQ
      generalize hL : stL ts = L at hQ hlen
      simp (disch := omega) [h78, hn', hL]
      simp only [Int.toNat_natCast] at hQ
      refine XZ_for (fun p : Nat × List (List Int) => ⟨[(0, .il (ints (ts ++ [(x : Int)])) (ts.length + 1) ut), (3, owL 0 p.2), (4, .il (lls L) L.length false), (5, vI p.1)], owhL 0 p.2 [], ownL p.2 0⟩) (fun p => L.length - p.1) (fun p => p.1 ≤ L.length ∧ p.2.length ≤ 8 * p.1 ∧ p.2 ++ ((L.drop p.1).flatMap fun l => upTo l 1 x) = L.flatMap fun l => upTo l 1 x) (0, []) (by simp) (.to [] (by simp)) ?_
      rintro ⟨i, acc⟩ ⟨hi, hacc, hb⟩ N Q' hN hE
      simp only at hi hacc hb ⊢
      rcases Nat.lt_or_ge i L.length with h | h
      · obtain ⟨y, r, e1, e2, e3, e4, e5⟩ := drop_split h
        have hy : y.length ≤ 4 := by
          have := stR_elen (r := ts.reverse) (l := y) (by rw [show stR ts.reverse = L from hL]; exact e5)
          rw [this, List.length_reverse]; omega
        rw [e1] at hb
        simp only [List.flatMap_cons] at hb
        have inner : ∀ (s : ST) (Q2 : Exit → ST → Prop), ChgT 0 s ⟨[(0, .il (ints (ts ++ [(x : Int)])) (ts.length + 1) ut), (3, owL 0 acc), (4, .il (lls L) L.length false), (5, vI i), (6, vI 1)], owhL 0 acc [], ownL acc 0⟩ →
            (∀ acc', acc' = acc ++ upTo y 1 x → acc'.length ≤ 8 * (i + 1) → Q2 (.exit 2) ⟨[(0, .il (ints (ts ++ [(x : Int)])) (ts.length + 1) ut), (3, owL 0 acc'), (4, .il (lls L) L.length false), (5, vI i)], owhL 0 acc' [], ownL acc' 0⟩) → XZ (rZ (spc [s78n n])) 0 (.loop p78_l0) s Q2 := by
          intro s Q2 hs hq
          refine XZ_for (fun p : Nat × List (List Int) => ⟨[(0, .il (ints (ts ++ [(x : Int)])) (ts.length + 1) ut), (3, owL 0 p.2), (4, .il (lls L) L.length false), (5, vI i), (6, vI ((p.1 + 1 : Nat) : Int))], owhL 0 p.2 [], ownL p.2 0⟩) (fun p => x - p.1) (fun p => p.1 ≤ x ∧ p.2.length ≤ 8 * i + p.1 ∧ p.2 ++ upTo y (p.1 + 1) (x - p.1) = acc ++ upTo y 1 x) (0, acc) ⟨by simp, by simpa using hacc, by simp⟩ hs ?_
          rintro ⟨k, acc2⟩ ⟨hk, hacc2, hb2⟩ N2 Q3 hN2 hE2
          simp only at hk hacc2 hb2 ⊢
          rcases Nat.lt_or_ge k x with h2 | h2
          · obtain ⟨m, hm⟩ : ∃ m, x - k = m + 1 := ⟨x - k - 1, by omega⟩
            have hm' : x - (k + 1) = m := by omega
            rw [hm, upTo_succ] at hb2
            have fin : ∀ s', ChgT 0 s' ⟨[(0, .il (ints (ts ++ [(x : Int)])) (ts.length + 1) ut), (3, owL 0 (acc2 ++ [y ++ [((k + 1 : Nat) : Int)]])), (4, .il (lls L) L.length false), (5, vI i), (6, vI ((k + 1 + 1 : Nat) : Int))], owhL 0 (acc2 ++ [y ++ [((k + 1 : Nat) : Int)]]) [], ownL (acc2 ++ [y ++ [((k + 1 : Nat) : Int)]]) 0⟩ → N2 s' := fun s' hc => hN2 s' (k + 1, acc2 ++ [y ++ [((k + 1 : Nat) : Int)]]) (by simp only; omega) ⟨h2, by simp; omega, by simp only [hm']; simpa using hb2⟩ hc
            have h3 : (k : Int) + 1 ≤ x := by omega
            rcases acc2 with _ | ⟨a0, ar⟩
            · rcases y with _ | ⟨y0, yr⟩ <;> (simp only [List.length_cons, List.length_nil] at hy; delta p78_l0 p78_r8 p78_r9 p78_r10; simp (disch := omega) [oLt, oLe, oLtN, oLeN, nLt, nLe, nLtN, nLeN, h, e2, e3, h3]; exact fin _ (.frz 17 (by simp; rfl) (by simp) (.tot [3] (by simp))))
            · simp only [List.length_cons, List.length_nil] at hacc2
              rcases y with _ | ⟨y0, yr⟩ <;> (simp only [List.length_cons, List.length_nil] at hy; delta p78_l0 p78_r8 p78_r9 p78_r10; simp (disch := omega) [oLt, oLe, oLtN, oLeN, nLt, nLe, nLtN, nLeN, h, e2, e3, h3]; exact fin _ (.frz 18 (by simp; rfl) (by simp) (.tot [3] (by simp))))
          · have : k = x := by omega
            subst this
            simp only [Nat.sub_self, upTo_zero, List.append_nil] at hb2
            have hl2 : acc2.length ≤ 8 * (i + 1) := by omega
            rcases acc2 with _ | ⟨a0, ar⟩
            · delta p78_l0 p78_r8 p78_r9 p78_r10
              simp (disch := omega) [oLt, oLe, oLtN, oLeN, nLt, nLe, nLtN, nLeN]
              exact hE2 _ _ _ (.to [] (by simp)) (hq _ hb2 hl2)
            · delta p78_l0 p78_r8 p78_r9 p78_r10
              simp (disch := omega) [oLt, oLe, oLtN, oLeN, nLt, nLe, nLtN, nLeN]
              exact hE2 _ _ _ (.tot [3] (by simp)) (hq _ hb2 hl2)
        have rest : ∀ acc', acc' = acc ++ upTo y 1 x → acc'.length ≤ 8 * (i + 1) → ∀ s', ChgT 0 s' ⟨[(0, .il (ints (ts ++ [(x : Int)])) (ts.length + 1) ut), (3, owL 0 acc'), (4, .il (lls L) L.length false), (5, vI ((i + 1 : Nat) : Int))], owhL 0 acc' [], ownL acc' 0⟩ → N s' := fun acc' ha hl s' hc =>
          hN s' (i + 1, acc') (by simp only; omega) ⟨h, hl, by simp only [e4, ha]; rw [List.append_assoc]; exact hb⟩ hc
        have outer : ∀ s1, ChgT 0 s1 ⟨[(0, .il (ints (ts ++ [(x : Int)])) (ts.length + 1) ut), (3, owL 0 acc), (4, .il (lls L) L.length false), (5, vI i), (6, vI 1)], owhL 0 acc [], ownL acc 0⟩ → XZ (rZ (spc [s78n n])) 0 (.loop p78_l0) s1 (inBE 2 (inBE 1 (thenE (fun s' => XZ (rZ (spc [s78n n])) 0 (.reg p78_r11 [0, 3, 4, 5]) s' (thenE N Q')) (thenE N Q')))) := by
          intro s1 hs1
          refine inner _ _ hs1 fun acc' ha hl => ?_
          have hr := rest acc' ha hl
          rcases acc' with _ | ⟨b0, br⟩
          · delta p78_r11
            simp (disch := omega) [oLt, oLe, oLtN, oLeN, nLt, nLe, nLtN, nLeN]
            exact hr _ (.to [] (by simp))
          · delta p78_r11
            simp (disch := omega) [oLt, oLe, oLtN, oLeN, nLt, nLe, nLtN, nLeN]
            exact hr _ (.tot [3] (by simp))
        rcases acc with _ | ⟨a0, ar⟩
        · delta p78_l1 p78_r6 p78_r7
          simp (disch := omega) [oLt, oLe, oLtN, oLeN, nLt, nLe, nLtN, nLeN, h, e2, e3]
          exact outer _ (.to [] (by simp))
        · delta p78_l1 p78_r6 p78_r7
          simp (disch := omega) [oLt, oLe, oLtN, oLeN, nLt, nLe, nLtN, nLeN, h, e2, e3]
          exact outer _ (.tot [3] (by simp))
      · have h' : ¬ i < L.length := by omega
        simp only [List.drop_eq_nil_of_le h, List.flatMap_nil, List.append_nil] at hb
        rcases acc with _ | ⟨a0, ar⟩ <;> (simp only [List.length_cons, List.length_nil] at hacc; delta p78_l1 p78_r6 p78_r7; simp (disch := omega) [oLt, oLe, oLtN, oLeN, nLt, nLe, nLtN, nLeN, h']; refine hE _ _ _ .refl ?_; delta p78_r12; simp (disch := omega) [oLt, oLe, oLtN, oLeN, nLt, nLe, nLtN, nLeN]; exact hQ _ _ (.fz [2] _ (.inl rfl) (by simp; rfl) (by simp [← hb]) (by simp [← hb])))
end Go.Sx.Wk
namespace Go.Sx.Wk
open Go Go.Sx Go.Proofs
def s78 : Sp := s78n 5
@[simp] theorem s78_g : s78.g = 78 := rfl
@[simp] theorem s78_f : s78.f = (spT 78 [.l] fun (t : List Int) => res (decide (t.length < 5) && g78 t) (.il (lls (stL t)) (stL t).length false)).f := rfl
theorem s78_ok : s78.ok Try.prog := s78n_ok 5
end Go.Sx.Wk
