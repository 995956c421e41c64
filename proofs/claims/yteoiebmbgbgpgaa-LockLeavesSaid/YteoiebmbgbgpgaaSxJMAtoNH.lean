/- What functions of the document's lock layer return: places, an order checked; the check is the program's. No conditions. -/
import Derived.Test.YteoiebmbgbgpgaaSxJLAtoNA
import Derived.Test.YteoiebmbgbgpgaaSxPLd
import Derived.Test.YteoiebmbgbgpgaaSxJLWtoNC
set_option linter.unusedVariables false
set_option linter.unusedSimpArgs false
set_option maxRecDepth 4000
namespace Go.Sx.Lk
open Go Go.Sx Go.Proofs
section
set_option maxHeartbeats 4000000
def s71 : Sp := spT 71 [.i, .i, .i] fun (n : Int) (a : Int) (b : Int) => res true (vB (decide (a ≤ n) && decide (n ≤ b)))
@[simp] theorem s71_g : s71.g = 71 := rfl
@[simp] theorem s71_f : s71.f = (spT 71 [.i, .i, .i] fun (n : Int) (a : Int) (b : Int) => res true (vB (decide (a ≤ n) && decide (n ≤ b)))).f := rfl
theorem s71_ok : s71.ok Try.prog := by
  apply spT_ok
  simp only [OkT, Ty.all, List.nil_append, List.cons_append]
  intro (n : Int) (a : Int) (b : Int)
  apply okT_res; intro _
  refine P71.rz (ss := []) trivial (by simp) fun Q hQ => ?_
  delta p71 p71_r0 p71_r1
  by_cases h : a ≤ n
  · by_cases h' : n ≤ b
    · simp (disch := omega) [oLt, oLe, oLtN, oLeN, nLt, nLe, nLtN, nLeN, h, h']
      exact hQ _ _ (.p (.inl rfl) (by simp [h, h']) rfl)
    · simp (disch := omega) [oLt, oLe, oLtN, oLeN, nLt, nLe, nLtN, nLeN, h, h']
      exact hQ _ _ (.p (.inl rfl) (by simp [h, h']) rfl)
  · simp (disch := omega) [oLt, oLe, oLtN, oLeN, nLt, nLe, nLtN, nLeN, h]
    exact hQ _ _ (.p (.inl rfl) (by simp [h]) rfl)
def s72 : Sp := spT 72 [.l, .i] fun (l : List Int) (x : Int) => res (small l) (vI (idxL l x))
@[simp] theorem s72_g : s72.g = 72 := rfl
@[simp] theorem s72_f : s72.f = (spT 72 [.l, .i] fun (l : List Int) (x : Int) => res (small l) (vI (idxL l x))).f := rfl
theorem s72_ok : s72.ok Try.prog := by
  apply spT_ok
  simp only [OkT, Ty.all, List.nil_append, List.cons_append]
  intro (l : List Int) u (x : Int)
  apply okT_res; intro hg
  refine P72.rz (ss := []) trivial (by simp) fun Q hQ => ?_
  delta p72 p72_r0 p72_r1
  simp only [small, decide_eq_true_eq] at hg
  simp (disch := omega) [oLt, oLe, oLtN, oLeN, nLt, nLe, nLtN, nLeN]
  refine XZ_for (fun i : Nat => ⟨[(0, .il (ints l) l.length u), (1, vI x), (5, vI i)], [], 0⟩) (fun i => l.length - i) (fun i => i ≤ l.length ∧ idxR x (l.drop i) i = idxL l x) 0 ⟨by simp, by simp [idxL]⟩ (.to [] (by simp)) ?_
  rintro i ⟨hi, hinv⟩ N Q' hN hE
  rcases Nat.lt_or_ge i l.length with h | h
  · have hic : (i : Int) < l.length := by omega
    obtain ⟨y, r, e1, e2, e3, e4, e5⟩ := drop_split h
    rw [e1] at hinv
    simp only [idxR] at hinv
    by_cases hy : y = x
    · rw [if_pos hy] at hinv
      rw [← hinv] at hQ
      subst hy
      delta p72_l0 p72_r2 p72_r3 p72_r4 p72_r5
      simp (disch := omega) [oLt, oLe, oLtN, oLeN, nLt, nLe, nLtN, nLeN, hic, h, e2, e3]
      exact hE _ _ _ .refl (hQ _ _ (.p (.inl rfl) (by simp) rfl))
    · rw [if_neg hy] at hinv
      have hy' : ¬ x = y := fun h => hy h.symm
      delta p72_l0 p72_r2 p72_r3 p72_r4 p72_r5
      simp (disch := omega) [oLt, oLe, oLtN, oLeN, nLt, nLe, nLtN, nLeN, hic, h, e2, e3, hy, hy']
      exact hN _ (i + 1) (by omega) ⟨h, by rw [e4]; simpa using hinv⟩ (.to [] (by simp))
  · obtain rfl : i = l.length := by omega
    have hic : ¬ (l.length : Int) < l.length := by omega
    rw [List.drop_eq_nil_of_le (Nat.le_refl _)] at hinv
    simp only [idxR] at hinv
    rw [← hinv] at hQ
    delta p72_l0 p72_r2 p72_r3 p72_r4 p72_r5
    simp (disch := omega) [oLt, oLe, oLtN, oLeN, nLt, nLe, nLtN, nLeN, hic]
    refine hE _ _ _ .refl ?_
    delta p72_r6
    simp (disch := omega) [oLt, oLe, oLtN, oLeN, nLt, nLe, nLtN, nLeN]
    exact hQ _ _ (.p (.inl rfl) (by simp) rfl)
def chk2R (n : Nat) : List Int → List Int → Int
  | _, [] => 0
  | pre, x :: r => if 0 ≤ x ∧ x ≤ (n : Int) - 1 then (if 0 ≤ idxL pre x then 6 else chk2R n (pre ++ [x]) r) else 2
def chk2F (l : List Int) : Int := if 1 ≤ l.length ∧ l.length ≤ 7 then chk2R l.length [] l else 1
def s24 : Sp := spT 24 [.l] fun (l : List Int) => res (small l) (vI (chk2F l))
@[simp] theorem s24_g : s24.g = 24 := rfl
@[simp] theorem s24_f : s24.f = (spT 24 [.l] fun (l : List Int) => res (small l) (vI (chk2F l))).f := rfl
theorem s24_ok : s24.ok Try.prog := by
  apply spT_ok
  simp only [OkT, Ty.all, List.nil_append, List.cons_append]
  intro (l : List Int) u
  apply okT_res; intro hg
  refine P24.rz (ss := [s71, s72]) ⟨s71_ok, s72_ok, trivial⟩ (by simp) fun Q hQ => ?_
  delta p24 p24_r0 p24_r1 p24_r2 p24_r3 p24_r4
  simp only [small, decide_eq_true_eq] at hg
  by_cases h1 : 1 ≤ l.length
  rotate_left
  · have h1c : ¬ (1 : Int) ≤ l.length := by omega
    have hr : chk2F l = 1 := by unfold chk2F; rw [if_neg (by omega)]
    rw [hr] at hQ
    simp (disch := omega) [oLt, oLe, oLtN, oLeN, nLt, nLe, nLtN, nLeN, h1c]
    exact hQ _ _ (.p (.inl rfl) (by simp) rfl)
  by_cases h7 : l.length ≤ 7
  rotate_left
  · have h1c : (1 : Int) ≤ l.length := by omega
    have h7c : ¬ (l.length : Int) ≤ 7 := by omega
    have hr : chk2F l = 1 := by unfold chk2F; rw [if_neg (by omega)]
    rw [hr] at hQ
    simp (disch := omega) [oLt, oLe, oLtN, oLeN, nLt, nLe, nLtN, nLeN, h1c, h7c]
    exact hQ _ _ (.p (.inl rfl) (by simp) rfl)
  have h1c : (1 : Int) ≤ l.length := by omega
  have h7c : (l.length : Int) ≤ 7 := by omega
  have hr : chk2F l = chk2R l.length [] l := by unfold chk2F; rw [if_pos ⟨h1, h7⟩]
  simp (disch := omega) [oLt, oLe, oLtN, oLeN, nLt, nLe, nLtN, nLeN, h1c, h7c]
  refine XZ_for (fun i : Nat => ⟨[(0, .il (ints l) l.length u), (3, vI l.length), (4, vI i)], [], 0⟩) (fun i => l.length - i) (fun i => i ≤ l.length ∧ chk2R l.length (l.take i) (l.drop i) = chk2F l) 0 ⟨by simp, by simp [hr]⟩ (.to [] (by simp)) ?_
  rintro i ⟨hi, hinv⟩ N Q' hN hE
  rcases Nat.lt_or_ge i l.length with h | h
  · have hic : (i : Int) < l.length := by omega
    obtain ⟨x, r, e1, e2, e3, e4, e5⟩ := drop_split h
    have htk : l.take (i + 1) = l.take i ++ [x] := by rw [List.take_succ_eq_append_getElem h, e3]
    rw [e1] at hinv
    simp only [chk2R] at hinv
    have hst : small (l.take i) = true := by simp [small]; omega
    have hm : min i l.length = i := by omega
    have hil : i ≤ l.length := hi
    by_cases hx : 0 ≤ x ∧ x ≤ (l.length : Int) - 1
    · rw [if_pos hx] at hinv
      by_cases hp : 0 ≤ idxL (l.take i) x
      · rw [if_pos hp] at hinv
        rw [← hinv] at hQ
        delta p24_l0 p24_r5 p24_r6 p24_r7 p24_r8 p24_r9 p24_r10
        simp (disch := omega) [oLt, oLe, oLtN, oLeN, nLt, nLe, nLtN, nLeN, hic, h, e2, e3, hx.1, hx.2, hst, hm, hil, hp]
        exact hE _ _ _ .refl (hQ _ _ (.p (.inl rfl) (by simp) rfl))
      · rw [if_neg hp, ← htk, ← e4] at hinv
        delta p24_l0 p24_r5 p24_r6 p24_r7 p24_r8 p24_r9 p24_r10
        simp (disch := omega) [oLt, oLe, oLtN, oLeN, nLt, nLe, nLtN, nLeN, hic, h, e2, e3, hx.1, hx.2, hst, hm, hil, hp]
        exact hN _ (i + 1) (by omega) ⟨h, hinv⟩ (.to [] (by simp))
    · rw [if_neg hx] at hinv
      rw [← hinv] at hQ
      by_cases hx1 : 0 ≤ x
      · have hx2 : ¬ x ≤ (l.length : Int) - 1 := fun hh => hx ⟨hx1, hh⟩
        delta p24_l0 p24_r5 p24_r6 p24_r7 p24_r8 p24_r9 p24_r10
        simp (disch := omega) [oLt, oLe, oLtN, oLeN, nLt, nLe, nLtN, nLeN, hic, h, e2, e3, hx1, hx2]
        exact hE _ _ _ .refl (hQ _ _ (.p (.inl rfl) (by simp) rfl))
      · delta p24_l0 p24_r5 p24_r6 p24_r7 p24_r8 p24_r9 p24_r10
        simp (disch := omega) [oLt, oLe, oLtN, oLeN, nLt, nLe, nLtN, nLeN, hic, h, e2, e3, hx1]
        exact hE _ _ _ .refl (hQ _ _ (.p (.inl rfl) (by simp) rfl))
  · obtain rfl : i = l.length := by omega
    have hic : ¬ (l.length : Int) < l.length := by omega
    rw [List.drop_eq_nil_of_le (Nat.le_refl _)] at hinv
    simp only [chk2R] at hinv
    rw [← hinv] at hQ
    delta p24_l0 p24_r5 p24_r6 p24_r7 p24_r8 p24_r9 p24_r10
    simp (disch := omega) [oLt, oLe, oLtN, oLeN, nLt, nLe, nLtN, nLeN, hic]
    refine hE _ _ _ .refl ?_
    delta p24_r11
    simp (disch := omega) [oLt, oLe, oLtN, oLeN, nLt, nLe, nLtN, nLeN]
    exact hQ _ _ (.p (.inl rfl) (by simp) rfl)
/-! ### The two checks say the same -/
theorem idxR_not {x : Int} : ∀ {l : List Int} {i : Int}, x ∉ l → idxR x l i = -1
  | [], i, _ => rfl
  | y :: r, i, h => by
    simp only [List.mem_cons, not_or] at h
    simp only [idxR]
    rw [if_neg (fun e => h.1 e.symm)]
    exact idxR_not h.2
theorem idxL_pos {x : Int} {l : List Int} : 0 ≤ idxL l x ↔ x ∈ l := by
  constructor
  · intro h
    by_cases hm : x ∈ l
    · exact hm
    · unfold idxL at h
      rw [idxR_not hm] at h
      omega
  · intro h
    obtain ⟨k, _, h2, _⟩ := idxL_mem h
    omega
theorem chk_same {n : Nat} (hn : n ≤ 7) : ∀ (r pre : List Int) (M : List Bool), M.length = 7 → (∀ k : Nat, k < n → (M.getD k false = true ↔ (k : Int) ∈ pre)) → chk2R n pre r = chkR n r M
  | [], pre, M, _, _ => rfl
  | x :: r, pre, M, hM, h => by
    simp only [chk2R, chkR]
    by_cases hx : 0 ≤ x ∧ x < n
    · rw [if_pos hx, if_pos ⟨hx.1, by omega⟩]
      obtain ⟨k, rfl⟩ := Int.eq_ofNat_of_zero_le hx.1
      have hk : k < n := by omega
      have hh := h k hk
      rw [Int.toNat_natCast]
      by_cases hp : 0 ≤ idxL pre (k : Int)
      · rw [if_pos hp, if_pos (hh.2 (idxL_pos.1 hp))]
      · rw [if_neg hp, if_neg (fun e => hp (idxL_pos.2 (hh.1 e)))]
        refine chk_same hn r _ _ (by simpa using hM) fun j hj => ?_
        by_cases e : k = j
        · subst e
          rw [List.getD_eq_getElem?_getD, List.getElem?_set_self (by omega)]
          simp
        · rw [List.getD_eq_getElem?_getD, List.getElem?_set_ne e, ← List.getD_eq_getElem?_getD, h j hj]
          simp only [List.mem_append, List.mem_singleton]
          constructor
          · exact .inl
          · rintro (h | h)
            · exact h
            · omega
    · rw [if_neg hx, if_neg (fun e => hx ⟨e.1, by omega⟩)]
theorem chk2_eq (l : List Int) : chk2F l = chkF l := by
  unfold chk2F chkF
  by_cases h : 1 ≤ l.length ∧ l.length ≤ 7
  · rw [if_pos h, if_neg (by omega)]
    refine chk_same h.2 l [] Fl7 rfl fun k hk => ?_
    have : ∀ x, Fl7.getD x false = false := fun x => by
      rcases x with _ | _ | _ | _ | _ | _ | _ | x <;> rfl
    rw [this]; simp
  · rw [if_neg h, if_pos (by omega)]
end
section
set_option maxHeartbeats 4000000
@[simp] theorem splice_two (x y a b : AV) : splice [x, y] 0 [a, b] = [a, b] := rfl
/-! ### Pairs -/
def flP (P : List (Int × Int)) : List Int := P.flatMap fun p => [p.1, p.2]
@[simp] theorem flP_nil : flP [] = [] := rfl
@[simp] theorem flP_cons (p : Int × Int) (P : List (Int × Int)) : flP (p :: P) = p.1 :: p.2 :: flP P := rfl
@[simp] theorem flP_app (P Q : List (Int × Int)) : flP (P ++ Q) = flP P ++ flP Q := by simp [flP]
theorem flP_len (P : List (Int × Int)) : (flP P).length = P.length * 2 := by induction P with | nil => rfl | cons p P ih => simp [ih]; omega
theorem flP_inj : ∀ {P Q : List (Int × Int)}, flP P = flP Q → P = Q
  | [], [], _ => rfl
  | [], q :: Q, h => by simp at h
  | p :: P, [], h => by simp at h
  | p :: P, q :: Q, h => by
    simp only [flP_cons, List.cons.injEq] at h
    rw [flP_inj h.2.2, Prod.ext h.1 h.2.1]
theorem flP_get {P : List (Int × Int)} {i : Nat} {p : Int × Int} (h : P[i]? = some p) : (flP P).drop (i * 2) = p.1 :: p.2 :: flP (P.drop (i + 1)) := by
  induction P generalizing i with
  | nil => simp at h
  | cons q P ih =>
    cases i with
    | zero => simp at h; subst h; simp
    | succ i =>
      have := ih (i := i) (by simpa using h)
      rw [show (i + 1) * 2 = i * 2 + 1 + 1 by omega]
      simpa using this
def outP (id : Nat) (P : List (Int × Int)) : AV := if P = [] then .v (.slice none 0 0) else .ref id 0 P.length 2 none
def outHP (id : Nat) (P : List (Int × Int)) : HL := if P = [] then [] else [(id, .cells (ints (flP P)))]
def outKP (P : List (Int × Int)) : Nat := if P = [] then 0 else 1
@[simp] theorem outP_nil (id : Nat) : outP id [] = .v (.slice none 0 0) := rfl
@[simp] theorem outP_cons (id : Nat) (x : Int × Int) (r : List (Int × Int)) : outP id (x :: r) = .ref id 0 (r.length + 1) 2 none := by simp [outP]
@[simp] theorem outHP_nil (id : Nat) : outHP id [] = [] := rfl
@[simp] theorem outHP_cons (id : Nat) (x : Int × Int) (r : List (Int × Int)) : outHP id (x :: r) = [(id, .cells (vI x.1 :: vI x.2 :: ints (flP r)))] := by simp [outHP]
@[simp] theorem outKP_nil : outKP [] = 0 := rfl
@[simp] theorem outKP_cons (x : Int × Int) (r : List (Int × Int)) : outKP (x :: r) = 1 := by simp [outKP]
/-! ### The document's clash -/
def cl2R (l : List Int) (b : Int) : Nat → Nat → Bool
  | 0, _ => false
  | k + 1, c => if idxL l b < idxL l c then true else cl2R l b k (c + 1)
def clD (l : List Int) (a b : Int) : Bool := if idxL l b < idxL l a then false else cl2R l b a.toNat 0
def s83 : Sp := spT 83 [.l, .i, .i] fun (l : List Int) (a : Int) (b : Int) => res (small l && decide (0 ≤ a ∧ a ≤ 100)) (vB (clD l a b))
@[simp] theorem s83_g : s83.g = 83 := rfl
@[simp] theorem s83_f : s83.f = (spT 83 [.l, .i, .i] fun (l : List Int) (a : Int) (b : Int) => res (small l && decide (0 ≤ a ∧ a ≤ 100)) (vB (clD l a b))).f := rfl
theorem s83_ok : s83.ok Try.prog := by
  apply spT_ok
  simp only [OkT, Ty.all, List.nil_append, List.cons_append]
  intro (l : List Int) u (a : Int) (b : Int)
  apply okT_res; intro hg
  refine P83.rz (ss := [s72]) ⟨s72_ok, trivial⟩ (by simp) fun Q hQ => ?_
  delta p83 p83_r0 p83_r1 p83_r2 p83_r3
  simp only [Bool.and_eq_true, decide_eq_true_eq] at hg
  obtain ⟨hsm, ha0, ha1⟩ := hg
  obtain ⟨a, rfl⟩ := Int.eq_ofNat_of_zero_le ha0
  by_cases h : idxL l b < idxL l a
  · have hr : clD l a b = false := by unfold clD; rw [if_pos h]
    rw [hr] at hQ
    simp (disch := omega) [oLt, oLe, oLtN, oLeN, nLt, nLe, nLtN, nLeN, hsm, h]
    exact hQ _ _ (.p (.inl rfl) (by simp) rfl)
  · have hr : clD l a b = cl2R l b a 0 := by unfold clD; rw [if_neg h]; simp
    rw [hr] at hQ
    simp (disch := omega) [oLt, oLe, oLtN, oLeN, nLt, nLe, nLtN, nLeN, hsm, h]
    refine XZ_for (fun c : Nat => ⟨[(0, .il (ints l) l.length u), (1, vI a), (2, vI b), (7, vI c)], [], 0⟩) (fun c => a - c) (fun c => c ≤ a ∧ cl2R l b (a - c) c = cl2R l b a 0) 0 ⟨by simp, by simp⟩ (.to [] (by simp)) ?_
    rintro c ⟨hc, hinv⟩ N Q' hN hE
    rcases Nat.lt_or_ge c a with hca | hca
    · have hcc : (c : Int) < a := by omega
      rw [show a - c = (a - (c + 1)) + 1 by omega, cl2R] at hinv
      by_cases h2 : idxL l b < idxL l c
      · rw [if_pos h2] at hinv
        rw [← hinv] at hQ
        delta p83_l0 p83_r4 p83_r5 p83_r6 p83_r7
        simp (disch := omega) [oLt, oLe, oLtN, oLeN, nLt, nLe, nLtN, nLeN, hcc, hsm, h2]
        refine hE _ _ _ .refl ?_
        simp (disch := omega) [oLt, oLe, oLtN, oLeN, nLt, nLe, nLtN, nLeN]
        exact hQ _ _ (.p (.inl rfl) (by simp) rfl)
      · rw [if_neg h2] at hinv
        delta p83_l0 p83_r4 p83_r5 p83_r6 p83_r7
        simp (disch := omega) [oLt, oLe, oLtN, oLeN, nLt, nLe, nLtN, nLeN, hcc, hsm, h2]
        exact hN _ (c + 1) (by omega) ⟨hca, hinv⟩ (.to [] (by simp))
    · obtain rfl : c = a := by omega
      have hcc : ¬ (c : Int) < c := by omega
      rw [Nat.sub_self, cl2R] at hinv
      rw [← hinv] at hQ
      delta p83_l0 p83_r4 p83_r5 p83_r6 p83_r7
      simp (disch := omega) [oLt, oLe, oLtN, oLeN, nLt, nLe, nLtN, nLeN, hcc]
      refine hE _ _ _ .refl ?_
      delta p83_r8
      simp (disch := omega) [oLt, oLe, oLtN, oLeN, nLt, nLe, nLtN, nLeN]
      exact hQ _ _ (.p (.inl rfl) (by simp) rfl)
/-! ### All pairs -/
def cpI (t : Nat → Bool) (a : Nat) : Nat → Nat → List (Int × Int) → List (Int × Int)
  | 0, _, P => P
  | k + 1, b, P => cpI t a k (b + 1) (if t b = true then P ++ [((a : Int), (b : Int))] else P)
def cpO (t : Nat → Nat → Bool) (n : Nat) : Nat → Nat → List (Int × Int) → List (Int × Int)
  | 0, _, P => P
  | k + 1, a, P => cpO t n k (a + 1) (cpI (t a) a (n - (a + 1)) (a + 1) P)
def cpF (l : List Int) : List (Int × Int) := cpO (fun a b => ((clF l).getD a 0).testBit b) l.length l.length 0 []
def cdF (l : List Int) : List (Int × Int) := cpO (fun a b => clD l a b) l.length l.length 0 []
theorem cpI_congr {t t' : Nat → Bool} {a : Nat} : ∀ (k b : Nat) (P : List (Int × Int)), (∀ x, b ≤ x → x < b + k → t x = t' x) → cpI t a k b P = cpI t' a k b P
  | 0, b, P, h => rfl
  | k + 1, b, P, h => by
    simp only [cpI]
    rw [h b (by omega) (by omega)]
    exact cpI_congr k (b + 1) _ (fun x h1 h2 => h x (by omega) (by omega))
theorem cpO_congr {t t' : Nat → Nat → Bool} {n : Nat} : ∀ (k a : Nat) (P : List (Int × Int)), a + k ≤ n → (∀ x y, x < y → y < n → t x y = t' x y) → cpO t n k a P = cpO t' n k a P
  | 0, a, P, _, h => rfl
  | k + 1, a, P, ha, h => by
    simp only [cpO]
    rw [cpI_congr (t := t a) (t' := t' a) (n - (a + 1)) (a + 1) P (fun x h1 h2 => h a x (by omega) (by omega))]
    exact cpO_congr k (a + 1) _ (by omega) h
def mk37 (l : List Int) (u : Bool) (P : List (Int × Int)) (a : Nat) : ST := ⟨[(0, .il (ints l) l.length u), (5, outP 0 P), (15, .il (qws (clF l)) l.length false), (16, vI l.length), (17, vI a)], outHP 0 P, outKP P⟩
def mk37b (l : List Int) (u : Bool) (P : List (Int × Int)) (a m b : Nat) : ST := ⟨[(0, .il (ints l) l.length u), (5, outP 0 P), (6, vI a), (7, vQ m), (8, vI b), (15, .il (qws (clF l)) l.length false), (16, vI l.length), (17, vI a)], outHP 0 P, outKP P⟩
def s37 : Sp := spT 37 [.l] fun (l : List Int) => res (small l) (if chkF l = 0 then .tup [.il (ints (flP (cpF l))) (cpF l).length false, vI 0] else .tup [.il [] 0 false, vI (chkF l)])
@[simp] theorem s37_g : s37.g = 37 := rfl
@[simp] theorem s37_f : s37.f = (spT 37 [.l] fun (l : List Int) => res (small l) (if chkF l = 0 then .tup [.il (ints (flP (cpF l))) (cpF l).length false, vI 0] else .tup [.il [] 0 false, vI (chkF l)])).f := rfl
theorem s37_ok : s37.ok Try.prog := by
  apply spT_ok
  simp only [OkT, Ty.all, List.nil_append, List.cons_append]
  intro (l : List Int) u
  apply okT_res; intro hg
  refine P37.rz (ss := [s23, s82]) ⟨s23_ok, s82_ok, trivial⟩ (by simp) fun Q hQ => ?_
  delta p37 p37_r0 p37_r1 p37_r2 p37_r3 p37_r4 p37_r5
  by_cases hck : chkF l = 0
  rotate_left
  · rw [if_neg hck] at hQ
    simp (disch := omega) [oLt, oLe, oLtN, oLeN, nLt, nLe, nLtN, nLeN, hg, hck]
    exact hQ _ _ (.fz [2, 3] _ (.inl rfl) (by simp; rfl) (by simp) (by simp))
  rw [if_pos hck] at hQ
  obtain ⟨hl0, hl7⟩ := chkF_len hck
  have hgd := clF_gd hck
  simp (disch := omega) [oLt, oLe, oLtN, oLeN, nLt, nLe, nLtN, nLeN, hg, hck]
  refine XZ_for (fun p : Nat × List (Int × Int) => mk37 l u p.2 p.1) (fun p => l.length - p.1) (fun p => p.1 ≤ l.length ∧ p.2.length ≤ 11 * p.1 + 1 ∧ cpO (fun a b => ((clF l).getD a 0).testBit b) l.length (l.length - p.1) p.1 p.2 = cpF l) (0, []) ⟨by simp, by simp, rfl⟩ (.to [] (by simp [mk37])) ?_
  rintro ⟨a, P⟩ ⟨hi, hpl, hinv⟩ N Q' hN hE
  simp only at hi hpl hinv
  rcases Nat.lt_or_ge a l.length with h | h
  · have hic : (a : Int) < l.length := by omega
    obtain ⟨m, hm, hm128⟩ := hgd.get h
    have hm' := (List.getElem?_eq_some_iff.1 hm).2
    have hmd : (clF l).getD a 0 = m := by rw [List.getD_eq_getElem?_getD, hm]; rfl
    have hla : a < (clF l).length := by rw [hgd.len]; exact h
    rw [show l.length - a = (l.length - (a + 1)) + 1 by omega, cpO] at hinv
    simp only [hmd] at hinv
    have fin : ∀ P', P'.length ≤ 11 * (a + 1) + 1 → cpO (fun a b => ((clF l).getD a 0).testBit b) l.length (l.length - (a + 1)) (a + 1) P' = cpF l → ∀ s', ChgT 0 s' (mk37 l u P' (a + 1)) → N s' := fun P' h1 h2 s' hh => hN s' (a + 1, P') (by simp only; omega) ⟨h, h1, h2⟩ hh
    clear hN hQ
    simp only [mk37]
    delta p37_l1 p37_r6 p37_r7 p37_r8
    simp (disch := omega) [oLt, oLe, oLtN, oLeN, nLt, nLe, nLtN, nLeN, hic, h, hm, hm', hla]
    have hcast : (a : Int) + 1 = ((a + 1 : Nat) : Int) := by simp
    rw [hcast]
    refine XZ_for (fun p : Nat × List (Int × Int) => mk37b l u p.2 a m p.1) (fun p => l.length - p.1) (fun p => a + 1 ≤ p.1 ∧ p.1 ≤ l.length ∧ p.2.length ≤ 10 * a + p.1 ∧ cpI (fun b => m.testBit b) a (l.length - p.1) p.1 p.2 = cpI (fun b => m.testBit b) a (l.length - (a + 1)) (a + 1) P) (a + 1, P) ⟨Nat.le_refl _, h, by simp only; omega, rfl⟩ ?_ ?_
    · cases P with
      | nil => exact .to [] (by simp [mk37b])
      | cons x r => exact .to [0] (by simp [mk37b])
    clear hpl
    rintro ⟨b, R⟩ ⟨hb0, hb, hrl, hinn⟩ N2 Q2 hN2 hE2
    simp only at hb0 hb hrl hinn
    rcases Nat.lt_or_ge b l.length with hbl | hbl
    · have hbc : (b : Int) < l.length := by omega
      rw [show l.length - b = (l.length - (b + 1)) + 1 by omega, cpI] at hinn
      have fin2 : ∀ R', R'.length ≤ 10 * a + (b + 1) → cpI (fun b => m.testBit b) a (l.length - (b + 1)) (b + 1) R' = cpI (fun b => m.testBit b) a (l.length - (a + 1)) (a + 1) P → ∀ s', ChgT 0 s' (mk37b l u R' a m (b + 1)) → N2 s' := fun R' h1 h2 s' hh => hN2 s' (b + 1, R') (by simp only; omega) ⟨by simp only; omega, hbl, h1, h2⟩ hh
      clear hN2 hE2 fin hE
      have hbit := bit_at m b
      have hdl : m / 2 ^ b ≤ m := Nat.div_le_self _ _
      have hand := fun p q => and64 p q (a := m / 2 ^ b) (by omega)
      have hrl' : R.length ≤ 100 := by omega
      by_cases ht : m.testBit b = true
      · have hbn : m / 2 ^ b % 2 = 1 := hbit.2 ht
        simp only [ht, if_true] at hinn
        have fin2 := fin2 _ (by simp; omega) hinn
        cases R with
        | nil =>
          simp only [mk37b, outP_nil, outHP_nil, outKP_nil, List.nil_append, outP_cons, outHP_cons, outKP_cons] at fin2 ⊢
          delta p37_l0 p37_r9 p37_r10 p37_r11 p37_r12
          simp (disch := omega) [oLt, oLe, oLtN, oLeN, nLt, nLe, nLtN, nLeN, hbc, shr64, hand, hbn, SOp.eff]
          exact fin2 _ (.toS (fun s => [ida s 5]) (by simp))
        | cons x r =>
          have hr2 : r.length ≤ 100 := by simp at hrl'; omega
          have hfl := flP_len r
          have htk : List.take ((r.length + 1) * 2) (vI x.1 :: vI x.2 :: ints (flP r)) = vI x.1 :: vI x.2 :: ints (flP r) := List.take_of_length_le (by simp; omega)
          simp only [mk37b, outP_cons, outHP_cons, outKP_cons, List.cons_append] at fin2 ⊢
          delta p37_l0 p37_r9 p37_r10 p37_r11 p37_r12
          simp (disch := omega) [oLt, oLe, oLtN, oLeN, nLt, nLe, nLtN, nLeN, hbc, shr64, hand, hbn, SOp.eff, hr2, hfl]
          exact fin2 _ (.toS (fun s => [ida s 5]) (by simp [htk]))
      · have hbz : m / 2 ^ b % 2 = 0 := by have : ¬ m / 2 ^ b % 2 = 1 := fun e => ht (hbit.1 e); omega
        simp only [ht, if_false, Bool.false_eq_true] at hinn
        have fin2 := fin2 _ (by omega) hinn
        cases R with
        | nil =>
          simp only [mk37b, outP_nil, outHP_nil, outKP_nil] at fin2 ⊢
          delta p37_l0 p37_r9 p37_r10 p37_r11 p37_r12
          simp (disch := omega) [oLt, oLe, oLtN, oLeN, nLt, nLe, nLtN, nLeN, hbc, shr64, hand, hbz, SOp.eff]
          exact fin2 _ (.to [] (by simp))
        | cons x r =>
          simp only [mk37b, outP_cons, outHP_cons, outKP_cons] at fin2 ⊢
          delta p37_l0 p37_r9 p37_r10 p37_r11 p37_r12
          simp (disch := omega) [oLt, oLe, oLtN, oLeN, nLt, nLe, nLtN, nLeN, hbc, shr64, hand, hbz, SOp.eff]
          exact fin2 _ (.toS (fun s => [ida s 5]) (by simp))
    · obtain rfl : b = l.length := by omega
      have hbc : ¬ (l.length : Int) < l.length := by omega
      rw [Nat.sub_self, cpI] at hinn
      rw [← hinn] at hinv
      have fin := fin R (by omega) hinv
      clear hN2
      simp only [mk37b, mk37] at fin ⊢
      cases R with
      | nil =>
        delta p37_l0 p37_r9 p37_r10 p37_r11 p37_r12
        simp (disch := omega) [oLt, oLe, oLtN, oLeN, nLt, nLe, nLtN, nLeN, hbc]
        refine hE2 _ _ _ .refl ?_
        delta p37_r13
        simp (disch := omega) [oLt, oLe, oLtN, oLeN, nLt, nLe, nLtN, nLeN]
        exact fin _ (.to [] (by simp))
      | cons x r =>
        delta p37_l0 p37_r9 p37_r10 p37_r11 p37_r12
        simp (disch := omega) [oLt, oLe, oLtN, oLeN, nLt, nLe, nLtN, nLeN, hbc]
        refine hE2 _ _ _ .refl ?_
        delta p37_r13
        simp (disch := omega) [oLt, oLe, oLtN, oLeN, nLt, nLe, nLtN, nLeN]
        exact fin _ (.toS (fun s => [ida s 5]) (by simp))
  · obtain rfl : a = l.length := by omega
    have hic : ¬ (l.length : Int) < l.length := by omega
    rw [Nat.sub_self, cpO] at hinv
    rw [← hinv] at hQ
    clear hN
    simp only [mk37]
    cases P with
    | nil =>
      delta p37_l1 p37_r6 p37_r7 p37_r8
      simp (disch := omega) [oLt, oLe, oLtN, oLeN, nLt, nLe, nLtN, nLeN, hic]
      refine hE _ _ _ .refl ?_
      delta p37_r14
      simp (disch := omega) [oLt, oLe, oLtN, oLeN, nLt, nLe, nLtN, nLeN]
      exact hQ _ _ (.fz [2, 3] _ (.inl rfl) (by simp; rfl) (by simp) (by simp))
    | cons x r =>
      have hfl := flP_len r
      have hle : (r.length + 1) * 2 ≤ (flP r).length + 1 + 1 := by omega
      have htk : List.take ((r.length + 1) * 2) (vI x.1 :: vI x.2 :: ints (flP r)) = vI x.1 :: vI x.2 :: ints (flP r) := List.take_of_length_le (by simp; omega)
      delta p37_l1 p37_r6 p37_r7 p37_r8
      simp (disch := omega) [oLt, oLe, oLtN, oLeN, nLt, nLe, nLtN, nLeN, hic]
      refine hE _ _ _ .refl ?_
      delta p37_r14
      simp (disch := omega) [oLt, oLe, oLtN, oLeN, nLt, nLe, nLtN, nLeN]
      exact hQ _ _ (.fz [2, 3] _ (.inl rfl) (by simp [htk, hle]; rfl) (by simp) (by simp))
end
section
set_option maxHeartbeats 4000000
def mk38 (l : List Int) (u : Bool) (P : List (Int × Int)) (a : Nat) : ST := ⟨[(0, .il (ints l) l.length u), (5, outP 0 P), (6, vI a)], outHP 0 P, outKP P⟩
def mk38b (l : List Int) (u : Bool) (P : List (Int × Int)) (a b : Nat) : ST := ⟨[(0, .il (ints l) l.length u), (5, outP 0 P), (6, vI a), (7, vI b)], outHP 0 P, outKP P⟩
def s38 : Sp := spT 38 [.l] fun (l : List Int) => res (small l) (if chk2F l = 0 then .tup [.il (ints (flP (cdF l))) (cdF l).length false, vI 0] else .tup [.il [] 0 false, vI (chk2F l)])
@[simp] theorem s38_g : s38.g = 38 := rfl
@[simp] theorem s38_f : s38.f = (spT 38 [.l] fun (l : List Int) => res (small l) (if chk2F l = 0 then .tup [.il (ints (flP (cdF l))) (cdF l).length false, vI 0] else .tup [.il [] 0 false, vI (chk2F l)])).f := rfl
theorem s38_ok : s38.ok Try.prog := by
  apply spT_ok
  simp only [OkT, Ty.all, List.nil_append, List.cons_append]
  intro (l : List Int) u
  apply okT_res; intro hg
  refine P38.rz (ss := [s24, s83]) ⟨s24_ok, s83_ok, trivial⟩ (by simp) fun Q hQ => ?_
  delta p38 p38_r0 p38_r1 p38_r2 p38_r3 p38_r4 p38_r5
  by_cases hck : chk2F l = 0
  rotate_left
  · rw [if_neg hck] at hQ
    simp (disch := omega) [oLt, oLe, oLtN, oLeN, nLt, nLe, nLtN, nLeN, hg, hck]
    exact hQ _ _ (.fz [2, 3] _ (.inl rfl) (by simp; rfl) (by simp) (by simp))
  rw [if_pos hck] at hQ
  obtain ⟨hl0, hl7⟩ := chkF_len ((chk2_eq l).symm.trans hck)
  simp (disch := omega) [oLt, oLe, oLtN, oLeN, nLt, nLe, nLtN, nLeN, hg, hck]
  refine XZ_for (fun p : Nat × List (Int × Int) => mk38 l u p.2 p.1) (fun p => l.length - p.1) (fun p => p.1 ≤ l.length ∧ p.2.length ≤ 11 * p.1 + 1 ∧ cpO (fun a b => clD l a b) l.length (l.length - p.1) p.1 p.2 = cdF l) (0, []) ⟨by simp, by simp, rfl⟩ (.to [] (by simp [mk38])) ?_
  rintro ⟨a, P⟩ ⟨hi, hpl, hinv⟩ N Q' hN hE
  simp only at hi hpl hinv
  rcases Nat.lt_or_ge a l.length with h | h
  · have hic : (a : Int) < l.length := by omega
    rw [show l.length - a = (l.length - (a + 1)) + 1 by omega, cpO] at hinv
    have fin : ∀ P', P'.length ≤ 11 * (a + 1) + 1 → cpO (fun a b => clD l a b) l.length (l.length - (a + 1)) (a + 1) P' = cdF l → ∀ s', ChgT 0 s' (mk38 l u P' (a + 1)) → N s' := fun P' h1 h2 s' hh => hN s' (a + 1, P') (by simp only; omega) ⟨h, h1, h2⟩ hh
    clear hN hQ
    simp only [mk38]
    delta p38_l1 p38_r6 p38_r7
    simp (disch := omega) [oLt, oLe, oLtN, oLeN, nLt, nLe, nLtN, nLeN, hic]
    have hcast : (a : Int) + 1 = ((a + 1 : Nat) : Int) := by simp
    rw [hcast]
    refine XZ_for (fun p : Nat × List (Int × Int) => mk38b l u p.2 a p.1) (fun p => l.length - p.1) (fun p => a + 1 ≤ p.1 ∧ p.1 ≤ l.length ∧ p.2.length ≤ 10 * a + p.1 ∧ cpI (fun b => clD l a b) a (l.length - p.1) p.1 p.2 = cpI (fun b => clD l a b) a (l.length - (a + 1)) (a + 1) P) (a + 1, P) ⟨Nat.le_refl _, h, by simp only; omega, rfl⟩ ?_ ?_
    · cases P with
      | nil => exact .to [] (by simp [mk38b])
      | cons x r => exact .to [0] (by simp [mk38b])
    clear hpl
    rintro ⟨b, R⟩ ⟨hb0, hb, hrl, hinn⟩ N2 Q2 hN2 hE2
    simp only at hb0 hb hrl hinn
    rcases Nat.lt_or_ge b l.length with hbl | hbl
    · have hbc : (b : Int) < l.length := by omega
      rw [show l.length - b = (l.length - (b + 1)) + 1 by omega, cpI] at hinn
      have fin2 : ∀ R', R'.length ≤ 10 * a + (b + 1) → cpI (fun b => clD l a b) a (l.length - (b + 1)) (b + 1) R' = cpI (fun b => clD l a b) a (l.length - (a + 1)) (a + 1) P → ∀ s', ChgT 0 s' (mk38b l u R' a (b + 1)) → N2 s' := fun R' h1 h2 s' hh => hN2 s' (b + 1, R') (by simp only; omega) ⟨by simp only; omega, hbl, h1, h2⟩ hh
      clear hN2 hE2 fin hE
      have hal : a ≤ 100 := by omega
      have hsm := hg
      have hrl' : R.length ≤ 100 := by omega
      by_cases ht : clD l a b = true
      · simp only [ht, if_true] at hinn
        have fin2 := fin2 _ (by simp; omega) hinn
        cases R with
        | nil =>
          simp only [mk38b, outP_nil, outHP_nil, outKP_nil, List.nil_append, outP_cons, outHP_cons, outKP_cons] at fin2 ⊢
          delta p38_l0 p38_r8 p38_r9 p38_r10 p38_r11
          simp (disch := omega) [oLt, oLe, oLtN, oLeN, nLt, nLe, nLtN, nLeN, hbc, hg, hal, ht]
          exact fin2 _ (.toS (fun s => [ida s 5]) (by simp))
        | cons x r =>
          have hr2 : r.length ≤ 100 := by simp at hrl'; omega
          have hfl := flP_len r
          have htk : List.take ((r.length + 1) * 2) (vI x.1 :: vI x.2 :: ints (flP r)) = vI x.1 :: vI x.2 :: ints (flP r) := List.take_of_length_le (by simp; omega)
          simp only [mk38b, outP_cons, outHP_cons, outKP_cons, List.cons_append] at fin2 ⊢
          delta p38_l0 p38_r8 p38_r9 p38_r10 p38_r11
          simp (disch := omega) [oLt, oLe, oLtN, oLeN, nLt, nLe, nLtN, nLeN, hbc, hg, hal, ht, hr2, hfl]
          exact fin2 _ (.toS (fun s => [ida s 5]) (by simp [htk]))
      · have ht : clD l a b = false := by simpa using ht
        simp only [ht, if_false, Bool.false_eq_true] at hinn
        have fin2 := fin2 _ (by omega) hinn
        cases R with
        | nil =>
          simp only [mk38b, outP_nil, outHP_nil, outKP_nil] at fin2 ⊢
          delta p38_l0 p38_r8 p38_r9 p38_r10 p38_r11
          simp (disch := omega) [oLt, oLe, oLtN, oLeN, nLt, nLe, nLtN, nLeN, hbc, hg, hal, ht]
          exact fin2 _ (.to [] (by simp))
        | cons x r =>
          simp only [mk38b, outP_cons, outHP_cons, outKP_cons] at fin2 ⊢
          delta p38_l0 p38_r8 p38_r9 p38_r10 p38_r11
          simp (disch := omega) [oLt, oLe, oLtN, oLeN, nLt, nLe, nLtN, nLeN, hbc, hg, hal, ht]
          exact fin2 _ (.toS (fun s => [ida s 5]) (by simp))
    · obtain rfl : b = l.length := by omega
      have hbc : ¬ (l.length : Int) < l.length := by omega
      rw [Nat.sub_self, cpI] at hinn
      rw [← hinn] at hinv
      have fin := fin R (by omega) hinv
      clear hN2
      simp only [mk38b, mk38] at fin ⊢
      cases R with
      | nil =>
        delta p38_l0 p38_r8 p38_r9 p38_r10 p38_r11
        simp (disch := omega) [oLt, oLe, oLtN, oLeN, nLt, nLe, nLtN, nLeN, hbc]
        refine hE2 _ _ _ .refl ?_
        delta p38_r12
        simp (disch := omega) [oLt, oLe, oLtN, oLeN, nLt, nLe, nLtN, nLeN]
        exact fin _ (.to [] (by simp))
      | cons x r =>
        delta p38_l0 p38_r8 p38_r9 p38_r10 p38_r11
        simp (disch := omega) [oLt, oLe, oLtN, oLeN, nLt, nLe, nLtN, nLeN, hbc]
        refine hE2 _ _ _ .refl ?_
        delta p38_r12
        simp (disch := omega) [oLt, oLe, oLtN, oLeN, nLt, nLe, nLtN, nLeN]
        exact fin _ (.toS (fun s => [ida s 5]) (by simp))
  · obtain rfl : a = l.length := by omega
    have hic : ¬ (l.length : Int) < l.length := by omega
    rw [Nat.sub_self, cpO] at hinv
    rw [← hinv] at hQ
    clear hN
    simp only [mk38]
    cases P with
    | nil =>
      delta p38_l1 p38_r6 p38_r7
      simp (disch := omega) [oLt, oLe, oLtN, oLeN, nLt, nLe, nLtN, nLeN, hic]
      refine hE _ _ _ .refl ?_
      delta p38_r13
      simp (disch := omega) [oLt, oLe, oLtN, oLeN, nLt, nLe, nLtN, nLeN]
      exact hQ _ _ (.fz [2, 3] _ (.inl rfl) (by simp; rfl) (by simp) (by simp))
    | cons x r =>
      have hfl := flP_len r
      have hle : (r.length + 1) * 2 ≤ (flP r).length + 1 + 1 := by omega
      have htk : List.take ((r.length + 1) * 2) (vI x.1 :: vI x.2 :: ints (flP r)) = vI x.1 :: vI x.2 :: ints (flP r) := List.take_of_length_le (by simp; omega)
      delta p38_l1 p38_r6 p38_r7
      simp (disch := omega) [oLt, oLe, oLtN, oLeN, nLt, nLe, nLtN, nLeN, hic]
      refine hE _ _ _ .refl ?_
      delta p38_r13
      simp (disch := omega) [oLt, oLe, oLtN, oLeN, nLt, nLe, nLtN, nLeN]
      exact hQ _ _ (.fz [2, 3] _ (.inl rfl) (by simp [htk, hle]; rfl) (by simp) (by simp))
/-! ### They are the same -/
theorem eraseN_perm : ∀ (l : List Nat) (k : Nat) (h : k < l.length), (l[k] :: l.eraseIdx k).Perm l
  | [], k, h => by simp at h
  | x :: r, 0, h => by simp
  | x :: r, k + 1, h => by
    simp only [List.getElem_cons_succ, List.eraseIdx_cons_succ]
    exact (List.Perm.swap _ _ _).trans ((eraseN_perm r k (by simpa using h)).cons x)
theorem allN_perm : ∀ (f : Nat) (left out l : List Nat), left.length = f → l ∈ allN f left out → l.Perm (out ++ left)
  | 0, left, out, l, h, hm => by
    obtain rfl := List.length_eq_zero_iff.1 h
    simp only [allN, List.mem_singleton] at hm
    subst hm; simp
  | f + 1, left, out, l, h, hm => by
    simp only [allN, List.mem_flatMap, List.mem_range] at hm
    obtain ⟨k, hk, hm⟩ := hm
    have ih := allN_perm f (left.eraseIdx k) (out ++ [left.getD k 0]) l (by rw [List.length_eraseIdx_of_lt hk]; omega) hm
    refine ih.trans ?_
    rw [List.append_assoc]
    refine List.Perm.append_left out ?_
    have e : left.getD k 0 = left[k] := by rw [List.getD_eq_getElem?_getD, List.getElem?_eq_getElem hk]; rfl
    rw [e]
    exact eraseN_perm left k hk
theorem chk_perm {l : List Int} (h : chkF l = 0) : l.Perm (iota l.length) := by
  obtain ⟨m, rfl, h1, h2, h3⟩ := chkF_per h
  have := allN_perm m.length (List.range m.length) [] m (by simp) h3
  rw [zs_len, iota_zs]
  exact this.map _
theorem chk_nodup {l : List Int} (h : chkF l = 0) : l.Nodup := by
  have hp := chk_perm h
  rw [hp.nodup_iff, iota_zs]
  unfold zs
  exact List.pairwise_map.2 (List.nodup_range.imp fun h e => h (Int.ofNat.inj e))
theorem chk_has {l : List Int} (h : chkF l = 0) (c : Nat) (hc : c < l.length) : (c : Int) ∈ l := by
  rw [(chk_perm h).mem_iff, iota_zs]
  exact List.mem_map.2 ⟨c, List.mem_range.2 hc, rfl⟩
theorem idx_sub2 {b c : Int} : ∀ {l : List Int} {i : Int}, l.Nodup → [b, c].Sublist l → i ≤ idxR b l i ∧ idxR b l i < idxR c l i
  | [], i, _, h => by simp at h
  | y :: r, i, hn, h => by
    obtain ⟨hy, hn'⟩ := List.nodup_cons.1 hn
    simp only [idxR]
    rcases sub2.1 h with h1 | ⟨h1, h2⟩
    · have hb : ¬ y = b := fun e => hy (by rw [e]; exact h1.subset (by simp))
      have hc : ¬ y = c := fun e => hy (by rw [e]; exact h1.subset (by simp))
      rw [if_neg hb, if_neg hc]
      have := idx_sub2 (i := i + 1) hn' h1
      omega
    · subst h1
      have hc : ¬ b = c := fun e => hy (by rw [e]; exact h2)
      rw [if_pos rfl, if_neg hc]
      obtain ⟨k, k1, k2, k3⟩ := idxR_mem (i := i + 1) h2
      omega
theorem sub_idx1 {l : List Int} {j : Nat} {b : Int} (h : l[j]? = some b) : b ∈ l := List.mem_of_getElem? h
theorem sub_idx2 : ∀ {l : List Int} {i j : Nat} {a b : Int}, i < j → l[i]? = some a → l[j]? = some b → [a, b].Sublist l
  | [], i, j, a, b, _, h, _ => by simp at h
  | y :: r, 0, j + 1, a, b, _, h1, h2 => sub2.2 (.inr ⟨by simpa using h1.symm, sub_idx1 (by simpa using h2)⟩)
  | y :: r, i + 1, j + 1, a, b, h, h1, h2 => sub2.2 (.inl (sub_idx2 (i := i) (j := j) (by omega) (by simpa using h1) (by simpa using h2)))
theorem sub_idx3 : ∀ {l : List Int} {i j k : Nat} {a b c : Int}, i < j → j < k → l[i]? = some a → l[j]? = some b → l[k]? = some c → [a, b, c].Sublist l
  | [], i, j, k, a, b, c, _, _, h, _, _ => by simp at h
  | y :: r, 0, j + 1, k + 1, a, b, c, _, h, h1, h2, h3 => sub3.2 (.inr ⟨by simpa using h1.symm, sub_idx2 (i := j) (j := k) (by omega) (by simpa using h2) (by simpa using h3)⟩)
  | y :: r, i + 1, j + 1, k + 1, a, b, c, h, h', h1, h2, h3 => sub3.2 (.inl (sub_idx3 (i := i) (j := j) (k := k) (by omega) (by omega) (by simpa using h1) (by simpa using h2) (by simpa using h3)))
theorem cl2R_iff (l : List Int) (b : Int) : ∀ (k c : Nat), cl2R l b k c = true ↔ ∃ x : Nat, c ≤ x ∧ x < c + k ∧ idxL l b < idxL l x
  | 0, c => by simp [cl2R]; intro x h1 h2; omega
  | k + 1, c => by
    simp only [cl2R]
    by_cases h : idxL l b < idxL l c
    · rw [if_pos h]; simp; exact ⟨c, by omega, by omega, h⟩
    · rw [if_neg h, cl2R_iff l b k (c + 1)]
      constructor
      · rintro ⟨x, h1, h2, h3⟩; exact ⟨x, by omega, by omega, h3⟩
      · rintro ⟨x, h1, h2, h3⟩
        refine ⟨x, ?_, by omega, h3⟩
        rcases Nat.lt_or_ge c x with h4 | h4
        · exact h4
        · have : x = c := by omega
          subst this; exact absurd h3 h
theorem clD_iff {l : List Int} (h : chkF l = 0) {a b : Nat} (hab : a < b) (hb : b < l.length) : clD l a b = true ↔ Cl l a b := by
  have hn := chk_nodup h
  obtain ⟨i, i1, i2, i3⟩ := idxL_mem (chk_has h a (by omega))
  obtain ⟨j, j1, j2, j3⟩ := idxL_mem (chk_has h b hb)
  unfold clD
  rw [Int.toNat_natCast]
  have hne : i ≠ j := fun e => by subst e; rw [i3] at j3; simp at j3; omega
  by_cases hlt : idxL l b < idxL l a
  · rw [if_pos hlt]
    constructor
    · intro h; cases h
    · rintro ⟨c, h1, h2, h3⟩
      have := idx_sub2 (i := 0) hn ((List.Sublist.cons_cons (a : Int) (List.Sublist.cons_cons (b : Int) (List.nil_sublist [c]))).trans h1)
      unfold idxL at hlt; omega
  · rw [if_neg hlt, cl2R_iff]
    constructor
    · rintro ⟨c, _, h2, h3⟩
      obtain ⟨k, k1, k2, k3⟩ := idxL_mem (chk_has h c (by omega))
      exact ⟨c, sub_idx3 (i := i) (j := j) (k := k) (by omega) (by omega) i3 j3 k3, by omega, by omega⟩
    · rintro ⟨c, h1, h2, h3⟩
      have hc0 := chk_mem h c (h1.subset (by simp))
      have := idx_sub2 (i := 0) hn ((List.sublist_cons_self (a : Int) [(b : Int), c]).trans h1)
      exact ⟨c.toNat, by omega, by omega, by rw [Int.toNat_of_nonneg hc0.1]; unfold idxL; omega⟩
theorem cp_eq {l : List Int} (h : chkF l = 0) : cpF l = cdF l := by
  refine cpO_congr _ _ _ (by omega) fun a b hab hb => ?_
  rw [Bool.eq_iff_iff, clF_bit h, clD_iff h hab hb]
  constructor
  · rintro (h1 | ⟨c, h1, h2, h3⟩)
    · exact h1
    · omega
  · exact .inl
/-! ### Two lists of pairs compared -/
theorem kEq2 (a b c d : Int) : effAeq true (KTy.ar 2 .i64) (.agg [vI a, vI b]) (.agg [vI c, vI d]) = ret (vB (!(decide (a = c) && decide (b = d)))) := by
  have : effAeq true (KTy.ar 2 .i64) (.agg [vI a, vI b]) (.agg [vI c, vI d]) = ret (vB (!(decide (IntKind.i64 = IntKind.i64) && a == c && (decide (IntKind.i64 = IntKind.i64) && b == d && true)))) := rfl
  rw [this]
  congr 4
  rw [Bool.eq_iff_iff]; simp
def pat41 (a : List (Int × Int) × Bool × List (Int × Int) × Bool) : List AV × HL × Nat := ([.il (ints (flP a.1)) a.1.length a.2.1, .il (ints (flP a.2.2.1)) a.2.2.1.length a.2.2.2], [], 0)
def out41 (a : List (Int × Int) × Bool × List (Int × Int) × Bool) : AV × HL × Nat := (vB (decide (a.1 = a.2.2.1)), [], 0)
theorem pat41_inj (a b : List (Int × Int) × Bool × List (Int × Int) × Bool) (h : pat41 a = pat41 b) : out41 a = out41 b := by
  obtain ⟨P, u, Q, v⟩ := a
  obtain ⟨P', u', Q', v'⟩ := b
  simp only [pat41, Prod.mk.injEq, List.cons.injEq, AV.il.injEq, true_and, and_true] at h
  unfold out41
  rw [flP_inj (ints_inj h.1.1), flP_inj (ints_inj h.2.1)]
noncomputable def f41 := famF (fun a : List (Int × Int) × Bool × List (Int × Int) × Bool => a.1.length ≤ 1000) pat41 out41
noncomputable def s41 : Sp := ⟨41, f41⟩
@[simp] theorem s41_g : s41.g = 41 := rfl
@[simp] theorem s41_f : s41.f = f41 := rfl
theorem f41_at (P Q : List (Int × Int)) (u v : Bool) (h : P.length ≤ 1000) : f41 [.il (ints (flP P)) P.length u, .il (ints (flP Q)) Q.length v] [] 0 = some (vB (decide (P = Q)), [], 0) := famF_at pat41_inj (P, u, Q, v) h rfl
theorem s41_ok : s41.ok Try.prog := by
  refine famF_ok ?_
  rintro ⟨P, u, R, v⟩ hok
  simp only at hok
  simp only [pat41, out41, hp_eq]
  refine P41.rz (ss := []) trivial (by simp) fun Q hQ => ?_
  by_cases hlen : P.length = R.length
  rotate_left
  · have hlc : ¬ (P.length : Int) = R.length := by omega
    have hne : ¬ P = R := fun e => hlen (by rw [e])
    rw [show decide (P = R) = false by simpa using hne] at hQ
    delta p41 p41_r0 p41_r1 p41_r2 p41_r3
    simp (disch := omega) [oLt, oLe, oLtN, oLeN, nLt, nLe, nLtN, nLeN, hlc]
    exact hQ _ _ (.p (.inl rfl) (by simp) rfl)
  have hlc : (P.length : Int) = R.length := by omega
  delta p41 p41_r0 p41_r1 p41_r2 p41_r3
  simp (disch := omega) [oLt, oLe, oLtN, oLeN, nLt, nLe, nLtN, nLeN, hlc]
  refine XZ_for (fun i : Nat => ⟨[(0, .il (ints (flP P)) P.length u), (1, .il (ints (flP R)) R.length v), (5, vI i)], [], 0⟩) (fun i => P.length - i) (fun i => i ≤ P.length ∧ (P = R ↔ P.drop i = R.drop i)) 0 ⟨by simp, by simp⟩ (.to [] (by simp)) ?_
  rintro i ⟨hi, hinv⟩ N Q' hN hE
  have hPl := flP_len P
  have hRl := flP_len R
  rcases Nat.lt_or_ge i P.length with h | h
  · have hic : (i : Int) < P.length := by omega
    have hicr : (i : Int) < R.length := by omega
    have hir : i < R.length := by omega
    obtain ⟨a, b⟩ : ∃ p, P[i]? = some p := ⟨P[i], List.getElem?_eq_getElem h⟩
    obtain ⟨c, d⟩ : ∃ p, R[i]? = some p := ⟨R[i], List.getElem?_eq_getElem hir⟩
    have hdP := flP_get b
    have hdR := flP_get d
    have hPd : P.drop i = a :: P.drop (i + 1) := by rw [List.drop_eq_getElem_cons h]; rw [List.getElem?_eq_getElem h] at b; cases b; rfl
    have hRd : R.drop i = c :: R.drop (i + 1) := by rw [List.drop_eq_getElem_cons hir]; rw [List.getElem?_eq_getElem hir] at d; cases d; rfl
    have hb1 : i * 2 + 2 ≤ (flP P).length := by omega
    have hb2 : i * 2 + 2 ≤ (flP R).length := by omega
    have hk := kEq2 a.1 a.2 c.1 c.2
    by_cases he : a = c
    · subst he
      have hk' : (!(decide (a.1 = a.1) && decide (a.2 = a.2))) = false := by simp
      rw [hk'] at hk
      delta p41_l0 p41_r4 p41_r5 p41_r6 p41_r7
      simp (disch := omega) [oLt, oLe, oLtN, oLeN, nLt, nLe, nLtN, nLeN, hic, hicr, hlc, hdP, hdR, hb1, hb2, hk]
      exact hN _ (i + 1) (by omega) ⟨h, by rw [hinv, hPd, hRd]; simp⟩ (.to [] (by simp))
    · have hk' : (!(decide (a.1 = c.1) && decide (a.2 = c.2))) = true := by
        cases hh : (decide (a.1 = c.1) && decide (a.2 = c.2))
        · rfl
        · simp only [Bool.and_eq_true, decide_eq_true_eq] at hh
          exact absurd (Prod.ext hh.1 hh.2) he
      rw [hk'] at hk
      have hne : ¬ P = R := by rw [hinv, hPd, hRd]; simp [he]
      rw [show decide (P = R) = false by simpa using hne] at hQ
      delta p41_l0 p41_r4 p41_r5 p41_r6 p41_r7
      simp (disch := omega) [oLt, oLe, oLtN, oLeN, nLt, nLe, nLtN, nLeN, hic, hicr, hlc, hdP, hdR, hb1, hb2, hk]
      refine hE _ _ _ .refl ?_
      simp (disch := omega) [oLt, oLe, oLtN, oLeN, nLt, nLe, nLtN, nLeN]
      exact hQ _ _ (.p (.inl rfl) (by simp) rfl)
  · obtain rfl : i = P.length := by omega
    have hic : ¬ (P.length : Int) < P.length := by omega
    have heq : P = R := by rw [hinv, List.drop_eq_nil_of_le (Nat.le_refl _), List.drop_eq_nil_of_le (by omega)]
    rw [show decide (P = R) = true by simpa using heq] at hQ
    delta p41_l0 p41_r4 p41_r5 p41_r6 p41_r7
    simp (disch := omega) [oLt, oLe, oLtN, oLeN, nLt, nLe, nLtN, nLeN, hic]
    refine hE _ _ _ .refl ?_
    delta p41_r8
    simp (disch := omega) [oLt, oLe, oLtN, oLeN, nLt, nLe, nLtN, nLeN]
    exact hQ _ _ (.p (.inl rfl) (by simp) rfl)
end
end Go.Sx.Lk
