/- What functions of the lock layer return: lists compared, an order checked, a list in order. No conditions. -/
import Derived.Test.YteoiebmbgbgpgaaSxJLG0toPLa
import Derived.Test.YteoiebmbgbgpgaaSxSt
set_option linter.unusedVariables false
set_option linter.unusedSimpArgs false
section
set_option maxRecDepth 4000
namespace Go.Sx
theorem drop_split {α : Type} {l : List α} {i : Nat} (h : i < l.length) : ∃ x r, l.drop i = x :: r ∧ l[i]? = some x ∧ l[i] = x ∧ l.drop (i + 1) = r ∧ x ∈ l :=
  ⟨l[i], l.drop (i + 1), List.drop_eq_getElem_cons h, by simp [h], rfl, rfl, List.getElem_mem h⟩
end Go.Sx
namespace Go.Sx.Lk
open Go Go.Sx Go.Proofs
abbrev vI (n : Int) : AV := .v (.int .i64 n)
abbrev vB (b : Bool) : AV := .v (.bool b)
def small (l : List Int) : Bool := decide (l.length ≤ 1000000)
set_option maxHeartbeats 2000000
def s70 : Sp := spT 70 [.i, .i] fun (n : Int) (b : Int) => res true (vB (decide (0 ≤ n ∧ n < b)))
@[simp] theorem s70_g : s70.g = 70 := rfl
@[simp] theorem s70_f : s70.f = (spT 70 [.i, .i] fun (n : Int) (b : Int) => res true (vB (decide (0 ≤ n ∧ n < b)))).f := rfl
theorem s70_ok : s70.ok Try.prog := by
  apply spT_ok
  simp only [OkT, Ty.all, List.nil_append, List.cons_append]
  intro (n : Int) (b : Int)
  apply okT_res; intro _
  refine P70.rz (ss := []) trivial (by simp) fun Q hQ => ?_
  delta p70 p70_r0 p70_r1
  by_cases h : 0 ≤ n
  · by_cases h' : n < b
    · simp (disch := omega) [oLt, oLe, oLtN, oLeN, nLt, nLe, nLtN, nLeN, h, h']
      exact hQ _ _ (.p (.inl rfl) (by simp [h, h']) rfl)
    · simp (disch := omega) [oLt, oLe, oLtN, oLeN, nLt, nLe, nLtN, nLeN, h, h']
      exact hQ _ _ (.p (.inl rfl) (by simp [h, h']) rfl)
  · simp (disch := omega) [oLt, oLe, oLtN, oLeN, nLt, nLe, nLtN, nLeN, h]
    exact hQ _ _ (.p (.inl rfl) (by simp [h]) rfl)
def s101 : Sp := spT 101 [.i] fun (x : Int) => res true (vB false)
@[simp] theorem s101_g : s101.g = 101 := rfl
@[simp] theorem s101_f : s101.f = (spT 101 [.i] fun (x : Int) => res true (vB false)).f := rfl
theorem s101_ok : s101.ok Try.prog := by
  apply spT_ok
  simp only [OkT, Ty.all, List.nil_append, List.cons_append]
  intro (x : Int)
  apply okT_res; intro _
  refine P101.rz (ss := []) trivial (by simp) fun Q hQ => ?_
  delta p101 p101_r0 p101_r1
  simp (disch := omega) [oLt, oLe, oLtN, oLeN, nLt, nLe, nLtN, nLeN]
  exact hQ _ _ (.p (.inl rfl) (by simp) rfl)
def s91 : Sp := spT 91 [.i, .i] fun (x : Int) (y : Int) => res true (vB (decide (x < y)))
@[simp] theorem s91_g : s91.g = 91 := rfl
@[simp] theorem s91_f : s91.f = (spT 91 [.i, .i] fun (x : Int) (y : Int) => res true (vB (decide (x < y)))).f := rfl
theorem s91_ok : s91.ok Try.prog := by
  apply spT_ok
  simp only [OkT, Ty.all, List.nil_append, List.cons_append]
  intro (x : Int) (y : Int)
  apply okT_res; intro _
  refine P91.rz (ss := [s101]) ⟨s101_ok, trivial⟩ (by simp) fun Q hQ => ?_
  delta p91 p91_r0 p91_r1
  by_cases h : x < y
  · simp (disch := omega) [oLt, oLe, oLtN, oLeN, nLt, nLe, nLtN, nLeN, h]
    exact hQ _ _ (.p (.inl rfl) (by simp [h]) rfl)
  · simp (disch := omega) [oLt, oLe, oLtN, oLeN, nLt, nLe, nLtN, nLeN, h]
    exact hQ _ _ (.p (.inl rfl) (by simp [h]) rfl)
def srtB (l : List Int) : Bool := (List.range (l.length - 1)).all fun j => decide (l.getD j 0 ≤ l.getD (j + 1) 0)
theorem srtB_iff (l : List Int) : srtB l = true ↔ ∀ j, j + 1 < l.length → l.getD j 0 ≤ l.getD (j + 1) 0 := by
  simp only [srtB, List.all_eq_true, List.mem_range, decide_eq_true_eq]
  exact ⟨fun h j hj => h j (by omega), fun h j hj => h j (by omega)⟩
def s52 : Sp := spT 52 [.l] fun (l : List Int) => res (small l) (vB (srtB l))
@[simp] theorem s52_g : s52.g = 52 := rfl
@[simp] theorem s52_f : s52.f = (spT 52 [.l] fun (l : List Int) => res (small l) (vB (srtB l))).f := rfl
theorem s52_ok : s52.ok Try.prog := by
  apply spT_ok
  simp only [OkT, Ty.all, List.nil_append, List.cons_append]
  intro (l : List Int) u
  apply okT_res; intro hg
  refine P52.rz (ss := [s91]) ⟨s91_ok, trivial⟩ (by simp) fun Q hQ => ?_
  delta p52 p52_r0 p52_r1
  simp only [small, decide_eq_true_eq] at hg
  rcases Nat.eq_zero_or_pos l.length with h0 | h0
  · obtain rfl : l = [] := List.length_eq_zero_iff.1 h0
    simp (disch := omega) [oLt, oLe, oLtN, oLeN, nLt, nLe, nLtN, nLeN]
    refine XZ_for (fun _ : Nat => ⟨[(0, .il [] 0 u), (3, vI (-1))], [], 0⟩) (fun i => i) (fun i => True) 0 trivial (.to [] (by simp)) ?_
    rintro i _ N Q' hN hE
    delta p52_l0 p52_r2 p52_r3 p52_r4 p52_r5
    simp (disch := omega) [oLt, oLe, oLtN, oLeN, nLt, nLe, nLtN, nLeN]
    refine hE _ _ _ .refl ?_
    delta p52_r6
    simp (disch := omega) [oLt, oLe, oLtN, oLeN, nLt, nLe, nLtN, nLeN]
    exact hQ _ _ (.p (.inl rfl) (by simp [srtB]) rfl)
  · obtain ⟨m, hm⟩ : ∃ m, l.length = m + 1 := ⟨l.length - 1, by omega⟩
    have hm1 : (l.length : Int) - 1 = m := by omega
    simp (disch := omega) [oLt, oLe, oLtN, oLeN, nLt, nLe, nLtN, nLeN, hm1]
    refine XZ_for (fun i : Nat => ⟨[(0, .il (ints l) l.length u), (3, vI i)], [], 0⟩) (fun i => i) (fun i => i ≤ m ∧ ∀ j, i ≤ j → j + 1 < l.length → l.getD j 0 ≤ l.getD (j + 1) 0) m ⟨Nat.le_refl _, fun j h1 h2 => by omega⟩ (.to [] (by simp)) ?_
    rintro i ⟨hi, hinv⟩ N Q' hN hE
    rcases i with _ | i
    · have hb : srtB l = true := (srtB_iff l).2 fun j hj => hinv j (Nat.zero_le _) hj
      delta p52_l0 p52_r2 p52_r3 p52_r4 p52_r5
      simp (disch := omega) [oLt, oLe, oLtN, oLeN, nLt, nLe, nLtN, nLeN]
      refine hE _ _ _ .refl ?_
      delta p52_r6
      simp (disch := omega) [oLt, oLe, oLtN, oLeN, nLt, nLe, nLtN, nLeN]
      exact hQ _ _ (.p (.inl rfl) (by simp [hb]) rfl)
    · have h1 : i + 1 < l.length := by omega
      have h2 : i < l.length := by omega
      have hic : (0 : Int) < (i : Int) + 1 := by omega
      have hic2 : (i : Int) + 1 < l.length := by omega
      have hic3 : (i : Int) < l.length := by omega
      have e1 : (i : Int) + 1 - 1 = i := by omega
      obtain ⟨x, hx⟩ : ∃ x, l[i]? = some x := ⟨l[i], by rw [List.getElem?_eq_getElem h2]⟩
      obtain ⟨y, hy⟩ : ∃ y, l[i + 1]? = some y := ⟨l[i + 1], by rw [List.getElem?_eq_getElem h1]⟩
      have hx' := (List.getElem?_eq_some_iff.1 hx).2
      have hy' := (List.getElem?_eq_some_iff.1 hy).2
      have gx : l.getD i 0 = x := by simp [List.getD_eq_getElem?_getD, hx]
      have gy : l.getD (i + 1) 0 = y := by simp [List.getD_eq_getElem?_getD, hy]
      by_cases hxy : y < x
      · have hb : srtB l = false := by
          cases hs : srtB l with
          | false => rfl
          | true => have := (srtB_iff l).1 hs i h1; omega
        delta p52_l0 p52_r2 p52_r3 p52_r4 p52_r5
        simp (disch := omega) [oLt, oLe, oLtN, oLeN, nLt, nLe, nLtN, nLeN, hic, hic2, hic3, e1, h1, h2, hx, hy, hx', hy', hxy]
        exact hE _ _ _ .refl (hQ _ _ (.p (.inl rfl) (by simp [hb]) rfl))
      · delta p52_l0 p52_r2 p52_r3 p52_r4 p52_r5
        simp (disch := omega) [oLt, oLe, oLtN, oLeN, nLt, nLe, nLtN, nLeN, hic, hic2, hic3, e1, h1, h2, hx, hy, hx', hy', hxy]
        refine hN _ i (by omega) ⟨by omega, fun j a1 a2 => ?_⟩ (.to [] (by simp))
        rcases Nat.eq_or_lt_of_le a1 with rfl | a1
        · omega
        · exact hinv j a1 a2
end Go.Sx.Lk
end
section
set_option maxRecDepth 4000
namespace Go.Sx.Lk
open Go Go.Sx Go.Proofs
/-! ### The check of an order: 1: too few or too many, 2: no barge, 6: twice -/
def chkR (n : Nat) : List Int → List Bool → Int
  | [], _ => 0
  | x :: r, M => if 0 ≤ x ∧ x < n then (if M.getD x.toNat false then 6 else chkR n r (M.set x.toNat true)) else 2
def Fl7 : List Bool := [false, false, false, false, false, false, false]
def chkF (l : List Int) : Int := if l.length = 0 ∨ 7 < l.length then 1 else chkR l.length l Fl7
theorem bls7 : ([.v (.bool false), .v (.bool false), .v (.bool false), .v (.bool false), .v (.bool false), .v (.bool false), .v (.bool false)] : List AV) = bls Fl7 := rfl
set_option maxHeartbeats 4000000
def s23 : Sp := spT 23 [.l] fun (l : List Int) => res (small l) (vI (chkF l))
@[simp] theorem s23_g : s23.g = 23 := rfl
@[simp] theorem s23_f : s23.f = (spT 23 [.l] fun (l : List Int) => res (small l) (vI (chkF l))).f := rfl
theorem s23_ok : s23.ok Try.prog := by
  apply spT_ok
  simp only [OkT, Ty.all, List.nil_append, List.cons_append]
  intro (l : List Int) u
  apply okT_res; intro hg
  refine P23.rz (ss := [s70]) ⟨s70_ok, trivial⟩ (by simp) fun Q hQ => ?_
  delta p23 p23_r0 p23_r1 p23_r2 p23_r3 p23_r4
  simp only [small, decide_eq_true_eq] at hg
  by_cases h0 : l.length = 0
  · have h0' : (l.length : Int) = 0 := by omega
    have hr : chkF l = 1 := by simp [chkF, h0]
    simp (disch := omega) [oLt, oLe, oLtN, oLeN, nLt, nLe, nLtN, nLeN, h0']
    exact hQ _ _ (.p (.inl rfl) (by simp [hr]) rfl)
  by_cases h7 : 7 < l.length
  · have h0' : ¬ l = [] := fun e => h0 (by simp [e])
    have h7' : (7 : Int) < l.length := by omega
    have hr : chkF l = 1 := by simp [chkF, h7]
    simp (disch := omega) [oLt, oLe, oLtN, oLeN, nLt, nLe, nLtN, nLeN, h0', h7']
    exact hQ _ _ (.p (.inl rfl) (by simp [hr]) rfl)
  have h0' : ¬ l = [] := fun e => h0 (by simp [e])
  have h7' : ¬ (7 : Int) < l.length := by omega
  have hr0 : chkF l = chkR l.length l Fl7 := by simp [chkF, h0, h7]
  simp (disch := omega) [oLt, oLe, oLtN, oLeN, nLt, nLe, nLtN, nLeN, h0', h7', bls7]
  refine XZ_for (fun p : Nat × List Bool => ⟨[(0, .il (ints l) l.length u), (3, .ptr 0 0), (14, .il (ints l) l.length u), (15, vI l.length), (16, vI p.1)], [(0, .cells (bls p.2))], 1⟩) (fun p => l.length - p.1) (fun p => p.1 ≤ l.length ∧ p.2.length = 7 ∧ chkR l.length (l.drop p.1) p.2 = chkF l) (0, Fl7) ⟨by simp, rfl, by simp [hr0]⟩ (.to [9] (by simp)) ?_
  rintro ⟨i, M⟩ ⟨hi, hM, hinv⟩ N Q' hN hE
  simp only at hi hM hinv
  rcases Nat.lt_or_ge i l.length with h | h
  · have hic : (i : Int) < l.length := by omega
    obtain ⟨x, r, e1, e2, e3, e4, e5⟩ := drop_split h
    rw [e1] at hinv
    simp only [chkR] at hinv
    by_cases hx : 0 ≤ x ∧ x < l.length
    · rw [if_pos hx] at hinv
      obtain ⟨k, rfl⟩ := Int.eq_ofNat_of_zero_le hx.1
      have hk7 : k < M.length := by omega
      have hk7' : (k : Int) < 7 := by omega
      have hk : (k : Int) < l.length := hx.2
      obtain ⟨b, hb⟩ : ∃ b, M[k]? = some b := ⟨M[k], by rw [List.getElem?_eq_getElem hk7]⟩
      have hb' := (List.getElem?_eq_some_iff.1 hb).2
      have hg' : M.getD k false = b := by simp [List.getD_eq_getElem?_getD, hb]
      simp only [Int.toNat_natCast, hg'] at hinv
      cases b with
      | true =>
        rw [if_pos rfl] at hinv
        delta p23_l0 p23_r5 p23_r6 p23_r7 p23_r8 p23_r9 p23_r10 p23_r11 p23_r12
        simp (disch := omega) [oLt, oLe, oLtN, oLeN, nLt, nLe, nLtN, nLeN, hic, h, e2, e3, hk, hk7, hk7', hb, hb']
        exact hE _ _ _ .refl (hQ _ _ (.p (.inl rfl) (by simp [← hinv]) rfl))
      | false =>
        rw [if_neg (by simp)] at hinv
        delta p23_l0 p23_r5 p23_r6 p23_r7 p23_r8 p23_r9 p23_r10 p23_r11 p23_r12
        simp (disch := omega) [oLt, oLe, oLtN, oLeN, nLt, nLe, nLtN, nLeN, hic, h, e2, e3, hk, hk7, hk7', hb, hb']
        exact hN _ (i + 1, M.set k true) (by simp only; omega) ⟨h, by simpa using hM, by rw [e4]; exact hinv⟩ (.to [0] (by simp))
    · rw [if_neg hx] at hinv
      by_cases hx1 : 0 ≤ x
      · have hx2 : ¬ x < l.length := fun hh => hx ⟨hx1, hh⟩
        delta p23_l0 p23_r5 p23_r6 p23_r7 p23_r8 p23_r9 p23_r10 p23_r11 p23_r12
        simp (disch := omega) [oLt, oLe, oLtN, oLeN, nLt, nLe, nLtN, nLeN, hic, h, e2, e3, hx1, hx2]
        exact hE _ _ _ .refl (hQ _ _ (.p (.inl rfl) (by simp [← hinv]) rfl))
      · delta p23_l0 p23_r5 p23_r6 p23_r7 p23_r8 p23_r9 p23_r10 p23_r11 p23_r12
        simp (disch := omega) [oLt, oLe, oLtN, oLeN, nLt, nLe, nLtN, nLeN, hic, h, e2, e3, hx1]
        exact hE _ _ _ .refl (hQ _ _ (.p (.inl rfl) (by simp [← hinv]) rfl))
  · obtain rfl : i = l.length := by omega
    have hic : ¬ (l.length : Int) < l.length := by omega
    rw [List.drop_eq_nil_of_le (Nat.le_refl _)] at hinv
    simp only [chkR] at hinv
    delta p23_l0 p23_r5 p23_r6 p23_r7 p23_r8 p23_r9 p23_r10 p23_r11 p23_r12
    simp (disch := omega) [oLt, oLe, oLtN, oLeN, nLt, nLe, nLtN, nLeN, hic]
    refine hE _ _ _ .refl ?_
    delta p23_r13
    simp (disch := omega) [oLt, oLe, oLtN, oLeN, nLt, nLe, nLtN, nLeN]
    exact hQ _ _ (.p (.inl rfl) (by simp [← hinv]) rfl)
end Go.Sx.Lk
end
