/- What functions of the lock layer return: lists compared, an order checked, a list in order. No conditions. -/
import Derived.Test.YteoiebmbgbgpgaaSxJLH0toPLa
import Derived.Test.YteoiebmbgbgpgaaSxJSttoSd
import Derived.Test.YteoiebmbgbgpgaaSxJNtoNq
import Derived.KernelRfl
import Derived.Test.YteoiebmbgbgpgaaProg
set_option linter.unusedVariables false
set_option linter.unusedSimpArgs false
section
set_option maxRecDepth 4000
namespace Go.Sx
theorem drop_split {α : Type} {l : List α} {i : Nat} (h : i < l.length) : ∃ x r, l.drop i = x :: r ∧ l[i]? = some x ∧ l[i] = x ∧ l.drop (i + 1) = r ∧ x ∈ l :=
  ⟨l[i], l.drop (i + 1), List.drop_eq_getElem_cons h, by simp [h], rfl, rfl, List.getElem_mem h⟩
end Go.Sx
namespace Go.Sx.Lk
open Go Go.Sx Go.Proofs
abbrev vI (n : Int) : AV := .v (.int .i64 n)
abbrev vB (b : Bool) : AV := .v (.bool b)
def small (l : List Int) : Bool := decide (l.length ≤ 1000000)
set_option maxHeartbeats 2000000
def s70 : Sp := spT 70 [.i, .i] fun (n : Int) (b : Int) => res true (vB (decide (0 ≤ n ∧ n < b)))
@[simp] theorem s70_g : s70.g = 70 := rfl
@[simp] theorem s70_f : s70.f = (spT 70 [.i, .i] fun (n : Int) (b : Int) => res true (vB (decide (0 ≤ n ∧ n < b)))).f := rfl
theorem s70_ok : s70.ok Try.prog := by
  apply spT_ok
  simp only [OkT, Ty.all, List.nil_append, List.cons_append]
  intro (n : Int) (b : Int)
  apply okT_res; intro _
  refine P70.rz (ss := []) trivial (by simp) fun Q hQ => ?_
  delta p70 p70_r0 p70_r1
  by_cases h : 0 ≤ n
  · by_cases h' : n < b
    · simp (disch := omega) [oLt, oLe, oLtN, oLeN, nLt, nLe, nLtN, nLeN, h, h']
      exact hQ _ _ (.p (.inl rfl) (by simp [h, h']) rfl)
    · simp (disch := omega) [oLt, oLe, oLtN, oLeN, nLt, nLe, nLtN, nLeN, h, h']
      exact hQ _ _ (.p (.inl rfl) (by simp [h, h']) rfl)
  · simp (disch := omega) [oLt, oLe, oLtN, oLeN, nLt, nLe, nLtN, nLeN, h]
    exact hQ _ _ (.p (.inl rfl) (by simp [h]) rfl)
def s101 : Sp := spT 101 [.i] fun (x : Int) => res true (vB false)
@[simp] theorem s101_g : s101.g = 101 := rfl
@[simp] theorem s101_f : s101.f = (spT 101 [.i] fun (x : Int) => res true (vB false)).f := rfl
theorem s101_ok : s101.ok Try.prog := by
  apply spT_ok
  simp only [OkT, Ty.all, List.nil_append, List.cons_append]
  intro (x : Int)
  apply okT_res; intro _
  refine P101.rz (ss := []) trivial (by simp) fun Q hQ => ?_
  delta p101 p101_r0 p101_r1
  simp (disch := omega) [oLt, oLe, oLtN, oLeN, nLt, nLe, nLtN, nLeN]
  exact hQ _ _ (.p (.inl rfl) (by simp) rfl)
def s91 : Sp := spT 91 [.i, .i] fun (x : Int) (y : Int) => res true (vB (decide (x < y)))
@[simp] theorem s91_g : s91.g = 91 := rfl
@[simp] theorem s91_f : s91.f = (spT 91 [.i, .i] fun (x : Int) (y : Int) => res true (vB (decide (x < y)))).f := rfl
theorem s91_ok : s91.ok Try.prog := by
  apply spT_ok
  simp only [OkT, Ty.all, List.nil_append, List.cons_append]
  intro (x : Int) (y : Int)
  apply okT_res; intro _
  refine P91.rz (ss := [s101]) ⟨s101_ok, trivial⟩ (by simp) fun Q hQ => ?_
  delta p91 p91_r0 p91_r1
  by_cases h : x < y
  · simp (disch := omega) [oLt, oLe, oLtN, oLeN, nLt, nLe, nLtN, nLeN, h]
    exact hQ _ _ (.p (.inl rfl) (by simp [h]) rfl)
  · simp (disch := omega) [oLt, oLe, oLtN, oLeN, nLt, nLe, nLtN, nLeN, h]
    exact hQ _ _ (.p (.inl rfl) (by simp [h]) rfl)
def srtB (l : List Int) : Bool := (List.range (l.length - 1)).all fun j => decide (l.getD j 0 ≤ l.getD (j + 1) 0)
theorem srtB_iff (l : List Int) : srtB l = true ↔ ∀ j, j + 1 < l.length → l.getD j 0 ≤ l.getD (j + 1) 0 := by
  simp only [srtB, List.all_eq_true, List.mem_range, decide_eq_true_eq]
  exact ⟨fun h j hj => h j (by omega), fun h j hj => h j (by omega)⟩
def s52 : Sp := spT 52 [.l] fun (l : List Int) => res (small l) (vB (srtB l))
@[simp] theorem s52_g : s52.g = 52 := rfl
@[simp] theorem s52_f : s52.f = (spT 52 [.l] fun (l : List Int) => res (small l) (vB (srtB l))).f := rfl
theorem s52_ok : s52.ok Try.prog := by
  apply spT_ok
  simp only [OkT, Ty.all, List.nil_append, List.cons_append]
  intro (l : List Int) u
  apply okT_res; intro hg
  refine P52.rz (ss := [s91]) ⟨s91_ok, trivial⟩ (by simp) fun Q hQ => ?_
  delta p52 p52_r0 p52_r1
  simp only [small, decide_eq_true_eq] at hg
  rcases Nat.eq_zero_or_pos l.length with h0 | h0
  · obtain rfl : l = [] := List.length_eq_zero_iff.1 h0
    simp (disch := omega) [oLt, oLe, oLtN, oLeN, nLt, nLe, nLtN, nLeN]
    refine XZ_for (fun _ : Nat => ⟨[(0, .il [] 0 u), (3, vI (-1))], [], 0⟩) (fun i => i) (fun i => True) 0 trivial (.to [] (by simp)) ?_
    rintro i _ N Q' hN hE
    delta p52_l0 p52_r2 p52_r3 p52_r4 p52_r5
    simp (disch := omega) [oLt, oLe, oLtN, oLeN, nLt, nLe, nLtN, nLeN]
    refine hE _ _ _ .refl ?_
    delta p52_r6
    simp (disch := omega) [oLt, oLe, oLtN, oLeN, nLt, nLe, nLtN, nLeN]
    exact hQ _ _ (.p (.inl rfl) (by simp [srtB]) rfl)
  · obtain ⟨m, hm⟩ : ∃ m, l.length = m + 1 := ⟨l.length - 1, by omega⟩
    have hm1 : (l.length : Int) - 1 = m := by omega
    simp (disch := omega) [oLt, oLe, oLtN, oLeN, nLt, nLe, nLtN, nLeN, hm1]
    refine XZ_for (fun i : Nat => ⟨[(0, .il (ints l) l.length u), (3, vI i)], [], 0⟩) (fun i => i) (fun i => i ≤ m ∧ ∀ j, i ≤ j → j + 1 < l.length → l.getD j 0 ≤ l.getD (j + 1) 0) m ⟨Nat.le_refl _, fun j h1 h2 => by omega⟩ (.to [] (by simp)) ?_
    rintro i ⟨hi, hinv⟩ N Q' hN hE
    rcases i with _ | i
    · have hb : srtB l = true := (srtB_iff l).2 fun j hj => hinv j (Nat.zero_le _) hj
      delta p52_l0 p52_r2 p52_r3 p52_r4 p52_r5
      simp (disch := omega) [oLt, oLe, oLtN, oLeN, nLt, nLe, nLtN, nLeN]
      refine hE _ _ _ .refl ?_
      delta p52_r6
      simp (disch := omega) [oLt, oLe, oLtN, oLeN, nLt, nLe, nLtN, nLeN]
      exact hQ _ _ (.p (.inl rfl) (by simp [hb]) rfl)
    · have h1 : i + 1 < l.length := by omega
      have h2 : i < l.length := by omega
      have hic : (0 : Int) < (i : Int) + 1 := by omega
      have hic2 : (i : Int) + 1 < l.length := by omega
      have hic3 : (i : Int) < l.length := by omega
      have e1 : (i : Int) + 1 - 1 = i := by omega
      obtain ⟨x, hx⟩ : ∃ x, l[i]? = some x := ⟨l[i], by rw [List.getElem?_eq_getElem h2]⟩
      obtain ⟨y, hy⟩ : ∃ y, l[i + 1]? = some y := ⟨l[i + 1], by rw [List.getElem?_eq_getElem h1]⟩
      have hx' := (List.getElem?_eq_some_iff.1 hx).2
      have hy' := (List.getElem?_eq_some_iff.1 hy).2
      have gx : l.getD i 0 = x := by simp [List.getD_eq_getElem?_getD, hx]
      have gy : l.getD (i + 1) 0 = y := by simp [List.getD_eq_getElem?_getD, hy]
      by_cases hxy : y < x
      · have hb : srtB l = false := by
          cases hs : srtB l with
          | false => rfl
          | true => have := (srtB_iff l).1 hs i h1; omega
        delta p52_l0 p52_r2 p52_r3 p52_r4 p52_r5
        simp (disch := omega) [oLt, oLe, oLtN, oLeN, nLt, nLe, nLtN, nLeN, hic, hic2, hic3, e1, h1, h2, hx, hy, hx', hy', hxy]
        exact hE _ _ _ .refl (hQ _ _ (.p (.inl rfl) (by simp [hb]) rfl))
      · delta p52_l0 p52_r2 p52_r3 p52_r4 p52_r5
        simp (disch := omega) [oLt, oLe, oLtN, oLeN, nLt, nLe, nLtN, nLeN, hic, hic2, hic3, e1, h1, h2, hx, hy, hx', hy', hxy]
        refine hN _ i (by omega) ⟨by omega, fun j a1 a2 => ?_⟩ (.to [] (by simp))
        rcases Nat.eq_or_lt_of_le a1 with rfl | a1
        · omega
        · exact hinv j a1 a2
end Go.Sx.Lk
end
section
set_option maxRecDepth 4000
namespace Go.Sx.Lk
open Go Go.Sx Go.Proofs
/-! ### The check of an order: 1: too few or too many, 2: no barge, 6: twice -/
def chkR (n : Nat) : List Int → List Bool → Int
  | [], _ => 0
  | x :: r, M => if 0 ≤ x ∧ x < n then (if M.getD x.toNat false then 6 else chkR n r (M.set x.toNat true)) else 2
def Fl7 : List Bool := [false, false, false, false, false, false, false]
def chkF (l : List Int) : Int := if l.length = 0 ∨ 7 < l.length then 1 else chkR l.length l Fl7
theorem bls7 : ([.v (.bool false), .v (.bool false), .v (.bool false), .v (.bool false), .v (.bool false), .v (.bool false), .v (.bool false)] : List AV) = bls Fl7 := rfl
set_option maxHeartbeats 4000000
def s23 : Sp := spT 23 [.l] fun (l : List Int) => res (small l) (vI (chkF l))
@[simp] theorem s23_g : s23.g = 23 := rfl
@[simp] theorem s23_f : s23.f = (spT 23 [.l] fun (l : List Int) => res (small l) (vI (chkF l))).f := rfl
theorem s23_ok : s23.ok Try.prog := by
  apply spT_ok
  simp only [OkT, Ty.all, List.nil_append, List.cons_append]
  intro (l : List Int) u
  apply okT_res; intro hg
  refine P23.rz (ss := [s70]) ⟨s70_ok, trivial⟩ (by simp) fun Q hQ => ?_
  delta p23 p23_r0 p23_r1 p23_r2 p23_r3 p23_r4
  simp only [small, decide_eq_true_eq] at hg
  by_cases h0 : l.length = 0
  · have h0' : (l.length : Int) = 0 := by omega
    have hr : chkF l = 1 := by simp [chkF, h0]
    simp (disch := omega) [oLt, oLe, oLtN, oLeN, nLt, nLe, nLtN, nLeN, h0']
    exact hQ _ _ (.p (.inl rfl) (by simp [hr]) rfl)
  by_cases h7 : 7 < l.length
  · have h0' : ¬ l = [] := fun e => h0 (by simp [e])
    have h7' : (7 : Int) < l.length := by omega
    have hr : chkF l = 1 := by simp [chkF, h7]
    simp (disch := omega) [oLt, oLe, oLtN, oLeN, nLt, nLe, nLtN, nLeN, h0', h7']
    exact hQ _ _ (.p (.inl rfl) (by simp [hr]) rfl)
  have h0' : ¬ l = [] := fun e => h0 (by simp [e])
  have h7' : ¬ (7 : Int) < l.length := by omega
  have hr0 : chkF l = chkR l.length l Fl7 := by simp [chkF, h0, h7]
  simp (disch := omega) [oLt, oLe, oLtN, oLeN, nLt, nLe, nLtN, nLeN, h0', h7', bls7]
  refine XZ_for (fun p : Nat × List Bool => ⟨[(0, .il (ints l) l.length u), (3, .ptr 0 0), (14, .il (ints l) l.length u), (15, vI l.length), (16, vI p.1)], [(0, .cells (bls p.2))], 1⟩) (fun p => l.length - p.1) (fun p => p.1 ≤ l.length ∧ p.2.length = 7 ∧ chkR l.length (l.drop p.1) p.2 = chkF l) (0, Fl7) ⟨by simp, rfl, by simp [hr0]⟩ (.to [9] (by simp)) ?_
  rintro ⟨i, M⟩ ⟨hi, hM, hinv⟩ N Q' hN hE
  simp only at hi hM hinv
  rcases Nat.lt_or_ge i l.length with h | h
  · have hic : (i : Int) < l.length := by omega
    obtain ⟨x, r, e1, e2, e3, e4, e5⟩ := drop_split h
    rw [e1] at hinv
    simp only [chkR] at hinv
    by_cases hx : 0 ≤ x ∧ x < l.length
    · rw [if_pos hx] at hinv
      obtain ⟨k, rfl⟩ := Int.eq_ofNat_of_zero_le hx.1
      have hk7 : k < M.length := by omega
      have hk7' : (k : Int) < 7 := by omega
      have hk : (k : Int) < l.length := hx.2
      obtain ⟨b, hb⟩ : ∃ b, M[k]? = some b := ⟨M[k], by rw [List.getElem?_eq_getElem hk7]⟩
      have hb' := (List.getElem?_eq_some_iff.1 hb).2
      have hg' : M.getD k false = b := by simp [List.getD_eq_getElem?_getD, hb]
      simp only [Int.toNat_natCast, hg'] at hinv
      cases b with
      | true =>
        rw [if_pos rfl] at hinv
        delta p23_l0 p23_r5 p23_r6 p23_r7 p23_r8 p23_r9 p23_r10 p23_r11 p23_r12
        simp (disch := omega) [oLt, oLe, oLtN, oLeN, nLt, nLe, nLtN, nLeN, hic, h, e2, e3, hk, hk7, hk7', hb, hb']
        exact hE _ _ _ .refl (hQ _ _ (.p (.inl rfl) (by simp [← hinv]) rfl))
      | false =>
        rw [if_neg (by simp)] at hinv
        delta p23_l0 p23_r5 p23_r6 p23_r7 p23_r8 p23_r9 p23_r10 p23_r11 p23_r12
        simp (disch := omega) [oLt, oLe, oLtN, oLeN, nLt, nLe, nLtN, nLeN, hic, h, e2, e3, hk, hk7, hk7', hb, hb']
        exact hN _ (i + 1, M.set k true) (by simp only; omega) ⟨h, by simpa using hM, by rw [e4]; exact hinv⟩ (.to [0] (by simp))
    · rw [if_neg hx] at hinv
      by_cases hx1 : 0 ≤ x
      · have hx2 : ¬ x < l.length := fun hh => hx ⟨hx1, hh⟩
        delta p23_l0 p23_r5 p23_r6 p23_r7 p23_r8 p23_r9 p23_r10 p23_r11 p23_r12
        simp (disch := omega) [oLt, oLe, oLtN, oLeN, nLt, nLe, nLtN, nLeN, hic, h, e2, e3, hx1, hx2]
        exact hE _ _ _ .refl (hQ _ _ (.p (.inl rfl) (by simp [← hinv]) rfl))
      · delta p23_l0 p23_r5 p23_r6 p23_r7 p23_r8 p23_r9 p23_r10 p23_r11 p23_r12
        simp (disch := omega) [oLt, oLe, oLtN, oLeN, nLt, nLe, nLtN, nLeN, hic, h, e2, e3, hx1]
        exact hE _ _ _ .refl (hQ _ _ (.p (.inl rfl) (by simp [← hinv]) rfl))
  · obtain rfl : i = l.length := by omega
    have hic : ¬ (l.length : Int) < l.length := by omega
    rw [List.drop_eq_nil_of_le (Nat.le_refl _)] at hinv
    simp only [chkR] at hinv
    delta p23_l0 p23_r5 p23_r6 p23_r7 p23_r8 p23_r9 p23_r10 p23_r11 p23_r12
    simp (disch := omega) [oLt, oLe, oLtN, oLeN, nLt, nLe, nLtN, nLeN, hic]
    refine hE _ _ _ .refl ?_
    delta p23_r13
    simp (disch := omega) [oLt, oLe, oLtN, oLeN, nLt, nLe, nLtN, nLeN]
    exact hQ _ _ (.p (.inl rfl) (by simp [← hinv]) rfl)
end Go.Sx.Lk
end
section
set_option maxRecDepth 4000
namespace Go.Sx.Lk
open Go Go.Sx Go.Proofs
theorem EndsP_at {k : Nat} {rs : List SRes} {r : AV} {H : HL} {e : Exit} {s : ST} (l : List Nat) (he : e = .ret ∨ e = .normal) (hr : resA s.st rs = some (ren (gT l s.nx) r)) (low : lowTo l k = true) (hle : k ≤ l.length) (nd : dist l = true)
    (hh : heapTo l.length (gT l s.nx) s.heap H) : EndsP k rs r l.length H e s := by
  have := cv_to (l := l) (nx := s.nx) (h := s.heap) (h' := H) low hle nd hh
  exact ⟨by rcases he with rfl | rfl <;> trivial, s, .refl, _, this, hr⟩
end Go.Sx.Lk
end
section
set_option maxRecDepth 4000
namespace Go.Sx.Lk
open Go Go.Sx Go.Proofs
attribute [simp] evCall reach idsB idsL ids inA Go.Sx.inL Go.Sx.inM inB allHp enumH gl renB
@[simp] theorem idsL_app9 : ∀ a b : List AV, idsL (a ++ b) = idsL a ++ idsL b
  | [], b => rfl
  | x :: a, b => by cases x <;> simp [idsL, idsL_app9 a b]
@[simp] theorem inL_app9 (p : Nat → Bool) : ∀ a b : List AV, Go.Sx.inL p (a ++ b) = (Go.Sx.inL p a && Go.Sx.inL p b)
  | [], b => by simp
  | x :: a, b => by rw [List.cons_append, Go.Sx.inL, Go.Sx.inL, inL_app9 p a b, Bool.and_assoc]
@[simp] theorem idsL_ints9 : ∀ l : List Int, idsL (ints l) = []
  | [] => rfl
  | x :: l => by rw [ints_cons, idsL, idsL_ints9 l]
@[simp] theorem inL_ints9 (p : Nat → Bool) : ∀ l : List Int, Go.Sx.inL p (ints l) = true
  | [] => rfl
  | x :: l => by rw [ints_cons, Go.Sx.inL, inL_ints9 p l]; rfl
end Go.Sx.Lk
end
section
set_option maxRecDepth 4000
namespace Go.Sx.Lk
open Go Go.Sx Go.Proofs
abbrev nS : AV := .v (.slice none 0 0)
def basH (st : List Int) : HL := [(0, .cells [.ref 1 0 st.length 1 none]), (1, .cells (ints st))]
def f68 : List AV → HL → Nat → Option (AV × HL × Nat) := fun args h k => match args, h, k with
  | [.ptr 0 0], [(0, .cells [.v (.slice none 0 0)])], 1 => some (.tup [vI 0, vB false], [(0, .cells [nS])], 1)
  | [.ptr 0 0], [(0, .cells [.ref 1 0 n 1 none]), (1, .cells cs)], 2 => match unints cs with
    | some st => if n = st.length ∧ small st = true then some (.tup [vI (st.getLastD 0), vB (!st.isEmpty)], basH st, 2) else none
    | none => none
  | _, _, _ => none
def s68 : Sp := ⟨68, f68⟩
@[simp] theorem s68_g : s68.g = 68 := rfl
@[simp] theorem s68_f : s68.f = f68 := rfl
def f67 : List AV → HL → Nat → Option (AV × HL × Nat) := fun args h k => match args, h, k with
  | [.ptr 0 0, .v (.int .i64 x)], [(0, .cells [.v (.slice none 0 0)])], 1 => some (.tup [], [(0, .cells [.ref 1 0 1 1 none]), (1, .cells [vI x])], 2)
  | [.ptr 0 0, .v (.int .i64 x)], [(0, .cells [.ref 1 0 n 1 none]), (1, .cells cs)], 2 => match unints cs with
    | some st => if n = st.length ∧ small st = true then some (.tup [], [(0, .cells [.ref 2 0 (n + 1) 1 none]), (2, .cells (ints (st ++ [x])))], 3) else none
    | none => none
  | _, _, _ => none
def s67 : Sp := ⟨67, f67⟩
@[simp] theorem s67_g : s67.g = 67 := rfl
@[simp] theorem s67_f : s67.f = f67 := rfl
def f69 : List AV → HL → Nat → Option (AV × HL × Nat) := fun args h k => match args, h, k with
  | [.ptr 0 0], [(0, .cells [.ref 1 0 n 1 none]), (1, .cells cs)], 2 => match unints cs with
    | some st => if n = st.length ∧ small st = true ∧ st ≠ [] then some (.tup [], [(0, .cells [.ref 1 0 (n - 1) 1 none]), (1, .cells (ints st.dropLast))], 2) else none
    | none => none
  | _, _, _ => none
def s69 : Sp := ⟨69, f69⟩
@[simp] theorem s69_g : s69.g = 69 := rfl
@[simp] theorem s69_f : s69.f = f69 := rfl
set_option maxHeartbeats 2000000 in
theorem s68_ok : s68.ok Try.prog := by
  intro args h k r h' k' hh
  simp only [s68_f, f68] at hh
  split at hh
  · cases hh
    simp only [hp_eq]
    refine P68.rz (ss := []) trivial (by simp) fun Q hQ => ?_
    delta p68 p68_r0 p68_r1 p68_r2 p68_r3
    simp (disch := omega) [oLt, oLe, oLtN, oLeN, nLt, nLe, nLtN, nLeN]
    exact hQ _ _ (EndsP_at [0] (.inl rfl) (by simp) rfl (by simp) rfl (by simp))
  · split at hh
    · rename_i st hl
      split at hh
      · rename_i hc
        obtain ⟨rfl, hs⟩ := hc
        cases hh
        rw [unints_inv hl]
        have hsl : st.length ≤ 1000000 := by simpa [small] using hs
        simp only [hp_eq]
        rcases List.eq_nil_or_concat st with rfl | ⟨D, c, rfl⟩
        · refine P68.rz (ss := []) trivial (by simp) fun Q hQ => ?_
          delta p68 p68_r0 p68_r1 p68_r2 p68_r3
          simp (disch := omega) [oLt, oLe, oLtN, oLeN, nLt, nLe, nLtN, nLeN]
          exact hQ _ _ (EndsP_at [0, 1] (.inl rfl) (by simp) rfl (by simp) rfl (by simp [basH]))
        · have hne : ¬ (D.length : Int) + 1 = 0 := by omega
          have h1 : (D.length : Int) + 1 - 1 = D.length := by omega
          have hD : D.length ≤ 1000000 := by simp at hsl; omega
          refine P68.rz (ss := []) trivial (by simp) fun Q hQ => ?_
          delta p68 p68_r0 p68_r1 p68_r2 p68_r3
          simp only [List.concat_eq_append, List.length_append, List.length_singleton, ints_app, ints_cons, ints_nil] at *
          simp (disch := omega) [oLt, oLe, oLtN, oLeN, nLt, nLe, nLtN, nLeN, hne, h1]
          exact hQ _ _ (EndsP_at [0, 1] (.inl rfl) (by simp) rfl (by simp) rfl (by simp [basH]))
      · cases hh
    · cases hh
  · cases hh
set_option maxHeartbeats 2000000 in
theorem s67_ok : s67.ok Try.prog := by
  intro args h k r h' k' hh
  simp only [s67_f, f67] at hh
  split at hh
  · cases hh
    simp only [hp_eq]
    refine P67.rz (ss := []) trivial (by simp) fun Q hQ => ?_
    delta p67 p67_r0
    simp (disch := omega) [oLt, oLe, oLtN, oLeN, nLt, nLe, nLtN, nLeN]
    exact hQ _ _ (EndsP_at [0, 8] (.inr rfl) (by simp) rfl (by simp) rfl (by simp))
  · split at hh
    · rename_i st hl
      split at hh
      · rename_i hc
        obtain ⟨rfl, hs⟩ := hc
        cases hh
        rw [unints_inv hl]
        have hsl : st.length ≤ 1000000 := by simpa [small] using hs
        have ht : (ints st).take st.length = ints st := List.take_of_length_le (by simp)
        simp only [hp_eq]
        refine P67.rz (ss := []) trivial (by simp) fun Q hQ => ?_
        delta p67 p67_r0
        simp (disch := omega) [oLt, oLe, oLtN, oLeN, nLt, nLe, nLtN, nLeN, hsl, ht]
        exact hQ _ _ (EndsP_at [0, 1, 9] (.inr rfl) (by simp) rfl (by simp) rfl (by simp))
      · cases hh
    · cases hh
  · cases hh
set_option maxHeartbeats 2000000 in
theorem s69_ok : s69.ok Try.prog := by
  intro args h k r h' k' hh
  simp only [s69_f, f69] at hh
  split at hh
  · split at hh
    · rename_i st hl
      split at hh
      · rename_i hc
        obtain ⟨rfl, hs, hne0⟩ := hc
        cases hh
        rw [unints_inv hl]
        have hsl : st.length ≤ 1000000 := by simpa [small] using hs
        obtain ⟨D, c, rfl⟩ : ∃ D c, st = D ++ [c] := by
          rcases List.eq_nil_or_concat st with h | ⟨D, c, h⟩
          · exact (hne0 h).elim
          · exact ⟨D, c, by simpa using h⟩
        clear hl hne0 hs
        have h1 : (D.length : Int) + 1 - 1 = D.length := by omega
        have hD : D.length ≤ 1000000 := by simp at hsl; omega
        simp only [hp_eq, List.dropLast_concat, List.length_append, List.length_singleton, Nat.add_sub_cancel]
        refine P69.rz (ss := []) trivial (by simp) fun Q hQ => ?_
        delta p69 p69_r0
        simp (disch := omega) [oLt, oLe, oLtN, oLeN, nLt, nLe, nLtN, nLeN, h1, hD]
        have hw : WkB (.cells (ints D ++ [vI c])) (.cells (ints D)) := ⟨by simp, fun i x y hx hy => by
          have hi : i < (ints D).length := (List.getElem?_eq_some_iff.1 hy).1
          rw [List.getElem?_append_left hi, hy] at hx
          cases hx; exact .refl⟩
        refine hQ _ _ (.chg (.weak (s' := ⟨[], [(0, .cells [.ref 1 0 D.length 1 none]), (1, .cells (ints D))], _⟩) trivial ⟨rfl, .refl, rfl, hw, trivial⟩ rfl .refl) (EndsP_at [0, 1] (.inr rfl) (by simp) rfl (by simp) rfl (by simp)))
      · cases hh
    · cases hh
  · cases hh
end Go.Sx.Lk
end
section
set_option maxRecDepth 4000
namespace Go.Sx.Lk
open Go Go.Sx Go.Proofs
def f96 : List AV → HL → Nat → Option (AV × HL × Nat) := fun args h k => match args with
  | [.v (.int .u8 m), .v (.int .i64 x), .ptr 0 0] => if m = 111 then f67 [.ptr 0 0, .v (.int .i64 x)] h k else if m = 105 then (match f67 [.ptr 0 0, .v (.int .i64 x)] h k with
    | some _ => some (.tup [], h, k)
    | none => none) else none
  | _ => none
def s96 : Sp := ⟨96, f96⟩
@[simp] theorem s96_g : s96.g = 96 := rfl
@[simp] theorem s96_f : s96.f = f96 := rfl
theorem f67_cases {x : Int} {h : HL} {k : Nat} {r : AV} {h' : HL} {k' : Nat} (hh : f67 [.ptr 0 0, .v (.int .i64 x)] h k = some (r, h', k')) :
    (h = [(0, .cells [nS])] ∧ k = 1 ∧ r = .tup [] ∧ h' = [(0, .cells [.ref 1 0 1 1 none]), (1, .cells [vI x])] ∧ k' = 2) ∨
    ∃ st : List Int, h = basH st ∧ k = 2 ∧ st.length ≤ 1000000 ∧ r = .tup [] ∧ h' = [(0, .cells [.ref 2 0 (st.length + 1) 1 none]), (2, .cells (ints (st ++ [x])))] ∧ k' = 3 := by
  simp only [f67] at hh
  split at hh
  · cases hh
    rename_i e1
    cases e1
    exact .inl ⟨rfl, rfl, rfl, rfl, rfl⟩
  · rename_i e1
    cases e1
    split at hh
    · rename_i st hl
      split at hh
      · rename_i hc
        obtain ⟨rfl, hs⟩ := hc
        cases hh
        exact .inr ⟨st, by rw [unints_inv hl]; rfl, rfl, by simpa [small] using hs, rfl, rfl, rfl⟩
      · cases hh
    · cases hh
  · cases hh
set_option maxHeartbeats 2000000 in
theorem s96_ok : s96.ok Try.prog := by
  intro args h k r h' k' hh
  simp only [s96_f, f96] at hh
  split at hh
  · rename_i m x
    split at hh
    · rename_i hm
      subst hm
      rcases f67_cases hh with ⟨rfl, rfl, rfl, rfl, rfl⟩ | ⟨st, rfl, rfl, hsl, rfl, rfl, rfl⟩
      · simp only [hp_eq]
        refine P96.rz (ss := []) trivial (by simp) fun Q hQ => ?_
        delta p96 p96_r0 p96_r1
        simp (disch := omega) [oLt, oLe, oLtN, oLeN, nLt, nLe, nLtN, nLeN]
        exact hQ _ _ (EndsP_at [0, 6] (.inr rfl) (by simp) rfl (by simp) rfl (by simp))
      · have ht : (ints st).take st.length = ints st := List.take_of_length_le (by simp)
        simp only [hp_eq, basH]
        refine P96.rz (ss := []) trivial (by simp) fun Q hQ => ?_
        delta p96 p96_r0 p96_r1
        simp (disch := omega) [oLt, oLe, oLtN, oLeN, nLt, nLe, nLtN, nLeN, hsl, ht]
        exact hQ _ _ (EndsP_at [0, 1, 7] (.inr rfl) (by simp) rfl (by simp) rfl (by simp))
    · split at hh
      · rename_i hm
        subst hm
        split at hh
        · rename_i q hq
          obtain ⟨r1, h1, k1⟩ := q
          cases hh
          rcases f67_cases hq with ⟨rfl, rfl, _, _, _⟩ | ⟨st, rfl, rfl, hsl, _, _, _⟩
          · simp only [hp_eq]
            refine P96.rz (ss := []) trivial (by simp) fun Q hQ => ?_
            delta p96 p96_r0 p96_r1
            simp (disch := omega) [oLt, oLe, oLtN, oLeN, nLt, nLe, nLtN, nLeN]
            exact hQ _ _ (EndsP_at [0] (.inr rfl) (by simp) rfl (by simp) rfl (by simp))
          · simp only [hp_eq, basH]
            refine P96.rz (ss := []) trivial (by simp) fun Q hQ => ?_
            delta p96 p96_r0 p96_r1
            simp (disch := omega) [oLt, oLe, oLtN, oLeN, nLt, nLe, nLtN, nLeN]
            exact hQ _ _ (EndsP_at [0, 1] (.inr rfl) (by simp) rfl (by simp) rfl (by simp))
        · cases hh
      · cases hh
  · cases hh
end Go.Sx.Lk
end
section
set_option maxRecDepth 4000
namespace Go.Sx.Lk
open Go Go.Sx Go.Proofs
def idxR (x : Int) : List Int → Int → Int
  | [], _ => -1
  | y :: r, i => if y = x then i else idxR x r (i + 1)
def idxL (l : List Int) (x : Int) : Int := idxR x l 0
set_option maxHeartbeats 2000000
end Go.Sx.Lk
end
section
set_option maxRecDepth 4000
namespace Go.Sx.Lk
open Go Go.Sx Go.Proofs
set_option maxHeartbeats 2000000
def mxR : Int → List Int → Int
  | m, [] => m
  | m, y :: r => mxR (if m < y then y else m) r
def mxL : List Int → Int
  | [] => 0
  | x :: r => mxR x r
end Go.Sx.Lk
end
section
namespace Go.Sx
noncomputable def famF {α : Type} (ok : α → Prop) (pat : α → List AV × HL × Nat) (out : α → AV × HL × Nat) : List AV → HL → Nat → Option (AV × HL × Nat) := fun args h k => open Classical in
  if hx : ∃ a, ok a ∧ pat a = (args, h, k) then some (out hx.choose) else none
theorem famF_at {α : Type} {ok : α → Prop} {pat : α → List AV × HL × Nat} {out : α → AV × HL × Nat} (hd : ∀ a b, pat a = pat b → out a = out b) (a : α) (ha : ok a) {args : List AV} {h : HL} {k : Nat} (e : pat a = (args, h, k)) : famF ok pat out args h k = some (out a) := by
  have hx : ∃ a, ok a ∧ pat a = (args, h, k) := ⟨a, ha, e⟩
  unfold famF
  rw [dif_pos hx]
  exact congrArg some (hd _ _ (hx.choose_spec.2.trans e.symm))
theorem famF_ok {P : Program} {g : FuncId} {α : Type} {ok : α → Prop} {pat : α → List AV × HL × Nat} {out : α → AV × HL × Nat} (h : ∀ a, ok a → Runs P g (pat a).2.2 (pat a).1 (hp (pat a).2.1) (out a).1 (out a).2.2 (hp (out a).2.1)) : Sp.ok P ⟨g, famF ok pat out⟩ := by
  intro args hh k r h' k' e
  simp only [famF] at e
  split at e
  · rename_i hx
    have hc := hx.choose_spec
    have := h hx.choose hc.1
    rw [hc.2] at this
    simp only [Option.some.injEq] at e
    rw [e] at this
    exact this
  · cases e
theorem ints_inj : ∀ {a b : List Int}, ints a = ints b → a = b
  | [], [], _ => rfl
  | [], y :: b, h => by simp at h
  | x :: a, [], h => by simp at h
  | x :: a, y :: b, h => by
    simp only [ints_cons, List.cons.injEq, AV.v.injEq, Value.int.injEq, true_and] at h
    rw [h.1, ints_inj h.2]
def via (h : HL) (i : Nat) : Nat := match hpF h i with
  | some (.cells (x :: _)) => idOf x
  | _ => 0
def viaC (h : HL) (i c : Nat) : Nat := match hpF h i with
  | some (.cells xs) => idOf (xs.getD c .any)
  | _ => 0
theorem ChgT.toF {k0 : Nat} (F : HL → List Nat) {s s' : ST} (h : s'.nx = (F s.heap).length ∧ lowTo (F s.heap) k0 = true ∧ k0 ≤ (F s.heap).length ∧ dist (F s.heap) = true ∧ envTo (gT (F s.heap) s.nx) s.env s'.env ∧ heapTo (F s.heap).length (gT (F s.heap) s.nx) s.heap s'.heap) : ChgT k0 s s' := .to (F s.heap) h
theorem EndsP_F {k n : Nat} {rs : List SRes} {r : AV} {H : HL} {e : Exit} {s : ST} (F : HL → List Nat) (he : e = .ret ∨ e = .normal) (hn : (F s.heap).length = n) (h : resA s.st rs = some (ren (gT (F s.heap) s.nx) r) ∧ lowTo (F s.heap) k = true ∧ k ≤ (F s.heap).length ∧ dist (F s.heap) = true ∧ heapTo (F s.heap).length (gT (F s.heap) s.nx) s.heap H) : EndsP k rs r n H e s := by
  obtain ⟨hr, low, hle, nd, hh⟩ := h
  subst hn
  have := cv_to (l := F s.heap) (nx := s.nx) (h := s.heap) (h' := H) low hle nd hh
  exact ⟨by rcases he with rfl | rfl <;> trivial, s, .refl, _, this, hr⟩
theorem ChgT.toS {k0 : Nat} (F : ST → List Nat) {s s' : ST} (h : s'.nx = (F s).length ∧ lowTo (F s) k0 = true ∧ k0 ≤ (F s).length ∧ dist (F s) = true ∧ envTo (gT (F s) s.nx) s.env s'.env ∧ heapTo (F s).length (gT (F s) s.nx) s.heap s'.heap) : ChgT k0 s s' := .to (F s) h
def ida (s : ST) (t : Nat) : Nat := idOf (enF s.env t)
@[simp] theorem ida_mk (e : List (Nat × AV)) (h : HL) (n t : Nat) : ida ⟨e, h, n⟩ t = idOf (enF e t) := rfl
@[simp] theorem range2 : List.range 2 = [0, 1] := rfl
@[simp] theorem range3 : List.range 3 = [0, 1, 2] := rfl
@[simp] theorem range4 : List.range 4 = [0, 1, 2, 3] := rfl
@[simp] theorem range5 : List.range 5 = [0, 1, 2, 3, 4] := rfl
@[simp] theorem range6 : List.range 6 = [0, 1, 2, 3, 4, 5] := rfl
@[simp] theorem range7 : List.range 7 = [0, 1, 2, 3, 4, 5, 6] := rfl
@[simp] theorem range8 : List.range 8 = [0, 1, 2, 3, 4, 5, 6, 7] := rfl
@[simp high] theorem low3 (l : List Nat) : lowTo (0 :: 1 :: 2 :: l) 3 = true := by simp [lowTo]
@[simp high] theorem low4 (l : List Nat) : lowTo (0 :: 1 :: 2 :: 3 :: l) 4 = true := by simp [lowTo]
@[simp high] theorem low5 (l : List Nat) : lowTo (0 :: 1 :: 2 :: 3 :: 4 :: l) 5 = true := by simp [lowTo]
@[simp high] theorem low6 (l : List Nat) : lowTo (0 :: 1 :: 2 :: 3 :: 4 :: 5 :: l) 6 = true := by simp [lowTo]
attribute [simp] evCall reach idsB idsL ids inA Go.Sx.inL Go.Sx.inM inB allHp enumH gl renB
attribute [simp] effMkfn via viaC
end Go.Sx
end
section
set_option maxRecDepth 4000
namespace Go.Sx
end Go.Sx
namespace Go.Sx.Lk
open Go Go.Sx Go.Proofs
set_option maxHeartbeats 20000000
theorem mxR_mem : ∀ (l : List Int) (m : Int), mxR m l = m ∨ mxR m l ∈ l
  | [], m => .inl rfl
  | y :: r, m => by
    simp only [mxR]
    rcases mxR_mem r (if m < y then y else m) with h | h
    · split at h
      · exact .inr (by rw [if_pos ‹_›, h]; simp)
      · exact .inl (by rw [if_neg ‹_›, h])
    · exact .inr (by simp [h])
theorem mxL_mem {l : List Int} (h : l ≠ []) : mxL l ∈ l := by
  cases l with
  | nil => exact absurd rfl h
  | cons x r => rcases mxR_mem r x with h | h <;> simp [mxL, h]
theorem idxR_mem {x : Int} : ∀ {l : List Int} {i : Int}, x ∈ l → ∃ k : Nat, k < l.length ∧ idxR x l i = i + k ∧ l[k]? = some x
  | [], i, h => by simp at h
  | y :: r, i, h => by
    simp only [idxR]
    by_cases e : y = x
    · rw [if_pos e]; exact ⟨0, by simp, by simp, by simp [e]⟩
    · rw [if_neg e]
      obtain ⟨k, h1, h2, h3⟩ := idxR_mem (l := r) (i := i + 1) (by rcases List.mem_cons.1 h with h | h; exact absurd h.symm e; exact h)
      exact ⟨k + 1, by simp; omega, by omega, by simpa using h3⟩
theorem idxL_mem {l : List Int} {x : Int} (h : x ∈ l) : ∃ k : Nat, k < l.length ∧ idxL l x = k ∧ l[k]? = some x := by
  obtain ⟨k, h1, h2, h3⟩ := idxR_mem (i := 0) h
  exact ⟨k, h1, by simpa [idxL] using h2, h3⟩
def lpR : Nat → List Int → List Int
  | 0, _ => []
  | f + 1, l => if l = [] then [] else lpR f (l.take (idxL l (mxL l)).toNat) ++ lpR f (l.drop ((idxL l (mxL l)).toNat + 1)) ++ [mxL l]
def lpF (l : List Int) : List Int := lpR l.length l
theorem lpR_any : ∀ {n m : Nat} {l : List Int}, l.length ≤ n → l.length ≤ m → lpR n l = lpR m l
  | 0, m, l, h, _ => by
    obtain rfl : l = [] := List.length_eq_zero_iff.1 (by omega)
    cases m <;> simp [lpR]
  | n + 1, 0, l, _, h => by
    obtain rfl : l = [] := List.length_eq_zero_iff.1 (by omega)
    simp [lpR]
  | n + 1, m + 1, l, h1, h2 => by
    simp only [lpR]
    by_cases h : l = []
    · rw [if_pos h, if_pos h]
    · rw [if_neg h, if_neg h]
      obtain ⟨k, e1, e2, e3⟩ := idxL_mem (mxL_mem h)
      rw [e2, Int.toNat_natCast, lpR_any (n := n) (m := m) (by simp; omega) (by simp; omega), lpR_any (n := n) (m := m) (l := l.drop (k + 1)) (by simp; omega) (by simp; omega)]
theorem lpF_nil : lpF [] = [] := rfl
theorem lpF_step {l : List Int} {k : Nat} (h : l ≠ []) (hk : idxL l (mxL l) = k) (hl : k < l.length) : lpF l = lpF (l.take k) ++ lpF (l.drop (k + 1)) ++ [mxL l] := by
  unfold lpF
  obtain ⟨n, hn⟩ : ∃ n, l.length = n + 1 := ⟨l.length - 1, by omega⟩
  rw [hn, lpR, if_neg h, hk, Int.toNat_natCast, lpR_any (n := n) (m := (l.take k).length) (by simp; omega) (Nat.le_refl _), lpR_any (n := n) (m := (l.drop (k + 1)).length) (by simp; omega) (Nat.le_refl _)]
theorem lpF_len : ∀ (n : Nat) (l : List Int), l.length ≤ n → (lpF l).length = l.length
  | 0, l, h => by obtain rfl : l = [] := List.length_eq_zero_iff.1 (by omega); rfl
  | n + 1, l, h => by
    by_cases h0 : l = []
    · subst h0; rfl
    · obtain ⟨k, e1, e2, e3⟩ := idxL_mem (mxL_mem h0)
      rw [lpF_step h0 e2 e1]
      simp only [List.length_append, List.length_singleton]
      rw [lpF_len n _ (by simp; omega), lpF_len n _ (by simp; omega)]
      simp; omega
end Go.Sx.Lk
end
