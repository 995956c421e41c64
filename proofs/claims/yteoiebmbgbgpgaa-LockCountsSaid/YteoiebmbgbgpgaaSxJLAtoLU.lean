/- What functions of the lock layer return: lists compared, an order checked, a list in order. No conditions. -/
import Derived.Test.YteoiebmbgbgpgaaSxJLG0toPLa
import Derived.Test.YteoiebmbgbgpgaaSxJSttoSd
import Derived.Test.YteoiebmbgbgpgaaSxJNtoNq
import Derived.KernelRfl
import Derived.Test.YteoiebmbgbgpgaaProg
set_option linter.unusedVariables false
set_option linter.unusedSimpArgs false
section
set_option maxRecDepth 4000
namespace Go.Sx
theorem drop_split {α : Type} {l : List α} {i : Nat} (h : i < l.length) : ∃ x r, l.drop i = x :: r ∧ l[i]? = some x ∧ l[i] = x ∧ l.drop (i + 1) = r ∧ x ∈ l :=
  ⟨l[i], l.drop (i + 1), List.drop_eq_getElem_cons h, by simp [h], rfl, rfl, List.getElem_mem h⟩
end Go.Sx
namespace Go.Sx.Lk
open Go Go.Sx Go.Proofs
abbrev vI (n : Int) : AV := .v (.int .i64 n)
abbrev vB (b : Bool) : AV := .v (.bool b)
def small (l : List Int) : Bool := decide (l.length ≤ 1000000)
set_option maxHeartbeats 2000000
def s101 : Sp := spT 101 [.i] fun (x : Int) => res true (vB false)
@[simp] theorem s101_g : s101.g = 101 := rfl
@[simp] theorem s101_f : s101.f = (spT 101 [.i] fun (x : Int) => res true (vB false)).f := rfl
theorem s101_ok : s101.ok Try.prog := by
  apply spT_ok
  simp only [OkT, Ty.all, List.nil_append, List.cons_append]
  intro (x : Int)
  apply okT_res; intro _
  refine P101.rz (ss := []) trivial (by simp) fun Q hQ => ?_
  delta p101 p101_r0 p101_r1
  simp (disch := omega) [oLt, oLe, oLtN, oLeN, nLt, nLe, nLtN, nLeN]
  exact hQ _ _ (.p (.inl rfl) (by simp) rfl)
def s91 : Sp := spT 91 [.i, .i] fun (x : Int) (y : Int) => res true (vB (decide (x < y)))
@[simp] theorem s91_g : s91.g = 91 := rfl
@[simp] theorem s91_f : s91.f = (spT 91 [.i, .i] fun (x : Int) (y : Int) => res true (vB (decide (x < y)))).f := rfl
theorem s91_ok : s91.ok Try.prog := by
  apply spT_ok
  simp only [OkT, Ty.all, List.nil_append, List.cons_append]
  intro (x : Int) (y : Int)
  apply okT_res; intro _
  refine P91.rz (ss := [s101]) ⟨s101_ok, trivial⟩ (by simp) fun Q hQ => ?_
  delta p91 p91_r0 p91_r1
  by_cases h : x < y
  · simp (disch := omega) [oLt, oLe, oLtN, oLeN, nLt, nLe, nLtN, nLeN, h]
    exact hQ _ _ (.p (.inl rfl) (by simp [h]) rfl)
  · simp (disch := omega) [oLt, oLe, oLtN, oLeN, nLt, nLe, nLtN, nLeN, h]
    exact hQ _ _ (.p (.inl rfl) (by simp [h]) rfl)
def srtB (l : List Int) : Bool := (List.range (l.length - 1)).all fun j => decide (l.getD j 0 ≤ l.getD (j + 1) 0)
theorem srtB_iff (l : List Int) : srtB l = true ↔ ∀ j, j + 1 < l.length → l.getD j 0 ≤ l.getD (j + 1) 0 := by
  simp only [srtB, List.all_eq_true, List.mem_range, decide_eq_true_eq]
  exact ⟨fun h j hj => h j (by omega), fun h j hj => h j (by omega)⟩
def s52 : Sp := spT 52 [.l] fun (l : List Int) => res (small l) (vB (srtB l))
@[simp] theorem s52_g : s52.g = 52 := rfl
@[simp] theorem s52_f : s52.f = (spT 52 [.l] fun (l : List Int) => res (small l) (vB (srtB l))).f := rfl
theorem s52_ok : s52.ok Try.prog := by
  apply spT_ok
  simp only [OkT, Ty.all, List.nil_append, List.cons_append]
  intro (l : List Int) u
  apply okT_res; intro hg
  refine P52.rz (ss := [s91]) ⟨s91_ok, trivial⟩ (by simp) fun Q hQ => ?_
  delta p52 p52_r0 p52_r1
  simp only [small, decide_eq_true_eq] at hg
  rcases Nat.eq_zero_or_pos l.length with h0 | h0
  · obtain rfl : l = [] := List.length_eq_zero_iff.1 h0
    simp (disch := omega) [oLt, oLe, oLtN, oLeN, nLt, nLe, nLtN, nLeN]
    refine XZ_for (fun _ : Nat => ⟨[(0, .il [] 0 u), (3, vI (-1))], [], 0⟩) (fun i => i) (fun i => True) 0 trivial (.to [] (by simp)) ?_
    rintro i _ N Q' hN hE
    delta p52_l0 p52_r2 p52_r3 p52_r4 p52_r5
    simp (disch := omega) [oLt, oLe, oLtN, oLeN, nLt, nLe, nLtN, nLeN]
    refine hE _ _ _ .refl ?_
    delta p52_r6
    simp (disch := omega) [oLt, oLe, oLtN, oLeN, nLt, nLe, nLtN, nLeN]
    exact hQ _ _ (.p (.inl rfl) (by simp [srtB]) rfl)
  · obtain ⟨m, hm⟩ : ∃ m, l.length = m + 1 := ⟨l.length - 1, by omega⟩
    have hm1 : (l.length : Int) - 1 = m := by omega
    simp (disch := omega) [oLt, oLe, oLtN, oLeN, nLt, nLe, nLtN, nLeN, hm1]
    refine XZ_for (fun i : Nat => ⟨[(0, .il (ints l) l.length u), (3, vI i)], [], 0⟩) (fun i => i) (fun i => i ≤ m ∧ ∀ j, i ≤ j → j + 1 < l.length → l.getD j 0 ≤ l.getD (j + 1) 0) m ⟨Nat.le_refl _, fun j h1 h2 => by omega⟩ (.to [] (by simp)) ?_
    rintro i ⟨hi, hinv⟩ N Q' hN hE
    rcases i with _ | i
    · have hb : srtB l = true := (srtB_iff l).2 fun j hj => hinv j (Nat.zero_le _) hj
      delta p52_l0 p52_r2 p52_r3 p52_r4 p52_r5
      simp (disch := omega) [oLt, oLe, oLtN, oLeN, nLt, nLe, nLtN, nLeN]
      refine hE _ _ _ .refl ?_
      delta p52_r6
      simp (disch := omega) [oLt, oLe, oLtN, oLeN, nLt, nLe, nLtN, nLeN]
      exact hQ _ _ (.p (.inl rfl) (by simp [hb]) rfl)
    · have h1 : i + 1 < l.length := by omega
      have h2 : i < l.length := by omega
      have hic : (0 : Int) < (i : Int) + 1 := by omega
      have hic2 : (i : Int) + 1 < l.length := by omega
      have hic3 : (i : Int) < l.length := by omega
      have e1 : (i : Int) + 1 - 1 = i := by omega
      obtain ⟨x, hx⟩ : ∃ x, l[i]? = some x := ⟨l[i], by rw [List.getElem?_eq_getElem h2]⟩
      obtain ⟨y, hy⟩ : ∃ y, l[i + 1]? = some y := ⟨l[i + 1], by rw [List.getElem?_eq_getElem h1]⟩
      have hx' := (List.getElem?_eq_some_iff.1 hx).2
      have hy' := (List.getElem?_eq_some_iff.1 hy).2
      have gx : l.getD i 0 = x := by simp [List.getD_eq_getElem?_getD, hx]
      have gy : l.getD (i + 1) 0 = y := by simp [List.getD_eq_getElem?_getD, hy]
      by_cases hxy : y < x
      · have hb : srtB l = false := by
          cases hs : srtB l with
          | false => rfl
          | true => have := (srtB_iff l).1 hs i h1; omega
        delta p52_l0 p52_r2 p52_r3 p52_r4 p52_r5
        simp (disch := omega) [oLt, oLe, oLtN, oLeN, nLt, nLe, nLtN, nLeN, hic, hic2, hic3, e1, h1, h2, hx, hy, hx', hy', hxy]
        exact hE _ _ _ .refl (hQ _ _ (.p (.inl rfl) (by simp [hb]) rfl))
      · delta p52_l0 p52_r2 p52_r3 p52_r4 p52_r5
        simp (disch := omega) [oLt, oLe, oLtN, oLeN, nLt, nLe, nLtN, nLeN, hic, hic2, hic3, e1, h1, h2, hx, hy, hx', hy', hxy]
        refine hN _ i (by omega) ⟨by omega, fun j a1 a2 => ?_⟩ (.to [] (by simp))
        rcases Nat.eq_or_lt_of_le a1 with rfl | a1
        · omega
        · exact hinv j a1 a2
end Go.Sx.Lk
end
section
set_option maxRecDepth 4000
namespace Go.Sx.Lk
open Go Go.Sx Go.Proofs
/-! ### The check of an order: 1: too few or too many, 2: no barge, 6: twice -/
def chkR (n : Nat) : List Int → List Bool → Int
  | [], _ => 0
  | x :: r, M => if 0 ≤ x ∧ x < n then (if M.getD x.toNat false then 6 else chkR n r (M.set x.toNat true)) else 2
def Fl7 : List Bool := [false, false, false, false, false, false, false]
def chkF (l : List Int) : Int := if l.length = 0 ∨ 7 < l.length then 1 else chkR l.length l Fl7
set_option maxHeartbeats 4000000
end Go.Sx.Lk
end
section
set_option maxRecDepth 4000
namespace Go.Sx.Lk
open Go Go.Sx Go.Proofs
theorem EndsP_at {k : Nat} {rs : List SRes} {r : AV} {H : HL} {e : Exit} {s : ST} (l : List Nat) (he : e = .ret ∨ e = .normal) (hr : resA s.st rs = some (ren (gT l s.nx) r)) (low : lowTo l k = true) (hle : k ≤ l.length) (nd : dist l = true)
    (hh : heapTo l.length (gT l s.nx) s.heap H) : EndsP k rs r l.length H e s := by
  have := cv_to (l := l) (nx := s.nx) (h := s.heap) (h' := H) low hle nd hh
  exact ⟨by rcases he with rfl | rfl <;> trivial, s, .refl, _, this, hr⟩
end Go.Sx.Lk
end
section
set_option maxRecDepth 4000
namespace Go.Sx.Lk
open Go Go.Sx Go.Proofs
attribute [simp] evCall reach idsB idsL ids inA Go.Sx.inL Go.Sx.inM inB allHp enumH gl renB
@[simp] theorem idsL_app9 : ∀ a b : List AV, idsL (a ++ b) = idsL a ++ idsL b
  | [], b => rfl
  | x :: a, b => by cases x <;> simp [idsL, idsL_app9 a b]
@[simp] theorem inL_app9 (p : Nat → Bool) : ∀ a b : List AV, Go.Sx.inL p (a ++ b) = (Go.Sx.inL p a && Go.Sx.inL p b)
  | [], b => by simp
  | x :: a, b => by rw [List.cons_append, Go.Sx.inL, Go.Sx.inL, inL_app9 p a b, Bool.and_assoc]
@[simp] theorem idsL_ints9 : ∀ l : List Int, idsL (ints l) = []
  | [] => rfl
  | x :: l => by rw [ints_cons, idsL, idsL_ints9 l]
@[simp] theorem inL_ints9 (p : Nat → Bool) : ∀ l : List Int, Go.Sx.inL p (ints l) = true
  | [] => rfl
  | x :: l => by rw [ints_cons, Go.Sx.inL, inL_ints9 p l]; rfl
end Go.Sx.Lk
end
section
set_option maxRecDepth 4000
namespace Go.Sx.Lk
open Go Go.Sx Go.Proofs
abbrev nS : AV := .v (.slice none 0 0)
def basH (st : List Int) : HL := [(0, .cells [.ref 1 0 st.length 1 none]), (1, .cells (ints st))]
def f68 : List AV → HL → Nat → Option (AV × HL × Nat) := fun args h k => match args, h, k with
  | [.ptr 0 0], [(0, .cells [.v (.slice none 0 0)])], 1 => some (.tup [vI 0, vB false], [(0, .cells [nS])], 1)
  | [.ptr 0 0], [(0, .cells [.ref 1 0 n 1 none]), (1, .cells cs)], 2 => match unints cs with
    | some st => if n = st.length ∧ small st = true then some (.tup [vI (st.getLastD 0), vB (!st.isEmpty)], basH st, 2) else none
    | none => none
  | _, _, _ => none
def s68 : Sp := ⟨68, f68⟩
@[simp] theorem s68_g : s68.g = 68 := rfl
@[simp] theorem s68_f : s68.f = f68 := rfl
def f67 : List AV → HL → Nat → Option (AV × HL × Nat) := fun args h k => match args, h, k with
  | [.ptr 0 0, .v (.int .i64 x)], [(0, .cells [.v (.slice none 0 0)])], 1 => some (.tup [], [(0, .cells [.ref 1 0 1 1 none]), (1, .cells [vI x])], 2)
  | [.ptr 0 0, .v (.int .i64 x)], [(0, .cells [.ref 1 0 n 1 none]), (1, .cells cs)], 2 => match unints cs with
    | some st => if n = st.length ∧ small st = true then some (.tup [], [(0, .cells [.ref 2 0 (n + 1) 1 none]), (2, .cells (ints (st ++ [x])))], 3) else none
    | none => none
  | _, _, _ => none
def s67 : Sp := ⟨67, f67⟩
@[simp] theorem s67_g : s67.g = 67 := rfl
@[simp] theorem s67_f : s67.f = f67 := rfl
def f69 : List AV → HL → Nat → Option (AV × HL × Nat) := fun args h k => match args, h, k with
  | [.ptr 0 0], [(0, .cells [.ref 1 0 n 1 none]), (1, .cells cs)], 2 => match unints cs with
    | some st => if n = st.length ∧ small st = true ∧ st ≠ [] then some (.tup [], [(0, .cells [.ref 1 0 (n - 1) 1 none]), (1, .cells (ints st.dropLast))], 2) else none
    | none => none
  | _, _, _ => none
def s69 : Sp := ⟨69, f69⟩
@[simp] theorem s69_g : s69.g = 69 := rfl
@[simp] theorem s69_f : s69.f = f69 := rfl
set_option maxHeartbeats 2000000 in
theorem s68_ok : s68.ok Try.prog := by
  intro args h k r h' k' hh
  simp only [s68_f, f68] at hh
  split at hh
  · cases hh
    simp only [hp_eq]
    refine P68.rz (ss := []) trivial (by simp) fun Q hQ => ?_
    delta p68 p68_r0 p68_r1 p68_r2 p68_r3
    simp (disch := omega) [oLt, oLe, oLtN, oLeN, nLt, nLe, nLtN, nLeN]
    exact hQ _ _ (EndsP_at [0] (.inl rfl) (by simp) rfl (by simp) rfl (by simp))
  · split at hh
    · rename_i st hl
      split at hh
      · rename_i hc
        obtain ⟨rfl, hs⟩ := hc
        cases hh
        rw [unints_inv hl]
        have hsl : st.length ≤ 1000000 := by simpa [small] using hs
        simp only [hp_eq]
        rcases List.eq_nil_or_concat st with rfl | ⟨D, c, rfl⟩
        · refine P68.rz (ss := []) trivial (by simp) fun Q hQ => ?_
          delta p68 p68_r0 p68_r1 p68_r2 p68_r3
          simp (disch := omega) [oLt, oLe, oLtN, oLeN, nLt, nLe, nLtN, nLeN]
          exact hQ _ _ (EndsP_at [0, 1] (.inl rfl) (by simp) rfl (by simp) rfl (by simp [basH]))
        · have hne : ¬ (D.length : Int) + 1 = 0 := by omega
          have h1 : (D.length : Int) + 1 - 1 = D.length := by omega
          have hD : D.length ≤ 1000000 := by simp at hsl; omega
          refine P68.rz (ss := []) trivial (by simp) fun Q hQ => ?_
          delta p68 p68_r0 p68_r1 p68_r2 p68_r3
          simp only [List.concat_eq_append, List.length_append, List.length_singleton, ints_app, ints_cons, ints_nil] at *
          simp (disch := omega) [oLt, oLe, oLtN, oLeN, nLt, nLe, nLtN, nLeN, hne, h1]
          exact hQ _ _ (EndsP_at [0, 1] (.inl rfl) (by simp) rfl (by simp) rfl (by simp [basH]))
      · cases hh
    · cases hh
  · cases hh
set_option maxHeartbeats 2000000 in
theorem s67_ok : s67.ok Try.prog := by
  intro args h k r h' k' hh
  simp only [s67_f, f67] at hh
  split at hh
  · cases hh
    simp only [hp_eq]
    refine P67.rz (ss := []) trivial (by simp) fun Q hQ => ?_
    delta p67 p67_r0
    simp (disch := omega) [oLt, oLe, oLtN, oLeN, nLt, nLe, nLtN, nLeN]
    exact hQ _ _ (EndsP_at [0, 8] (.inr rfl) (by simp) rfl (by simp) rfl (by simp))
  · split at hh
    · rename_i st hl
      split at hh
      · rename_i hc
        obtain ⟨rfl, hs⟩ := hc
        cases hh
        rw [unints_inv hl]
        have hsl : st.length ≤ 1000000 := by simpa [small] using hs
        have ht : (ints st).take st.length = ints st := List.take_of_length_le (by simp)
        simp only [hp_eq]
        refine P67.rz (ss := []) trivial (by simp) fun Q hQ => ?_
        delta p67 p67_r0
        simp (disch := omega) [oLt, oLe, oLtN, oLeN, nLt, nLe, nLtN, nLeN, hsl, ht]
        exact hQ _ _ (EndsP_at [0, 1, 9] (.inr rfl) (by simp) rfl (by simp) rfl (by simp))
      · cases hh
    · cases hh
  · cases hh
set_option maxHeartbeats 2000000 in
theorem s69_ok : s69.ok Try.prog := by
  intro args h k r h' k' hh
  simp only [s69_f, f69] at hh
  split at hh
  · split at hh
    · rename_i st hl
      split at hh
      · rename_i hc
        obtain ⟨rfl, hs, hne0⟩ := hc
        cases hh
        rw [unints_inv hl]
        have hsl : st.length ≤ 1000000 := by simpa [small] using hs
        obtain ⟨D, c, rfl⟩ : ∃ D c, st = D ++ [c] := by
          rcases List.eq_nil_or_concat st with h | ⟨D, c, h⟩
          · exact (hne0 h).elim
          · exact ⟨D, c, by simpa using h⟩
        clear hl hne0 hs
        have h1 : (D.length : Int) + 1 - 1 = D.length := by omega
        have hD : D.length ≤ 1000000 := by simp at hsl; omega
        simp only [hp_eq, List.dropLast_concat, List.length_append, List.length_singleton, Nat.add_sub_cancel]
        refine P69.rz (ss := []) trivial (by simp) fun Q hQ => ?_
        delta p69 p69_r0
        simp (disch := omega) [oLt, oLe, oLtN, oLeN, nLt, nLe, nLtN, nLeN, h1, hD]
        have hw : WkB (.cells (ints D ++ [vI c])) (.cells (ints D)) := ⟨by simp, fun i x y hx hy => by
          have hi : i < (ints D).length := (List.getElem?_eq_some_iff.1 hy).1
          rw [List.getElem?_append_left hi, hy] at hx
          cases hx; exact .refl⟩
        refine hQ _ _ (.chg (.weak (s' := ⟨[], [(0, .cells [.ref 1 0 D.length 1 none]), (1, .cells (ints D))], _⟩) trivial ⟨rfl, .refl, rfl, hw, trivial⟩ rfl .refl) (EndsP_at [0, 1] (.inr rfl) (by simp) rfl (by simp) rfl (by simp)))
      · cases hh
    · cases hh
  · cases hh
end Go.Sx.Lk
end
section
set_option maxRecDepth 4000
namespace Go.Sx.Lk
open Go Go.Sx Go.Proofs
def f96 : List AV → HL → Nat → Option (AV × HL × Nat) := fun args h k => match args with
  | [.v (.int .u8 m), .v (.int .i64 x), .ptr 0 0] => if m = 111 then f67 [.ptr 0 0, .v (.int .i64 x)] h k else if m = 105 then (match f67 [.ptr 0 0, .v (.int .i64 x)] h k with
    | some _ => some (.tup [], h, k)
    | none => none) else none
  | _ => none
def s96 : Sp := ⟨96, f96⟩
@[simp] theorem s96_g : s96.g = 96 := rfl
@[simp] theorem s96_f : s96.f = f96 := rfl
theorem f67_cases {x : Int} {h : HL} {k : Nat} {r : AV} {h' : HL} {k' : Nat} (hh : f67 [.ptr 0 0, .v (.int .i64 x)] h k = some (r, h', k')) :
    (h = [(0, .cells [nS])] ∧ k = 1 ∧ r = .tup [] ∧ h' = [(0, .cells [.ref 1 0 1 1 none]), (1, .cells [vI x])] ∧ k' = 2) ∨
    ∃ st : List Int, h = basH st ∧ k = 2 ∧ st.length ≤ 1000000 ∧ r = .tup [] ∧ h' = [(0, .cells [.ref 2 0 (st.length + 1) 1 none]), (2, .cells (ints (st ++ [x])))] ∧ k' = 3 := by
  simp only [f67] at hh
  split at hh
  · cases hh
    rename_i e1
    cases e1
    exact .inl ⟨rfl, rfl, rfl, rfl, rfl⟩
  · rename_i e1
    cases e1
    split at hh
    · rename_i st hl
      split at hh
      · rename_i hc
        obtain ⟨rfl, hs⟩ := hc
        cases hh
        exact .inr ⟨st, by rw [unints_inv hl]; rfl, rfl, by simpa [small] using hs, rfl, rfl, rfl⟩
      · cases hh
    · cases hh
  · cases hh
set_option maxHeartbeats 2000000 in
theorem s96_ok : s96.ok Try.prog := by
  intro args h k r h' k' hh
  simp only [s96_f, f96] at hh
  split at hh
  · rename_i m x
    split at hh
    · rename_i hm
      subst hm
      rcases f67_cases hh with ⟨rfl, rfl, rfl, rfl, rfl⟩ | ⟨st, rfl, rfl, hsl, rfl, rfl, rfl⟩
      · simp only [hp_eq]
        refine P96.rz (ss := []) trivial (by simp) fun Q hQ => ?_
        delta p96 p96_r0 p96_r1
        simp (disch := omega) [oLt, oLe, oLtN, oLeN, nLt, nLe, nLtN, nLeN]
        exact hQ _ _ (EndsP_at [0, 6] (.inr rfl) (by simp) rfl (by simp) rfl (by simp))
      · have ht : (ints st).take st.length = ints st := List.take_of_length_le (by simp)
        simp only [hp_eq, basH]
        refine P96.rz (ss := []) trivial (by simp) fun Q hQ => ?_
        delta p96 p96_r0 p96_r1
        simp (disch := omega) [oLt, oLe, oLtN, oLeN, nLt, nLe, nLtN, nLeN, hsl, ht]
        exact hQ _ _ (EndsP_at [0, 1, 7] (.inr rfl) (by simp) rfl (by simp) rfl (by simp))
    · split at hh
      · rename_i hm
        subst hm
        split at hh
        · rename_i q hq
          obtain ⟨r1, h1, k1⟩ := q
          cases hh
          rcases f67_cases hq with ⟨rfl, rfl, _, _, _⟩ | ⟨st, rfl, rfl, hsl, _, _, _⟩
          · simp only [hp_eq]
            refine P96.rz (ss := []) trivial (by simp) fun Q hQ => ?_
            delta p96 p96_r0 p96_r1
            simp (disch := omega) [oLt, oLe, oLtN, oLeN, nLt, nLe, nLtN, nLeN]
            exact hQ _ _ (EndsP_at [0] (.inr rfl) (by simp) rfl (by simp) rfl (by simp))
          · simp only [hp_eq, basH]
            refine P96.rz (ss := []) trivial (by simp) fun Q hQ => ?_
            delta p96 p96_r0 p96_r1
            simp (disch := omega) [oLt, oLe, oLtN, oLeN, nLt, nLe, nLtN, nLeN]
            exact hQ _ _ (EndsP_at [0, 1] (.inr rfl) (by simp) rfl (by simp) rfl (by simp))
        · cases hh
      · cases hh
  · cases hh
end Go.Sx.Lk
end
section
namespace Go.Sx
noncomputable def famF {α : Type} (ok : α → Prop) (pat : α → List AV × HL × Nat) (out : α → AV × HL × Nat) : List AV → HL → Nat → Option (AV × HL × Nat) := fun args h k => open Classical in
  if hx : ∃ a, ok a ∧ pat a = (args, h, k) then some (out hx.choose) else none
theorem famF_at {α : Type} {ok : α → Prop} {pat : α → List AV × HL × Nat} {out : α → AV × HL × Nat} (hd : ∀ a b, pat a = pat b → out a = out b) (a : α) (ha : ok a) {args : List AV} {h : HL} {k : Nat} (e : pat a = (args, h, k)) : famF ok pat out args h k = some (out a) := by
  have hx : ∃ a, ok a ∧ pat a = (args, h, k) := ⟨a, ha, e⟩
  unfold famF
  rw [dif_pos hx]
  exact congrArg some (hd _ _ (hx.choose_spec.2.trans e.symm))
theorem famF_ok {P : Program} {g : FuncId} {α : Type} {ok : α → Prop} {pat : α → List AV × HL × Nat} {out : α → AV × HL × Nat} (h : ∀ a, ok a → Runs P g (pat a).2.2 (pat a).1 (hp (pat a).2.1) (out a).1 (out a).2.2 (hp (out a).2.1)) : Sp.ok P ⟨g, famF ok pat out⟩ := by
  intro args hh k r h' k' e
  simp only [famF] at e
  split at e
  · rename_i hx
    have hc := hx.choose_spec
    have := h hx.choose hc.1
    rw [hc.2] at this
    simp only [Option.some.injEq] at e
    rw [e] at this
    exact this
  · cases e
theorem ints_inj : ∀ {a b : List Int}, ints a = ints b → a = b
  | [], [], _ => rfl
  | [], y :: b, h => by simp at h
  | x :: a, [], h => by simp at h
  | x :: a, y :: b, h => by
    simp only [ints_cons, List.cons.injEq, AV.v.injEq, Value.int.injEq, true_and] at h
    rw [h.1, ints_inj h.2]
def via (h : HL) (i : Nat) : Nat := match hpF h i with
  | some (.cells (x :: _)) => idOf x
  | _ => 0
def viaC (h : HL) (i c : Nat) : Nat := match hpF h i with
  | some (.cells xs) => idOf (xs.getD c .any)
  | _ => 0
theorem ChgT.toF {k0 : Nat} (F : HL → List Nat) {s s' : ST} (h : s'.nx = (F s.heap).length ∧ lowTo (F s.heap) k0 = true ∧ k0 ≤ (F s.heap).length ∧ dist (F s.heap) = true ∧ envTo (gT (F s.heap) s.nx) s.env s'.env ∧ heapTo (F s.heap).length (gT (F s.heap) s.nx) s.heap s'.heap) : ChgT k0 s s' := .to (F s.heap) h
theorem EndsP_F {k n : Nat} {rs : List SRes} {r : AV} {H : HL} {e : Exit} {s : ST} (F : HL → List Nat) (he : e = .ret ∨ e = .normal) (hn : (F s.heap).length = n) (h : resA s.st rs = some (ren (gT (F s.heap) s.nx) r) ∧ lowTo (F s.heap) k = true ∧ k ≤ (F s.heap).length ∧ dist (F s.heap) = true ∧ heapTo (F s.heap).length (gT (F s.heap) s.nx) s.heap H) : EndsP k rs r n H e s := by
  obtain ⟨hr, low, hle, nd, hh⟩ := h
  subst hn
  have := cv_to (l := F s.heap) (nx := s.nx) (h := s.heap) (h' := H) low hle nd hh
  exact ⟨by rcases he with rfl | rfl <;> trivial, s, .refl, _, this, hr⟩
theorem ChgT.toS {k0 : Nat} (F : ST → List Nat) {s s' : ST} (h : s'.nx = (F s).length ∧ lowTo (F s) k0 = true ∧ k0 ≤ (F s).length ∧ dist (F s) = true ∧ envTo (gT (F s) s.nx) s.env s'.env ∧ heapTo (F s).length (gT (F s) s.nx) s.heap s'.heap) : ChgT k0 s s' := .to (F s) h
@[simp] theorem range2 : List.range 2 = [0, 1] := rfl
@[simp] theorem range3 : List.range 3 = [0, 1, 2] := rfl
@[simp] theorem range4 : List.range 4 = [0, 1, 2, 3] := rfl
@[simp] theorem range5 : List.range 5 = [0, 1, 2, 3, 4] := rfl
@[simp] theorem range6 : List.range 6 = [0, 1, 2, 3, 4, 5] := rfl
@[simp] theorem range7 : List.range 7 = [0, 1, 2, 3, 4, 5, 6] := rfl
@[simp] theorem range8 : List.range 8 = [0, 1, 2, 3, 4, 5, 6, 7] := rfl
@[simp high] theorem low3 (l : List Nat) : lowTo (0 :: 1 :: 2 :: l) 3 = true := by simp [lowTo]
@[simp high] theorem low4 (l : List Nat) : lowTo (0 :: 1 :: 2 :: 3 :: l) 4 = true := by simp [lowTo]
@[simp high] theorem low5 (l : List Nat) : lowTo (0 :: 1 :: 2 :: 3 :: 4 :: l) 5 = true := by simp [lowTo]
@[simp high] theorem low6 (l : List Nat) : lowTo (0 :: 1 :: 2 :: 3 :: 4 :: 5 :: l) 6 = true := by simp [lowTo]
attribute [simp] evCall reach idsB idsL ids inA Go.Sx.inL Go.Sx.inM inB allHp enumH gl renB
attribute [simp] effMkfn via viaC
end Go.Sx
end
section
set_option maxRecDepth 4000
namespace Go.Sx.Lk
open Go Go.Sx Go.Proofs
def outA (id : Nat) (out : List Int) : AV := if out = [] then nS else .ref id 0 out.length 1 none
def outH (id : Nat) (out : List Int) : HL := if out = [] then [] else [(id, .cells (ints out))]
def outK (out : List Int) : Nat := if out = [] then 0 else 1
@[simp] theorem outA_nil (id : Nat) : outA id [] = nS := rfl
@[simp] theorem outA_cons (id : Nat) (x : Int) (r : List Int) : outA id (x :: r) = .ref id 0 (r.length + 1) 1 none := by simp [outA]
@[simp] theorem outH_nil (id : Nat) : outH id [] = [] := rfl
@[simp] theorem outH_cons (id : Nat) (x : Int) (r : List Int) : outH id (x :: r) = [(id, .cells (vI x :: ints r))] := by simp [outH]
@[simp] theorem outK_nil : outK [] = 0 := rfl
@[simp] theorem outK_cons (x : Int) (r : List Int) : outK (x :: r) = 1 := by simp [outK]
def popR (b : Int) : Nat → List Int → List Int → List Int × List Int
  | 0, st, out => (st, out)
  | n + 1, st, out => if st = [] then (st, out) else if st.getLastD 0 < b then popR b n st.dropLast (out ++ [st.getLastD 0]) else (st, out)
def hpP (j : Nat) (st out : List Int) : HL := [(0, .cells [.ref 1 0 st.length 1 none]), (1, .cells (ints st)), (2, .cells [.fn (.func 96) [] [.ptr 3 0]]), (3, .cells [outA j out])] ++ outH j out
def hpN : HL := [(0, .cells [nS]), (1, .cells [.fn (.func 96) [] [.ptr 2 0]]), (2, .cells [nS])]
def newJ (out out' : List Int) : Nat := if out = [] then 4 else if out'.length = out.length then 4 else 5
def pat97 : Int × Option (List Int × List Int) → List AV × HL × Nat
  | (b, some (st, out)) => ([vI b, .ptr 0 0, .ptr 2 0], hpP 4 st out, 4 + outK out)
  | (b, none) => ([vI b, .ptr 0 0, .ptr 1 0], hpN, 3)
def out97 : Int × Option (List Int × List Int) → AV × HL × Nat
  | (b, some (st, out)) => (.tup [], hpP (newJ out (popR b st.length st out).2) (popR b st.length st out).1 (popR b st.length st out).2, newJ out (popR b st.length st out).2 + outK (popR b st.length st out).2)
  | (b, none) => (.tup [], hpN, 3)
def ok97 : Int × Option (List Int × List Int) → Prop
  | (_, some (st, out)) => st.length + out.length ≤ 1000
  | (_, none) => True
theorem hpP_inj {j : Nat} {st out st' out' : List Int} (h : hpP j st out = hpP j st' out') : st = st' ∧ out = out' := by
  simp only [hpP, List.cons_append, List.nil_append, List.cons.injEq, Prod.mk.injEq, Blk.cells.injEq, true_and, and_true] at h
  obtain ⟨h1, h2, h3, h4⟩ := h
  refine ⟨ints_inj h2, ?_⟩
  cases out with
  | nil => cases out' with
    | nil => rfl
    | cons y r => simp at h4
  | cons x r => cases out' with
    | nil => simp at h4
    | cons y r' =>
      simp only [outH_cons, List.cons.injEq, Prod.mk.injEq, Blk.cells.injEq, true_and, and_true, AV.v.injEq, Value.int.injEq] at h4
      rw [h4.1, ints_inj h4.2]
theorem pat97_inj (a b : Int × Option (List Int × List Int)) (h : pat97 a = pat97 b) : out97 a = out97 b := by
  obtain ⟨x, a⟩ := a
  obtain ⟨y, b⟩ := b
  cases a with
  | none => cases b with
    | none => rfl
    | some q => obtain ⟨st, out⟩ := q; simp [pat97] at h
  | some p =>
    obtain ⟨st, out⟩ := p
    cases b with
    | none => simp [pat97] at h
    | some q =>
      obtain ⟨st', out'⟩ := q
      simp only [pat97, Prod.mk.injEq, List.cons.injEq, AV.v.injEq, Value.int.injEq, true_and, and_true] at h
      obtain ⟨rfl, h2, h3⟩ := h
      obtain ⟨rfl, rfl⟩ := hpP_inj h2
      rfl
noncomputable def f97 := famF ok97 pat97 out97
noncomputable def s97 : Sp := ⟨97, f97⟩
@[simp] theorem s97_g : s97.g = 97 := rfl
@[simp] theorem s97_f : s97.f = f97 := rfl
theorem popR_le (b : Int) : ∀ n st out, (popR b n st out).1.length ≤ st.length
  | 0, st, out => Nat.le_refl _
  | n + 1, st, out => by
    simp only [popR]
    split
    · exact Nat.le_refl _
    · split
      · have := popR_le b n st.dropLast (out ++ [st.getLastD 0])
        have e : st.dropLast.length = st.length - 1 := by simp
        omega
      · exact Nat.le_refl _
theorem popR_len (b : Int) : ∀ n st out, (popR b n st out).1.length + (popR b n st out).2.length = st.length + out.length
  | 0, st, out => rfl
  | n + 1, st, out => by
    simp only [popR]
    split
    · rfl
    · rename_i h
      have : 0 < st.length := List.length_pos_iff.2 h
      split
      · rw [popR_len b n]; simp; omega
      · rfl
def mk97 (b : Int) (j : Nat) (st out : List Int) : ST := ⟨[(0, vI b), (1, .ptr 0 0), (2, .ptr 2 0), (4, vI (st.getLastD 0)), (5, vB (!st.isEmpty))], hpP j st out, j + outK out⟩
theorem f96n (c : Int) : f96 [.v (.int .u8 111), vI c, .ptr 0 0] [(0, .cells [nS])] 1 = some (.tup [], [(0, .cells [.ref 1 0 1 1 none]), (1, .cells [vI c])], 2) := by simp [f96, f67]
theorem f96c (c x : Int) (r : List Int) (h : r.length ≤ 1000) : f96 [.v (.int .u8 111), vI c, .ptr 0 0] [(0, .cells [.ref 1 0 (r.length + 1) 1 none]), (1, .cells (vI x :: ints r))] 2 = some (.tup [], [(0, .cells [.ref 2 0 (r.length + 1 + 1) 1 none]), (2, .cells (vI x :: (ints r ++ [vI c])))], 3) := by
  have : small (x :: r) = true := by simp [small]; omega
  simp [f96, f67, this]
theorem step97 (T : List Int) {n : Nat} (hl : T.length + n ≤ 1000) : T = [] ∨ ∃ c D, T ≠ [] ∧ T.dropLast = D ∧ T.getLastD 0 = c ∧ T.length = D.length + 1 ∧ T.isEmpty = false ∧
    f69 [.ptr 0 0] [(0, .cells [.ref 1 0 T.length 1 none]), (1, .cells (ints T))] 2 = some (.tup [], basH D, 2) ∧
    f68 [.ptr 0 0] [(0, .cells [.ref 1 0 D.length 1 none]), (1, .cells (ints D))] 2 = some (.tup [vI (D.getLastD 0), vB (!D.isEmpty)], basH D, 2) := by
  by_cases h : T = []
  · exact .inl h
  · have hp : 0 < T.length := List.length_pos_iff.2 h
    have e : T.dropLast.length = T.length - 1 := by simp
    refine .inr ⟨_, _, h, rfl, rfl, by omega, by simpa using h, ?_, ?_⟩
    · have hs : small T = true := by simp [small]; omega
      simp [f69, hs, h, basH]
    · have hs : small T.dropLast = true := by simp only [small, e, decide_eq_true_eq]; omega
      simp [f68, hs, basH]
set_option maxHeartbeats 4000000 in
theorem s97_ok : s97.ok Try.prog := by
  refine famF_ok ?_
  rintro ⟨b, _ | ⟨st, out⟩⟩ hok
  · simp only [pat97, out97, hp_eq, hpN]
    refine P97.rz (ss := [s68, s69, s96]) ⟨s68_ok, s69_ok, s96_ok, trivial⟩ (by simp) fun Q hQ => ?_
    delta p97 p97_r0
    simp (disch := omega) [oLt, oLe, oLtN, oLeN, nLt, nLe, nLtN, nLeN, f68]
    refine XZ_for (fun _ : Nat => ⟨[(0, vI b), (1, .ptr 0 0), (2, .ptr 1 0), (4, vI 0), (5, vB false)], hpN, 3⟩) (fun i => i) (fun i => True) 0 trivial (.to [0, 1, 2] (by simp [hpN])) ?_
    rintro i _ N Q' hN hE
    delta p97_l0 p97_r1 p97_r2 p97_r3 p97_r4
    simp (disch := omega) [oLt, oLe, oLtN, oLeN, nLt, nLe, nLtN, nLeN]
    exact hE _ _ _ .refl (hQ _ _ (EndsP_at [0, 1, 2] (.inr rfl) (by simp) rfl (by simp) rfl (by simp [hpN])))
  · simp only [ok97] at hok
    simp only [pat97, out97, hp_eq]
    refine P97.rz (ss := [s68, s69, s96]) ⟨s68_ok, s69_ok, s96_ok, trivial⟩ (by simp) fun Q hQ => ?_
    have hss : small st = true := by simp [small]; omega
    have h1 : f68 [.ptr 0 0] [(0, .cells [.ref 1 0 st.length 1 none]), (1, .cells (ints st))] 2 = some (.tup [vI (st.getLastD 0), vB (!st.isEmpty)], basH st, 2) := by simp [f68, hss]
    cases out with
    | nil =>
      simp only [hpP, outA_nil, outH_nil, List.append_nil, outK_nil]
      delta p97 p97_r0
      simp (disch := omega) [oLt, oLe, oLtN, oLeN, nLt, nLe, nLtN, nLeN, h1, basH]
      refine XZ_for (fun p : List Int × List Int => mk97 b 4 p.1 p.2) (fun p => p.1.length) (fun p => p.1.length + p.2.length ≤ 1000 ∧ popR b p.1.length p.1 p.2 = popR b st.length st []) (st, []) ⟨by simpa using hok, rfl⟩ (.to [0, 1, 2, 3] (by simp [mk97, hpP])) ?_
      rintro ⟨T, O⟩ ⟨hl, hinv⟩ N Q' hN hE
      simp only at hl hinv
      simp only [mk97]
      have stop : popR b T.length T O = (T, O) → XZ (rZ (spc [s68, s69, s96])) 4 p97_l0 ⟨[(0, vI b), (1, .ptr 0 0), (2, .ptr 2 0), (4, vI (T.getLastD 0)), (5, vB (!T.isEmpty))], hpP 4 T O, 4 + outK O⟩ (thenE N Q') := fun e => by
        have hj : newJ [] O = 4 := rfl
        rw [← hinv, e] at hQ
        simp only [hj] at hQ
        have hcb : T.isEmpty = true ∨ (T.isEmpty = false ∧ ¬ T.getLastD 0 < b) := by
          rcases step97 T hl with rfl | ⟨c, D, hne, hD, hc, hlen, hem, h4, h5⟩
          · exact .inl rfl
          · refine .inr ⟨hem, fun hlt => ?_⟩
            rw [hlen] at e
            simp only [popR] at e
            rw [if_neg hne, if_pos hlt] at e
            have := congrArg (fun q => q.1.length + q.2.length) e
            have h2 := congrArg (fun q => q.1.length) e
            have h3 := popR_le b D.length T.dropLast (O ++ [T.getLastD 0])
            simp only at h2
            rw [hD] at h2 h3
            omega
        rcases hcb with hem | ⟨hem, hnb⟩
        · cases O with
          | nil =>
            simp only [hpP, outA_nil, outH_nil, List.append_nil, outK_nil] at hQ ⊢
            delta p97_l0 p97_r1 p97_r2 p97_r3 p97_r4
            simp (disch := omega) [oLt, oLe, oLtN, oLeN, nLt, nLe, nLtN, nLeN, hem]
            exact hE _ _ _ .refl (hQ _ _ (EndsP_at [0, 1, 2, 3] (.inr rfl) (by simp) rfl (by simp) rfl (by simp)))
          | cons x r =>
            simp only [hpP, outA_cons, outH_cons, List.append_nil, outK_cons] at hQ ⊢
            delta p97_l0 p97_r1 p97_r2 p97_r3 p97_r4
            simp (disch := omega) [oLt, oLe, oLtN, oLeN, nLt, nLe, nLtN, nLeN, hem]
            exact hE _ _ _ .refl (hQ _ _ (EndsP_at [0, 1, 2, 3, 4] (.inr rfl) (by simp) rfl (by simp) rfl (by simp)))
        · obtain ⟨c, hc⟩ : ∃ c, T.getLastD 0 = c := ⟨_, rfl⟩
          rw [hc] at hnb ⊢
          cases O with
          | nil =>
            simp only [hpP, outA_nil, outH_nil, List.append_nil, outK_nil] at hQ ⊢
            delta p97_l0 p97_r1 p97_r2 p97_r3 p97_r4
            simp (disch := omega) [oLt, oLe, oLtN, oLeN, nLt, nLe, nLtN, nLeN, hem, hnb]
            exact hE _ _ _ .refl (hQ _ _ (EndsP_at [0, 1, 2, 3] (.inr rfl) (by simp) rfl (by simp) rfl (by simp)))
          | cons x r =>
            simp only [hpP, outA_cons, outH_cons, List.append_nil, outK_cons] at hQ ⊢
            delta p97_l0 p97_r1 p97_r2 p97_r3 p97_r4
            simp (disch := omega) [oLt, oLe, oLtN, oLeN, nLt, nLe, nLtN, nLeN, hem, hnb]
            exact hE _ _ _ .refl (hQ _ _ (EndsP_at [0, 1, 2, 3, 4] (.inr rfl) (by simp) rfl (by simp) rfl (by simp)))
      rcases step97 T hl with rfl | ⟨c, D, hne, hD, hc, hlen, hem, h4, h5⟩
      · exact stop rfl
      · by_cases hcb : c < b
        · have hst : popR b T.length T O = popR b D.length D (O ++ [c]) := by
            rw [hlen, popR, if_neg hne, hc, if_pos hcb, hD]
          rw [hst] at hinv
          have fin : ∀ s', ChgT 4 s' (mk97 b 4 D (O ++ [c])) → N s' := fun s' hh => hN s' (D, O ++ [c]) (by simp only; omega) ⟨by simp; omega, hinv⟩ hh
          clear stop hN hE hQ
          rw [hc]
          have h6 := f96n c
          cases O with
          | nil =>
            simp only [hpP, outA_nil, outH_nil, List.append_nil, outK_nil]
            delta p97_l0 p97_r1 p97_r2 p97_r3 p97_r4
            simp (disch := omega) [oLt, oLe, oLtN, oLeN, nLt, nLe, nLtN, nLeN, hem, hcb, h4, h5, h6, basH]
            exact fin _ (.to [0, 1, 2, 3, 12] (by simp [mk97, hpP]))
          | cons x r =>
            have h7 := f96c c x r (by simp at hl; omega)
            simp only [hpP, outA_cons, outH_cons, List.append_nil, outK_cons]
            delta p97_l0 p97_r1 p97_r2 p97_r3 p97_r4
            simp (disch := omega) [oLt, oLe, oLtN, oLeN, nLt, nLe, nLtN, nLeN, hem, hcb, h4, h5, h7, basH]
            exact fin _ (.to [0, 1, 2, 3, 13] (by simp [mk97, hpP]))
        · refine stop ?_
          rw [hlen, popR, if_neg hne, hc, if_neg hcb]
    | cons y out =>
      simp only [hpP, outA_cons, outH_cons, List.cons_append, List.nil_append, outK_cons]
      delta p97 p97_r0
      simp (disch := omega) [oLt, oLe, oLtN, oLeN, nLt, nLe, nLtN, nLeN, h1, basH]
      refine XZ_for (fun p : Nat × List Int × List Int => mk97 b p.1 p.2.1 p.2.2) (fun p => p.2.1.length) (fun p => p.2.1.length + p.2.2.length ≤ 1000 ∧ popR b p.2.1.length p.2.1 p.2.2 = popR b st.length st (y :: out) ∧ ((p.1 = 4 ∧ p.2.2.length = out.length + 1) ∨ (p.1 = 5 ∧ out.length + 1 < p.2.2.length))) (4, st, y :: out) ⟨by simpa using hok, rfl, .inl ⟨rfl, rfl⟩⟩ (.to [0, 1, 2, 3, 4] (by simp [mk97, hpP])) ?_
      rintro ⟨j, T, O⟩ ⟨hl, hinv, hj⟩ N Q' hN hE
      simp only at hl hinv hj
      simp only [mk97]
      obtain ⟨x, r, rfl⟩ : ∃ x r, O = x :: r := by
        cases O with
        | nil => simp at hj
        | cons x r => exact ⟨x, r, rfl⟩
      have stop : popR b T.length T (x :: r) = (T, x :: r) → XZ (rZ (spc [s68, s69, s96])) 5 p97_l0 ⟨[(0, vI b), (1, .ptr 0 0), (2, .ptr 2 0), (4, vI (T.getLastD 0)), (5, vB (!T.isEmpty))], hpP j T (x :: r), j + outK (x :: r)⟩ (thenE N Q') := fun e => by
        have hjn : newJ (y :: out) (x :: r) = j := by
          simp only [newJ, List.length_cons]
          rcases hj with ⟨rfl, h⟩ | ⟨rfl, h⟩
          · rw [if_neg (by simp), if_pos (by simpa using h)]
          · rw [if_neg (by simp), if_neg (by simp at h; omega)]
        rw [← hinv, e] at hQ
        simp only [hjn] at hQ
        have hcb : T.isEmpty = true ∨ (T.isEmpty = false ∧ ¬ T.getLastD 0 < b) := by
          rcases step97 T hl with rfl | ⟨c, D, hne, hD, hc, hlen, hem, h4, h5⟩
          · exact .inl rfl
          · refine .inr ⟨hem, fun hlt => ?_⟩
            rw [hlen] at e
            simp only [popR] at e
            rw [if_neg hne, if_pos hlt] at e
            have h2 := congrArg (fun q => q.1.length) e
            have h3 := popR_le b D.length T.dropLast (x :: r ++ [T.getLastD 0])
            simp only at h2
            rw [hD] at h2 h3
            omega
        rcases hcb with hem | ⟨hem, hnb⟩
        · rcases hj with ⟨rfl, h⟩ | ⟨rfl, h⟩
          · simp only [hpP, outA_cons, outH_cons, List.append_nil, outK_cons] at hQ ⊢
            delta p97_l0 p97_r1 p97_r2 p97_r3 p97_r4
            simp (disch := omega) [oLt, oLe, oLtN, oLeN, nLt, nLe, nLtN, nLeN, hem]
            exact hE _ _ _ .refl (hQ _ _ (EndsP_at [0, 1, 2, 3, 4] (.inr rfl) (by simp) rfl (by simp) rfl (by simp)))
          · simp only [hpP, outA_cons, outH_cons, List.append_nil, outK_cons] at hQ ⊢
            delta p97_l0 p97_r1 p97_r2 p97_r3 p97_r4
            simp (disch := omega) [oLt, oLe, oLtN, oLeN, nLt, nLe, nLtN, nLeN, hem]
            exact hE _ _ _ .refl (hQ _ _ (EndsP_at [0, 1, 2, 3, 4, 5] (.inr rfl) (by simp) rfl (by simp) rfl (by simp)))
        · obtain ⟨c, hc⟩ : ∃ c, T.getLastD 0 = c := ⟨_, rfl⟩
          rw [hc] at hnb ⊢
          rcases hj with ⟨rfl, h⟩ | ⟨rfl, h⟩
          · simp only [hpP, outA_cons, outH_cons, List.append_nil, outK_cons] at hQ ⊢
            delta p97_l0 p97_r1 p97_r2 p97_r3 p97_r4
            simp (disch := omega) [oLt, oLe, oLtN, oLeN, nLt, nLe, nLtN, nLeN, hem, hnb]
            exact hE _ _ _ .refl (hQ _ _ (EndsP_at [0, 1, 2, 3, 4] (.inr rfl) (by simp) rfl (by simp) rfl (by simp)))
          · simp only [hpP, outA_cons, outH_cons, List.append_nil, outK_cons] at hQ ⊢
            delta p97_l0 p97_r1 p97_r2 p97_r3 p97_r4
            simp (disch := omega) [oLt, oLe, oLtN, oLeN, nLt, nLe, nLtN, nLeN, hem, hnb]
            exact hE _ _ _ .refl (hQ _ _ (EndsP_at [0, 1, 2, 3, 4, 5] (.inr rfl) (by simp) rfl (by simp) rfl (by simp)))
      rcases step97 T hl with rfl | ⟨c, D, hne, hD, hc, hlen, hem, h4, h5⟩
      · exact stop rfl
      · by_cases hcb : c < b
        · have hst : popR b T.length T (x :: r) = popR b D.length D (x :: r ++ [c]) := by
            rw [hlen, popR, if_neg hne, hc, if_pos hcb, hD]
          rw [hst] at hinv
          have fin : ∀ s', ChgT 5 s' (mk97 b 5 D (x :: r ++ [c])) → N s' := fun s' hh => hN s' (5, D, x :: r ++ [c]) (by simp only; omega) ⟨by simp at hl ⊢; omega, hinv, .inr ⟨rfl, by simp at hj ⊢; omega⟩⟩ hh
          clear stop hN hE hQ
          rw [hc]
          have h7 := f96c c x r (by simp at hl; omega)
          rcases hj with ⟨rfl, h⟩ | ⟨rfl, h⟩
          · simp only [hpP, outA_cons, outH_cons, List.append_nil, outK_cons]
            delta p97_l0 p97_r1 p97_r2 p97_r3 p97_r4
            simp (disch := omega) [oLt, oLe, oLtN, oLeN, nLt, nLe, nLtN, nLeN, hem, hcb, h4, h5, h7, basH]
            exact fin _ (.to [0, 1, 2, 3, 4, 13] (by simp [mk97, hpP]))
          · simp only [hpP, outA_cons, outH_cons, List.append_nil, outK_cons]
            delta p97_l0 p97_r1 p97_r2 p97_r3 p97_r4
            simp (disch := omega) [oLt, oLe, oLtN, oLeN, nLt, nLe, nLtN, nLeN, hem, hcb, h4, h5, h7, basH]
            exact fin _ (.to [0, 1, 2, 3, 4, 14] (by simp [mk97, hpP]))
        · refine stop ?_
          rw [hlen, popR, if_neg hne, hc, if_neg hcb]
theorem f97_at {b : Int} {st out : List Int} (h : st.length + out.length ≤ 1000) {args : List AV} {H : HL} {k : Nat} (e : pat97 (b, some (st, out)) = (args, H, k)) : f97 args H k = some (out97 (b, some (st, out))) := famF_at pat97_inj (b, some (st, out)) h e
theorem f97_nil (b : Int) : f97 [vI b, .ptr 0 0, .ptr 1 0] hpN 3 = some (.tup [], hpN, 3) := famF_at pat97_inj (b, none) trivial rfl
end Go.Sx.Lk
end
section
set_option maxRecDepth 4000
namespace Go.Sx.Lk
open Go Go.Sx Go.Proofs
def psR : List Int → List Int → List Int → List Int × List Int
  | [], st, out => (st, out)
  | x :: r, st, out => psR r ((popR x st.length st out).1 ++ [x]) (popR x st.length st out).2
def psd (l : List Int) : List Int := (popR l.length (psR l [] []).1.length (psR l [] []).1 (psR l [] []).2).2
def pat63 (a : List Int × Bool) : List AV × HL × Nat := ([.il (ints a.1) a.1.length a.2, .fn (.func 96) [] [.ptr 0 0]], [(0, .cells [nS])], 1)
def out63 (a : List Int × Bool) : AV × HL × Nat := (.tup [], (0, .cells [outA 1 (psd a.1)]) :: outH 1 (psd a.1), 1 + outK (psd a.1))
theorem pat63_inj (a b : List Int × Bool) (h : pat63 a = pat63 b) : out63 a = out63 b := by
  obtain ⟨a, u⟩ := a
  obtain ⟨b, v⟩ := b
  simp only [pat63, Prod.mk.injEq, List.cons.injEq, AV.il.injEq, true_and, and_true] at h
  rw [ints_inj h.1]
  rfl
noncomputable def f63 := famF (fun a : List Int × Bool => a.1.length ≤ 1000) pat63 out63
noncomputable def s63 : Sp := ⟨63, f63⟩
@[simp] theorem s63_g : s63.g = 63 := rfl
@[simp] theorem s63_f : s63.f = f63 := rfl
def mk63 (l : List Int) (u : Bool) (st out : List Int) : Nat → ST
  | 0 => ⟨[(0, .il (ints l) l.length u), (3, .ptr 1 0), (4, .ptr 2 0), (5, .fn (.func 97) [] [.ptr 2 0, .ptr 1 0]), (9, .il (ints l) l.length u), (10, vI l.length), (11, vI (0 : Nat))], [(0, .cells [nS]), (1, .cells [.fn (.func 96) [] [.ptr 0 0]]), (2, .cells [nS])], 3⟩
  | i + 1 => ⟨[(0, .il (ints l) l.length u), (3, .ptr 1 0), (4, .ptr 2 0), (5, .fn (.func 97) [] [.ptr 2 0, .ptr 1 0]), (9, .il (ints l) l.length u), (10, vI l.length), (11, vI (i + 1 : Nat))], [(0, .cells [outA 4 out]), (1, .cells [.fn (.func 96) [] [.ptr 0 0]]), (2, .cells [.ref 3 0 st.length 1 none]), (3, .cells (ints st))] ++ outH 4 out, 4 + outK out⟩
set_option maxHeartbeats 4000000 in
theorem s63_ok : s63.ok Try.prog := by
  refine famF_ok ?_
  rintro ⟨l, u⟩ hok
  simp only at hok
  simp only [pat63, out63, hp_eq]
  refine P63.rz (ss := [s97, s67, s96]) ⟨s97_ok, s67_ok, s96_ok, trivial⟩ (by simp) fun Q hQ => ?_
  delta p63 p63_r0 p63_r1 p63_r2 p63_r3
  simp (disch := omega) [oLt, oLe, oLtN, oLeN, nLt, nLe, nLtN, nLeN, effMkfn]
  refine XZ_for (fun p : Nat × List Int × List Int => mk63 l u p.2.1 p.2.2 p.1) (fun p => l.length - p.1) (fun p => p.1 ≤ l.length ∧ p.2.1.length + p.2.2.length ≤ p.1 ∧ psR (l.drop p.1) p.2.1 p.2.2 = psR l [] []) (0, [], []) ⟨by simp, by simp, rfl⟩ (.to [0, 1, 2] ?_) ?_
  · simp [mk63]
  rintro ⟨i, st, out⟩ ⟨hi, hle, hinv⟩ N Q' hN hE
  simp only at hi hle hinv
  simp only
  rcases Nat.lt_or_ge i l.length with h | h
  · have hic : (i : Int) < l.length := by omega
    obtain ⟨x, r, e1, e2, e3, e4, e5⟩ := drop_split h
    rw [e1] at hinv
    simp only [psR] at hinv
    have hpl := popR_len x st.length st out
    obtain ⟨S, O, hSO⟩ : ∃ S O, popR x st.length st out = (S, O) := ⟨_, _, rfl⟩
    have hfa : st.length + out.length ≤ 1000 → ∀ {args : List AV} {H : HL} {k : Nat}, pat97 (x, some (st, out)) = (args, H, k) → f97 args H k = some (.tup [], hpP (newJ out O) S O, newJ out O + outK O) := fun h1 args H k e => by
      have := f97_at h1 e; simpa only [out97, hSO] using this
    rw [hSO] at hinv hpl
    simp only at hinv hpl
    have fin := fun s' hh => hN s' (i + 1, S ++ [x], O) (by simp only; omega) ⟨h, by simp; omega, by rw [e4]; exact hinv⟩ hh
    clear hN hE hQ hinv
    have hf : ∀ S : List Int, S.length ≤ 1000 → f67 [.ptr 0 0, vI x] [(0, .cells [.ref 1 0 S.length 1 none]), (1, .cells (ints S))] 2 = some (.tup [], [(0, .cells [.ref 2 0 (S.length + 1) 1 none]), (2, .cells (ints (S ++ [x])))], 3) := fun S h => by
      have : small S = true := by simp [small]; omega
      simp [f67, this]
    have hfn : f67 [.ptr 0 0, vI x] [(0, .cells [nS])] 1 = some (.tup [], [(0, .cells [.ref 1 0 1 1 none]), (1, .cells [vI x])], 2) := by simp [f67]
    have hgn : f96 [.v (.int .u8 105), vI x, .ptr 0 0] [(0, .cells [nS])] 1 = some (.tup [], [(0, .cells [nS])], 1) := by simp [f96, f67]
    have hg : ∀ (y : Int) (O : List Int), O.length ≤ 1000 → f96 [.v (.int .u8 105), vI x, .ptr 0 0] [(0, .cells [.ref 1 0 (O.length + 1) 1 none]), (1, .cells (vI y :: ints O))] 2 = some (.tup [], [(0, .cells [.ref 1 0 (O.length + 1) 1 none]), (1, .cells (vI y :: ints O))], 2) := fun y O h => by
      have : small (y :: O) = true := by simp [small]; omega
      simp [f96, f67, this]
    rcases i with _ | i
    · have h1 : st = [] := List.length_eq_zero_iff.1 (by omega)
      have h2 : out = [] := List.length_eq_zero_iff.1 (by omega)
      subst h1 h2
      have h3 : ([] : List Int) = S ∧ ([] : List Int) = O := by simpa [popR] using hSO
      obtain ⟨rfl, rfl⟩ := h3
      simp only [mk63, outA_nil, outH_nil, outK_nil] at fin ⊢
      have hf97 := f97_nil x
      simp only [hpN] at hf97
      delta p63_l0 p63_r4 p63_r5 p63_r6 p63_r7 p63_r8 p63_r9
      simp (disch := omega) [oLt, oLe, oLtN, oLeN, nLt, nLe, nLtN, nLeN, hic, h, e2, e3, hf97, hfn, hgn]
      exact fin _ (.to [0, 1, 2, 10] (by simp))
    · have hls : st.length + out.length ≤ 1000 := by omega
      cases out with
      | nil =>
        have hf97 := hfa hls (rfl : pat97 (x, some (st, [])) = ([vI x, .ptr 0 0, .ptr 2 0], hpP 4 st [], 4 + outK []))
        have hj : newJ [] O = 4 := rfl
        have hp := hf S (by omega)
        cases O with
        | nil =>
          simp only [hj, hpP, outA_nil, outH_nil, outK_nil, List.append_nil, List.cons_append, List.nil_append, mk63] at hf97 fin ⊢
          delta p63_l0 p63_r4 p63_r5 p63_r6 p63_r7 p63_r8 p63_r9
          simp (disch := omega) [oLt, oLe, oLtN, oLeN, nLt, nLe, nLtN, nLeN, hic, h, e2, e3, hf97, hp, hgn]
          exact fin _ (.toF (fun h => [0, 1, 2, via h 2]) (by simp))
        | cons y O =>
          have hgy := hg y O (by simp at hpl; omega)
          simp only [hj, hpP, outA_nil, outH_nil, outK_nil, outA_cons, outH_cons, outK_cons, List.append_nil, List.cons_append, List.nil_append, mk63] at hf97 fin ⊢
          delta p63_l0 p63_r4 p63_r5 p63_r6 p63_r7 p63_r8 p63_r9
          simp (disch := omega) [oLt, oLe, oLtN, oLeN, nLt, nLe, nLtN, nLeN, hic, h, e2, e3, hf97, hp, hgy]
          exact fin _ (.toF (fun h => [0, 1, 2, via h 2, via h 0]) (by simp))
      | cons z o =>
        have hf97 := hfa hls (rfl : pat97 (x, some (st, z :: o)) = ([vI x, .ptr 0 0, .ptr 2 0], hpP 4 st (z :: o), 4 + outK (z :: o)))
        have hp := hf S (by omega)
        have hpe := popR_le x st.length st (z :: o)
        rw [hSO] at hpe
        simp only [List.length_cons] at hpe hpl hls
        cases O with
        | nil => simp at hpl; omega
        | cons y O =>
          simp only [List.length_cons] at hpl
          have hgy := hg y O (by omega)
          by_cases hjl : (y :: O).length = (z :: o).length
          · have hj : newJ (z :: o) (y :: O) = 4 := by simp only [newJ]; rw [if_neg (by simp), if_pos hjl]
            simp only [hj, hpP, outA_nil, outH_nil, outK_nil, outA_cons, outH_cons, outK_cons, List.append_nil, List.cons_append, List.nil_append, mk63] at hf97 fin ⊢
            delta p63_l0 p63_r4 p63_r5 p63_r6 p63_r7 p63_r8 p63_r9
            simp (disch := omega) [oLt, oLe, oLtN, oLeN, nLt, nLe, nLtN, nLeN, hic, h, e2, e3, hf97, hp, hgy]
            exact fin _ (.toF (fun h => [0, 1, 2, via h 2, via h 0]) (by simp))
          · have hj : newJ (z :: o) (y :: O) = 5 := by simp only [newJ]; rw [if_neg (by simp), if_neg hjl]
            simp only [hj, hpP, outA_nil, outH_nil, outK_nil, outA_cons, outH_cons, outK_cons, List.append_nil, List.cons_append, List.nil_append, mk63] at hf97 fin ⊢
            delta p63_l0 p63_r4 p63_r5 p63_r6 p63_r7 p63_r8 p63_r9
            simp (disch := omega) [oLt, oLe, oLtN, oLeN, nLt, nLe, nLtN, nLeN, hic, h, e2, e3, hf97, hp, hgy]
            exact fin _ (.toF (fun h => [0, 1, 2, via h 2, via h 0]) (by simp))
  · obtain rfl : i = l.length := by omega
    have hic : ¬ (l.length : Int) < l.length := by omega
    rw [List.drop_eq_nil_of_le (Nat.le_refl _)] at hinv
    simp only [psR] at hinv
    have hpd : psd l = (popR l.length st.length st out).2 := by unfold psd; rw [← hinv]
    rw [hpd] at hQ
    clear hpd hinv
    rcases hl0 : l.length with _ | i
    · have hlc : (l.length : Int) = 0 := by omega
      have h1 : st = [] := List.length_eq_zero_iff.1 (by omega)
      have h2 : out = [] := List.length_eq_zero_iff.1 (by omega)
      subst h1 h2
      have hf97 := f97_nil 0
      simp only [hpN] at hf97
      simp only [popR, List.length_nil, outA_nil, outH_nil, outK_nil] at hQ
      simp only [mk63]
      delta p63_l0 p63_r4 p63_r5 p63_r6 p63_r7 p63_r8 p63_r9
      simp (disch := omega) [oLt, oLe, oLtN, oLeN, nLt, nLe, nLtN, nLeN, hlc]
      refine hE _ _ _ .refl ?_
      delta p63_r10
      simp (disch := omega) [oLt, oLe, oLtN, oLeN, nLt, nLe, nLtN, nLeN, hf97, hlc]
      exact hQ _ _ (EndsP_F (fun h => [0]) (.inr rfl) rfl (by simp))
    · have hlc : (l.length : Int) = i + 1 := by omega
      have hpl := popR_len l.length st.length st out
      obtain ⟨S, O, hSO⟩ : ∃ S O, popR l.length st.length st out = (S, O) := ⟨_, _, rfl⟩
      have hfa : st.length + out.length ≤ 1000 → ∀ {args : List AV} {H : HL} {k : Nat}, pat97 ((l.length : Int), some (st, out)) = (args, H, k) → f97 args H k = some (.tup [], hpP (newJ out O) S O, newJ out O + outK O) := fun h1 args H k e => by
        have := f97_at h1 e; simpa only [out97, hSO] using this
      rw [hSO] at hQ hpl
      simp only at hQ hpl
      have hls : st.length + out.length ≤ 1000 := by omega
      cases out with
      | nil =>
        have hf97 := hfa hls (rfl : pat97 ((l.length : Int), some (st, [])) = ([vI l.length, .ptr 0 0, .ptr 2 0], hpP 4 st [], 4 + outK []))
        have hj : newJ [] O = 4 := rfl
        cases O with
        | nil =>
          simp only [hj, hpP, outA_nil, outH_nil, outK_nil, List.append_nil, List.cons_append, List.nil_append, mk63] at hf97 hQ ⊢
          delta p63_l0 p63_r4 p63_r5 p63_r6 p63_r7 p63_r8 p63_r9
          simp (disch := omega) [oLt, oLe, oLtN, oLeN, nLt, nLe, nLtN, nLeN, hlc]
          refine hE _ _ _ .refl ?_
          delta p63_r10
          rw [hlc] at hf97
          simp (disch := omega) [oLt, oLe, oLtN, oLeN, nLt, nLe, nLtN, nLeN, hf97, hlc]
          exact hQ _ _ (EndsP_F (fun h => [0]) (.inr rfl) rfl (by simp))
        | cons y O =>
          simp only [hj, hpP, outA_nil, outH_nil, outK_nil, outA_cons, outH_cons, outK_cons, List.append_nil, List.cons_append, List.nil_append, mk63] at hf97 hQ ⊢
          delta p63_l0 p63_r4 p63_r5 p63_r6 p63_r7 p63_r8 p63_r9
          simp (disch := omega) [oLt, oLe, oLtN, oLeN, nLt, nLe, nLtN, nLeN, hlc]
          refine hE _ _ _ .refl ?_
          delta p63_r10
          rw [hlc] at hf97
          simp (disch := omega) [oLt, oLe, oLtN, oLeN, nLt, nLe, nLtN, nLeN, hf97, hlc]
          exact hQ _ _ (EndsP_F (fun h => [0, via h 0]) (.inr rfl) rfl (by simp))
      | cons z o =>
        have hf97 := hfa hls (rfl : pat97 ((l.length : Int), some (st, z :: o)) = ([vI l.length, .ptr 0 0, .ptr 2 0], hpP 4 st (z :: o), 4 + outK (z :: o)))
        have hpe := popR_le l.length st.length st (z :: o)
        rw [hSO] at hpe
        simp only [List.length_cons] at hpe hpl hls
        cases O with
        | nil => simp at hpl; omega
        | cons y O =>
          by_cases hjl : (y :: O).length = (z :: o).length
          · have hj : newJ (z :: o) (y :: O) = 4 := by simp only [newJ]; rw [if_neg (by simp), if_pos hjl]
            simp only [hj, hpP, outA_nil, outH_nil, outK_nil, outA_cons, outH_cons, outK_cons, List.append_nil, List.cons_append, List.nil_append, mk63] at hf97 hQ ⊢
            delta p63_l0 p63_r4 p63_r5 p63_r6 p63_r7 p63_r8 p63_r9
            simp (disch := omega) [oLt, oLe, oLtN, oLeN, nLt, nLe, nLtN, nLeN, hlc]
            refine hE _ _ _ .refl ?_
            delta p63_r10
            rw [hlc] at hf97
            simp (disch := omega) [oLt, oLe, oLtN, oLeN, nLt, nLe, nLtN, nLeN, hf97, hlc]
            exact hQ _ _ (EndsP_F (fun h => [0, via h 0]) (.inr rfl) rfl (by simp))
          · have hj : newJ (z :: o) (y :: O) = 5 := by simp only [newJ]; rw [if_neg (by simp), if_neg hjl]
            simp only [hj, hpP, outA_nil, outH_nil, outK_nil, outA_cons, outH_cons, outK_cons, List.append_nil, List.cons_append, List.nil_append, mk63] at hf97 hQ ⊢
            delta p63_l0 p63_r4 p63_r5 p63_r6 p63_r7 p63_r8 p63_r9
            simp (disch := omega) [oLt, oLe, oLtN, oLeN, nLt, nLe, nLtN, nLeN, hlc]
            refine hE _ _ _ .refl ?_
            delta p63_r10
            rw [hlc] at hf97
            simp (disch := omega) [oLt, oLe, oLtN, oLeN, nLt, nLe, nLtN, nLeN, hf97, hlc]
            exact hQ _ _ (EndsP_F (fun h => [0, via h 0]) (.inr rfl) rfl (by simp))
end Go.Sx.Lk
end
section
set_option maxRecDepth 4000
namespace Go.Sx.Lk
open Go Go.Sx Go.Proofs
set_option maxHeartbeats 2000000
theorem f63_at (l : List Int) (u : Bool) (h : l.length ≤ 1000) : f63 [.il (ints l) l.length u, .fn (.func 96) [] [.ptr 0 0]] [(0, .cells [nS])] 1 = some (.tup [], (0, .cells [outA 1 (psd l)]) :: outH 1 (psd l), 1 + outK (psd l)) := famF_at pat63_inj (l, u) h rfl
def sml (l : List Int) : Bool := decide (l.length ≤ 1000)
theorem small_of_sml {l : List Int} (h : sml l = true) : small l = true := by simp [sml, small] at *; omega
theorem psR_len : ∀ l st out, (psR l st out).1.length + (psR l st out).2.length = l.length + st.length + out.length
  | [], st, out => by simp [psR]
  | x :: r, st, out => by
    have h := popR_len x st.length st out
    simp only [psR]; rw [psR_len r]; simp; omega
theorem psd_len (l : List Int) : (psd l).length ≤ l.length := by
  have h1 := psR_len l [] []
  have h2 := popR_len l.length (psR l [] []).1.length (psR l [] []).1 (psR l [] []).2
  simp at h1
  unfold psd
  omega
theorem psd_sml {l : List Int} (h : sml l = true) : sml (psd l) = true := by have := psd_len l; simp [sml] at *; omega
@[simp] theorem f63_il (a b c d e f : AV) (h : HL) (k : Nat) : f63 [a] h k = none := by
  unfold f63 famF
  rw [dif_neg]
  rintro ⟨a, _, e⟩
  simp [pat63] at e
def s61 : Sp := spT 61 [.l] fun (l : List Int) => res (sml l) (.il (ints (psd l)) (psd l).length false)
@[simp] theorem s61_g : s61.g = 61 := rfl
@[simp] theorem s61_f : s61.f = (spT 61 [.l] fun (l : List Int) => res (sml l) (.il (ints (psd l)) (psd l).length false)).f := rfl
theorem s61_ok : s61.ok Try.prog := by
  apply spT_ok
  simp only [OkT, Ty.all, List.nil_append, List.cons_append]
  intro (l : List Int) u
  apply okT_res; intro hg
  refine P61.rz (ss := [s63, s96]) ⟨s63_ok, s96_ok, trivial⟩ (by simp) fun Q hQ => ?_
  delta p61 p61_r0 p61_r1 p61_r2 p61_r3
  have hf := f63_at l u (by simpa [sml] using hg)
  cases hp : psd l with
  | nil =>
    rw [hp] at hf
    simp only [outA_nil, outH_nil, outK_nil] at hf
    simp (disch := omega) [oLt, oLe, oLtN, oLeN, nLt, nLe, nLtN, nLeN, hf]
    exact hQ _ _ (.fz [2] _ (.inl rfl) (by simp; rfl) (by simp [hp]) (by simp))
  | cons x r =>
    rw [hp] at hf
    simp only [outA_cons, outH_cons, outK_cons] at hf
    simp (disch := omega) [oLt, oLe, oLtN, oLeN, nLt, nLe, nLtN, nLeN, hf]
    exact hQ _ _ (.fz [2] _ (.inl rfl) (by simp; rfl) (by simp [hp]) (by simp))
theorem chkF_len {l : List Int} (h : chkF l = 0) : 0 < l.length ∧ l.length ≤ 7 := by
  unfold chkF at h
  split at h
  · simp at h
  · omega
theorem chkF_sml {l : List Int} (h : chkF l = 0) : sml l = true := by have := chkF_len h; simp [sml]; omega
def pssR : Nat → List Int → Nat → Option Nat
  | 0, _, _ => none
  | f + 1, l, n => if srtB l = true then some n else pssR f (psd l) (n + 1)
def pssF (l : List Int) : Option Nat := pssR (l.length + 1) l 0
def s76 : Sp := spT 76 [.l] fun (l : List Int) => res (sml l && (pssF l).isSome) (vI ((pssF l).getD 0))
@[simp] theorem s76_g : s76.g = 76 := rfl
@[simp] theorem s76_f : s76.f = (spT 76 [.l] fun (l : List Int) => res (sml l && (pssF l).isSome) (vI ((pssF l).getD 0))).f := rfl
theorem s76_ok : s76.ok Try.prog := by
  apply spT_ok
  simp only [OkT, Ty.all, List.nil_append, List.cons_append]
  intro (l : List Int) u
  apply okT_res; intro hg
  refine P76.rz (ss := [s52, s61]) ⟨s52_ok, s61_ok, trivial⟩ (by simp) fun Q hQ => ?_
  delta p76 p76_r0 p76_r1
  simp only [Bool.and_eq_true, Option.isSome_iff_exists] at hg
  obtain ⟨hs, m, hm⟩ := hg
  simp (disch := omega) [oLt, oLe, oLtN, oLeN, nLt, nLe, nLtN, nLeN]
  refine XZ_for (fun p : Nat × List Int × Nat × Bool => ⟨[(0, .il (ints p.2.1) p.2.1.length p.2.2.2), (3, vI p.2.2.1)], [], 0⟩) (fun p => p.1) (fun p => sml p.2.1 = true ∧ p.1 + p.2.2.1 ≤ 1001 ∧ pssR p.1 p.2.1 p.2.2.1 = some m) (l.length + 1, l, 0, u) ⟨hs, by simp [sml] at hs; simp only; omega, hm⟩ (.to [] (by simp)) ?_
  rintro ⟨f, L, n, v⟩ ⟨h1, h2, hinv⟩ N Q' hN hE
  simp only at h1 h2 hinv ⊢
  have h1' := small_of_sml h1
  rcases f with _ | f
  · simp [pssR] at hinv
  simp only [pssR] at hinv
  cases hb : srtB L with
  | true =>
    rw [if_pos hb] at hinv
    cases hinv
    delta p76_l0 p76_r2 p76_r3 p76_r4
    simp (disch := omega) [oLt, oLe, oLtN, oLeN, nLt, nLe, nLtN, nLeN, h1', hb]
    refine hE _ _ _ .refl ?_
    delta p76_r5
    simp (disch := omega) [oLt, oLe, oLtN, oLeN, nLt, nLe, nLtN, nLeN]
    exact hQ _ _ (.p (.inl rfl) (by simp [hm]) rfl)
  | false =>
    rw [if_neg (by simp [hb])] at hinv
    delta p76_l0 p76_r2 p76_r3 p76_r4
    simp (disch := omega) [oLt, oLe, oLtN, oLeN, nLt, nLe, nLtN, nLeN, h1', h1, hb]
    exact hN _ (f, psd L, n + 1, false) (by simp) ⟨psd_sml h1, by simp only; omega, hinv⟩ (.to [] (by simp))
end Go.Sx.Lk
end
section
set_option maxRecDepth 4000
namespace Go.Sx.Lk
open Go Go.Sx Go.Proofs
abbrev vQ (n : Nat) : AV := .v (.int .u64 (n : Int))
@[simp] theorem bin_eff (P : Program) (ρ : Operand → AV) (op : BinOp) (t : TypeId) (x y : Operand) : SOp.eff P ρ (.bin op t x y) = effPlain2 P (fun u v => do eqGuard op t x y u v; binOp op t u v) (ρ x) (ρ y) := rfl
theorem wrap64 {n : Nat} (h : n < 18446744073709551616) : IntKind.u64.wrap (n : Int) = n := by
  have : IntKind.u64.bits = 64 := rfl
  have h2 : IntKind.u64.signed = false := rfl
  simp only [IntKind.wrap, this, h2, Bool.false_and, Bool.false_eq_true, if_false]
  omega
theorem or64 (x y : Operand) {a b : Nat} (ha : a < 65536) (hb : b < 65536) : effPlain2 Try.prog (fun u v => do eqGuard .or 96 x y u v; binOp .or 96 u v) (vQ a) (vQ b) = ret (vQ (a ||| b)) := by
  have e1 : a % 2 ^ IntKind.u64.bits = a := Nat.mod_eq_of_lt (by show a < 18446744073709551616; omega)
  have e2 : b % 2 ^ IntKind.u64.bits = b := Nat.mod_eq_of_lt (by show b < 18446744073709551616; omega)
  have h2 : a ||| b < 65536 := Nat.or_lt_two_pow (n := 16) ha hb
  simp [vQ, effPlain2, AV.val, eqGuard, binOp, Op.intBits, pureRun, e1, e2, wrap64 (show a ||| b < 18446744073709551616 by omega), ofVal, Value.oneCell', ret]
theorem and64 (x y : Operand) {a : Nat} (ha : a < 65536) : effPlain2 Try.prog (fun u v => do eqGuard .and 96 x y u v; binOp .and 96 u v) (vQ a) (.v (.int .u64 1)) = ret (vQ (a % 2)) := by
  have e1 : a % 2 ^ IntKind.u64.bits = a := Nat.mod_eq_of_lt (by show a < 18446744073709551616; omega)
  have e2 : 1 % 2 ^ IntKind.u64.bits = 1 := by decide
  have h2 : a % 2 < 18446744073709551616 := by omega
  have e3 : IntKind.u64.wrap ((a : Int) % 2) = (a : Int) % 2 := by
    have := wrap64 h2
    simpa using this
  simp [vQ, effPlain2, AV.val, eqGuard, binOp, Op.intBits, pureRun, e1, e2, e3, Nat.and_one_is_mod, ofVal, Value.oneCell', ret]
theorem shr64 (x y : Operand) {a p : Nat} (ha : a < 65536) (hp : p < 16) : effPlain2 Try.prog (fun u v => do eqGuard .shr 96 x y u v; binOp .shr 96 u v) (vQ a) (vI p) = ret (vQ (a / 2 ^ p)) := by
  have h0 : ¬ (p : Int) < 0 := by omega
  have h1 : min p 64 = p := by omega
  have h2 : (a : Int).fdiv (2 ^ p) = (a : Int) / 2 ^ p := by
    have e : (2 ^ p : Int) = ((2 ^ p : Nat) : Int) := by simp
    have e2 : (0 : Int) ≤ ((2 ^ p : Nat) : Int) := Int.natCast_nonneg _
    rw [e, Int.fdiv_eq_ediv_of_nonneg _ e2]
  simp [vQ, effPlain2, AV.val, eqGuard, binOp, Op.shift, pureRun, h0, IntKind.bits, h1, h2, ofVal, Value.oneCell', ret]
theorem shl64 (x y : Operand) {p : Nat} (hp : p < 16) : effPlain2 Try.prog (fun u v => do eqGuard .shl 96 x y u v; binOp .shl 96 u v) (.v (.int .u64 1)) (vI p) = ret (vQ (2 ^ p)) := by
  have h0 : ¬ (p : Int) < 0 := by omega
  have h1 : min p 64 = p := by omega
  have h3 : 2 ^ p < 2 ^ 16 := Nat.pow_lt_pow_right (by omega) hp
  have h4 : IntKind.u64.wrap (2 ^ p) = 2 ^ p := by
    have := wrap64 (n := 2 ^ p) (by omega)
    simpa using this
  simp [vQ, effPlain2, AV.val, eqGuard, binOp, Op.shift, pureRun, h0, IntKind.bits, h1, h4, ofVal, Value.oneCell', ret]
theorem bit_at (a q : Nat) : (a / 2 ^ q % 2 = 1) ↔ a.testBit q = true := by
  rw [Nat.testBit_eq_decide_div_mod_eq, decide_eq_true_eq]
end Go.Sx.Lk
end
section
set_option maxRecDepth 4000
namespace Go.Sx.Lk
open Go Go.Sx Go.Proofs
def idxR (x : Int) : List Int → Int → Int
  | [], _ => -1
  | y :: r, i => if y = x then i else idxR x r (i + 1)
def idxL (l : List Int) (x : Int) : Int := idxR x l 0
set_option maxHeartbeats 2000000
end Go.Sx.Lk
end
section
set_option maxRecDepth 4000
namespace Go.Sx.Lk
open Go Go.Sx Go.Proofs
set_option maxHeartbeats 2000000
def mxR : Int → List Int → Int
  | m, [] => m
  | m, y :: r => mxR (if m < y then y else m) r
def mxL : List Int → Int
  | [] => 0
  | x :: r => mxR x r
end Go.Sx.Lk
end
section
set_option maxRecDepth 4000
namespace Go.Sx
end Go.Sx
namespace Go.Sx.Lk
open Go Go.Sx Go.Proofs
set_option maxHeartbeats 20000000
theorem mxR_mem : ∀ (l : List Int) (m : Int), mxR m l = m ∨ mxR m l ∈ l
  | [], m => .inl rfl
  | y :: r, m => by
    simp only [mxR]
    rcases mxR_mem r (if m < y then y else m) with h | h
    · split at h
      · exact .inr (by rw [if_pos ‹_›, h]; simp)
      · exact .inl (by rw [if_neg ‹_›, h])
    · exact .inr (by simp [h])
theorem mxL_mem {l : List Int} (h : l ≠ []) : mxL l ∈ l := by
  cases l with
  | nil => exact absurd rfl h
  | cons x r => rcases mxR_mem r x with h | h <;> simp [mxL, h]
theorem idxR_mem {x : Int} : ∀ {l : List Int} {i : Int}, x ∈ l → ∃ k : Nat, k < l.length ∧ idxR x l i = i + k ∧ l[k]? = some x
  | [], i, h => by simp at h
  | y :: r, i, h => by
    simp only [idxR]
    by_cases e : y = x
    · rw [if_pos e]; exact ⟨0, by simp, by simp, by simp [e]⟩
    · rw [if_neg e]
      obtain ⟨k, h1, h2, h3⟩ := idxR_mem (l := r) (i := i + 1) (by rcases List.mem_cons.1 h with h | h; exact absurd h.symm e; exact h)
      exact ⟨k + 1, by simp; omega, by omega, by simpa using h3⟩
theorem idxL_mem {l : List Int} {x : Int} (h : x ∈ l) : ∃ k : Nat, k < l.length ∧ idxL l x = k ∧ l[k]? = some x := by
  obtain ⟨k, h1, h2, h3⟩ := idxR_mem (i := 0) h
  exact ⟨k, h1, by simpa [idxL] using h2, h3⟩
def lpR : Nat → List Int → List Int
  | 0, _ => []
  | f + 1, l => if l = [] then [] else lpR f (l.take (idxL l (mxL l)).toNat) ++ lpR f (l.drop ((idxL l (mxL l)).toNat + 1)) ++ [mxL l]
def lpF (l : List Int) : List Int := lpR l.length l
theorem lpR_any : ∀ {n m : Nat} {l : List Int}, l.length ≤ n → l.length ≤ m → lpR n l = lpR m l
  | 0, m, l, h, _ => by
    obtain rfl : l = [] := List.length_eq_zero_iff.1 (by omega)
    cases m <;> simp [lpR]
  | n + 1, 0, l, _, h => by
    obtain rfl : l = [] := List.length_eq_zero_iff.1 (by omega)
    simp [lpR]
  | n + 1, m + 1, l, h1, h2 => by
    simp only [lpR]
    by_cases h : l = []
    · rw [if_pos h, if_pos h]
    · rw [if_neg h, if_neg h]
      obtain ⟨k, e1, e2, e3⟩ := idxL_mem (mxL_mem h)
      rw [e2, Int.toNat_natCast, lpR_any (n := n) (m := m) (by simp; omega) (by simp; omega), lpR_any (n := n) (m := m) (l := l.drop (k + 1)) (by simp; omega) (by simp; omega)]
theorem lpF_nil : lpF [] = [] := rfl
theorem lpF_step {l : List Int} {k : Nat} (h : l ≠ []) (hk : idxL l (mxL l) = k) (hl : k < l.length) : lpF l = lpF (l.take k) ++ lpF (l.drop (k + 1)) ++ [mxL l] := by
  unfold lpF
  obtain ⟨n, hn⟩ : ∃ n, l.length = n + 1 := ⟨l.length - 1, by omega⟩
  rw [hn, lpR, if_neg h, hk, Int.toNat_natCast, lpR_any (n := n) (m := (l.take k).length) (by simp; omega) (Nat.le_refl _), lpR_any (n := n) (m := (l.drop (k + 1)).length) (by simp; omega) (Nat.le_refl _)]
theorem lpF_len : ∀ (n : Nat) (l : List Int), l.length ≤ n → (lpF l).length = l.length
  | 0, l, h => by obtain rfl : l = [] := List.length_eq_zero_iff.1 (by omega); rfl
  | n + 1, l, h => by
    by_cases h0 : l = []
    · subst h0; rfl
    · obtain ⟨k, e1, e2, e3⟩ := idxL_mem (mxL_mem h0)
      rw [lpF_step h0 e2 e1]
      simp only [List.length_append, List.length_singleton]
      rw [lpF_len n _ (by simp; omega), lpF_len n _ (by simp; omega)]
      simp; omega
end Go.Sx.Lk
end
