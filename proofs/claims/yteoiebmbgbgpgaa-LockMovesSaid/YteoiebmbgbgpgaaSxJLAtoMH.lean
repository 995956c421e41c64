/- What functions of the lock layer return: lists compared, an order checked, a list in order. No conditions. -/
import Derived.Test.YteoiebmbgbgpgaaSxJLH0toPLa
import Derived.Test.YteoiebmbgbgpgaaSxJSttoSd
import Derived.Test.YteoiebmbgbgpgaaSxJNtoNq
import Derived.KernelRfl
import Derived.Test.YteoiebmbgbgpgaaProg
set_option linter.unusedVariables false
set_option linter.unusedSimpArgs false
section
set_option maxRecDepth 4000
namespace Go.Sx
theorem drop_split {α : Type} {l : List α} {i : Nat} (h : i < l.length) : ∃ x r, l.drop i = x :: r ∧ l[i]? = some x ∧ l[i] = x ∧ l.drop (i + 1) = r ∧ x ∈ l :=
  ⟨l[i], l.drop (i + 1), List.drop_eq_getElem_cons h, by simp [h], rfl, rfl, List.getElem_mem h⟩
end Go.Sx
namespace Go.Sx.Lk
open Go Go.Sx Go.Proofs
abbrev vI (n : Int) : AV := .v (.int .i64 n)
abbrev vB (b : Bool) : AV := .v (.bool b)
def small (l : List Int) : Bool := decide (l.length ≤ 1000000)
set_option maxHeartbeats 2000000
theorem drop_eq_of_lt {α : Type} {a b : List α} {i : Nat} {x y : α} (hx : a[i]? = some x) (hy : b[i]? = some y) : (a.drop i = b.drop i) ↔ x = y ∧ a.drop (i + 1) = b.drop (i + 1) := by
  obtain ⟨h1, e1⟩ := List.getElem?_eq_some_iff.1 hx
  obtain ⟨h2, e2⟩ := List.getElem?_eq_some_iff.1 hy
  rw [List.drop_eq_getElem_cons h1, List.drop_eq_getElem_cons h2, e1, e2, List.cons.injEq]
def s22 : Sp := spT 22 [.l, .l] fun (a : List Int) (b : List Int) => res (small a) (vB (decide (a = b)))
@[simp] theorem s22_g : s22.g = 22 := rfl
@[simp] theorem s22_f : s22.f = (spT 22 [.l, .l] fun (a : List Int) (b : List Int) => res (small a) (vB (decide (a = b)))).f := rfl
theorem s22_ok : s22.ok Try.prog := by
  apply spT_ok
  simp only [OkT, Ty.all, List.nil_append, List.cons_append]
  intro (a : List Int) u (b : List Int) v
  apply okT_res; intro hg
  refine P22.rz (ss := []) trivial (by simp) fun Q hQ => ?_
  delta p22 p22_r0 p22_r1 p22_r2 p22_r3
  simp only [small, decide_eq_true_eq] at hg
  by_cases hlen : a.length = b.length
  · have hlc : (a.length : Int) = b.length := by omega
    simp (disch := omega) [oLt, oLe, oLtN, oLeN, nLt, nLe, nLtN, nLeN, hlc]
    refine XZ_for (fun i : Nat => ⟨[(0, .il (ints a) a.length u), (1, .il (ints b) b.length v), (5, vI i)], [], 0⟩) (fun i => a.length - i) (fun i => i ≤ a.length ∧ ((a = b) ↔ a.drop i = b.drop i)) 0 ⟨by simp, by simp⟩ (.to [] (by simp)) ?_
    rintro i ⟨hi, hinv⟩ N Q' hN hE
    rcases Nat.lt_or_ge i a.length with h | h
    · have hic : (i : Int) < a.length := by omega
      have hic2 : (i : Int) < b.length := by omega
      have hb : i < b.length := by omega
      obtain ⟨x, hx⟩ : ∃ x, a[i]? = some x := ⟨a[i], by rw [List.getElem?_eq_getElem h]⟩
      obtain ⟨y, hy⟩ : ∃ y, b[i]? = some y := ⟨b[i], by rw [List.getElem?_eq_getElem hb]⟩
      have hx' := (List.getElem?_eq_some_iff.1 hx).2
      have hy' := (List.getElem?_eq_some_iff.1 hy).2
      rw [drop_eq_of_lt hx hy] at hinv
      by_cases hxy : x = y
      · have hxy' : ¬ x ≠ y := fun h => h hxy
        delta p22_l0 p22_r4 p22_r5 p22_r6 p22_r7
        simp (disch := omega) [oLt, oLe, oLtN, oLeN, nLt, nLe, nLtN, nLeN, hic, hic2, h, hb, hx, hx', hy, hy', hxy]
        exact hN _ (i + 1) (by omega) ⟨h, by rw [hinv]; simp [hxy]⟩ (.to [] (by simp))
      · have hne : ¬ a = b := fun e => hxy (hinv.1 e).1
        delta p22_l0 p22_r4 p22_r5 p22_r6 p22_r7
        simp (disch := omega) [oLt, oLe, oLtN, oLeN, nLt, nLe, nLtN, nLeN, hic, hic2, h, hb, hx, hx', hy, hy', hxy]
        exact hE _ _ _ .refl (hQ _ _ (.p (.inl rfl) (by simp [hne]) rfl))
    · obtain rfl : i = a.length := by omega
      have hic : ¬ (a.length : Int) < a.length := by omega
      have heq : a = b := hinv.2 (by rw [List.drop_eq_nil_of_le (Nat.le_refl _), List.drop_eq_nil_of_le (by omega)])
      delta p22_l0 p22_r4 p22_r5 p22_r6 p22_r7
      simp (disch := omega) [oLt, oLe, oLtN, oLeN, nLt, nLe, nLtN, nLeN, hic, hlc]
      refine hE _ _ _ .refl ?_
      delta p22_r8
      simp (disch := omega) [oLt, oLe, oLtN, oLeN, nLt, nLe, nLtN, nLeN]
      exact hQ _ _ (.p (.inl rfl) (by simp [heq]) rfl)
  · have hlc : ¬ (a.length : Int) = b.length := by omega
    have hne : ¬ a = b := fun e => hlen (by rw [e])
    simp (disch := omega) [oLt, oLe, oLtN, oLeN, nLt, nLe, nLtN, nLeN, hlc]
    exact hQ _ _ (.p (.inl rfl) (by simp [hne]) rfl)
def s70 : Sp := spT 70 [.i, .i] fun (n : Int) (b : Int) => res true (vB (decide (0 ≤ n ∧ n < b)))
@[simp] theorem s70_g : s70.g = 70 := rfl
@[simp] theorem s70_f : s70.f = (spT 70 [.i, .i] fun (n : Int) (b : Int) => res true (vB (decide (0 ≤ n ∧ n < b)))).f := rfl
theorem s70_ok : s70.ok Try.prog := by
  apply spT_ok
  simp only [OkT, Ty.all, List.nil_append, List.cons_append]
  intro (n : Int) (b : Int)
  apply okT_res; intro _
  refine P70.rz (ss := []) trivial (by simp) fun Q hQ => ?_
  delta p70 p70_r0 p70_r1
  by_cases h : 0 ≤ n
  · by_cases h' : n < b
    · simp (disch := omega) [oLt, oLe, oLtN, oLeN, nLt, nLe, nLtN, nLeN, h, h']
      exact hQ _ _ (.p (.inl rfl) (by simp [h, h']) rfl)
    · simp (disch := omega) [oLt, oLe, oLtN, oLeN, nLt, nLe, nLtN, nLeN, h, h']
      exact hQ _ _ (.p (.inl rfl) (by simp [h, h']) rfl)
  · simp (disch := omega) [oLt, oLe, oLtN, oLeN, nLt, nLe, nLtN, nLeN, h]
    exact hQ _ _ (.p (.inl rfl) (by simp [h]) rfl)
def srtB (l : List Int) : Bool := (List.range (l.length - 1)).all fun j => decide (l.getD j 0 ≤ l.getD (j + 1) 0)
theorem srtB_iff (l : List Int) : srtB l = true ↔ ∀ j, j + 1 < l.length → l.getD j 0 ≤ l.getD (j + 1) 0 := by
  simp only [srtB, List.all_eq_true, List.mem_range, decide_eq_true_eq]
  exact ⟨fun h j hj => h j (by omega), fun h j hj => h j (by omega)⟩
end Go.Sx.Lk
end
section
set_option maxRecDepth 4000
namespace Go.Sx.Lk
open Go Go.Sx Go.Proofs
/-! ### The check of an order: 1: too few or too many, 2: no barge, 6: twice -/
def chkR (n : Nat) : List Int → List Bool → Int
  | [], _ => 0
  | x :: r, M => if 0 ≤ x ∧ x < n then (if M.getD x.toNat false then 6 else chkR n r (M.set x.toNat true)) else 2
def Fl7 : List Bool := [false, false, false, false, false, false, false]
def chkF (l : List Int) : Int := if l.length = 0 ∨ 7 < l.length then 1 else chkR l.length l Fl7
theorem bls7 : ([.v (.bool false), .v (.bool false), .v (.bool false), .v (.bool false), .v (.bool false), .v (.bool false), .v (.bool false)] : List AV) = bls Fl7 := rfl
set_option maxHeartbeats 4000000
def s23 : Sp := spT 23 [.l] fun (l : List Int) => res (small l) (vI (chkF l))
@[simp] theorem s23_g : s23.g = 23 := rfl
@[simp] theorem s23_f : s23.f = (spT 23 [.l] fun (l : List Int) => res (small l) (vI (chkF l))).f := rfl
theorem s23_ok : s23.ok Try.prog := by
  apply spT_ok
  simp only [OkT, Ty.all, List.nil_append, List.cons_append]
  intro (l : List Int) u
  apply okT_res; intro hg
  refine P23.rz (ss := [s70]) ⟨s70_ok, trivial⟩ (by simp) fun Q hQ => ?_
  delta p23 p23_r0 p23_r1 p23_r2 p23_r3 p23_r4
  simp only [small, decide_eq_true_eq] at hg
  by_cases h0 : l.length = 0
  · have h0' : (l.length : Int) = 0 := by omega
    have hr : chkF l = 1 := by simp [chkF, h0]
    simp (disch := omega) [oLt, oLe, oLtN, oLeN, nLt, nLe, nLtN, nLeN, h0']
    exact hQ _ _ (.p (.inl rfl) (by simp [hr]) rfl)
  by_cases h7 : 7 < l.length
  · have h0' : ¬ l = [] := fun e => h0 (by simp [e])
    have h7' : (7 : Int) < l.length := by omega
    have hr : chkF l = 1 := by simp [chkF, h7]
    simp (disch := omega) [oLt, oLe, oLtN, oLeN, nLt, nLe, nLtN, nLeN, h0', h7']
    exact hQ _ _ (.p (.inl rfl) (by simp [hr]) rfl)
  have h0' : ¬ l = [] := fun e => h0 (by simp [e])
  have h7' : ¬ (7 : Int) < l.length := by omega
  have hr0 : chkF l = chkR l.length l Fl7 := by simp [chkF, h0, h7]
  simp (disch := omega) [oLt, oLe, oLtN, oLeN, nLt, nLe, nLtN, nLeN, h0', h7', bls7]
  refine XZ_for (fun p : Nat × List Bool => ⟨[(0, .il (ints l) l.length u), (3, .ptr 0 0), (14, .il (ints l) l.length u), (15, vI l.length), (16, vI p.1)], [(0, .cells (bls p.2))], 1⟩) (fun p => l.length - p.1) (fun p => p.1 ≤ l.length ∧ p.2.length = 7 ∧ chkR l.length (l.drop p.1) p.2 = chkF l) (0, Fl7) ⟨by simp, rfl, by simp [hr0]⟩ (.to [9] (by simp)) ?_
  rintro ⟨i, M⟩ ⟨hi, hM, hinv⟩ N Q' hN hE
  simp only at hi hM hinv
  rcases Nat.lt_or_ge i l.length with h | h
  · have hic : (i : Int) < l.length := by omega
    obtain ⟨x, r, e1, e2, e3, e4, e5⟩ := drop_split h
    rw [e1] at hinv
    simp only [chkR] at hinv
    by_cases hx : 0 ≤ x ∧ x < l.length
    · rw [if_pos hx] at hinv
      obtain ⟨k, rfl⟩ := Int.eq_ofNat_of_zero_le hx.1
      have hk7 : k < M.length := by omega
      have hk7' : (k : Int) < 7 := by omega
      have hk : (k : Int) < l.length := hx.2
      obtain ⟨b, hb⟩ : ∃ b, M[k]? = some b := ⟨M[k], by rw [List.getElem?_eq_getElem hk7]⟩
      have hb' := (List.getElem?_eq_some_iff.1 hb).2
      have hg' : M.getD k false = b := by simp [List.getD_eq_getElem?_getD, hb]
      simp only [Int.toNat_natCast, hg'] at hinv
      cases b with
      | true =>
        rw [if_pos rfl] at hinv
        delta p23_l0 p23_r5 p23_r6 p23_r7 p23_r8 p23_r9 p23_r10 p23_r11 p23_r12
        simp (disch := omega) [oLt, oLe, oLtN, oLeN, nLt, nLe, nLtN, nLeN, hic, h, e2, e3, hk, hk7, hk7', hb, hb']
        exact hE _ _ _ .refl (hQ _ _ (.p (.inl rfl) (by simp [← hinv]) rfl))
      | false =>
        rw [if_neg (by simp)] at hinv
        delta p23_l0 p23_r5 p23_r6 p23_r7 p23_r8 p23_r9 p23_r10 p23_r11 p23_r12
        simp (disch := omega) [oLt, oLe, oLtN, oLeN, nLt, nLe, nLtN, nLeN, hic, h, e2, e3, hk, hk7, hk7', hb, hb']
        exact hN _ (i + 1, M.set k true) (by simp only; omega) ⟨h, by simpa using hM, by rw [e4]; exact hinv⟩ (.to [0] (by simp))
    · rw [if_neg hx] at hinv
      by_cases hx1 : 0 ≤ x
      · have hx2 : ¬ x < l.length := fun hh => hx ⟨hx1, hh⟩
        delta p23_l0 p23_r5 p23_r6 p23_r7 p23_r8 p23_r9 p23_r10 p23_r11 p23_r12
        simp (disch := omega) [oLt, oLe, oLtN, oLeN, nLt, nLe, nLtN, nLeN, hic, h, e2, e3, hx1, hx2]
        exact hE _ _ _ .refl (hQ _ _ (.p (.inl rfl) (by simp [← hinv]) rfl))
      · delta p23_l0 p23_r5 p23_r6 p23_r7 p23_r8 p23_r9 p23_r10 p23_r11 p23_r12
        simp (disch := omega) [oLt, oLe, oLtN, oLeN, nLt, nLe, nLtN, nLeN, hic, h, e2, e3, hx1]
        exact hE _ _ _ .refl (hQ _ _ (.p (.inl rfl) (by simp [← hinv]) rfl))
  · obtain rfl : i = l.length := by omega
    have hic : ¬ (l.length : Int) < l.length := by omega
    rw [List.drop_eq_nil_of_le (Nat.le_refl _)] at hinv
    simp only [chkR] at hinv
    delta p23_l0 p23_r5 p23_r6 p23_r7 p23_r8 p23_r9 p23_r10 p23_r11 p23_r12
    simp (disch := omega) [oLt, oLe, oLtN, oLeN, nLt, nLe, nLtN, nLeN, hic]
    refine hE _ _ _ .refl ?_
    delta p23_r13
    simp (disch := omega) [oLt, oLe, oLtN, oLeN, nLt, nLe, nLtN, nLeN]
    exact hQ _ _ (.p (.inl rfl) (by simp [← hinv]) rfl)
end Go.Sx.Lk
end
section
set_option maxRecDepth 4000
namespace Go.Sx.Lk
open Go Go.Sx Go.Proofs
theorem EndsP_at {k : Nat} {rs : List SRes} {r : AV} {H : HL} {e : Exit} {s : ST} (l : List Nat) (he : e = .ret ∨ e = .normal) (hr : resA s.st rs = some (ren (gT l s.nx) r)) (low : lowTo l k = true) (hle : k ≤ l.length) (nd : dist l = true)
    (hh : heapTo l.length (gT l s.nx) s.heap H) : EndsP k rs r l.length H e s := by
  have := cv_to (l := l) (nx := s.nx) (h := s.heap) (h' := H) low hle nd hh
  exact ⟨by rcases he with rfl | rfl <;> trivial, s, .refl, _, this, hr⟩
end Go.Sx.Lk
end
section
set_option maxRecDepth 4000
namespace Go.Sx.Lk
open Go Go.Sx Go.Proofs
def u8s (l : List Int) : List AV := l.map fun n => .v (.int .u8 n)
@[simp] theorem u8s_ren (g : Nat → Nat) (l : List Int) : renL g (u8s l) = u8s l := by induction l with | nil => rfl | cons a l ih => simpa [u8s] using ih
@[simp] theorem u8s_clo (l : List Int) : cloL (u8s l) = true := by induction l with | nil => rfl | cons a l ih => simpa [u8s] using ih
@[simp] theorem u8s_flat (l : List Int) : flatL (u8s l) = true := by induction l with | nil => rfl | cons a l ih => simpa [u8s] using ih
@[simp] theorem u8s_fr (id : Nat) (cs : List AV) (l : List Int) : frL id cs (u8s l) = u8s l := by induction l with | nil => rfl | cons a l ih => simpa [u8s] using ih
attribute [simp] evCall reach idsB idsL ids inA Go.Sx.inL Go.Sx.inM inB allHp enumH gl renB
@[simp] theorem idsL_app9 : ∀ a b : List AV, idsL (a ++ b) = idsL a ++ idsL b
  | [], b => rfl
  | x :: a, b => by cases x <;> simp [idsL, idsL_app9 a b]
@[simp] theorem inL_app9 (p : Nat → Bool) : ∀ a b : List AV, Go.Sx.inL p (a ++ b) = (Go.Sx.inL p a && Go.Sx.inL p b)
  | [], b => by simp
  | x :: a, b => by rw [List.cons_append, Go.Sx.inL, Go.Sx.inL, inL_app9 p a b, Bool.and_assoc]
@[simp] theorem idsL_ints9 : ∀ l : List Int, idsL (ints l) = []
  | [] => rfl
  | x :: l => by rw [ints_cons, idsL, idsL_ints9 l]
@[simp] theorem inL_ints9 (p : Nat → Bool) : ∀ l : List Int, Go.Sx.inL p (ints l) = true
  | [] => rfl
  | x :: l => by rw [ints_cons, Go.Sx.inL, inL_ints9 p l]; rfl
end Go.Sx.Lk
end
section
set_option maxRecDepth 4000
namespace Go.Sx.Lk
open Go Go.Sx Go.Proofs
abbrev nS : AV := .v (.slice none 0 0)
def basH (st : List Int) : HL := [(0, .cells [.ref 1 0 st.length 1 none]), (1, .cells (ints st))]
def f68 : List AV → HL → Nat → Option (AV × HL × Nat) := fun args h k => match args, h, k with
  | [.ptr 0 0], [(0, .cells [.v (.slice none 0 0)])], 1 => some (.tup [vI 0, vB false], [(0, .cells [nS])], 1)
  | [.ptr 0 0], [(0, .cells [.ref 1 0 n 1 none]), (1, .cells cs)], 2 => match unints cs with
    | some st => if n = st.length ∧ small st = true then some (.tup [vI (st.getLastD 0), vB (!st.isEmpty)], basH st, 2) else none
    | none => none
  | _, _, _ => none
def s68 : Sp := ⟨68, f68⟩
@[simp] theorem s68_g : s68.g = 68 := rfl
@[simp] theorem s68_f : s68.f = f68 := rfl
def f67 : List AV → HL → Nat → Option (AV × HL × Nat) := fun args h k => match args, h, k with
  | [.ptr 0 0, .v (.int .i64 x)], [(0, .cells [.v (.slice none 0 0)])], 1 => some (.tup [], [(0, .cells [.ref 1 0 1 1 none]), (1, .cells [vI x])], 2)
  | [.ptr 0 0, .v (.int .i64 x)], [(0, .cells [.ref 1 0 n 1 none]), (1, .cells cs)], 2 => match unints cs with
    | some st => if n = st.length ∧ small st = true then some (.tup [], [(0, .cells [.ref 2 0 (n + 1) 1 none]), (2, .cells (ints (st ++ [x])))], 3) else none
    | none => none
  | _, _, _ => none
def s67 : Sp := ⟨67, f67⟩
@[simp] theorem s67_g : s67.g = 67 := rfl
@[simp] theorem s67_f : s67.f = f67 := rfl
def f69 : List AV → HL → Nat → Option (AV × HL × Nat) := fun args h k => match args, h, k with
  | [.ptr 0 0], [(0, .cells [.ref 1 0 n 1 none]), (1, .cells cs)], 2 => match unints cs with
    | some st => if n = st.length ∧ small st = true ∧ st ≠ [] then some (.tup [], [(0, .cells [.ref 1 0 (n - 1) 1 none]), (1, .cells (ints st.dropLast))], 2) else none
    | none => none
  | _, _, _ => none
def s69 : Sp := ⟨69, f69⟩
@[simp] theorem s69_g : s69.g = 69 := rfl
@[simp] theorem s69_f : s69.f = f69 := rfl
set_option maxHeartbeats 2000000 in
theorem s68_ok : s68.ok Try.prog := by
  intro args h k r h' k' hh
  simp only [s68_f, f68] at hh
  split at hh
  · cases hh
    simp only [hp_eq]
    refine P68.rz (ss := []) trivial (by simp) fun Q hQ => ?_
    delta p68 p68_r0 p68_r1 p68_r2 p68_r3
    simp (disch := omega) [oLt, oLe, oLtN, oLeN, nLt, nLe, nLtN, nLeN]
    exact hQ _ _ (EndsP_at [0] (.inl rfl) (by simp) rfl (by simp) rfl (by simp))
  · split at hh
    · rename_i st hl
      split at hh
      · rename_i hc
        obtain ⟨rfl, hs⟩ := hc
        cases hh
        rw [unints_inv hl]
        have hsl : st.length ≤ 1000000 := by simpa [small] using hs
        simp only [hp_eq]
        rcases List.eq_nil_or_concat st with rfl | ⟨D, c, rfl⟩
        · refine P68.rz (ss := []) trivial (by simp) fun Q hQ => ?_
          delta p68 p68_r0 p68_r1 p68_r2 p68_r3
          simp (disch := omega) [oLt, oLe, oLtN, oLeN, nLt, nLe, nLtN, nLeN]
          exact hQ _ _ (EndsP_at [0, 1] (.inl rfl) (by simp) rfl (by simp) rfl (by simp [basH]))
        · have hne : ¬ (D.length : Int) + 1 = 0 := by omega
          have h1 : (D.length : Int) + 1 - 1 = D.length := by omega
          have hD : D.length ≤ 1000000 := by simp at hsl; omega
          refine P68.rz (ss := []) trivial (by simp) fun Q hQ => ?_
          delta p68 p68_r0 p68_r1 p68_r2 p68_r3
          simp only [List.concat_eq_append, List.length_append, List.length_singleton, ints_app, ints_cons, ints_nil] at *
          simp (disch := omega) [oLt, oLe, oLtN, oLeN, nLt, nLe, nLtN, nLeN, hne, h1]
          exact hQ _ _ (EndsP_at [0, 1] (.inl rfl) (by simp) rfl (by simp) rfl (by simp [basH]))
      · cases hh
    · cases hh
  · cases hh
set_option maxHeartbeats 2000000 in
theorem s67_ok : s67.ok Try.prog := by
  intro args h k r h' k' hh
  simp only [s67_f, f67] at hh
  split at hh
  · cases hh
    simp only [hp_eq]
    refine P67.rz (ss := []) trivial (by simp) fun Q hQ => ?_
    delta p67 p67_r0
    simp (disch := omega) [oLt, oLe, oLtN, oLeN, nLt, nLe, nLtN, nLeN]
    exact hQ _ _ (EndsP_at [0, 8] (.inr rfl) (by simp) rfl (by simp) rfl (by simp))
  · split at hh
    · rename_i st hl
      split at hh
      · rename_i hc
        obtain ⟨rfl, hs⟩ := hc
        cases hh
        rw [unints_inv hl]
        have hsl : st.length ≤ 1000000 := by simpa [small] using hs
        have ht : (ints st).take st.length = ints st := List.take_of_length_le (by simp)
        simp only [hp_eq]
        refine P67.rz (ss := []) trivial (by simp) fun Q hQ => ?_
        delta p67 p67_r0
        simp (disch := omega) [oLt, oLe, oLtN, oLeN, nLt, nLe, nLtN, nLeN, hsl, ht]
        exact hQ _ _ (EndsP_at [0, 1, 9] (.inr rfl) (by simp) rfl (by simp) rfl (by simp))
      · cases hh
    · cases hh
  · cases hh
set_option maxHeartbeats 2000000 in
theorem s69_ok : s69.ok Try.prog := by
  intro args h k r h' k' hh
  simp only [s69_f, f69] at hh
  split at hh
  · split at hh
    · rename_i st hl
      split at hh
      · rename_i hc
        obtain ⟨rfl, hs, hne0⟩ := hc
        cases hh
        rw [unints_inv hl]
        have hsl : st.length ≤ 1000000 := by simpa [small] using hs
        obtain ⟨D, c, rfl⟩ : ∃ D c, st = D ++ [c] := by
          rcases List.eq_nil_or_concat st with h | ⟨D, c, h⟩
          · exact (hne0 h).elim
          · exact ⟨D, c, by simpa using h⟩
        clear hl hne0 hs
        have h1 : (D.length : Int) + 1 - 1 = D.length := by omega
        have hD : D.length ≤ 1000000 := by simp at hsl; omega
        simp only [hp_eq, List.dropLast_concat, List.length_append, List.length_singleton, Nat.add_sub_cancel]
        refine P69.rz (ss := []) trivial (by simp) fun Q hQ => ?_
        delta p69 p69_r0
        simp (disch := omega) [oLt, oLe, oLtN, oLeN, nLt, nLe, nLtN, nLeN, h1, hD]
        have hw : WkB (.cells (ints D ++ [vI c])) (.cells (ints D)) := ⟨by simp, fun i x y hx hy => by
          have hi : i < (ints D).length := (List.getElem?_eq_some_iff.1 hy).1
          rw [List.getElem?_append_left hi, hy] at hx
          cases hx; exact .refl⟩
        refine hQ _ _ (.chg (.weak (s' := ⟨[], [(0, .cells [.ref 1 0 D.length 1 none]), (1, .cells (ints D))], _⟩) trivial ⟨rfl, .refl, rfl, hw, trivial⟩ rfl .refl) (EndsP_at [0, 1] (.inr rfl) (by simp) rfl (by simp) rfl (by simp)))
      · cases hh
    · cases hh
  · cases hh
end Go.Sx.Lk
end
section
set_option maxRecDepth 4000
namespace Go.Sx.Lk
open Go Go.Sx Go.Proofs
def f96 : List AV → HL → Nat → Option (AV × HL × Nat) := fun args h k => match args with
  | [.v (.int .u8 m), .v (.int .i64 x), .ptr 0 0] => if m = 111 then f67 [.ptr 0 0, .v (.int .i64 x)] h k else if m = 105 then (match f67 [.ptr 0 0, .v (.int .i64 x)] h k with
    | some _ => some (.tup [], h, k)
    | none => none) else none
  | _ => none
def s96 : Sp := ⟨96, f96⟩
@[simp] theorem s96_g : s96.g = 96 := rfl
@[simp] theorem s96_f : s96.f = f96 := rfl
theorem f67_cases {x : Int} {h : HL} {k : Nat} {r : AV} {h' : HL} {k' : Nat} (hh : f67 [.ptr 0 0, .v (.int .i64 x)] h k = some (r, h', k')) :
    (h = [(0, .cells [nS])] ∧ k = 1 ∧ r = .tup [] ∧ h' = [(0, .cells [.ref 1 0 1 1 none]), (1, .cells [vI x])] ∧ k' = 2) ∨
    ∃ st : List Int, h = basH st ∧ k = 2 ∧ st.length ≤ 1000000 ∧ r = .tup [] ∧ h' = [(0, .cells [.ref 2 0 (st.length + 1) 1 none]), (2, .cells (ints (st ++ [x])))] ∧ k' = 3 := by
  simp only [f67] at hh
  split at hh
  · cases hh
    rename_i e1
    cases e1
    exact .inl ⟨rfl, rfl, rfl, rfl, rfl⟩
  · rename_i e1
    cases e1
    split at hh
    · rename_i st hl
      split at hh
      · rename_i hc
        obtain ⟨rfl, hs⟩ := hc
        cases hh
        exact .inr ⟨st, by rw [unints_inv hl]; rfl, rfl, by simpa [small] using hs, rfl, rfl, rfl⟩
      · cases hh
    · cases hh
  · cases hh
set_option maxHeartbeats 2000000 in
theorem s96_ok : s96.ok Try.prog := by
  intro args h k r h' k' hh
  simp only [s96_f, f96] at hh
  split at hh
  · rename_i m x
    split at hh
    · rename_i hm
      subst hm
      rcases f67_cases hh with ⟨rfl, rfl, rfl, rfl, rfl⟩ | ⟨st, rfl, rfl, hsl, rfl, rfl, rfl⟩
      · simp only [hp_eq]
        refine P96.rz (ss := []) trivial (by simp) fun Q hQ => ?_
        delta p96 p96_r0 p96_r1
        simp (disch := omega) [oLt, oLe, oLtN, oLeN, nLt, nLe, nLtN, nLeN]
        exact hQ _ _ (EndsP_at [0, 6] (.inr rfl) (by simp) rfl (by simp) rfl (by simp))
      · have ht : (ints st).take st.length = ints st := List.take_of_length_le (by simp)
        simp only [hp_eq, basH]
        refine P96.rz (ss := []) trivial (by simp) fun Q hQ => ?_
        delta p96 p96_r0 p96_r1
        simp (disch := omega) [oLt, oLe, oLtN, oLeN, nLt, nLe, nLtN, nLeN, hsl, ht]
        exact hQ _ _ (EndsP_at [0, 1, 7] (.inr rfl) (by simp) rfl (by simp) rfl (by simp))
    · split at hh
      · rename_i hm
        subst hm
        split at hh
        · rename_i q hq
          obtain ⟨r1, h1, k1⟩ := q
          cases hh
          rcases f67_cases hq with ⟨rfl, rfl, _, _, _⟩ | ⟨st, rfl, rfl, hsl, _, _, _⟩
          · simp only [hp_eq]
            refine P96.rz (ss := []) trivial (by simp) fun Q hQ => ?_
            delta p96 p96_r0 p96_r1
            simp (disch := omega) [oLt, oLe, oLtN, oLeN, nLt, nLe, nLtN, nLeN]
            exact hQ _ _ (EndsP_at [0] (.inr rfl) (by simp) rfl (by simp) rfl (by simp))
          · simp only [hp_eq, basH]
            refine P96.rz (ss := []) trivial (by simp) fun Q hQ => ?_
            delta p96 p96_r0 p96_r1
            simp (disch := omega) [oLt, oLe, oLtN, oLeN, nLt, nLe, nLtN, nLeN]
            exact hQ _ _ (EndsP_at [0, 1] (.inr rfl) (by simp) rfl (by simp) rfl (by simp))
        · cases hh
      · cases hh
  · cases hh
end Go.Sx.Lk
end
section
namespace Go.Sx
noncomputable def famF {α : Type} (ok : α → Prop) (pat : α → List AV × HL × Nat) (out : α → AV × HL × Nat) : List AV → HL → Nat → Option (AV × HL × Nat) := fun args h k => open Classical in
  if hx : ∃ a, ok a ∧ pat a = (args, h, k) then some (out hx.choose) else none
theorem famF_at {α : Type} {ok : α → Prop} {pat : α → List AV × HL × Nat} {out : α → AV × HL × Nat} (hd : ∀ a b, pat a = pat b → out a = out b) (a : α) (ha : ok a) {args : List AV} {h : HL} {k : Nat} (e : pat a = (args, h, k)) : famF ok pat out args h k = some (out a) := by
  have hx : ∃ a, ok a ∧ pat a = (args, h, k) := ⟨a, ha, e⟩
  unfold famF
  rw [dif_pos hx]
  exact congrArg some (hd _ _ (hx.choose_spec.2.trans e.symm))
theorem famF_ok {P : Program} {g : FuncId} {α : Type} {ok : α → Prop} {pat : α → List AV × HL × Nat} {out : α → AV × HL × Nat} (h : ∀ a, ok a → Runs P g (pat a).2.2 (pat a).1 (hp (pat a).2.1) (out a).1 (out a).2.2 (hp (out a).2.1)) : Sp.ok P ⟨g, famF ok pat out⟩ := by
  intro args hh k r h' k' e
  simp only [famF] at e
  split at e
  · rename_i hx
    have hc := hx.choose_spec
    have := h hx.choose hc.1
    rw [hc.2] at this
    simp only [Option.some.injEq] at e
    rw [e] at this
    exact this
  · cases e
theorem ints_inj : ∀ {a b : List Int}, ints a = ints b → a = b
  | [], [], _ => rfl
  | [], y :: b, h => by simp at h
  | x :: a, [], h => by simp at h
  | x :: a, y :: b, h => by
    simp only [ints_cons, List.cons.injEq, AV.v.injEq, Value.int.injEq, true_and] at h
    rw [h.1, ints_inj h.2]
def via (h : HL) (i : Nat) : Nat := match hpF h i with
  | some (.cells (x :: _)) => idOf x
  | _ => 0
def viaC (h : HL) (i c : Nat) : Nat := match hpF h i with
  | some (.cells xs) => idOf (xs.getD c .any)
  | _ => 0
theorem ChgT.toF {k0 : Nat} (F : HL → List Nat) {s s' : ST} (h : s'.nx = (F s.heap).length ∧ lowTo (F s.heap) k0 = true ∧ k0 ≤ (F s.heap).length ∧ dist (F s.heap) = true ∧ envTo (gT (F s.heap) s.nx) s.env s'.env ∧ heapTo (F s.heap).length (gT (F s.heap) s.nx) s.heap s'.heap) : ChgT k0 s s' := .to (F s.heap) h
theorem EndsP_F {k n : Nat} {rs : List SRes} {r : AV} {H : HL} {e : Exit} {s : ST} (F : HL → List Nat) (he : e = .ret ∨ e = .normal) (hn : (F s.heap).length = n) (h : resA s.st rs = some (ren (gT (F s.heap) s.nx) r) ∧ lowTo (F s.heap) k = true ∧ k ≤ (F s.heap).length ∧ dist (F s.heap) = true ∧ heapTo (F s.heap).length (gT (F s.heap) s.nx) s.heap H) : EndsP k rs r n H e s := by
  obtain ⟨hr, low, hle, nd, hh⟩ := h
  subst hn
  have := cv_to (l := F s.heap) (nx := s.nx) (h := s.heap) (h' := H) low hle nd hh
  exact ⟨by rcases he with rfl | rfl <;> trivial, s, .refl, _, this, hr⟩
theorem ChgT.toS {k0 : Nat} (F : ST → List Nat) {s s' : ST} (h : s'.nx = (F s).length ∧ lowTo (F s) k0 = true ∧ k0 ≤ (F s).length ∧ dist (F s) = true ∧ envTo (gT (F s) s.nx) s.env s'.env ∧ heapTo (F s).length (gT (F s) s.nx) s.heap s'.heap) : ChgT k0 s s' := .to (F s) h
def ida (s : ST) (t : Nat) : Nat := idOf (enF s.env t)
@[simp] theorem ida_mk (e : List (Nat × AV)) (h : HL) (n t : Nat) : ida ⟨e, h, n⟩ t = idOf (enF e t) := rfl
@[simp] theorem range2 : List.range 2 = [0, 1] := rfl
@[simp] theorem range3 : List.range 3 = [0, 1, 2] := rfl
@[simp] theorem range4 : List.range 4 = [0, 1, 2, 3] := rfl
@[simp] theorem range5 : List.range 5 = [0, 1, 2, 3, 4] := rfl
@[simp] theorem range6 : List.range 6 = [0, 1, 2, 3, 4, 5] := rfl
@[simp] theorem range7 : List.range 7 = [0, 1, 2, 3, 4, 5, 6] := rfl
@[simp] theorem range8 : List.range 8 = [0, 1, 2, 3, 4, 5, 6, 7] := rfl
@[simp high] theorem low3 (l : List Nat) : lowTo (0 :: 1 :: 2 :: l) 3 = true := by simp [lowTo]
@[simp high] theorem low4 (l : List Nat) : lowTo (0 :: 1 :: 2 :: 3 :: l) 4 = true := by simp [lowTo]
@[simp high] theorem low5 (l : List Nat) : lowTo (0 :: 1 :: 2 :: 3 :: 4 :: l) 5 = true := by simp [lowTo]
@[simp high] theorem low6 (l : List Nat) : lowTo (0 :: 1 :: 2 :: 3 :: 4 :: 5 :: l) 6 = true := by simp [lowTo]
attribute [simp] evCall reach idsB idsL ids inA Go.Sx.inL Go.Sx.inM inB allHp enumH gl renB
attribute [simp] effMkfn via viaC
end Go.Sx
end
section
set_option maxRecDepth 4000
namespace Go.Sx.Lk
open Go Go.Sx Go.Proofs
def outA (id : Nat) (out : List Int) : AV := if out = [] then nS else .ref id 0 out.length 1 none
def outH (id : Nat) (out : List Int) : HL := if out = [] then [] else [(id, .cells (ints out))]
def outK (out : List Int) : Nat := if out = [] then 0 else 1
@[simp] theorem outA_nil (id : Nat) : outA id [] = nS := rfl
@[simp] theorem outA_cons (id : Nat) (x : Int) (r : List Int) : outA id (x :: r) = .ref id 0 (r.length + 1) 1 none := by simp [outA]
@[simp] theorem outH_nil (id : Nat) : outH id [] = [] := rfl
@[simp] theorem outH_cons (id : Nat) (x : Int) (r : List Int) : outH id (x :: r) = [(id, .cells (vI x :: ints r))] := by simp [outH]
@[simp] theorem outK_nil : outK [] = 0 := rfl
@[simp] theorem outK_cons (x : Int) (r : List Int) : outK (x :: r) = 1 := by simp [outK]
def popR (b : Int) : Nat → List Int → List Int → List Int × List Int
  | 0, st, out => (st, out)
  | n + 1, st, out => if st = [] then (st, out) else if st.getLastD 0 < b then popR b n st.dropLast (out ++ [st.getLastD 0]) else (st, out)
def hpP (j : Nat) (st out : List Int) : HL := [(0, .cells [.ref 1 0 st.length 1 none]), (1, .cells (ints st)), (2, .cells [.fn (.func 96) [] [.ptr 3 0]]), (3, .cells [outA j out])] ++ outH j out
def hpN : HL := [(0, .cells [nS]), (1, .cells [.fn (.func 96) [] [.ptr 2 0]]), (2, .cells [nS])]
def newJ (out out' : List Int) : Nat := if out = [] then 4 else if out'.length = out.length then 4 else 5
def pat97 : Int × Option (List Int × List Int) → List AV × HL × Nat
  | (b, some (st, out)) => ([vI b, .ptr 0 0, .ptr 2 0], hpP 4 st out, 4 + outK out)
  | (b, none) => ([vI b, .ptr 0 0, .ptr 1 0], hpN, 3)
def out97 : Int × Option (List Int × List Int) → AV × HL × Nat
  | (b, some (st, out)) => (.tup [], hpP (newJ out (popR b st.length st out).2) (popR b st.length st out).1 (popR b st.length st out).2, newJ out (popR b st.length st out).2 + outK (popR b st.length st out).2)
  | (b, none) => (.tup [], hpN, 3)
def ok97 : Int × Option (List Int × List Int) → Prop
  | (_, some (st, out)) => st.length + out.length ≤ 1000
  | (_, none) => True
theorem hpP_inj {j : Nat} {st out st' out' : List Int} (h : hpP j st out = hpP j st' out') : st = st' ∧ out = out' := by
  simp only [hpP, List.cons_append, List.nil_append, List.cons.injEq, Prod.mk.injEq, Blk.cells.injEq, true_and, and_true] at h
  obtain ⟨h1, h2, h3, h4⟩ := h
  refine ⟨ints_inj h2, ?_⟩
  cases out with
  | nil => cases out' with
    | nil => rfl
    | cons y r => simp at h4
  | cons x r => cases out' with
    | nil => simp at h4
    | cons y r' =>
      simp only [outH_cons, List.cons.injEq, Prod.mk.injEq, Blk.cells.injEq, true_and, and_true, AV.v.injEq, Value.int.injEq] at h4
      rw [h4.1, ints_inj h4.2]
theorem pat97_inj (a b : Int × Option (List Int × List Int)) (h : pat97 a = pat97 b) : out97 a = out97 b := by
  obtain ⟨x, a⟩ := a
  obtain ⟨y, b⟩ := b
  cases a with
  | none => cases b with
    | none => rfl
    | some q => obtain ⟨st, out⟩ := q; simp [pat97] at h
  | some p =>
    obtain ⟨st, out⟩ := p
    cases b with
    | none => simp [pat97] at h
    | some q =>
      obtain ⟨st', out'⟩ := q
      simp only [pat97, Prod.mk.injEq, List.cons.injEq, AV.v.injEq, Value.int.injEq, true_and, and_true] at h
      obtain ⟨rfl, h2, h3⟩ := h
      obtain ⟨rfl, rfl⟩ := hpP_inj h2
      rfl
noncomputable def f97 := famF ok97 pat97 out97
noncomputable def s97 : Sp := ⟨97, f97⟩
@[simp] theorem s97_g : s97.g = 97 := rfl
@[simp] theorem s97_f : s97.f = f97 := rfl
theorem popR_le (b : Int) : ∀ n st out, (popR b n st out).1.length ≤ st.length
  | 0, st, out => Nat.le_refl _
  | n + 1, st, out => by
    simp only [popR]
    split
    · exact Nat.le_refl _
    · split
      · have := popR_le b n st.dropLast (out ++ [st.getLastD 0])
        have e : st.dropLast.length = st.length - 1 := by simp
        omega
      · exact Nat.le_refl _
theorem popR_len (b : Int) : ∀ n st out, (popR b n st out).1.length + (popR b n st out).2.length = st.length + out.length
  | 0, st, out => rfl
  | n + 1, st, out => by
    simp only [popR]
    split
    · rfl
    · rename_i h
      have : 0 < st.length := List.length_pos_iff.2 h
      split
      · rw [popR_len b n]; simp; omega
      · rfl
def mk97 (b : Int) (j : Nat) (st out : List Int) : ST := ⟨[(0, vI b), (1, .ptr 0 0), (2, .ptr 2 0), (4, vI (st.getLastD 0)), (5, vB (!st.isEmpty))], hpP j st out, j + outK out⟩
theorem f96n (c : Int) : f96 [.v (.int .u8 111), vI c, .ptr 0 0] [(0, .cells [nS])] 1 = some (.tup [], [(0, .cells [.ref 1 0 1 1 none]), (1, .cells [vI c])], 2) := by simp [f96, f67]
theorem f96c (c x : Int) (r : List Int) (h : r.length ≤ 1000) : f96 [.v (.int .u8 111), vI c, .ptr 0 0] [(0, .cells [.ref 1 0 (r.length + 1) 1 none]), (1, .cells (vI x :: ints r))] 2 = some (.tup [], [(0, .cells [.ref 2 0 (r.length + 1 + 1) 1 none]), (2, .cells (vI x :: (ints r ++ [vI c])))], 3) := by
  have : small (x :: r) = true := by simp [small]; omega
  simp [f96, f67, this]
theorem step97 (T : List Int) {n : Nat} (hl : T.length + n ≤ 1000) : T = [] ∨ ∃ c D, T ≠ [] ∧ T.dropLast = D ∧ T.getLastD 0 = c ∧ T.length = D.length + 1 ∧ T.isEmpty = false ∧
    f69 [.ptr 0 0] [(0, .cells [.ref 1 0 T.length 1 none]), (1, .cells (ints T))] 2 = some (.tup [], basH D, 2) ∧
    f68 [.ptr 0 0] [(0, .cells [.ref 1 0 D.length 1 none]), (1, .cells (ints D))] 2 = some (.tup [vI (D.getLastD 0), vB (!D.isEmpty)], basH D, 2) := by
  by_cases h : T = []
  · exact .inl h
  · have hp : 0 < T.length := List.length_pos_iff.2 h
    have e : T.dropLast.length = T.length - 1 := by simp
    refine .inr ⟨_, _, h, rfl, rfl, by omega, by simpa using h, ?_, ?_⟩
    · have hs : small T = true := by simp [small]; omega
      simp [f69, hs, h, basH]
    · have hs : small T.dropLast = true := by simp only [small, e, decide_eq_true_eq]; omega
      simp [f68, hs, basH]
set_option maxHeartbeats 4000000 in
theorem s97_ok : s97.ok Try.prog := by
  refine famF_ok ?_
  rintro ⟨b, _ | ⟨st, out⟩⟩ hok
  · simp only [pat97, out97, hp_eq, hpN]
    refine P97.rz (ss := [s68, s69, s96]) ⟨s68_ok, s69_ok, s96_ok, trivial⟩ (by simp) fun Q hQ => ?_
    delta p97 p97_r0
    simp (disch := omega) [oLt, oLe, oLtN, oLeN, nLt, nLe, nLtN, nLeN, f68]
    refine XZ_for (fun _ : Nat => ⟨[(0, vI b), (1, .ptr 0 0), (2, .ptr 1 0), (4, vI 0), (5, vB false)], hpN, 3⟩) (fun i => i) (fun i => True) 0 trivial (.to [0, 1, 2] (by simp [hpN])) ?_
    rintro i _ N Q' hN hE
    delta p97_l0 p97_r1 p97_r2 p97_r3 p97_r4
    simp (disch := omega) [oLt, oLe, oLtN, oLeN, nLt, nLe, nLtN, nLeN]
    exact hE _ _ _ .refl (hQ _ _ (EndsP_at [0, 1, 2] (.inr rfl) (by simp) rfl (by simp) rfl (by simp [hpN])))
  · simp only [ok97] at hok
    simp only [pat97, out97, hp_eq]
    refine P97.rz (ss := [s68, s69, s96]) ⟨s68_ok, s69_ok, s96_ok, trivial⟩ (by simp) fun Q hQ => ?_
    have hss : small st = true := by simp [small]; omega
    have h1 : f68 [.ptr 0 0] [(0, .cells [.ref 1 0 st.length 1 none]), (1, .cells (ints st))] 2 = some (.tup [vI (st.getLastD 0), vB (!st.isEmpty)], basH st, 2) := by simp [f68, hss]
    cases out with
    | nil =>
      simp only [hpP, outA_nil, outH_nil, List.append_nil, outK_nil]
      delta p97 p97_r0
      simp (disch := omega) [oLt, oLe, oLtN, oLeN, nLt, nLe, nLtN, nLeN, h1, basH]
      refine XZ_for (fun p : List Int × List Int => mk97 b 4 p.1 p.2) (fun p => p.1.length) (fun p => p.1.length + p.2.length ≤ 1000 ∧ popR b p.1.length p.1 p.2 = popR b st.length st []) (st, []) ⟨by simpa using hok, rfl⟩ (.to [0, 1, 2, 3] (by simp [mk97, hpP])) ?_
      rintro ⟨T, O⟩ ⟨hl, hinv⟩ N Q' hN hE
      simp only at hl hinv
      simp only [mk97]
      have stop : popR b T.length T O = (T, O) → XZ (rZ (spc [s68, s69, s96])) 4 p97_l0 ⟨[(0, vI b), (1, .ptr 0 0), (2, .ptr 2 0), (4, vI (T.getLastD 0)), (5, vB (!T.isEmpty))], hpP 4 T O, 4 + outK O⟩ (thenE N Q') := fun e => by
        have hj : newJ [] O = 4 := rfl
        rw [← hinv, e] at hQ
        simp only [hj] at hQ
        have hcb : T.isEmpty = true ∨ (T.isEmpty = false ∧ ¬ T.getLastD 0 < b) := by
          rcases step97 T hl with rfl | ⟨c, D, hne, hD, hc, hlen, hem, h4, h5⟩
          · exact .inl rfl
          · refine .inr ⟨hem, fun hlt => ?_⟩
            rw [hlen] at e
            simp only [popR] at e
            rw [if_neg hne, if_pos hlt] at e
            have := congrArg (fun q => q.1.length + q.2.length) e
            have h2 := congrArg (fun q => q.1.length) e
            have h3 := popR_le b D.length T.dropLast (O ++ [T.getLastD 0])
            simp only at h2
            rw [hD] at h2 h3
            omega
        rcases hcb with hem | ⟨hem, hnb⟩
        · cases O with
          | nil =>
            simp only [hpP, outA_nil, outH_nil, List.append_nil, outK_nil] at hQ ⊢
            delta p97_l0 p97_r1 p97_r2 p97_r3 p97_r4
            simp (disch := omega) [oLt, oLe, oLtN, oLeN, nLt, nLe, nLtN, nLeN, hem]
            exact hE _ _ _ .refl (hQ _ _ (EndsP_at [0, 1, 2, 3] (.inr rfl) (by simp) rfl (by simp) rfl (by simp)))
          | cons x r =>
            simp only [hpP, outA_cons, outH_cons, List.append_nil, outK_cons] at hQ ⊢
            delta p97_l0 p97_r1 p97_r2 p97_r3 p97_r4
            simp (disch := omega) [oLt, oLe, oLtN, oLeN, nLt, nLe, nLtN, nLeN, hem]
            exact hE _ _ _ .refl (hQ _ _ (EndsP_at [0, 1, 2, 3, 4] (.inr rfl) (by simp) rfl (by simp) rfl (by simp)))
        · obtain ⟨c, hc⟩ : ∃ c, T.getLastD 0 = c := ⟨_, rfl⟩
          rw [hc] at hnb ⊢
          cases O with
          | nil =>
            simp only [hpP, outA_nil, outH_nil, List.append_nil, outK_nil] at hQ ⊢
            delta p97_l0 p97_r1 p97_r2 p97_r3 p97_r4
            simp (disch := omega) [oLt, oLe, oLtN, oLeN, nLt, nLe, nLtN, nLeN, hem, hnb]
            exact hE _ _ _ .refl (hQ _ _ (EndsP_at [0, 1, 2, 3] (.inr rfl) (by simp) rfl (by simp) rfl (by simp)))
          | cons x r =>
            simp only [hpP, outA_cons, outH_cons, List.append_nil, outK_cons] at hQ ⊢
            delta p97_l0 p97_r1 p97_r2 p97_r3 p97_r4
            simp (disch := omega) [oLt, oLe, oLtN, oLeN, nLt, nLe, nLtN, nLeN, hem, hnb]
            exact hE _ _ _ .refl (hQ _ _ (EndsP_at [0, 1, 2, 3, 4] (.inr rfl) (by simp) rfl (by simp) rfl (by simp)))
      rcases step97 T hl with rfl | ⟨c, D, hne, hD, hc, hlen, hem, h4, h5⟩
      · exact stop rfl
      · by_cases hcb : c < b
        · have hst : popR b T.length T O = popR b D.length D (O ++ [c]) := by
            rw [hlen, popR, if_neg hne, hc, if_pos hcb, hD]
          rw [hst] at hinv
          have fin : ∀ s', ChgT 4 s' (mk97 b 4 D (O ++ [c])) → N s' := fun s' hh => hN s' (D, O ++ [c]) (by simp only; omega) ⟨by simp; omega, hinv⟩ hh
          clear stop hN hE hQ
          rw [hc]
          have h6 := f96n c
          cases O with
          | nil =>
            simp only [hpP, outA_nil, outH_nil, List.append_nil, outK_nil]
            delta p97_l0 p97_r1 p97_r2 p97_r3 p97_r4
            simp (disch := omega) [oLt, oLe, oLtN, oLeN, nLt, nLe, nLtN, nLeN, hem, hcb, h4, h5, h6, basH]
            exact fin _ (.to [0, 1, 2, 3, 12] (by simp [mk97, hpP]))
          | cons x r =>
            have h7 := f96c c x r (by simp at hl; omega)
            simp only [hpP, outA_cons, outH_cons, List.append_nil, outK_cons]
            delta p97_l0 p97_r1 p97_r2 p97_r3 p97_r4
            simp (disch := omega) [oLt, oLe, oLtN, oLeN, nLt, nLe, nLtN, nLeN, hem, hcb, h4, h5, h7, basH]
            exact fin _ (.to [0, 1, 2, 3, 13] (by simp [mk97, hpP]))
        · refine stop ?_
          rw [hlen, popR, if_neg hne, hc, if_neg hcb]
    | cons y out =>
      simp only [hpP, outA_cons, outH_cons, List.cons_append, List.nil_append, outK_cons]
      delta p97 p97_r0
      simp (disch := omega) [oLt, oLe, oLtN, oLeN, nLt, nLe, nLtN, nLeN, h1, basH]
      refine XZ_for (fun p : Nat × List Int × List Int => mk97 b p.1 p.2.1 p.2.2) (fun p => p.2.1.length) (fun p => p.2.1.length + p.2.2.length ≤ 1000 ∧ popR b p.2.1.length p.2.1 p.2.2 = popR b st.length st (y :: out) ∧ ((p.1 = 4 ∧ p.2.2.length = out.length + 1) ∨ (p.1 = 5 ∧ out.length + 1 < p.2.2.length))) (4, st, y :: out) ⟨by simpa using hok, rfl, .inl ⟨rfl, rfl⟩⟩ (.to [0, 1, 2, 3, 4] (by simp [mk97, hpP])) ?_
      rintro ⟨j, T, O⟩ ⟨hl, hinv, hj⟩ N Q' hN hE
      simp only at hl hinv hj
      simp only [mk97]
      obtain ⟨x, r, rfl⟩ : ∃ x r, O = x :: r := by
        cases O with
        | nil => simp at hj
        | cons x r => exact ⟨x, r, rfl⟩
      have stop : popR b T.length T (x :: r) = (T, x :: r) → XZ (rZ (spc [s68, s69, s96])) 5 p97_l0 ⟨[(0, vI b), (1, .ptr 0 0), (2, .ptr 2 0), (4, vI (T.getLastD 0)), (5, vB (!T.isEmpty))], hpP j T (x :: r), j + outK (x :: r)⟩ (thenE N Q') := fun e => by
        have hjn : newJ (y :: out) (x :: r) = j := by
          simp only [newJ, List.length_cons]
          rcases hj with ⟨rfl, h⟩ | ⟨rfl, h⟩
          · rw [if_neg (by simp), if_pos (by simpa using h)]
          · rw [if_neg (by simp), if_neg (by simp at h; omega)]
        rw [← hinv, e] at hQ
        simp only [hjn] at hQ
        have hcb : T.isEmpty = true ∨ (T.isEmpty = false ∧ ¬ T.getLastD 0 < b) := by
          rcases step97 T hl with rfl | ⟨c, D, hne, hD, hc, hlen, hem, h4, h5⟩
          · exact .inl rfl
          · refine .inr ⟨hem, fun hlt => ?_⟩
            rw [hlen] at e
            simp only [popR] at e
            rw [if_neg hne, if_pos hlt] at e
            have h2 := congrArg (fun q => q.1.length) e
            have h3 := popR_le b D.length T.dropLast (x :: r ++ [T.getLastD 0])
            simp only at h2
            rw [hD] at h2 h3
            omega
        rcases hcb with hem | ⟨hem, hnb⟩
        · rcases hj with ⟨rfl, h⟩ | ⟨rfl, h⟩
          · simp only [hpP, outA_cons, outH_cons, List.append_nil, outK_cons] at hQ ⊢
            delta p97_l0 p97_r1 p97_r2 p97_r3 p97_r4
            simp (disch := omega) [oLt, oLe, oLtN, oLeN, nLt, nLe, nLtN, nLeN, hem]
            exact hE _ _ _ .refl (hQ _ _ (EndsP_at [0, 1, 2, 3, 4] (.inr rfl) (by simp) rfl (by simp) rfl (by simp)))
          · simp only [hpP, outA_cons, outH_cons, List.append_nil, outK_cons] at hQ ⊢
            delta p97_l0 p97_r1 p97_r2 p97_r3 p97_r4
            simp (disch := omega) [oLt, oLe, oLtN, oLeN, nLt, nLe, nLtN, nLeN, hem]
            exact hE _ _ _ .refl (hQ _ _ (EndsP_at [0, 1, 2, 3, 4, 5] (.inr rfl) (by simp) rfl (by simp) rfl (by simp)))
        · obtain ⟨c, hc⟩ : ∃ c, T.getLastD 0 = c := ⟨_, rfl⟩
          rw [hc] at hnb ⊢
          rcases hj with ⟨rfl, h⟩ | ⟨rfl, h⟩
          · simp only [hpP, outA_cons, outH_cons, List.append_nil, outK_cons] at hQ ⊢
            delta p97_l0 p97_r1 p97_r2 p97_r3 p97_r4
            simp (disch := omega) [oLt, oLe, oLtN, oLeN, nLt, nLe, nLtN, nLeN, hem, hnb]
            exact hE _ _ _ .refl (hQ _ _ (EndsP_at [0, 1, 2, 3, 4] (.inr rfl) (by simp) rfl (by simp) rfl (by simp)))
          · simp only [hpP, outA_cons, outH_cons, List.append_nil, outK_cons] at hQ ⊢
            delta p97_l0 p97_r1 p97_r2 p97_r3 p97_r4
            simp (disch := omega) [oLt, oLe, oLtN, oLeN, nLt, nLe, nLtN, nLeN, hem, hnb]
            exact hE _ _ _ .refl (hQ _ _ (EndsP_at [0, 1, 2, 3, 4, 5] (.inr rfl) (by simp) rfl (by simp) rfl (by simp)))
      rcases step97 T hl with rfl | ⟨c, D, hne, hD, hc, hlen, hem, h4, h5⟩
      · exact stop rfl
      · by_cases hcb : c < b
        · have hst : popR b T.length T (x :: r) = popR b D.length D (x :: r ++ [c]) := by
            rw [hlen, popR, if_neg hne, hc, if_pos hcb, hD]
          rw [hst] at hinv
          have fin : ∀ s', ChgT 5 s' (mk97 b 5 D (x :: r ++ [c])) → N s' := fun s' hh => hN s' (5, D, x :: r ++ [c]) (by simp only; omega) ⟨by simp at hl ⊢; omega, hinv, .inr ⟨rfl, by simp at hj ⊢; omega⟩⟩ hh
          clear stop hN hE hQ
          rw [hc]
          have h7 := f96c c x r (by simp at hl; omega)
          rcases hj with ⟨rfl, h⟩ | ⟨rfl, h⟩
          · simp only [hpP, outA_cons, outH_cons, List.append_nil, outK_cons]
            delta p97_l0 p97_r1 p97_r2 p97_r3 p97_r4
            simp (disch := omega) [oLt, oLe, oLtN, oLeN, nLt, nLe, nLtN, nLeN, hem, hcb, h4, h5, h7, basH]
            exact fin _ (.to [0, 1, 2, 3, 4, 13] (by simp [mk97, hpP]))
          · simp only [hpP, outA_cons, outH_cons, List.append_nil, outK_cons]
            delta p97_l0 p97_r1 p97_r2 p97_r3 p97_r4
            simp (disch := omega) [oLt, oLe, oLtN, oLeN, nLt, nLe, nLtN, nLeN, hem, hcb, h4, h5, h7, basH]
            exact fin _ (.to [0, 1, 2, 3, 4, 14] (by simp [mk97, hpP]))
        · refine stop ?_
          rw [hlen, popR, if_neg hne, hc, if_neg hcb]
theorem f97_at {b : Int} {st out : List Int} (h : st.length + out.length ≤ 1000) {args : List AV} {H : HL} {k : Nat} (e : pat97 (b, some (st, out)) = (args, H, k)) : f97 args H k = some (out97 (b, some (st, out))) := famF_at pat97_inj (b, some (st, out)) h e
theorem f97_nil (b : Int) : f97 [vI b, .ptr 0 0, .ptr 1 0] hpN 3 = some (.tup [], hpN, 3) := famF_at pat97_inj (b, none) trivial rfl
end Go.Sx.Lk
end
section
set_option maxRecDepth 4000
namespace Go.Sx.Lk
open Go Go.Sx Go.Proofs
set_option maxHeartbeats 4000000
abbrev vU (n : Int) : AV := .v (.int .u8 n)
abbrev pN : AV := .v (.pointer none)
@[simp] theorem u8s_nil : u8s [] = [] := rfl
@[simp] theorem u8s_cons (x : Int) (l : List Int) : u8s (x :: l) = vU x :: u8s l := rfl
@[simp] theorem u8s_app (a b : List Int) : u8s (a ++ b) = u8s a ++ u8s b := by simp [u8s]
@[simp] theorem u8s_len' (l : List Int) : (u8s l).length = l.length := by simp [u8s]
@[simp] theorem idsL_u8s : ∀ l : List Int, idsL (u8s l) = []
  | [] => rfl
  | x :: l => by rw [u8s_cons, idsL, idsL_u8s l]
@[simp] theorem inL_u8s (p : Nat → Bool) : ∀ l : List Int, Go.Sx.inL p (u8s l) = true
  | [] => rfl
  | x :: l => by rw [u8s_cons, Go.Sx.inL, inL_u8s p l]; rfl
theorem u8s_inj : ∀ {a b : List Int}, u8s a = u8s b → a = b
  | [], [], _ => rfl
  | [], y :: b, h => by simp at h
  | x :: a, [], h => by simp at h
  | x :: a, y :: b, h => by
    simp only [u8s_cons, List.cons.injEq, AV.v.injEq, Value.int.injEq, true_and] at h
    rw [h.1, u8s_inj h.2]
def viaB (h : HL) (i : Nat) : Nat := match hpF h i with
  | some (.bld _ (_ :: x :: _)) => idOf x
  | _ => 0
attribute [simp] viaB
def bA (o j : Nat) (w : List Int) : List AV := if w = [] then [pN, nS] else [.ptr o 0, .ref j 0 w.length 1 none]
def bH (j : Nat) (w : List Int) : HL := if w = [] then [] else [(j, .bld true (u8s w))]
@[simp] theorem bA_nil (o j : Nat) : bA o j [] = [pN, nS] := rfl
@[simp] theorem bA_cons (o j : Nat) (x : Int) (r : List Int) : bA o j (x :: r) = [.ptr o 0, .ref j 0 (r.length + 1) 1 none] := by simp [bA]
@[simp] theorem bH_nil (j : Nat) : bH j [] = [] := rfl
@[simp] theorem bH_cons (j : Nat) (x : Int) (r : List Int) : bH j (x :: r) = [(j, .bld true (vU x :: u8s r))] := by simp [bH]
def bHp (w : List Int) : HL := (0, .bld false (bA 0 1 w)) :: bH 1 w
theorem bHp_inj {w w' : List Int} (h : bHp w = bHp w') : w = w' := by
  simp only [bHp, List.cons.injEq] at h
  cases w with
  | nil => cases w' with
    | nil => rfl
    | cons y r => simp at h
  | cons x r => cases w' with
    | nil => simp at h
    | cons y r' =>
      have h2 := h.2
      simp only [bH_cons, List.cons.injEq, Prod.mk.injEq, Blk.bld.injEq, true_and, and_true, AV.v.injEq, Value.int.injEq] at h2
      rw [h2.1, u8s_inj h2.2]
theorem nil1 : nilA (TypeDesc.pointer 77) pN = some true := rfl
theorem nil2 (i o : Nat) : nilA (TypeDesc.pointer 77) (.ptr i o) = some false := rfl
def pat98 (w : List Int) : List AV × HL × Nat := ([.ptr 0 0], bHp w, 1 + outK w)
def out98 (w : List Int) : AV × HL × Nat := (.tup [], if w = [] then [(0, .bld false [.ptr 0 0, nS])] else bHp w, 1 + outK w)
noncomputable def f98 := famF (fun w : List Int => w.length ≤ 1000) pat98 out98
noncomputable def s98 : Sp := ⟨98, f98⟩
@[simp] theorem s98_g : s98.g = 98 := rfl
@[simp] theorem s98_f : s98.f = f98 := rfl
theorem s98_ok : s98.ok Try.prog := by
  refine famF_ok ?_
  intro w hok
  cases w with
  | nil =>
    simp only [pat98, out98, hp_eq, bHp, bA_nil, bH_nil, outK_nil]
    refine P98.rz (ss := []) trivial (by simp) fun Q hQ => ?_
    delta p98 p98_r0 p98_r1 p98_r2
    simp (disch := omega) [oLt, oLe, oLtN, oLeN, nLt, nLe, nLtN, nLeN, effEqn, effSame, effPeq, nil1, nil2]
    exact hQ _ _ (EndsP_F (fun h => [0]) (.inr rfl) rfl (by simp))
  | cons x r =>
    simp only [pat98, out98, hp_eq, bHp, bA_cons, bH_cons, outK_cons]
    refine P98.rz (ss := []) trivial (by simp) fun Q hQ => ?_
    delta p98 p98_r0 p98_r1 p98_r2
    simp (disch := omega) [oLt, oLe, oLtN, oLeN, nLt, nLe, nLtN, nLeN, effEqn, effSame, effPeq, nil1, nil2]
    exact hQ _ _ (EndsP_F (fun h => [0, 1]) (.inr rfl) rfl (by simp))
theorem pat98_inj (a b : List Int) (h : pat98 a = pat98 b) : out98 a = out98 b := by
  simp only [pat98, Prod.mk.injEq] at h
  rw [bHp_inj h.2.1]
theorem f98n : f98 [.ptr 0 0] [(0, .bld false [pN, nS])] 1 = some (.tup [], [(0, .bld false [.ptr 0 0, nS])], 1) := famF_at pat98_inj [] (by simp) rfl
theorem f98c (x : Int) (r : List Int) (h : r.length ≤ 900) : f98 [.ptr 0 0] [(0, .bld false [.ptr 0 0, .ref 1 0 (r.length + 1) 1 none]), (1, .bld true (vU x :: u8s r))] 2 = some (.tup [], [(0, .bld false [.ptr 0 0, .ref 1 0 (r.length + 1) 1 none]), (1, .bld true (vU x :: u8s r))], 2) := by
  have := famF_at pat98_inj (x :: r) (ok := fun w : List Int => w.length ≤ 1000) (by simp; omega) (by simp [pat98, bHp] : pat98 (x :: r) = ([.ptr 0 0], [(0, .bld false [.ptr 0 0, .ref 1 0 (r.length + 1) 1 none]), (1, .bld true (vU x :: u8s r))], 2))
  unfold f98
  rw [this]
  simp [out98, bHp]
def pat65 (a : Int × List Int) : List AV × HL × Nat := ([.ptr 0 0, vU a.1], bHp a.2, 1 + outK a.2)
def out65 (a : Int × List Int) : AV × HL × Nat := (.v .nilIface, if a.2 = [] then bHp [a.1] else [(0, .bld false [.ptr 0 0, .ref 2 0 (a.2.length + 1) 1 none]), (2, .bld true (u8s (a.2 ++ [a.1])))], if a.2 = [] then 2 else 3)
theorem pat65_inj (a b : Int × List Int) (h : pat65 a = pat65 b) : out65 a = out65 b := by
  obtain ⟨c, w⟩ := a
  obtain ⟨d, v⟩ := b
  simp only [pat65, Prod.mk.injEq, List.cons.injEq, AV.v.injEq, Value.int.injEq, true_and, and_true] at h
  rw [h.1, bHp_inj h.2.1]
noncomputable def f65 := famF (fun a : Int × List Int => a.2.length ≤ 900) pat65 out65
noncomputable def s65 : Sp := ⟨65, f65⟩
@[simp] theorem s65_g : s65.g = 65 := rfl
@[simp] theorem s65_f : s65.f = f65 := rfl
theorem s65_ok : s65.ok Try.prog := by
  refine famF_ok ?_
  rintro ⟨c, w⟩ hok
  simp only at hok
  cases w with
  | nil =>
    simp only [pat65, out65, hp_eq, bHp, bA_nil, bH_nil, outK_nil, if_true, bA_cons, bH_cons]
    refine P65.rz (ss := [s98]) ⟨s98_ok, trivial⟩ (by simp) fun Q hQ => ?_
    have h98 := f98n
    delta p65 p65_r0 p65_r1 p65_r2 p65_r3
    simp (disch := omega) [oLt, oLe, oLtN, oLeN, nLt, nLe, nLtN, nLeN, h98, effAppB]
    exact hQ _ _ (EndsP_F (fun h => [0, viaB h 0]) (.inl rfl) rfl (by simp))
  | cons x r =>
    simp only [pat65, out65, hp_eq, bHp, bA_cons, bH_cons, outK_cons, reduceCtorEq, if_false]
    refine P65.rz (ss := [s98]) ⟨s98_ok, trivial⟩ (by simp) fun Q hQ => ?_
    have h98 := f98c x r (by simp at hok; omega)
    have hrl : r.length ≤ 900 := by simp at hok; omega
    delta p65 p65_r0 p65_r1 p65_r2 p65_r3
    simp (disch := omega) [oLt, oLe, oLtN, oLeN, nLt, nLe, nLtN, nLeN, h98, effAppB]
    exact hQ _ _ (EndsP_F (fun h => [0, 1, viaB h 0]) (.inl rfl) rfl (by simp))
theorem f65n (c : Int) : f65 [.ptr 0 0, vU c] [(0, .bld false [pN, nS])] 1 = some (.v .nilIface, [(0, .bld false [.ptr 0 0, .ref 1 0 1 1 none]), (1, .bld true [vU c])], 2) := famF_at pat65_inj (c, []) (by simp) rfl
theorem f65c (c x : Int) (r : List Int) (h : r.length ≤ 800) : f65 [.ptr 0 0, vU c] [(0, .bld false [.ptr 0 0, .ref 1 0 (r.length + 1) 1 none]), (1, .bld true (vU x :: u8s r))] 2 = some (.v .nilIface, [(0, .bld false [.ptr 0 0, .ref 2 0 (r.length + 1 + 1) 1 none]), (2, .bld true (vU x :: (u8s r ++ [vU c])))], 3) := by
  have := famF_at pat65_inj (c, x :: r) (ok := fun a : Int × List Int => a.2.length ≤ 900) (by simp; omega) (by simp [pat65, bHp] : pat65 (c, x :: r) = ([.ptr 0 0, vU c], [(0, .bld false [.ptr 0 0, .ref 1 0 (r.length + 1) 1 none]), (1, .bld true (vU x :: u8s r))], 2))
  unfold f65
  rw [this]
  simp [out65]
def pat64 (a : Int × Int × List Int) : List AV × HL × Nat := ([vU a.1, vI a.2.1, .ptr 0 0], bHp a.2.2, 1 + outK a.2.2)
def out64 (a : Int × Int × List Int) : AV × HL × Nat := (.tup [], (out65 (a.1, a.2.2)).2)
theorem pat64_inj (a b : Int × Int × List Int) (h : pat64 a = pat64 b) : out64 a = out64 b := by
  obtain ⟨c, x, w⟩ := a
  obtain ⟨d, y, v⟩ := b
  simp only [pat64, Prod.mk.injEq, List.cons.injEq, AV.v.injEq, Value.int.injEq, true_and, and_true] at h
  unfold out64
  rw [h.1.1, bHp_inj h.2.1]
noncomputable def f64 := famF (fun a : Int × Int × List Int => a.2.2.length ≤ 800) pat64 out64
noncomputable def s64 : Sp := ⟨64, f64⟩
@[simp] theorem s64_g : s64.g = 64 := rfl
@[simp] theorem s64_f : s64.f = f64 := rfl
theorem s64_ok : s64.ok Try.prog := by
  refine famF_ok ?_
  rintro ⟨m, y, w⟩ hok
  simp only at hok
  cases w with
  | nil =>
    simp only [pat64, out64, out65, hp_eq, bHp, bA_nil, bH_nil, outK_nil, if_true, bA_cons, bH_cons]
    refine P64.rz (ss := [s65]) ⟨s65_ok, trivial⟩ (by simp) fun Q hQ => ?_
    have h65 := f65n m
    delta p64 p64_r0
    simp (disch := omega) [oLt, oLe, oLtN, oLeN, nLt, nLe, nLtN, nLeN, h65]
    exact hQ _ _ (EndsP_F (fun h => [0, viaB h 0]) (.inr rfl) rfl (by simp))
  | cons x r =>
    simp only [pat64, out64, out65, hp_eq, bHp, bA_cons, bH_cons, outK_cons, reduceCtorEq, if_false]
    refine P64.rz (ss := [s65]) ⟨s65_ok, trivial⟩ (by simp) fun Q hQ => ?_
    have h65 := f65c m x r (by simp at hok; omega)
    delta p64 p64_r0
    simp (disch := omega) [oLt, oLe, oLtN, oLeN, nLt, nLe, nLtN, nLeN, h65]
    exact hQ _ _ (EndsP_F (fun h => [0, 1, viaB h 0]) (.inr rfl) rfl (by simp))
theorem f64n (m x : Int) : f64 [vU m, vI x, .ptr 0 0] [(0, .bld false [pN, nS])] 1 = some (.tup [], [(0, .bld false [.ptr 0 0, .ref 1 0 1 1 none]), (1, .bld true [vU m])], 2) := famF_at pat64_inj (m, x, []) (by simp) rfl
theorem f64c (m y x : Int) (r : List Int) (h : r.length ≤ 700) : f64 [vU m, vI y, .ptr 0 0] [(0, .bld false [.ptr 0 0, .ref 1 0 (r.length + 1) 1 none]), (1, .bld true (vU x :: u8s r))] 2 = some (.tup [], [(0, .bld false [.ptr 0 0, .ref 2 0 (r.length + 1 + 1) 1 none]), (2, .bld true (vU x :: (u8s r ++ [vU m])))], 3) := by
  have := famF_at pat64_inj (m, y, x :: r) (ok := fun a : Int × Int × List Int => a.2.2.length ≤ 800) (by simp; omega) (by simp [pat64, bHp] : pat64 (m, y, x :: r) = ([vU m, vI y, .ptr 0 0], [(0, .bld false [.ptr 0 0, .ref 1 0 (r.length + 1) 1 none]), (1, .bld true (vU x :: u8s r))], 2))
  unfold f64
  rw [this]
  simp [out64, out65]
end Go.Sx.Lk
end
