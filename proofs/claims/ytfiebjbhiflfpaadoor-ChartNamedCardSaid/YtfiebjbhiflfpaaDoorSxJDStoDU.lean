/- Lists of small numbers of 32 bits, and their bits. No conditions. -/
import Derived.Test.YtfiebjbhiflfpaaDoorSxJDHtoDK0
import Derived.Test.YtfiebjbhiflfpaaDoorSxJCMtoHJ0
import Derived.Test.YtfiebjbhiflfpaaDoorSxJCPtoCR0
set_option linter.unusedVariables false
set_option linter.unusedSimpArgs false
set_option maxRecDepth 4000
namespace Go.Sx.Ch
open Go Go.Sx Go.Proofs

abbrev vU (n : Nat) : AV := .v (.int .u32 (n : Int))
def uws (l : List Nat) : List AV := l.map fun (n : Nat) => .v (.int .u32 (n : Int))
@[simp] theorem uws_len (l : List Nat) : (uws l).length = l.length := by simp [uws]
@[simp] theorem uws_nil : uws [] = [] := rfl
@[simp] theorem uws_cons (x : Nat) (l : List Nat) : uws (x :: l) = vU x :: uws l := rfl
@[simp] theorem uws_get? (l : List Nat) (i : Nat) : (uws l)[i]? = (l[i]?).map fun (n : Nat) => vU n := by simp [uws]
@[simp] theorem uws_at (l : List Nat) (i : Nat) (h : i < (uws l).length) : (uws l)[i] = vU (l[i]'(by simpa using h)) := by simp [uws]
@[simp] theorem uws_take (l : List Nat) (n : Nat) : (uws l).take n = uws (l.take n) := by simp [uws, List.map_take]
@[simp] theorem uws_drop (l : List Nat) (n : Nat) : (uws l).drop n = uws (l.drop n) := by simp [uws, List.map_drop]
@[simp] theorem uws_set (l : List Nat) (i : Nat) (b : Nat) : (uws l).set i (vU b) = uws (l.set i b) := by simp [uws, List.map_set]
@[simp] theorem uws_ren (g : Nat → Nat) (l : List Nat) : renL g (uws l) = uws l := by induction l with | nil => rfl | cons a l ih => simp [ih]
@[simp] theorem uws_clo (l : List Nat) : cloL (uws l) = true := by induction l with | nil => rfl | cons a l ih => simp [ih]
@[simp] theorem uws_fr (id : Nat) (cs : List AV) (l : List Nat) : frL id cs (uws l) = uws l := by induction l with | nil => rfl | cons a l ih => simp [ih]
@[simp] theorem uws_flat (l : List Nat) : flatL (uws l) = true := by induction l with | nil => rfl | cons a l ih => simp [ih]
@[simp] theorem splice_uws (M : List Nat) (i : Nat) (b : Nat) (h : i < M.length) : splice (uws M) i [vU b] = uws (M.set i b) := by rw [splice_one _ _ _ (by simpa using h), uws_set]
theorem uws_rep (n : Nat) : (List.replicate n (AV.v (.int .u32 0))) = uws (List.replicate n 0) := by simp [uws]

@[simp] theorem bin_eff (P : Program) (ρ : Operand → AV) (op : BinOp) (t : TypeId) (x y : Operand) : SOp.eff P ρ (.bin op t x y) = effPlain2 P (fun u v => do eqGuard op t x y u v; binOp op t u v) (ρ x) (ρ y) := rfl
theorem wrap32 {n : Nat} (h : n < 4294967296) : IntKind.u32.wrap (n : Int) = n := by
  have : IntKind.u32.bits = 32 := rfl
  have h2 : IntKind.u32.signed = false := rfl
  simp only [IntKind.wrap, this, h2, Bool.false_and, Bool.false_eq_true, if_false]
  omega
theorem or32 (x y : Operand) {a b : Nat} (ha : a < 65536) (hb : b < 65536) : effPlain2 Tryd.prog (fun u v => do eqGuard .or 65 x y u v; binOp .or 65 u v) (vU a) (vU b) = ret (vU (a ||| b)) := by
  have e1 : a % 2 ^ IntKind.u32.bits = a := Nat.mod_eq_of_lt (by show a < 4294967296; omega)
  have e2 : b % 2 ^ IntKind.u32.bits = b := Nat.mod_eq_of_lt (by show b < 4294967296; omega)
  have h2 : a ||| b < 65536 := Nat.or_lt_two_pow (n := 16) ha hb
  simp [vU, effPlain2, AV.val, eqGuard, binOp, Op.intBits, pureRun, e1, e2, wrap32 (show a ||| b < 4294967296 by omega), ofVal, Value.oneCell', ret]
theorem and32 (x y : Operand) {a : Nat} (ha : a < 65536) : effPlain2 Tryd.prog (fun u v => do eqGuard .and 65 x y u v; binOp .and 65 u v) (vU a) (.v (.int .u32 1)) = ret (vU (a % 2)) := by
  have e1 : a % 2 ^ IntKind.u32.bits = a := Nat.mod_eq_of_lt (by show a < 4294967296; omega)
  have e2 : 1 % 2 ^ IntKind.u32.bits = 1 := by decide
  have h2 : a % 2 < 4294967296 := by omega
  have e3 : IntKind.u32.wrap ((a : Int) % 2) = (a : Int) % 2 := by
    have := wrap32 h2
    simpa using this
  simp [vU, effPlain2, AV.val, eqGuard, binOp, Op.intBits, pureRun, e1, e2, e3, Nat.and_one_is_mod, ofVal, Value.oneCell', ret]
theorem shr32 (x y : Operand) {a p : Nat} (ha : a < 65536) (hp : p < 16) : effPlain2 Tryd.prog (fun u v => do eqGuard .shr 65 x y u v; binOp .shr 65 u v) (vU a) (vI p) = ret (vU (a / 2 ^ p)) := by
  have h0 : ¬ (p : Int) < 0 := by omega
  have h1 : min p 32 = p := by omega
  have h2 : (a : Int).fdiv (2 ^ p) = (a : Int) / 2 ^ p := by
    have e : (2 ^ p : Int) = ((2 ^ p : Nat) : Int) := by simp
    have e2 : (0 : Int) ≤ ((2 ^ p : Nat) : Int) := Int.natCast_nonneg _
    rw [e, Int.fdiv_eq_ediv_of_nonneg _ e2]
  simp [vU, effPlain2, AV.val, eqGuard, binOp, Op.shift, pureRun, h0, IntKind.bits, h1, h2, ofVal, Value.oneCell', ret]
theorem shl32 (x y : Operand) {p : Nat} (hp : p < 16) : effPlain2 Tryd.prog (fun u v => do eqGuard .shl 65 x y u v; binOp .shl 65 u v) (.v (.int .u32 1)) (vI p) = ret (vU (2 ^ p)) := by
  have h0 : ¬ (p : Int) < 0 := by omega
  have h1 : min p 32 = p := by omega
  have h3 : 2 ^ p < 2 ^ 16 := Nat.pow_lt_pow_right (by omega) hp
  have h4 : IntKind.u32.wrap (2 ^ p) = 2 ^ p := by
    have := wrap32 (n := 2 ^ p) (by omega)
    simpa using this
  simp [vU, effPlain2, AV.val, eqGuard, binOp, Op.shift, pureRun, h0, IntKind.bits, h1, h4, ofVal, Value.oneCell', ret]
/-- A bit of a number, as the program looks at it. -/
theorem bit_at (a q : Nat) : (a / 2 ^ q % 2 = 1) ↔ a.testBit q = true := by
  rw [Nat.testBit_eq_decide_div_mod_eq, decide_eq_true_eq]
end Go.Sx.Ch
namespace Go.Sx.Ch

/-- Colours below a number, none of which clashes with one before. -/
structure Fits (J : Nat → Nat → Bool) (most : Int) (l : List Int) : Prop where
  rng : ∀ (i : Nat), i < l.length → 0 ≤ l.getD i 0 ∧ l.getD i 0 < most
  ok : ∀ p q, q < p → p < l.length → ¬ (l.getD q 0 = l.getD p 0 ∧ J p q = true)
def LexLe (a b : List Int) : Prop := ∀ i, i < a.length → (∀ j, j < i → a.getD j 0 = b.getD j 0) → a.getD i 0 ≤ b.getD i 0
structure First (J : Nat → Nat → Bool) (P : Nat) (most : Int) (l : List Int) : Prop where
  fits : Fits J most l
  len : l.length = P
  low : ∀ m, Fits J most m → m.length = P → LexLe l m
theorem lex_eq {a b : List Int} (hl : a.length = b.length) (h1 : LexLe a b) (h2 : LexLe b a) : a = b := by
  have key : ∀ n i, i < n → i < a.length → a.getD i 0 = b.getD i 0 := by
    intro n
    induction n with
    | zero => intro i hi; omega
    | succ n ih =>
      intro i hi hia
      by_cases e : i < n
      · exact ih i e hia
      · have hin : i = n := by omega
        subst hin
        have e1 := h1 i hia (fun j hj => ih j hj (by omega))
        have e2 := h2 i (by omega) (fun j hj => (ih j hj (by omega)).symm)
        omega
  apply List.ext_getElem hl
  intro i h1 h2
  have := key (i + 1) i (by omega) h1
  simpa [List.getD_eq_getElem?_getD, h1, h2] using this
theorem First.unique {J P most a b} (ha : First J P most a) (hb : First J P most b) : a = b :=
  lex_eq (by rw [ha.len, hb.len]) (ha.low b hb.fits hb.len) (hb.low a ha.fits ha.len)
/-- Whether a colour clashes with one of the first so many. -/
def clashN (J : Nat → Nat → Bool) (pre : List Int) (c : Int) (n : Nat) : Bool := (List.range n).any fun q => decide (pre.getD q 0 = c) && J pre.length q
theorem clashN_succ (J : Nat → Nat → Bool) (pre : List Int) (c : Int) (n : Nat) : clashN J pre c (n + 1) = (clashN J pre c n || (decide (pre.getD n 0 = c) && J pre.length n)) := by
  simp [clashN, List.range_succ, List.any_append]
theorem clashN_zero (J : Nat → Nat → Bool) (pre : List Int) (c : Int) : clashN J pre c 0 = false := rfl
def clash (J : Nat → Nat → Bool) (pre : List Int) (c : Int) : Bool := clashN J pre c pre.length
theorem clash_iff {J : Nat → Nat → Bool} {pre : List Int} {c : Int} : clash J pre c = true ↔ ∃ q, q < pre.length ∧ pre.getD q 0 = c ∧ J pre.length q = true := by
  simp [clash, clashN, List.any_eq_true]
theorem getD_app_lt {a b : List Int} {i : Nat} (h : i < a.length) : (a ++ b).getD i 0 = a.getD i 0 := by
  simp [List.getD_eq_getElem?_getD, List.getElem?_append_left h]
theorem getD_app_at {a : List Int} {c : Int} {b : List Int} : (a ++ c :: b).getD a.length 0 = c := by
  simp [List.getD_eq_getElem?_getD, List.getElem?_append_right (Nat.le_refl _)]
theorem fits_nil {J most} : Fits J most [] := ⟨fun i h => by simp at h, fun p q _ h => by simp at h⟩
theorem fits_push {J most pre c} (h : Fits J most pre) (hc : 0 ≤ c ∧ c < most) (hn : clash J pre c = false) : Fits J most (pre ++ [c]) := by
  refine ⟨fun i hi => ?_, fun p q hq hp => ?_⟩
  · simp only [List.length_append, List.length_singleton] at hi
    by_cases e : i < pre.length
    · rw [getD_app_lt e]; exact h.rng i e
    · have : i = pre.length := by omega
      subst this; rw [getD_app_at]; exact hc
  · simp only [List.length_append, List.length_singleton] at hp
    rintro ⟨h1, h2⟩
    by_cases e : p < pre.length
    · rw [getD_app_lt e, getD_app_lt (by omega)] at h1; exact h.ok p q hq e ⟨h1, h2⟩
    · have : p = pre.length := by omega
      subst this
      rw [getD_app_at, getD_app_lt hq] at h1
      have : clash J pre c = true := clash_iff.2 ⟨q, hq, h1, h2⟩
      rw [this] at hn; cases hn
theorem clash_of {J most m pre} (hm : Fits J most m) (hlt : pre.length < m.length) (he : ∀ j, j < pre.length → pre.getD j 0 = m.getD j 0) : clash J pre (m.getD pre.length 0) = false := by
  cases hc : clash J pre (m.getD pre.length 0) with
  | false => rfl
  | true =>
    obtain ⟨q, h1, h2, h3⟩ := clash_iff.1 hc
    exact absurd ⟨by rw [← he q h1]; exact h2, h3⟩ (hm.ok pre.length q h1 hlt)

/-! ### Trying one after the other -/
def tryF {α : Type} (f : Nat → Option α) : Nat → Nat → Option α
  | 0, c => none
  | n + 1, c => match f c with
    | some r => some r
    | none => tryF f n (c + 1)
theorem tryF_some {α : Type} {f : Nat → Option α} {r : α} : ∀ {n c : Nat}, tryF f n c = some r → ∃ k, c ≤ k ∧ k < c + n ∧ f k = some r ∧ ∀ j, c ≤ j → j < k → f j = none
  | 0, c, h => by simp [tryF] at h
  | n + 1, c, h => by
    simp only [tryF] at h
    cases hc : f c with
    | some v => rw [hc] at h; cases h; exact ⟨c, Nat.le_refl _, by omega, hc, fun j h1 h2 => by omega⟩
    | none =>
      rw [hc] at h
      obtain ⟨k, h1, h2, h3, h4⟩ := tryF_some h
      exact ⟨k, by omega, by omega, h3, fun j g1 g2 => by
        by_cases e : j = c
        · rw [e]; exact hc
        · exact h4 j (by omega) g2⟩
theorem tryF_none {α : Type} {f : Nat → Option α} : ∀ {n c : Nat}, tryF f n c = none → ∀ j, c ≤ j → j < c + n → f j = none
  | 0, c, h => fun j h1 h2 => by omega
  | n + 1, c, h => by
    simp only [tryF] at h
    cases hc : f c with
    | some v => rw [hc] at h; cases h
    | none =>
      rw [hc] at h
      intro j h1 h2
      by_cases e : j = c
      · rw [e]; exact hc
      · exact tryF_none h j (by omega) (by omega)
def colR (J : Nat → Nat → Bool) (most : Nat) : Nat → List Int → Option (List Int)
  | 0, pre => some pre
  | k + 1, pre => tryF (fun c => if clash J pre c then none else colR J most k (pre ++ [(c : Int)])) most 0
/-- One list goes on another. -/
def Pfx (pre m : List Int) : Prop := ∀ j, j < pre.length → pre.getD j 0 = m.getD j 0
theorem pfx_push {pre m : List Int} (h : Pfx pre m) : Pfx (pre ++ [m.getD pre.length 0]) m := fun j hj => by
  simp only [List.length_append, List.length_singleton] at hj
  by_cases e : j < pre.length
  · rw [getD_app_lt e]; exact h j e
  · have : j = pre.length := by omega
    subst this; rw [getD_app_at]
theorem colR_ok {J : Nat → Nat → Bool} {most : Nat} : ∀ (k : Nat) (pre : List Int), Fits J most pre →
    (∀ l, colR J most k pre = some l → Fits J most l ∧ l.length = pre.length + k ∧ Pfx pre l ∧ ∀ m, Fits J most m → m.length = pre.length + k → Pfx pre m → LexLe l m) ∧
    (colR J most k pre = none → ∀ m, Fits J most m → m.length = pre.length + k → ¬ Pfx pre m)
  | 0, pre, hp => by
    refine ⟨fun l h => ?_, fun h => by simp [colR] at h⟩
    simp only [colR, Option.some.injEq] at h
    subst h
    exact ⟨hp, rfl, fun j hj => rfl, fun m hm hl he i hi _ => by rw [he i hi]; omega⟩
  | k + 1, pre, hp => by
    have sub : ∀ c : Nat, c < most → clash J pre c = false → _ := fun c h1 h2 => colR_ok k (pre ++ [(c : Int)]) (fits_push hp ⟨by omega, by omega⟩ h2)
    have at' : ∀ m, Fits J most m → m.length = pre.length + (k + 1) → Pfx pre m → ∃ c : Nat, c < most ∧ m.getD pre.length 0 = c ∧ clash J pre c = false ∧ Pfx (pre ++ [(c : Int)]) m := fun m hm hl he => by
      obtain ⟨h0, h1⟩ := hm.rng pre.length (by omega)
      obtain ⟨c, hc⟩ := Int.eq_ofNat_of_zero_le h0
      refine ⟨c, by omega, hc, ?_, ?_⟩
      · rw [← hc]; exact clash_of hm (by omega) he
      · rw [← hc]; exact pfx_push he
    refine ⟨fun l h => ?_, fun h m hm hl he => ?_⟩
    · obtain ⟨c, -, h1, h2, h3⟩ := tryF_some h
      have hcl : clash J pre c = false := by cases hh : clash J pre c with
        | false => rfl
        | true => rw [if_pos hh] at h2; cases h2
      rw [if_neg (by simp [hcl])] at h2
      obtain ⟨g1, g2, g3, g4⟩ := (sub c (by omega) hcl).1 l h2
      simp only [List.length_append, List.length_singleton] at g2
      have hpl : Pfx pre l := fun j hj => by
        have := g3 j (by simp; omega)
        rw [getD_app_lt hj] at this; exact this
      have hlc : l.getD pre.length 0 = c := by
        have := g3 pre.length (by simp)
        rw [getD_app_at] at this; exact this.symm
      refine ⟨g1, by omega, hpl, fun m hm hl he => ?_⟩
      obtain ⟨d, d1, d2, d3, d4⟩ := at' m hm hl he
      rcases Nat.lt_trichotomy d c with hdc | hdc | hdc
      · exfalso
        have hn := h3 d (by omega) hdc
        rw [if_neg (by simp [d3])] at hn
        exact (sub d d1 d3).2 hn m hm (by simp; omega) d4
      · subst hdc
        exact g4 m hm (by simp; omega) d4
      · intro i hi hj
        by_cases e : i < pre.length
        · rw [← hpl i e, he i e]; omega
        · by_cases e2 : i = pre.length
          · subst e2; rw [hlc, d2]; omega
          · have := hj pre.length (by omega)
            rw [hlc, d2] at this; omega
    · obtain ⟨d, d1, d2, d3, d4⟩ := at' m hm hl he
      have hn := tryF_none h d (by omega) (by omega)
      rw [if_neg (by simp [d3])] at hn
      exact (sub d d1 d3).2 hn m hm (by simp; omega) d4
theorem colR_first {J : Nat → Nat → Bool} {most P : Nat} : (∀ l, colR J most P [] = some l → First J P most l) ∧ (colR J most P [] = none → ∀ m, Fits J most m → m.length ≠ P) := by
  have h := colR_ok (J := J) (most := most) P [] fits_nil
  refine ⟨fun l hl => ?_, fun hn m hm hl => h.2 hn m hm (by simpa using hl) (fun j hj => by simp at hj)⟩
  obtain ⟨h1, h2, -, h4⟩ := h.1 l hl
  exact ⟨h1, by simpa using h2, fun m hm hl => h4 m hm (by simpa using hl) (fun j hj => by simp at hj)⟩

/-! ### Trying and going back -/
/-- What is known where so many are settled and one is tried: nothing that is smaller fits. -/
structure SInv (J : Nat → Nat → Bool) (P : Nat) (most : Int) (pre : List Int) (c : Int) : Prop where
  fits : Fits J most pre
  len : pre.length < P
  c0 : 0 ≤ c ∧ c ≤ most
  low : ∀ m, Fits J most m → m.length = P → ∀ i, i ≤ pre.length → (∀ j, j < i → (pre ++ [c]).getD j 0 = m.getD j 0) → (pre ++ [c]).getD i 0 ≤ m.getD i 0
theorem sinv_init {J P most} (hP : 0 < P) (hm : 0 ≤ most) : SInv J P most [] 0 :=
  ⟨fits_nil, hP, ⟨by omega, hm⟩, fun m hm hl i hi _ => by
    have : i = 0 := by simpa using hi
    subst this
    simpa using (hm.rng 0 (by omega)).1⟩
theorem sinv_next {J P most pre c} (h : SInv J P most pre c) (hc : c < most) (hn : clash J pre c = false) (hl : pre.length + 1 < P) : SInv J P most (pre ++ [c]) 0 := by
  refine ⟨fits_push h.fits ⟨h.c0.1, hc⟩ hn, by simpa using hl, ⟨by omega, by have := h.c0; omega⟩, fun m hm hml i hi hj => ?_⟩
  simp only [List.length_append, List.length_singleton] at hi
  by_cases e : i ≤ pre.length
  · rw [getD_app_lt (by simp; omega)]
    exact h.low m hm hml i e fun j hj' => by have := hj j hj'; rw [getD_app_lt (by simp; omega)] at this; exact this
  · have : i = (pre ++ [c]).length := by simp; omega
    subst this
    rw [getD_app_at]
    exact (hm.rng _ (by simp; omega)).1
theorem sinv_done {J P most pre c} (h : SInv J P most pre c) (hc : c < most) (hn : clash J pre c = false) (hl : pre.length + 1 = P) : First J P most (pre ++ [c]) :=
  ⟨fits_push h.fits ⟨h.c0.1, hc⟩ hn, by simpa using hl, fun m hm hml i hi hj => h.low m hm hml i (by simp at hi; omega) hj⟩
theorem low_up {J P most} {pre : List Int} {c : Int} (hlow : ∀ m, Fits J most m → m.length = P → ∀ i, i ≤ pre.length → (∀ j, j < i → (pre ++ [c]).getD j 0 = m.getD j 0) → (pre ++ [c]).getD i 0 ≤ m.getD i 0)
    (hno : ∀ m, Fits J most m → m.length = P → Pfx pre m → m.getD pre.length 0 ≠ c) :
    ∀ m, Fits J most m → m.length = P → ∀ i, i ≤ pre.length → (∀ j, j < i → (pre ++ [c + 1]).getD j 0 = m.getD j 0) → (pre ++ [c + 1]).getD i 0 ≤ m.getD i 0 := by
  intro m hm hml i hi hj
  have hj' : ∀ j, j < i → (pre ++ [c]).getD j 0 = m.getD j 0 := fun j hji => by
    have := hj j hji; rw [getD_app_lt (by omega)] at this ⊢; exact this
  have := hlow m hm hml i hi hj'
  by_cases e : i < pre.length
  · rw [getD_app_lt e] at this ⊢; exact this
  · have e2 : i = pre.length := by omega
    subst e2
    rw [getD_app_at] at this ⊢
    have := hno m hm hml fun j hji => by have := hj' j hji; rw [getD_app_lt hji] at this; exact this
    omega
theorem sinv_up {J P most pre c} (h : SInv J P most pre c) (hc : c < most) (hn : clash J pre c = true) : SInv J P most pre (c + 1) := by
  refine ⟨h.fits, h.len, ⟨by have := h.c0; omega, by omega⟩, low_up h.low fun m hm hml he e => ?_⟩
  have := clash_of hm (by rw [hml]; exact h.len) he
  rw [e, hn] at this; cases this
/-- Going back to where a greater colour is there. -/
def bk (most : Int) : List Int → Int → Option (List Int × Int)
  | [], c => if c < most then some ([], c) else none
  | a :: r, c => if c < most then some (a :: r, c) else bk most r (a + 1)
theorem sinv_back {J P most a r c} (h : SInv J P most (r ++ [a]) c) (hc : ¬ c < most) : SInv J P most r (a + 1) := by
  have hlen := h.len
  simp only [List.length_append, List.length_singleton] at hlen
  have hf : Fits J most r := ⟨fun i hi => by
      have := h.fits.rng i (by simp; omega)
      rw [getD_app_lt hi] at this; exact this, fun p q hq hp => by
      have := h.fits.ok p q hq (by simp; omega)
      rw [getD_app_lt hp, getD_app_lt (by omega)] at this; exact this⟩
  have ha := h.fits.rng r.length (by simp)
  rw [getD_app_at] at ha
  refine ⟨hf, by omega, by omega, low_up (fun m hm hml i hi hj => ?_) fun m hm hml he e => ?_⟩
  · have := h.low m hm hml i (by simp; omega) fun j hj' => by rw [getD_app_lt (by simp; omega)]; exact hj j hj'
    rw [getD_app_lt (by simp; omega)] at this; exact this
  · have := h.low m hm hml (r.length + 1) (by simp) fun j hj' => by
      rw [getD_app_lt (by simpa using hj')]
      by_cases e2 : j < r.length
      · rw [getD_app_lt e2]; exact he j e2
      · have : j = r.length := by omega
        subst this; rw [getD_app_at]; exact e.symm
    have h2 : (r ++ [a] ++ [c]).getD (r.length + 1) 0 = c := by
      have : r.length + 1 = (r ++ [a]).length := by simp
      rw [this, getD_app_at]
    rw [h2] at this
    have := (hm.rng (r.length + 1) (by omega)).2
    omega
theorem bk_some {J P most} : ∀ {r : List Int} {c : Int} {q : List Int × Int}, SInv J P most r.reverse c → bk most r c = some q → SInv J P most q.1.reverse q.2 ∧ q.2 < most
  | [], c, q, h, hb => by
    simp only [bk] at hb
    split at hb
    · cases hb; exact ⟨h, by assumption⟩
    · cases hb
  | a :: r, c, q, h, hb => by
    simp only [bk] at hb
    split at hb
    · cases hb; exact ⟨h, by assumption⟩
    · rename_i hc
      rw [List.reverse_cons] at h
      exact bk_some (sinv_back h hc) hb
theorem bk_none {J P most} : ∀ {r : List Int} {c : Int}, SInv J P most r.reverse c → bk most r c = none → ∀ m, Fits J most m → m.length ≠ P
  | [], c, h, hb => by
    simp only [bk] at hb
    split at hb
    · cases hb
    · rename_i hc
      intro m hm hml
      have hl := h.len
      simp only [List.reverse_nil, List.length_nil] at hl
      have := h.low m hm hml 0 (by simp) (fun j hj => by omega)
      simp only [List.reverse_nil, List.nil_append] at this
      have h2 := (hm.rng 0 (by omega)).2
      have : c ≤ m.getD 0 0 := by simpa using this
      omega
  | a :: r, c, h, hb => by
    simp only [bk] at hb
    split at hb
    · cases hb
    · rename_i hc
      rw [List.reverse_cons] at h
      exact bk_none (sinv_back h hc) hb

/-! ### That it ends -/
def val (B : Nat) (l : List Int) : Nat := l.foldl (fun v x => v * B + x.toNat) 0
theorem val_push (B : Nat) (l : List Int) (c : Int) : val B (l ++ [c]) = val B l * B + c.toNat := by simp [val, List.foldl_append]
theorem val_lt {B : Nat} : ∀ (r : List Int), (∀ x ∈ r, 0 ≤ x ∧ x < B) → val B r.reverse < B ^ r.length
  | [], h => by simp [val]
  | a :: r, h => by
    rw [List.reverse_cons, val_push, List.length_cons, Nat.pow_succ]
    have h1 := val_lt r fun x hx => h x (List.mem_cons_of_mem _ hx)
    have h2 := h a List.mem_cons_self
    have h3 : (val B r.reverse + 1) * B ≤ B ^ r.length * B := Nat.mul_le_mul_right _ h1
    rw [Nat.add_mul, Nat.one_mul] at h3
    omega
/-- How far the search has come. -/
def phi (B P : Nat) (pre : List Int) (c : Int) : Nat := val B (pre ++ [c]) * B ^ (P - pre.length - 1)
theorem phi_next {B P pre c} (hl : pre.length + 1 < P) : phi B P (pre ++ [c]) 0 = phi B P pre c := by
  unfold phi
  rw [val_push B (pre ++ [c]), List.length_append, List.length_singleton]
  have : P - pre.length - 1 = (P - (pre.length + 1) - 1) + 1 := by omega
  rw [this, Nat.pow_succ]
  simp [Nat.mul_assoc, Nat.mul_comm, Nat.mul_left_comm]
theorem phi_up {B P pre c} (hB : 0 < B) (hc : 0 ≤ c) : phi B P pre c < phi B P pre (c + 1) := by
  unfold phi
  apply Nat.mul_lt_mul_of_pos_right _ (Nat.pow_pos hB)
  rw [val_push, val_push]; omega
theorem phi_back {B P : Nat} {r : List Int} {a c : Int} (hc : c < B) (ha : 0 ≤ a) (hl : r.length + 1 < P) : phi B P (r ++ [a]) c ≤ phi B P r (a + 1) := by
  unfold phi
  rw [val_push B (r ++ [a]), val_push B r a, val_push, List.length_append, List.length_singleton]
  have : P - r.length - 1 = (P - (r.length + 1) - 1) + 1 := by omega
  rw [this, Nat.pow_succ, Nat.mul_comm (B ^ _) B, ← Nat.mul_assoc]
  apply Nat.mul_le_mul_right
  have : (a + 1).toNat = a.toNat + 1 := by omega
  rw [this]
  simp only [Nat.add_mul, Nat.one_mul]
  omega
theorem bk_phi {J P most} {B : Nat} (hB : most < B) : ∀ {r : List Int} {c : Int} {q : List Int × Int}, SInv J P most r.reverse c → bk most r c = some q → phi B P r.reverse c ≤ phi B P q.1.reverse q.2
  | [], c, q, h, hb => by
    simp only [bk] at hb
    split at hb
    · cases hb; exact Nat.le_refl _
    · cases hb
  | a :: r, c, q, h, hb => by
    simp only [bk] at hb
    split at hb
    · cases hb; exact Nat.le_refl _
    · rename_i hc
      rw [List.reverse_cons] at h ⊢
      have hl := h.len
      simp only [List.length_append, List.length_singleton] at hl
      have ha := h.fits.rng r.reverse.length (by simp)
      rw [getD_app_at] at ha
      have h0 := h.c0
      exact Nat.le_trans (phi_back (by omega) ha.1 hl) (bk_phi hB (sinv_back h hc) hb)
theorem phi_le {J P most pre c} {B : Nat} (hB : most < B) (h : SInv J P most pre c) : phi B P pre c ≤ B ^ P := by
  have hl := h.len
  have h0 := h.c0
  have h1 := val_lt (B := B) (c :: pre.reverse) fun x hx => by
    rcases List.mem_cons.1 hx with rfl | hx
    · omega
    · rw [List.mem_reverse] at hx
      obtain ⟨i, hi, rfl⟩ := List.getElem_of_mem hx
      have := h.fits.rng i hi
      simp only [List.getD_eq_getElem?_getD, List.getElem?_eq_getElem hi, Option.getD_some] at this
      omega
  rw [List.reverse_cons, List.reverse_reverse, List.length_cons, List.length_reverse] at h1
  unfold phi
  calc val B (pre ++ [c]) * B ^ (P - pre.length - 1) ≤ B ^ (pre.length + 1) * B ^ (P - pre.length - 1) := Nat.mul_le_mul_right _ (Nat.le_of_lt h1)
    _ = B ^ P := by rw [← Nat.pow_add]; congr 1; omega
/-- The measure of the search. -/
def mea (B P : Nat) (pre : List Int) (c : Int) : Nat := (B ^ P - phi B P pre c) * (P + 1) + (P - pre.length)
theorem mea_next {B P pre c} (hl : pre.length + 1 < P) : mea B P (pre ++ [c]) 0 < mea B P pre c := by
  unfold mea; rw [phi_next hl]; simp; omega
theorem mea_phi {B P pre c pre' c'} (h : phi B P pre c < phi B P pre' c') (h' : phi B P pre' c' ≤ B ^ P) : mea B P pre' c' < mea B P pre c := by
  unfold mea
  have : (B ^ P - phi B P pre' c' + 1) * (P + 1) ≤ (B ^ P - phi B P pre c) * (P + 1) := Nat.mul_le_mul_right _ (by omega)
  rw [Nat.add_mul, Nat.one_mul] at this
  omega
/-- As many colours as points are always enough. -/
theorem first_all {J : Nat → Nat → Bool} {P : Nat} : ∃ m, Fits J P m ∧ m.length = P := by
  have hg : ∀ i, i < P → ((List.range P).map fun (n : Nat) => (n : Int)).getD i 0 = i := fun i hi => by simp [List.getD_eq_getElem?_getD, hi]
  refine ⟨(List.range P).map fun (n : Nat) => (n : Int), ⟨fun i hi => ?_, fun p q hq hp => ?_⟩, by simp⟩
  · simp only [List.length_map, List.length_range] at hi; rw [hg i hi]; omega
  · simp only [List.length_map, List.length_range] at hp
    rw [hg p hp, hg q (by omega)]; omega
end Go.Sx.Ch
set_option maxRecDepth 4000
namespace Go.Sx.Ch
open Go Go.Sx Go.Proofs

/-- The point of an end, and how many points. -/
def atC (C : List Int) (e : Int) : Int := C.getD (17 + e.toNat) 0
def ptsC (C : List Int) : Int := C.getD 33 0
theorem tabI_at_ne {l C : List Int} {m : Nat} {k : Nat} (hl : in16 l = true) (hk : k < l.length) (hm : m < 16) (hne : l[k]? ≠ some (m : Int)) : (tabI l C k).getD (17 + m) 0 = C.getD (17 + m) 0 := by
  obtain ⟨q, hq, h1, h2⟩ := in16_get hl hk
  simp only [tabI, h2, Int.toNat_natCast]
  have hqm : q ≠ m := fun e => hne (by rw [h1, e])
  rw [getD_set_ne (by omega), getD_set_ne (by omega)]
theorem tabE_at_skip {l C : List Int} {m : Nat} (hl : in16 l = true) (hm : m < 16) (hnot : (m : Int) ∉ l) : ∀ j, j ≤ l.length → ((List.range j).foldl (tabI l) C).getD (17 + m) 0 = C.getD (17 + m) 0
  | 0, _ => rfl
  | j + 1, hj => by
    rw [List.range_succ, List.foldl_append]
    simp only [List.foldl_cons, List.foldl_nil]
    rw [tabI_at_ne hl (by omega) hm (fun e => hnot (List.mem_of_getElem? e))]
    exact tabE_at_skip hl hm hnot j (by omega)
theorem tabE_at {l C : List Int} {m k : Nat} (hl : in16 l = true) (hnd : l.Nodup) (hC : C.length = 34) (hm : m < 16) (hk : k < l.length) (hkm : l[k]? = some (m : Int)) :
    ∀ j, j ≤ l.length → k < j → ((List.range j).foldl (tabI l) C).getD (17 + m) 0 = C.getD 33 0
  | 0, _, h => by omega
  | j + 1, hj, hkj => by
    rw [List.range_succ, List.foldl_append]
    simp only [List.foldl_cons, List.foldl_nil]
    by_cases e : j = k
    · subst e
      have hg : l.getD j 0 = (m : Int) := by rw [List.getD_eq_getElem?_getD, hkm]; rfl
      simp only [tabI, hg, Int.toNat_natCast]
      rw [getD_set_eq (by rw [List.length_set, tabE_len]; omega)]
      exact (tabE_keep hl (List.range j) C fun k hk => by have := List.mem_range.1 hk; omega).2
    · rw [tabI_at_ne hl (by omega) hm (fun h => e ?_)]
      · exact tabE_at hl hnd hC hm hk hkm j (by omega) (by omega)
      · exact nd_inj hnd h hkm
theorem tabL_at_skip {l C : List Int} {m : Nat} (hl : in16 l = true) (hm : m < 16) (hnot : (m : Int) ∉ l) : (tabL C l).getD (17 + m) 0 = C.getD (17 + m) 0 := by
  unfold tabL
  split
  · rfl
  · rw [getD_set_ne (by omega), getD_set_ne (by omega)]
    exact tabE_at_skip hl hm hnot _ (Nat.le_refl _)
theorem tabL_at {l C : List Int} {m k : Nat} (hl : in16 l = true) (hnd : l.Nodup) (hC : C.length = 34) (hm : m < 16) (hk : k < l.length) (hkm : l[k]? = some (m : Int)) : (tabL C l).getD (17 + m) 0 = C.getD 33 0 := by
  unfold tabL
  rw [if_neg (by omega), getD_set_ne (by omega), getD_set_ne (by omega)]
  exact tabE_at hl hnd hC hm hk hkm _ (Nat.le_refl _) hk
theorem tabs_at_skip {m : Nat} (hm : m < 16) : ∀ {B : List (List Int)} {C : List Int}, B.all in16 = true → (m : Int) ∉ B.flatten → (B.foldl tabL C).getD (17 + m) 0 = C.getD (17 + m) 0
  | [], C, _, _ => rfl
  | l :: B, C, h, hn => by
    simp only [List.all_cons, Bool.and_eq_true] at h
    rw [List.flatten_cons, List.mem_append, not_or] at hn
    simp only [List.foldl_cons]
    rw [tabs_at_skip hm h.2 hn.2, tabL_at_skip h.1 hm hn.1]
/-- As many points as lists that hold something. -/
theorem tabs_pts : ∀ {B : List (List Int)} {C : List Int}, B.all in16 = true → C.length = 34 → (∀ l ∈ B, l.length ≠ 0) → (B.foldl tabL C).getD 33 0 = C.getD 33 0 + B.length
  | [], C, _, _, _ => by simp
  | l :: B, C, h, hC, h0 => by
    simp only [List.all_cons, Bool.and_eq_true] at h
    simp only [List.foldl_cons]
    obtain ⟨h1, -, h3⟩ := tabL_facts (C := C) h.1 hC
    rw [tabs_pts h.2 h1 (fun l hl => h0 l (List.mem_cons_of_mem _ hl)), h3, if_neg (h0 l List.mem_cons_self), List.length_cons]
    omega
theorem pts_eq {L : List (List Int)} (h : L.all in16 = true) (h0 : ∀ l ∈ L, l.length ≠ 0) : ptsC (tabF L) = L.length := by
  unfold ptsC tabF
  rw [tabs_pts h rfl h0]
  have : Z34.getD 33 0 = 0 := by decide
  omega
theorem ptR_app {x : Int} {l : List Int} {B : List (List Int)} (hl : 0 ≤ idxL l x) : ∀ {A : List (List Int)} {i : Int}, (∀ a ∈ A, ¬ 0 ≤ idxL a x) → ptR x (A ++ l :: B) i = i + A.length
  | [], i, _ => by simp [ptR, hl]
  | a :: A, i, h => by
    simp only [List.cons_append, ptR]
    rw [if_neg (h a List.mem_cons_self), ptR_app hl (fun a ha => h a (List.mem_cons_of_mem _ ha)), List.length_cons]
    omega
/-- The table tells the point of an end as looking does. -/
theorem Cov.at {L : List (List Int)} {n : Nat} (h : Cov L n) (h0 : ∀ l ∈ L, l.length ≠ 0) {k m : Nat} {l : List Int} (hk : L[k]? = some l) (hm : (m : Int) ∈ l) : atC (tabF L) m = k ∧ Go.Sx.Ch.ptL L m = k := by
  obtain ⟨hkl, hkk⟩ := List.getElem?_eq_some_iff.1 hk
  have hs : L = L.take k ++ l :: L.drop (k + 1) := by
    rw [← hkk, ← List.drop_eq_getElem_cons hkl, List.take_append_drop]
  obtain ⟨j, hj, hjm⟩ := List.getElem_of_mem hm
  have h16 := h.h16
  have hnd := h.nd
  have hin := h.rng m (List.mem_flatten.2 ⟨l, List.mem_of_getElem? hk, hm⟩)
  have hlt : m < 16 := by have := h.le; omega
  generalize hA : L.take k = A at hs
  generalize L.drop (k + 1) = B at hs
  have hAl : A.length = k := by rw [← hA, List.length_take]; omega
  subst hs
  have hA16 : A.all in16 = true := List.all_eq_true.2 fun x hx => List.all_eq_true.1 h16 x (by simp [hx])
  have hB16 : B.all in16 = true := List.all_eq_true.2 fun x hx => List.all_eq_true.1 h16 x (by simp [hx])
  have hl16 : in16 l = true := List.all_eq_true.1 h16 l (by simp)
  rw [List.flatten_append, List.flatten_cons] at hnd
  obtain ⟨-, h2, hAn⟩ := List.nodup_append.1 hnd
  obtain ⟨h3, -, h5⟩ := List.nodup_append.1 h2
  refine ⟨?_, ?_⟩
  · have e : tabF (A ++ l :: B) = B.foldl tabL (tabL (tabF A) l) := by simp [tabF, List.foldl_append]
    unfold atC
    rw [e, Int.toNat_natCast, tabs_at_skip hlt hB16 (fun h => h5 _ hm _ h rfl), tabL_at hl16 h3 (tabF_facts hA16).1 hlt hj (by rw [List.getElem?_eq_getElem hj, hjm])]
    have := pts_eq hA16 (fun l hl => h0 l (by simp [hl]))
    unfold ptsC at this
    rw [this, hAl]
  · unfold Go.Sx.Ch.ptL
    rw [ptR_app (idxL_mem.2 hm) (fun a ha hx => hAn _ (List.mem_flatten.2 ⟨a, ha, idxL_mem.1 hx⟩) _ (List.mem_append_left _ hm) rfl), hAl]
    omega
theorem Cov.pnt {L : List (List Int)} {n : Nat} (h : Cov L n) (h0 : ∀ l ∈ L, l.length ≠ 0) {m : Nat} (hm : m < n) : ∃ k l, L[k]? = some l ∧ (m : Int) ∈ l ∧ atC (tabF L) m = ((k : Nat) : Int) ∧ Go.Sx.Ch.ptL L m = k := by
  obtain ⟨l, i, hl, hi, him⟩ := h.place hm
  obtain ⟨k, hk, hkl⟩ := List.getElem_of_mem hl
  have hkk : L[k]? = some l := by rw [List.getElem?_eq_getElem hk, hkl]
  have hmem := List.mem_of_getElem? him
  exact ⟨k, l, hkk, hmem, h.at h0 hkk hmem⟩
theorem chk_ne {L : List (List Int)} (h : chk L = 0) : ∀ l ∈ L, l.length ≠ 0 := fun l hl => (scanM_in (chk_zero h).2.1 l hl).1

/-! ### Which points a line joins -/
/-- .. as the document looks for it. -/
def joinR (L : List (List Int)) (p q : Int) : Bool := (L.getD p.toNat []).any fun e => decide (ptL L (otherI e) = q)
def nrI (C : List Int) (N : List Nat) (e : Nat) : List Nat := N.set (atC C e).toNat (N.getD (atC C e).toNat 0 ||| 2 ^ (atC C (othI e)).toNat)
def nearN (C : List Int) (n : Nat) : List Nat := (List.range n).foldl (nrI C) (List.replicate (ptsC C).toNat 0)
theorem nearN_succ (C : List Int) (n : Nat) : nearN C (n + 1) = nrI C (nearN C n) n := by simp [nearN, List.range_succ, List.foldl_append]
theorem nearN_len (C : List Int) (n : Nat) : (nearN C n).length = (ptsC C).toNat := by
  induction n with
  | zero => simp [nearN]
  | succ n ih => rw [nearN_succ]; simp [nrI, ih]
theorem nearN_lt {C : List Int} : ∀ (n : Nat), (∀ e : Nat, e < n → (atC C (othI e)).toNat < 16) → ∀ i, (nearN C n).getD i 0 < 65536
  | 0, _, i => by
    have : (nearN C 0).getD i 0 = 0 := by simp [nearN, List.getD_eq_getElem?_getD, List.getElem?_replicate]; split <;> rfl
    omega
  | n + 1, h, i => by
    have ih := nearN_lt n (fun e he => h e (by omega))
    rw [nearN_succ]
    unfold nrI
    by_cases e : (atC C n).toNat = i ∧ i < (nearN C n).length
    · rw [e.1, List.getD_eq_getElem?_getD, List.getElem?_set_self e.2]
      have h2 : 2 ^ (atC C (othI n)).toNat < 2 ^ 16 := Nat.pow_lt_pow_right (by omega) (h n (by omega))
      exact Nat.or_lt_two_pow (n := 16) (ih i) h2
    · have : ((nearN C n).set (atC C n).toNat ((nearN C n).getD (atC C n).toNat 0 ||| 2 ^ (atC C (othI n)).toNat)).getD i 0 = (nearN C n).getD i 0 := by
        simp only [List.getD_eq_getElem?_getD, List.getElem?_set]
        split
        · rename_i e1
          split
          · rename_i e2; exact absurd ⟨e1, by rw [← e1]; exact e2⟩ e
          · rename_i e2; rw [List.getElem?_eq_none (by omega)]
        · rfl
      rw [this]; exact ih i
def nearF (C : List Int) : List Nat := nearN C (endsC C).toNat
theorem nearN_bit {C : List Int} {p q : Nat} (hp : p < (ptsC C).toNat) : ∀ (n : Nat), (∀ e : Nat, e < n → 0 ≤ atC C e ∧ 0 ≤ atC C (othI e)) →
    (((nearN C n).getD p 0).testBit q = true ↔ ∃ e : Nat, e < n ∧ atC C e = p ∧ atC C (othI e) = q)
  | 0, _ => by
    have : (nearN C 0).getD p 0 = 0 := by simp [nearN, List.getD_eq_getElem?_getD, List.getElem?_replicate, hp]
    rw [this]; simp
  | n + 1, h => by
    have ih := nearN_bit (q := q) hp n (fun e he => h e (by omega))
    obtain ⟨ha, hb⟩ := h n (by omega)
    rw [nearN_succ]
    unfold nrI
    have hlen := nearN_len C n
    by_cases e : (atC C n).toNat = p
    · rw [e, List.getD_eq_getElem?_getD, List.getElem?_set_self (by omega), Option.getD_some, Nat.testBit_or, Bool.or_eq_true, ih, Nat.testBit_two_pow, decide_eq_true_eq]
      constructor
      · rintro (⟨m, h1, h2, h3⟩ | h1)
        · exact ⟨m, by omega, h2, h3⟩
        · exact ⟨n, by omega, by omega, by omega⟩
      · rintro ⟨m, h1, h2, h3⟩
        by_cases em : m = n
        · subst em; right; omega
        · exact .inl ⟨m, by omega, h2, h3⟩
    · rw [List.getD_eq_getElem?_getD, List.getElem?_set_ne e, ← List.getD_eq_getElem?_getD, ih]
      constructor
      · rintro ⟨m, h1, h2, h3⟩; exact ⟨m, by omega, h2, h3⟩
      · rintro ⟨m, h1, h2, h3⟩
        by_cases em : m = n
        · subst em; omega
        · exact ⟨m, by omega, h2, h3⟩
/-- The bits tell what the document's looking tells. -/
theorem near_join {L : List (List Int)} (hc : chk L = 0) {p : Nat} (q : Nat) (hp : p < L.length) : ((nearF (tabF L)).getD p 0).testBit q = joinR L p q := by
  have hcv := chk_cov hc
  have h0 := chk_ne hc
  obtain ⟨h1, -, h3⟩ := chk_zero hc
  have hpts : ptsC (tabF L) = L.length := pts_eq hcv.h16 h0
  have hends : (endsC (tabF L)).toNat = total L := by
    have := (tabF_facts hcv.h16).2.1
    unfold endsC; omega
  have hat : ∀ m : Nat, m < total L → ∃ k : Nat, k < L.length ∧ atC (tabF L) m = k ∧ ptL L m = k := fun m hm => by
    obtain ⟨k, l, e1, e2, e3, e4⟩ := hcv.pnt h0 hm
    exact ⟨k, (List.getElem?_eq_some_iff.1 e1).1, e3, e4⟩
  have hoth : ∀ m : Nat, m < total L → othI m = (onat m : Int) ∧ otherI m = (onat m : Int) ∧ onat m < total L := fun m hm => ⟨oth_onat m (by omega), other_onat m, onat_lt (by omega) hm⟩
  apply Bool.eq_iff_iff.2
  unfold nearF
  rw [hends, nearN_bit (by omega) _ (fun e he => by
    obtain ⟨k, -, e1, -⟩ := hat e he
    obtain ⟨g1, -, g3⟩ := hoth e he
    obtain ⟨k', -, e2, -⟩ := hat (onat e) g3
    rw [g1, e1, e2]; omega)]
  unfold joinR
  rw [List.any_eq_true, Int.toNat_natCast]
  constructor
  · rintro ⟨m, hm, m1, m2⟩
    obtain ⟨k, l, e1, e2, e3, e4⟩ := hcv.pnt h0 hm
    obtain ⟨g1, g2, g3⟩ := hoth m hm
    have hkp : k = p := by omega
    subst hkp
    refine ⟨(m : Int), by rw [List.getD_eq_getElem?_getD, e1]; exact e2, ?_⟩
    obtain ⟨k', -, e5, e6⟩ := hat (onat m) g3
    rw [g1, e5] at m2
    rw [decide_eq_true_eq, g2, e6]; exact m2
  · rintro ⟨e, he, hq⟩
    rw [decide_eq_true_eq] at hq
    have hpl : L[p]? = some (L.getD p []) := by rw [List.getD_eq_getElem?_getD, List.getElem?_eq_getElem hp]; rfl
    have hin := hcv.rng e (List.mem_flatten.2 ⟨_, List.mem_of_getElem? hpl, he⟩)
    obtain ⟨m, rfl⟩ := Int.eq_ofNat_of_zero_le hin.1
    have hm : m < total L := by omega
    obtain ⟨g1, g2, g3⟩ := hoth m hm
    obtain ⟨k', -, e5, e6⟩ := hat (onat m) g3
    exact ⟨m, hm, (hcv.at h0 hpl he).1, by rw [g1, e5]; rw [g2, e6] at hq; exact hq⟩
end Go.Sx.Ch
