/- What functions of the chart layer return: steps around a map. No conditions. -/
import Derived.Test.YtfiebjbhiflfpaaDoorSxPCa
import Derived.Test.YtfiebjbhiflfpaaDoorSxJSttoSd
import Derived.Test.YtfiebjbhiflfpaaDoorSxJNtoNq
import Derived.KernelRfl
import Derived.Test.YtfiebjbhiflfpaaDoorProg
set_option linter.unusedVariables false
set_option linter.unusedSimpArgs false
section
namespace Go.Sx
theorem drop_split {α : Type} {l : List α} {i : Nat} (h : i < l.length) : ∃ x r, l.drop i = x :: r ∧ l[i]? = some x ∧ l[i] = x ∧ l.drop (i + 1) = r ∧ x ∈ l :=
  ⟨l[i], l.drop (i + 1), List.drop_eq_getElem_cons h, by simp [h], rfl, rfl, List.getElem_mem h⟩
end Go.Sx
namespace Go.Sx.Ch
open Go Go.Sx Go.Proofs
abbrev vI (n : Int) : AV := .v (.int .i64 n)
abbrev vB (b : Bool) : AV := .v (.bool b)
def small (l : List Int) : Bool := decide (l.length ≤ 1000000)
def within (a n b : Int) : Bool := decide (a ≤ n) && decide (n ≤ b)
theorem within_iff {a n b : Int} : within a n b = true ↔ a ≤ n ∧ n ≤ b := by simp [within]
def oth : List Int := [1, 0, 3, 2, 5, 4, 7, 6, 9, 8, 11, 10, 13, 12, 15, 14]
@[simp] theorem globA_0 : globA 0 = .elt (ints oth) 0 := rfl
theorem oth_get {e : Int} (h : 0 ≤ e ∧ e ≤ 15) : ∃ v, oth[e.toNat]? = some v ∧ 0 ≤ v ∧ v ≤ 15 := by
  obtain ⟨n, rfl⟩ := Int.eq_ofNat_of_zero_le h.1
  have hn : n < 16 := by omega
  simp only [Int.toNat_natCast]
  have : ∀ n, n < 16 → ∃ v, oth[n]? = some v ∧ 0 ≤ v ∧ v ≤ 15 := by decide
  exact this n hn
/-! ### Steps -/
def afterC (C : List Int) (e : Int) : Int := C.getD (1 + e.toNat) 0
def othI (e : Int) : Int := oth.getD e.toNat 0
def t34 (C : List Int) : Bool := decide (C.length = 34)
def s71 : Sp := spT 71 [.tb, .i] fun (C : List Int) (e : Int) => res (t34 C && within 0 e 15) (vI (afterC C e))
@[simp] theorem s71_g : s71.g = 71 := rfl
@[simp] theorem s71_f : s71.f = (spT 71 [.tb, .i] fun (C : List Int) (e : Int) => res (t34 C && within 0 e 15) (vI (afterC C e))).f := rfl
theorem s71_ok : s71.ok Tryd.prog := by
  apply spT_ok
  simp only [OkT, Ty.all, List.nil_append, List.cons_append]
  intro (C : List Int) (e : Int)
  apply okT_res; intro hg
  refine P71.rz (ss := []) trivial (by simp) fun Q hQ => ?_
  delta p71 p71_r0 p71_r1
  simp only [Bool.and_eq_true, t34, decide_eq_true_eq, within_iff] at hg
  obtain ⟨h34, h0, h15⟩ := hg
  obtain ⟨v, hv⟩ : ∃ v, C[1 + e.toNat]? = some v := ⟨C[1 + e.toNat], by rw [List.getElem?_eq_getElem]⟩
  have hr : afterC C e = v := by simp [afterC, List.getD_eq_getElem?_getD, hv]
  have h16 : e < 16 := by omega
  simp (disch := omega) [oLt, oLe, oLtN, oLeN, nLt, nLe, nLtN, nLeN, h0, h16, hv, hr]
  exact hQ _ _ (.p (.inl rfl) (by simp [hr, (List.getElem?_eq_some_iff.1 hv).2]) rfl)
def s84 : Sp := spT 84 [.tb, .i] fun (C : List Int) (e : Int) => res (t34 C && within 0 e 15) (vI (afterC C (othI e)))
@[simp] theorem s84_g : s84.g = 84 := rfl
@[simp] theorem s84_f : s84.f = (spT 84 [.tb, .i] fun (C : List Int) (e : Int) => res (t34 C && within 0 e 15) (vI (afterC C (othI e)))).f := rfl
theorem s84_ok : s84.ok Tryd.prog := by
  apply spT_ok
  simp only [OkT, Ty.all, List.nil_append, List.cons_append]
  intro (C : List Int) (e : Int)
  apply okT_res; intro hg
  refine P84.rz (ss := []) trivial (by simp) fun Q hQ => ?_
  delta p84 p84_r0 p84_r1
  simp only [Bool.and_eq_true, t34, decide_eq_true_eq, within_iff] at hg
  obtain ⟨h34, h0, h15⟩ := hg
  have h16 : e < 16 := by omega
  obtain ⟨o, ho, o0, o15⟩ := oth_get ⟨h0, h15⟩
  have ho' : othI e = o := by simp [othI, List.getD_eq_getElem?_getD, ho]
  have o16 : o < 16 := by omega
  obtain ⟨v, hv⟩ : ∃ v, C[1 + o.toNat]? = some v := ⟨C[1 + o.toNat], by rw [List.getElem?_eq_getElem]⟩
  have hr : afterC C (othI e) = v := by rw [ho']; simp [afterC, List.getD_eq_getElem?_getD, hv]
  simp (disch := omega) [oLt, oLe, oLtN, oLeN, nLt, nLe, nLtN, nLeN, h0, h16, ho, o0, o16, hv, hr]
  exact hQ _ _ (.p (.inl rfl) (by simp [hr, (List.getElem?_eq_some_iff.1 hv).2]) rfl)
def s69 : Sp := spT 69 [.i, .el] fun (e : Int) (B : List Int) => res (decide (B.length = 16) && within 0 e 15) (vI (B.getD e.toNat 0))
@[simp] theorem s69_g : s69.g = 69 := rfl
@[simp] theorem s69_f : s69.f = (spT 69 [.i, .el] fun (e : Int) (B : List Int) => res (decide (B.length = 16) && within 0 e 15) (vI (B.getD e.toNat 0))).f := rfl
theorem s69_ok : s69.ok Tryd.prog := by
  apply spT_ok
  simp only [OkT, Ty.all, List.nil_append, List.cons_append]
  intro (e : Int) (B : List Int)
  apply okT_res; intro hg
  refine P69.rz (ss := []) trivial (by simp) fun Q hQ => ?_
  delta p69 p69_r0 p69_r1
  simp only [Bool.and_eq_true, decide_eq_true_eq, within_iff] at hg
  obtain ⟨h16', h0, h15⟩ := hg
  have h16 : e < 16 := by omega
  obtain ⟨v, hv⟩ : ∃ v, B[e.toNat]? = some v := ⟨B[e.toNat], by rw [List.getElem?_eq_getElem]⟩
  have hr : B.getD e.toNat 0 = v := by simp [List.getD_eq_getElem?_getD, hv]
  simp (disch := omega) [oLt, oLe, oLtN, oLeN, nLt, nLe, nLtN, nLeN, h0, h16, hv, hr]
  exact hQ _ _ (.p (.inl rfl) (by simp [- List.getD_eq_getElem?_getD, hr, (List.getElem?_eq_some_iff.1 hv).2]) rfl)
end Go.Sx.Ch
end
section
namespace Go.Sx.Ch
open Go Go.Sx Go.Proofs
def alongC (C : List Int) (e : Int) : Int := afterC C (othI e)
def backC (B : List Int) (e : Int) : Int := B.getD e.toNat 0
def orb (σ : Int → Int) (a : Int) : Nat → Int → Option (List Int)
  | 0, _ => none
  | f + 1, e => if σ e = a then some [e] else (orb σ a f (σ e)).map (e :: ·)
def setM (M : List Bool) (l : List Int) : List Bool := l.foldl (fun M e => M.set e.toNat true) M
theorem setM_cons (M : List Bool) (e : Int) (l : List Int) : setM M (e :: l) = setM (M.set e.toNat true) l := rfl
theorem setM_len (M : List Bool) (l : List Int) : (setM M l).length = M.length := by
  unfold setM
  induction l generalizing M with
  | nil => rfl
  | cons e l ih => simp only [List.foldl_cons]; rw [ih]; simp
def cycS (σ : Int → Int) (s : List Bool × List (List Int)) (k : Nat) : List Bool × List (List Int) :=
  if s.1.getD k false = true then s else (setM s.1 ((orb σ k 16 k).getD []), s.2 ++ [(orb σ k 16 k).getD []])
def cycN (σ : Int → Int) (n : Nat) : List Bool × List (List Int) := (List.range n).foldl (cycS σ) (List.replicate 16 false, [])
theorem cycN_succ (σ : Int → Int) (n : Nat) : cycN σ (n + 1) = cycS σ (cycN σ n) n := by
  simp [cycN, List.range_succ, List.foldl_append]
theorem cycN_len (σ : Int → Int) (n : Nat) : (cycN σ n).1.length = 16 ∧ (cycN σ n).2.length ≤ n := by
  induction n with
  | zero => simp [cycN]
  | succ n ih =>
    rw [cycN_succ]; unfold cycS
    split
    · exact ⟨ih.1, by omega⟩
    · refine ⟨by rw [setM_len]; exact ih.1, by simp; exact ih.2⟩
def cyc (σ : Int → Int) (n : Nat) : List (List Int) := (cycN σ n).2
def okS (σ : Int → Int) (n : Nat) : Bool := decide (n ≤ 16) && (List.range n).all fun k => within 0 (σ k) (n - 1) && (orb σ k 16 k).isSome
theorem okS_iff {σ : Int → Int} {n : Nat} : okS σ n = true ↔ n ≤ 16 ∧ ∀ k, k < n → (0 ≤ σ k ∧ σ k ≤ n - 1) ∧ ∃ l, orb σ k 16 k = some l := by
  simp only [okS, Bool.and_eq_true, decide_eq_true_eq, List.all_eq_true, List.mem_range, within_iff, Option.isSome_iff_exists]
theorem orb_len {σ : Int → Int} {a : Int} : ∀ {f : Nat} {e : Int} {l : List Int}, orb σ a f e = some l → l.length ≤ f ∧ l ≠ []
  | 0, e, l, h => by cases h
  | f + 1, e, l, h => by
    simp only [orb] at h
    split at h
    · cases h; simp
    · obtain ⟨r, hr, rfl⟩ := Option.map_eq_some_iff.1 h
      have := (orb_len hr).1
      simp; omega
def gA (i : Nat) : List Int → AV
  | [] => .v (.slice none 0 0)
  | _ :: r => .ref i 0 (r.length + 1) 1 none
def gH (i : Nat) : List Int → HL
  | [] => []
  | x :: r => [(i, .cells (ints (x :: r)))]
def gN : List Int → Nat
  | [] => 0
  | _ :: _ => 1
def fA (i : Nat) : List (List Int) → AV
  | [] => .v (.slice none 0 0)
  | _ :: r => .ref i 0 (r.length + 1) 1 none
def fH (i : Nat) : List (List Int) → HL
  | [] => []
  | x :: r => [(i, .cells (lls (x :: r)))]
def fN : List (List Int) → Nat
  | [] => 0
  | _ :: _ => 1
def endsC (C : List Int) : Int := C.getD 0 0
end Go.Sx.Ch
end
section
namespace Go.Sx.Ch
open Go Go.Sx Go.Proofs
theorem ph : ∀ (n : Nat) (f : Nat → Nat), (∀ i, i ≤ n → f i < n) → ∃ i j, i < j ∧ j ≤ n ∧ f i = f j
  | 0, f, h => absurd (h 0 (Nat.le_refl _)) (by omega)
  | n + 1, f, h => by
    by_cases hx : ∃ i, i ≤ n ∧ f i = f (n + 1)
    · obtain ⟨i, hi, e⟩ := hx; exact ⟨i, n + 1, by omega, Nat.le_refl _, e⟩
    · have hx' : ∀ i, i ≤ n → f i ≠ f (n + 1) := fun i hi e => hx ⟨i, hi, e⟩
      have h2 := h (n + 1) (Nat.le_refl _)
      obtain ⟨i, j, hij, hj, e⟩ := ph n (fun i => if f i = n then f (n + 1) else f i) (fun i hi => by
        have h1 := h i (by omega)
        have h3 := hx' i hi
        by_cases e : f i = n
        · simp only [if_pos e]; omega
        · simp only [if_neg e]; omega)
      refine ⟨i, j, hij, by omega, ?_⟩
      have hi' := hx' i (by omega)
      have hj' := hx' j hj
      by_cases ei : f i = n
      · by_cases ej : f j = n
        · omega
        · simp only [if_pos ei, if_neg ej] at e; exact absurd e.symm hj'
      · by_cases ej : f j = n
        · simp only [if_neg ei, if_pos ej] at e; exact absurd e hi'
        · simpa only [if_neg ei, if_neg ej] using e
def itr (σ : Int → Int) : Nat → Int → Int
  | 0, a => a
  | k + 1, a => σ (itr σ k a)
theorem orb_of {σ : Int → Int} {a : Int} : ∀ {f i : Nat}, (∃ p, i < p ∧ p ≤ i + f ∧ itr σ p a = a) → ∃ l, orb σ a f (itr σ i a) = some l
  | 0, i, h => by obtain ⟨p, h1, h2, _⟩ := h; omega
  | f + 1, i, h => by
    simp only [orb]
    by_cases e : σ (itr σ i a) = a
    · rw [if_pos e]; exact ⟨_, rfl⟩
    · rw [if_neg e]
      obtain ⟨p, h1, h2, h3⟩ := h
      have hp : p ≠ i + 1 := fun hh => e (by rw [hh] at h3; exact h3)
      obtain ⟨l, hl⟩ := orb_of (f := f) (i := i + 1) ⟨p, by omega, by omega, h3⟩
      have hl' : orb σ a f (σ (itr σ i a)) = some l := hl
      rw [hl']; exact ⟨_, rfl⟩
structure Prm (σ : Int → Int) (n : Nat) : Prop where
  rng : ∀ k : Nat, k < n → 0 ≤ σ k ∧ σ k ≤ n - 1
  inj : ∀ i j : Nat, i < n → j < n → σ i = σ j → i = j
theorem Prm.itr {σ : Int → Int} {n : Nat} (h : Prm σ n) {a : Nat} (ha : a < n) : ∀ k, ∃ m : Nat, m < n ∧ itr σ k a = m
  | 0 => ⟨a, ha, rfl⟩
  | k + 1 => by
    obtain ⟨m, hm, e⟩ := Prm.itr h ha k
    obtain ⟨h0, h1⟩ := h.rng m hm
    obtain ⟨q, hq⟩ := Int.eq_ofNat_of_zero_le h0
    exact ⟨q, by omega, by simp only [Go.Sx.Ch.itr]; rw [e, hq]⟩
theorem Prm.back {σ : Int → Int} {n : Nat} (h : Prm σ n) {a : Nat} (ha : a < n) : ∀ i j, i < j → Go.Sx.Ch.itr σ i a = Go.Sx.Ch.itr σ j a → Go.Sx.Ch.itr σ (j - i) a = a
  | 0, j, _, e => e.symm
  | i + 1, j, hij, e => by
    obtain ⟨j, rfl⟩ : ∃ j', j = j' + 1 := ⟨j - 1, by omega⟩
    obtain ⟨m, hm, em⟩ := h.itr ha i
    obtain ⟨q, hq, eq⟩ := h.itr ha j
    simp only [Go.Sx.Ch.itr] at e
    rw [em, eq] at e
    have hmq := h.inj m q hm hq e
    have : j + 1 - (i + 1) = j - i := by omega
    rw [this]
    exact Prm.back h ha i j (by omega) (by rw [em, eq, hmq])
theorem Prm.ok {σ : Int → Int} {n : Nat} (h : Prm σ n) (hn : n ≤ 16) : okS σ n = true := by
  refine okS_iff.2 ⟨hn, fun k hk => ⟨h.rng k hk, ?_⟩⟩
  obtain ⟨i, j, hij, hj, e⟩ := ph n (fun t => (Go.Sx.Ch.itr σ t k).toNat) (fun t _ => by
    obtain ⟨m, hm, em⟩ := h.itr hk t
    simp only [em, Int.toNat_natCast]; exact hm)
  obtain ⟨m, hm, em⟩ := h.itr hk i
  obtain ⟨q, hq, eq⟩ := h.itr hk j
  simp only [em, eq, Int.toNat_natCast] at e
  have hb := h.back hk i j hij (by rw [em, eq, e])
  exact orb_of (f := 16) (i := 0) ⟨j - i, by omega, by omega, hb⟩
end Go.Sx.Ch
end
section
namespace Go.Sx.Ch
open Go Go.Sx Go.Proofs
def Z34 : List Int := List.replicate 34 0
def tabI (l : List Int) (C : List Int) (k : Nat) : List Int :=
  (C.set (1 + (l.getD k 0).toNat) (l.getD ((k + 1) % l.length) 0)).set (17 + (l.getD k 0).toNat) (C.getD 33 0)
def tabE (l C : List Int) : List Int := (List.range l.length).foldl (tabI l) C
def tabL (C : List Int) (l : List Int) : List Int :=
  if l.length = 0 then C else ((tabE l C).set 0 ((tabE l C).getD 0 0 + l.length)).set 33 ((tabE l C).getD 33 0 + 1)
def tabF (L : List (List Int)) : List Int := L.foldl tabL Z34
def total (L : List (List Int)) : Nat := (L.map List.length).sum
def in16 (l : List Int) : Bool := l.all (within 0 · 15)
theorem in16_get {l : List Int} (h : in16 l = true) {k : Nat} (hk : k < l.length) : ∃ m : Nat, m < 16 ∧ l[k]? = some (m : Int) ∧ l.getD k 0 = m := by
  have h1 := within_iff.1 (List.all_eq_true.1 h l[k] (List.getElem_mem hk))
  obtain ⟨m, hm⟩ := Int.eq_ofNat_of_zero_le h1.1
  exact ⟨m, by omega, by rw [List.getElem?_eq_getElem hk, hm], by rw [List.getD_eq_getElem?_getD, List.getElem?_eq_getElem hk, hm]; rfl⟩
theorem tabI_len (l C : List Int) (k : Nat) : (tabI l C k).length = C.length := by simp [tabI]
theorem tabE_len (l : List Int) : ∀ (ks : List Nat) (C : List Int), (ks.foldl (tabI l) C).length = C.length
  | [], C => rfl
  | k :: ks, C => by simp only [List.foldl_cons]; rw [tabE_len l ks, tabI_len]
theorem getD_set_ne {C : List Int} {i j : Nat} {v d : Int} (h : i ≠ j) : (C.set i v).getD j d = C.getD j d := by
  simp [List.getD_eq_getElem?_getD, List.getElem?_set, h]
theorem getD_set_eq {C : List Int} {i : Nat} {v d : Int} (h : i < C.length) : (C.set i v).getD i d = v := by
  simp [List.getD_eq_getElem?_getD, List.getElem?_set, h]
theorem tabI_keep {l C : List Int} {k : Nat} (h : in16 l = true) (hk : k < l.length) : (tabI l C k).getD 0 0 = C.getD 0 0 ∧ (tabI l C k).getD 33 0 = C.getD 33 0 := by
  obtain ⟨m, hm, -, h2⟩ := in16_get h hk
  simp only [tabI, h2, Int.toNat_natCast]
  constructor <;> (rw [getD_set_ne (by omega), getD_set_ne (by omega)])
theorem tabE_keep {l : List Int} (h : in16 l = true) : ∀ (ks : List Nat) (C : List Int), (∀ k ∈ ks, k < l.length) → (ks.foldl (tabI l) C).getD 0 0 = C.getD 0 0 ∧ (ks.foldl (tabI l) C).getD 33 0 = C.getD 33 0
  | [], C, _ => ⟨rfl, rfl⟩
  | k :: ks, C, hk => by
    simp only [List.foldl_cons]
    obtain ⟨h1, h2⟩ := tabE_keep h ks (tabI l C k) (fun j hj => hk j (List.mem_cons_of_mem _ hj))
    obtain ⟨h3, h4⟩ := tabI_keep (C := C) h (hk k List.mem_cons_self)
    exact ⟨h1.trans h3, h2.trans h4⟩
theorem tabL_facts {l C : List Int} (h : in16 l = true) (hC : C.length = 34) : (tabL C l).length = 34 ∧ (tabL C l).getD 0 0 = C.getD 0 0 + l.length ∧ (tabL C l).getD 33 0 = C.getD 33 0 + (if l.length = 0 then 0 else 1) := by
  unfold tabL
  by_cases h0 : l.length = 0
  · rw [if_pos h0, if_pos h0]; exact ⟨hC, by omega, by omega⟩
  · rw [if_neg h0, if_neg h0]
    obtain ⟨h1, h2⟩ := tabE_keep h (List.range l.length) C (fun k hk => List.mem_range.1 hk)
    have hl : (tabE l C).length = 34 := by unfold tabE; rw [tabE_len, hC]
    refine ⟨by simp [hl], ?_, ?_⟩
    · rw [getD_set_ne (by omega), getD_set_eq (by omega)]; unfold tabE; rw [h1]
    · rw [getD_set_eq (by simp [hl])]; unfold tabE; rw [h2]
def g70 (L : List (List Int)) : Bool := L.all in16 && decide (total L ≤ 10000) && decide (L.length ≤ 10000)
theorem total_take (L : List (List Int)) (i : Nat) : total (L.take i) ≤ total L := by
  induction L generalizing i with
  | nil => simp
  | cons l L ih =>
    cases i with
    | zero => simp [total]
    | succ i =>
      have := ih i
      simp only [total, List.take_succ_cons, List.map_cons, List.sum_cons] at this ⊢
      omega
theorem tabF_snoc (L : List (List Int)) (l : List Int) : tabF (L ++ [l]) = tabL (tabF L) l := by simp [tabF, List.foldl_append]
theorem total_snoc (L : List (List Int)) (l : List Int) : total (L ++ [l]) = total L + l.length := by simp [total]
theorem tabF_facts {L : List (List Int)} (h : L.all in16 = true) : (tabF L).length = 34 ∧ (tabF L).getD 0 0 = total L ∧ 0 ≤ (tabF L).getD 33 0 ∧ (tabF L).getD 33 0 ≤ L.length := by
  have key : ∀ (L M : List (List Int)), M.all in16 = true → ((tabF L).length = 34 ∧ (tabF L).getD 0 0 = total L ∧ 0 ≤ (tabF L).getD 33 0 ∧ (tabF L).getD 33 0 ≤ L.length) →
      ((tabF (L ++ M)).length = 34 ∧ (tabF (L ++ M)).getD 0 0 = total (L ++ M) ∧ 0 ≤ (tabF (L ++ M)).getD 33 0 ∧ (tabF (L ++ M)).getD 33 0 ≤ (L ++ M).length) := by
    intro L M
    induction M generalizing L with
    | nil => intro _ h; simpa using h
    | cons l M ih =>
      intro hM ⟨h1, h2, h3, h4⟩
      simp only [List.all_cons, Bool.and_eq_true] at hM
      have e : L ++ l :: M = (L ++ [l]) ++ M := by simp
      rw [e]
      refine ih _ hM.2 ?_
      obtain ⟨q1, q2, q3⟩ := tabL_facts hM.1 h1
      rw [tabF_snoc, total_snoc]
      refine ⟨q1, by rw [q2, h2]; omega, ?_, ?_⟩
      · rw [q3]; split <;> omega
      · rw [q3]; simp only [List.length_append, List.length_cons, List.length_nil]; split <;> omega
  simpa using key [] L h ⟨rfl, rfl, by decide, by decide⟩
end Go.Sx.Ch
end
section
set_option maxRecDepth 4000
namespace Go.Sx.Ch
open Go Go.Sx Go.Proofs
theorem splice_all {cs ys : List AV} (h : ys.length = cs.length) : splice cs 0 ys = ys := by simp [splice, h]
set_option maxHeartbeats 2000000
def s70 : Sp := spT 70 [.ll] fun (L : List (List Int)) => res (g70 L) (.agg (ints (tabF L)))
@[simp] theorem s70_g : s70.g = 70 := rfl
@[simp] theorem s70_f : s70.f = (spT 70 [.ll] fun (L : List (List Int)) => res (g70 L) (.agg (ints (tabF L)))).f := rfl
theorem s70_ok : s70.ok Tryd.prog := by
  apply spT_ok
  simp only [OkT, Ty.all, List.nil_append, List.cons_append]
  intro (L : List (List Int)) u
  apply okT_res; intro hg
  refine P70.rz (ss := []) trivial (by simp) fun Q hQ => ?_
  delta p70 p70_r0 p70_r1 p70_r2
  simp only [g70, Bool.and_eq_true, decide_eq_true_eq] at hg
  obtain ⟨⟨h16, htot⟩, hlen⟩ := hg
  simp (disch := omega) [oLt, oLe, oLtN, oLeN, nLt, nLe, nLtN, nLeN]
  refine XZ_for (fun i : Nat => ⟨[(2, .ptr 0 0), (3, .ptr 1 0), (8, .il (lls L) L.length u), (9, vI L.length), (10, vI i)], [(0, .cells (ints Z34)), (1, .cells (ints (tabF (L.take i))))], 2⟩) (fun i => L.length - i) (fun i => i ≤ L.length) 0 (by simp) (.tot [2, 3] (by simp [tabF, Z34])) ?_
  intro i hi N Q' hN hE
  have hpre : (L.take i).all in16 = true := List.all_eq_true.2 fun l hl => List.all_eq_true.1 h16 l (List.mem_of_mem_take hl)
  obtain ⟨f1, f2, f3, f4⟩ := tabF_facts hpre
  rcases Nat.lt_or_ge i L.length with h | h
  · have hic : (i : Int) < L.length := by omega
    obtain ⟨l, r, -, e2, e3, -, e5⟩ := drop_split h
    have hl16 : in16 l = true := List.all_eq_true.1 h16 l e5
    have hnext : tabF (L.take (i + 1)) = tabL (tabF (L.take i)) l := by rw [List.take_succ_eq_append_getElem h, e3, tabF_snoc]
    have htl : total (L.take (i + 1)) ≤ 10000 := Nat.le_trans (total_take L _) htot
    rw [List.take_succ_eq_append_getElem h, e3, total_snoc] at htl
    have fin : ∀ s', ChgT 0 s' ⟨[(2, .ptr 0 0), (3, .ptr 1 0), (8, .il (lls L) L.length u), (9, vI L.length), (10, vI ((i + 1 : Nat) : Int))], [(0, .cells (ints Z34)), (1, .cells (ints (tabL (tabF (L.take i)) l)))], 2⟩ → N s' := fun s' hh => hN s' (i + 1) (by omega) h (by rw [hnext]; exact hh)
    have f4' : (tabF (L.take i)).getD 33 0 ≤ 10000 := by simp only [List.length_take] at f4; omega
    clear hN hnext hpre
    generalize tabF (L.take i) = C at *
    by_cases hl0 : l.length = 0
    · have hlc : (l.length : Int) = 0 := by omega
      simp only [tabL, hl0, if_true] at fin
      delta p70_l1 p70_r3 p70_r4 p70_r5 p70_r6
      simp (disch := omega) [oLt, oLe, oLtN, oLeN, nLt, nLe, nLtN, nLeN, hic, h, e2, e3, hl0, hlc]
      delta p70_r12 p70_r13 p70_r14
      simp (disch := omega) [oLt, oLe, oLtN, oLeN, nLt, nLe, nLtN, nLeN]
      exact fin _ (.tot [2, 3] (by simp))
    · have hlc : ¬ (l.length : Int) = 0 := by omega
      delta p70_l1 p70_r3 p70_r4 p70_r5 p70_r6
      simp (disch := omega) [oLt, oLe, oLtN, oLeN, nLt, nLe, nLtN, nLeN, hic, h, e2, e3, hl0, hlc]
      refine XZ_for (fun k : Nat => ⟨[(2, .ptr 0 0), (3, .ptr 1 0), (5, .il (ints l) l.length false), (8, .il (lls L) L.length u), (9, vI L.length), (10, vI i), (17, .il (ints l) l.length false), (18, vI l.length), (19, vI k)], [(0, .cells (ints Z34)), (1, .cells (ints ((List.range k).foldl (tabI l) C)))], 2⟩) (fun k => l.length - k) (fun k => k ≤ l.length) 0 (by simp) (.tot [2, 3] (by simp)) ?_
      intro k hk N2 Q2 hN2 hE2
      have hD : ((List.range k).foldl (tabI l) C).length = 34 := by rw [tabE_len, f1]
      rcases Nat.lt_or_ge k l.length with h1 | h1
      · have hkc : (k : Int) < l.length := by omega
        have hs : (List.range (k + 1)).foldl (tabI l) C = tabI l ((List.range k).foldl (tabI l) C) k := by simp [List.range_succ, List.foldl_append]
        obtain ⟨m, hm, hm1, hm2⟩ := in16_get hl16 h1
        have hm3 : l[k] = (m : Int) := (List.getElem?_eq_some_iff.1 hm1).2
        have hmc : (m : Int) < 16 := by omega
        have hq : (k + 1) % l.length < l.length := Nat.mod_lt _ (by omega)
        have hmod : ((k : Int) + 1) % (l.length : Int) = (((k + 1) % l.length : Nat) : Int) := by rw [Int.natCast_emod]; rfl
        have ht : tabI l ((List.range k).foldl (tabI l) C) k = (((List.range k).foldl (tabI l) C).set (1 + m) (l.getD ((k + 1) % l.length) 0)).set (17 + m) (((List.range k).foldl (tabI l) C).getD 33 0) := by unfold tabI; rw [hm2, Int.toNat_natCast]
        rw [ht] at hs
        clear ht
        generalize (k + 1) % l.length = q at *
        obtain ⟨v, hv⟩ : ∃ v, l[q]? = some v := ⟨l[q], by rw [List.getElem?_eq_getElem hq]⟩
        have hv3 : l[q] = v := (List.getElem?_eq_some_iff.1 hv).2
        rw [List.getD_eq_getElem?_getD, hv, Option.getD_some] at hs
        have fin2 : ∀ s', ChgT 0 s' ⟨[(2, .ptr 0 0), (3, .ptr 1 0), (5, .il (ints l) l.length false), (8, .il (lls L) L.length u), (9, vI L.length), (10, vI i), (17, .il (ints l) l.length false), (18, vI l.length), (19, vI ((k + 1 : Nat) : Int))], [(0, .cells (ints Z34)), (1, .cells (ints ((((List.range k).foldl (tabI l) C).set (1 + m) v).set (17 + m) (((List.range k).foldl (tabI l) C).getD 33 0))))], 2⟩ → N2 s' := fun s' hh => hN2 s' (k + 1) (by omega) h1 (by rw [hs]; exact hh)
        clear hN2 hs
        generalize (List.range k).foldl (tabI l) C = D at *
        have hp : D.getD 33 0 = D[33] := by simp [List.getD_eq_getElem?_getD, hD]
        rw [hp] at fin2
        have hsp2 : splice (ints (D.set (1 + m) v)) (17 + m) [vI D[33]] = ints ((D.set (1 + m) v).set (17 + m) D[33]) := by rw [splice_one _ _ _ (by simp [hD]; omega)]; simp [ints, List.map_set]
        delta p70_l0 p70_r7 p70_r8 p70_r9 p70_r10 p70_r11
        simp (disch := omega) [oLt, oLe, oLtN, oLeN, nLt, nLe, nLtN, nLeN, hkc, h1, hm, hmc, hm1, hm3, hl0, hlc, hmod, hq, hv, hv3, hD]
        exact fin2 _ (.tot [2, 3] (by simp [hsp2]))
      · obtain rfl : k = l.length := by omega
        have hkc : ¬ (l.length : Int) < l.length := by omega
        delta p70_l0 p70_r7 p70_r8 p70_r9 p70_r10 p70_r11
        simp (disch := omega) [oLt, oLe, oLtN, oLeN, nLt, nLe, nLtN, nLeN, hkc]
        refine hE2 _ _ _ .refl ?_
        simp only [inBE, thenE, if_true]
        have hE3 : (List.range l.length).foldl (tabI l) C = tabE l C := rfl
        rw [hE3] at hD ⊢
        obtain ⟨g1, g2⟩ := tabE_keep hl16 (List.range l.length) C (fun k hk => List.mem_range.1 hk)
        rw [hE3] at g1 g2
        unfold tabL at fin
        rw [if_neg hl0] at fin
        generalize tabE l C = D at *
        have p0 : D.getD 0 0 = D[0] := by simp [List.getD_eq_getElem?_getD, hD]
        have p33 : D.getD 33 0 = D[33] := by simp [List.getD_eq_getElem?_getD, hD]
        rw [p0, p33] at fin
        rw [p0, f2] at g1
        rw [p33] at g2
        have b33 : D[33] ≤ 10000 := by rw [g2]; exact f4'
        have b33' : 0 ≤ D[33] := by rw [g2]; exact f3
        have b0 : D[0] + l.length ≤ 10000 := by rw [g1]; omega
        have b0' : 0 ≤ D[0] := by rw [g1]; omega
        delta p70_r12 p70_r13 p70_r14
        simp (disch := omega) [oLt, oLe, oLtN, oLeN, nLt, nLe, nLtN, nLeN, hD]
        have hsp3 : ∀ x y : Int, splice (ints (D.set 0 x)) 33 [vI y] = ints ((D.set 0 x).set 33 y) := fun x y => by rw [splice_one _ _ _ (by simp [hD])]; simp [ints, List.map_set]
        exact fin _ (.tot [2, 3] (by simp [hsp3]))
  · obtain rfl : i = L.length := by omega
    have hic : ¬ (L.length : Int) < L.length := by omega
    rw [List.take_length] at *
    delta p70_l1 p70_r3 p70_r4 p70_r5 p70_r6
    simp (disch := omega) [oLt, oLe, oLtN, oLeN, nLt, nLe, nLtN, nLeN, hic]
    refine hE _ _ _ .refl ?_
    delta p70_r15
    have hz : Z34.length = 34 := rfl
    have ht : List.take 34 (tabF L) = tabF L := List.take_of_length_le (by omega)
    have hsp : splice (ints Z34) 0 (ints (tabF L)) = ints (tabF L) := splice_all (by simp [f1, hz])
    simp (disch := omega) [oLt, oLe, oLtN, oLeN, nLt, nLe, nLtN, nLeN, f1, hz, ht, hsp]
    exact hQ _ _ (.p (.inl rfl) (by simp [f1, Eff.exec, hpF, ht]) (by simp))
end Go.Sx.Ch
end
section
namespace Go.Sx.Ch
open Go Go.Sx Go.Proofs
def scanL (n : Int) : List Int → List Int → Int
  | _, [] => 0
  | seen, e :: l => if e < 0 ∨ n ≤ e then 2 else if e ∈ seen then 6 else scanL n (seen ++ [e]) l
def scanM (n : Int) : List Int → List (List Int) → Int
  | _, [] => 0
  | seen, l :: L => if l.length = 0 then 4 else if scanL n seen l = 0 then scanM n (seen ++ l) L else scanL n seen l
def chk (L : List (List Int)) : Int :=
  if 16 < total L then 3 else if scanM (total L) [] L = 0 then (if total L % 2 = 1 then 5 else 0) else scanM (total L) [] L
def openV (L : List (List Int)) : AV := .tup [.agg (ints (if chk L = 0 then tabF L else Z34)), vI (chk L)]
def smM (L : List (List Int)) : Bool := decide (L.length ≤ 10000) && decide (total L ≤ 10000)
def metL (seen : List Int) : List Bool := (List.range 16).map fun (i : Nat) => decide ((i : Int) ∈ seen)
theorem metL_len (seen : List Int) : (metL seen).length = 16 := by simp [metL]
theorem metL_nil : metL [] = List.replicate 16 false := by simp only [metL, List.not_mem_nil, decide_false]; rfl
theorem metL_get (seen : List Int) {m : Nat} (h : m < 16) : (metL seen)[m]? = some (decide ((m : Int) ∈ seen)) := by simp [metL, h]
theorem metL_snoc (seen : List Int) {m : Nat} (h : m < 16) : metL (seen ++ [(m : Int)]) = (metL seen).set m true := by
  apply List.ext_getElem?
  intro i
  by_cases hi : i < 16
  · rw [metL_get _ hi, List.getElem?_set]
    by_cases e : m = i
    · subst e; simp [metL_len, h]
    · rw [if_neg e, metL_get _ hi]
      have : ¬ (i : Int) = m := by omega
      simp [this]
  · rw [List.getElem?_eq_none (by rw [metL_len]; omega), List.getElem?_eq_none (by simp [metL_len]; omega)]
theorem scanL_in {n : Int} : ∀ {seen l : List Int}, scanL n seen l = 0 → ∀ e ∈ l, 0 ≤ e ∧ e < n
  | seen, [], _, e, he => by cases he
  | seen, x :: l, h, e, he => by
    simp only [scanL] at h
    split at h
    · cases h
    · rename_i h1
      split at h
      · cases h
      · rcases List.mem_cons.1 he with rfl | he
        · omega
        · exact scanL_in h e he
theorem scanM_in {n : Int} : ∀ {seen : List Int} {L : List (List Int)}, scanM n seen L = 0 → ∀ l ∈ L, l.length ≠ 0 ∧ ∀ e ∈ l, 0 ≤ e ∧ e < n
  | seen, [], _, l, hl => by cases hl
  | seen, x :: L, h, l, hl => by
    simp only [scanM] at h
    split at h
    · cases h
    · rename_i h1
      split at h
      · rename_i h2
        rcases List.mem_cons.1 hl with rfl | hl
        · exact ⟨h1, scanL_in h2⟩
        · exact scanM_in h l hl
      · rename_i h2; exact absurd h h2
theorem chk_zero {L : List (List Int)} (h : chk L = 0) : total L ≤ 16 ∧ scanM (total L) [] L = 0 ∧ total L % 2 = 0 := by
  unfold chk at h
  split at h
  · cases h
  · split at h
    · rename_i h1
      split at h
      · cases h
      · exact ⟨by omega, h1, by omega⟩
    · rename_i h1; exact absurd h h1
theorem chk_g70 {L : List (List Int)} (h : chk L = 0) (hs : smM L = true) : g70 L = true := by
  obtain ⟨h1, h2, -⟩ := chk_zero h
  simp only [smM, Bool.and_eq_true, decide_eq_true_eq] at hs
  simp only [g70, Bool.and_eq_true, decide_eq_true_eq, List.all_eq_true]
  refine ⟨⟨fun l hl => List.all_eq_true.2 fun e he => ?_, hs.2⟩, hs.1⟩
  have := (scanM_in h2 l hl).2 e he
  exact within_iff.2 ⟨this.1, by omega⟩
end Go.Sx.Ch
end
section
namespace Go.Sx.Ch
open Go Go.Sx Go.Proofs
theorem scanL_nodup {n : Int} : ∀ {seen l : List Int}, scanL n seen l = 0 → l.Nodup ∧ ∀ x ∈ l, x ∉ seen
  | seen, [], _ => ⟨List.nodup_nil, fun x hx => by cases hx⟩
  | seen, e :: l, h => by
    simp only [scanL] at h
    split at h
    · cases h
    · split at h
      · cases h
      · rename_i hs
        obtain ⟨h1, h2⟩ := scanL_nodup h
        refine ⟨List.nodup_cons.2 ⟨fun hm => (h2 e hm) (by simp), h1⟩, fun x hx => ?_⟩
        rcases List.mem_cons.1 hx with rfl | hx
        · exact hs
        · exact fun hm => (h2 x hx) (List.mem_append_left _ hm)
theorem scanM_nodup {n : Int} : ∀ {seen : List Int} {L : List (List Int)}, scanM n seen L = 0 → L.flatten.Nodup ∧ ∀ x ∈ L.flatten, x ∉ seen
  | seen, [], _ => ⟨List.nodup_nil, fun x hx => by cases hx⟩
  | seen, l :: L, h => by
    simp only [scanM] at h
    split at h
    · cases h
    · split at h
      · rename_i h0
        obtain ⟨h1, h2⟩ := scanL_nodup h0
        obtain ⟨h3, h4⟩ := scanM_nodup h
        rw [List.flatten_cons]
        refine ⟨List.nodup_append.2 ⟨h1, h3, fun x hx y hy e => ?_⟩, fun x hx => ?_⟩
        · subst e; exact (h4 x hy) (List.mem_append_right _ hx)
        · rcases List.mem_append.1 hx with hx | hx
          · exact h2 x hx
          · exact fun hm => (h4 x hx) (List.mem_append_left _ hm)
      · rename_i h0; exact absurd h h0
theorem nd_inj {l : List Int} (h : l.Nodup) {i j : Nat} {x : Int} (hi : l[i]? = some x) (hj : l[j]? = some x) : i = j := by
  obtain ⟨h1, e1⟩ := List.getElem?_eq_some_iff.1 hi
  obtain ⟨h2, e2⟩ := List.getElem?_eq_some_iff.1 hj
  have hp := List.pairwise_iff_getElem.1 h
  rcases Nat.lt_trichotomy i j with hlt | rfl | hlt
  · exact absurd (e1.trans e2.symm) (hp i j h1 h2 hlt)
  · rfl
  · exact absurd (e2.trans e1.symm) (hp j i h2 h1 hlt)
theorem tabI_ne {l C : List Int} {m : Nat} {k : Nat} (hl : in16 l = true) (hk : k < l.length) (hm : m < 16) (hne : l[k]? ≠ some (m : Int)) : (tabI l C k).getD (1 + m) 0 = C.getD (1 + m) 0 := by
  obtain ⟨q, hq, h1, h2⟩ := in16_get hl hk
  simp only [tabI, h2, Int.toNat_natCast]
  have hqm : q ≠ m := fun e => hne (by rw [h1, e])
  rw [getD_set_ne (by omega), getD_set_ne (by omega)]
theorem tabE_skip {l C : List Int} {m : Nat} (hl : in16 l = true) (hm : m < 16) (hnot : (m : Int) ∉ l) : ∀ j, j ≤ l.length → ((List.range j).foldl (tabI l) C).getD (1 + m) 0 = C.getD (1 + m) 0
  | 0, _ => rfl
  | j + 1, hj => by
    rw [List.range_succ, List.foldl_append]
    simp only [List.foldl_cons, List.foldl_nil]
    rw [tabI_ne hl (by omega) hm (fun e => hnot (List.mem_of_getElem? e))]
    exact tabE_skip hl hm hnot j (by omega)
theorem tabE_after {l C : List Int} {m k : Nat} (hl : in16 l = true) (hnd : l.Nodup) (hC : C.length = 34) (hm : m < 16) (hk : k < l.length) (hkm : l[k]? = some (m : Int)) :
    ∀ j, j ≤ l.length → k < j → ((List.range j).foldl (tabI l) C).getD (1 + m) 0 = l.getD ((k + 1) % l.length) 0
  | 0, _, h => by omega
  | j + 1, hj, hkj => by
    rw [List.range_succ, List.foldl_append]
    simp only [List.foldl_cons, List.foldl_nil]
    by_cases e : j = k
    · subst e
      have hg : l.getD j 0 = (m : Int) := by rw [List.getD_eq_getElem?_getD, hkm]; rfl
      simp only [tabI, hg, Int.toNat_natCast]
      rw [getD_set_ne (by omega), getD_set_eq (by rw [tabE_len]; omega)]
    · rw [tabI_ne hl (by omega) hm (fun h => e ?_)]
      · exact tabE_after hl hnd hC hm hk hkm j (by omega) (by omega)
      · exact nd_inj hnd h hkm
theorem tabL_skip {l C : List Int} {m : Nat} (hl : in16 l = true) (hm : m < 16) (hnot : (m : Int) ∉ l) : (tabL C l).getD (1 + m) 0 = C.getD (1 + m) 0 := by
  unfold tabL
  split
  · rfl
  · rw [getD_set_ne (by omega), getD_set_ne (by omega)]
    exact tabE_skip hl hm hnot _ (Nat.le_refl _)
theorem tabL_after {l C : List Int} {m k : Nat} (hl : in16 l = true) (hnd : l.Nodup) (hC : C.length = 34) (hm : m < 16) (hk : k < l.length) (hkm : l[k]? = some (m : Int)) : (tabL C l).getD (1 + m) 0 = l.getD ((k + 1) % l.length) 0 := by
  unfold tabL
  rw [if_neg (by omega), getD_set_ne (by omega), getD_set_ne (by omega)]
  exact tabE_after hl hnd hC hm hk hkm _ (Nat.le_refl _) hk
theorem tabs_skip {m : Nat} (hm : m < 16) : ∀ {B : List (List Int)} {C : List Int}, B.all in16 = true → (m : Int) ∉ B.flatten → (B.foldl tabL C).getD (1 + m) 0 = C.getD (1 + m) 0
  | [], C, _, _ => rfl
  | l :: B, C, h, hn => by
    simp only [List.all_cons, Bool.and_eq_true] at h
    rw [List.flatten_cons, List.mem_append, not_or] at hn
    simp only [List.foldl_cons]
    rw [tabs_skip hm h.2 hn.2, tabL_skip h.1 hm hn.1]
theorem tabF_after {G : List (List Int)} {l : List Int} {k m : Nat} (h16 : G.all in16 = true) (hnd : G.flatten.Nodup) (hl : l ∈ G) (hk : k < l.length) (hkm : l[k]? = some (m : Int)) : afterC (tabF G) m = l.getD ((k + 1) % l.length) 0 := by
  obtain ⟨A, B, rfl⟩ := List.append_of_mem hl
  have hA : A.all in16 = true := List.all_eq_true.2 fun x hx => List.all_eq_true.1 h16 x (by simp [hx])
  have hB : B.all in16 = true := List.all_eq_true.2 fun x hx => List.all_eq_true.1 h16 x (by simp [hx])
  have hll : in16 l = true := List.all_eq_true.1 h16 l hl
  rw [List.flatten_append, List.flatten_cons] at hnd
  obtain ⟨-, h2, -⟩ := List.nodup_append.1 hnd
  obtain ⟨h3, -, h5⟩ := List.nodup_append.1 h2
  have hmem : (m : Int) ∈ l := List.mem_of_getElem? hkm
  have hm : m < 16 := by
    obtain ⟨q, hq, h1, -⟩ := in16_get hll hk
    rw [hkm] at h1; simp at h1; omega
  have e : tabF (A ++ l :: B) = B.foldl tabL (tabL (tabF A) l) := by simp [tabF, List.foldl_append]
  unfold afterC
  rw [e, Int.toNat_natCast, tabs_skip hm hB (fun h => h5 _ hmem _ h rfl)]
  exact tabL_after hll h3 (tabF_facts hA).1 hm hk hkm
end Go.Sx.Ch
end
section
namespace Go.Sx.Ch
open Go Go.Sx Go.Proofs
structure Cov (G : List (List Int)) (n : Nat) : Prop where
  nd : G.flatten.Nodup
  rng : ∀ x ∈ G.flatten, 0 ≤ x ∧ x < n
  len : total G = n
  le : n ≤ 16
theorem total_flatten (G : List (List Int)) : G.flatten.length = total G := by simp [total, List.length_flatten]
theorem Cov.h16 {G n} (h : Cov G n) : G.all in16 = true := List.all_eq_true.2 fun l hl => List.all_eq_true.2 fun x hx => by
  have := h.rng x (List.mem_flatten.2 ⟨l, hl, hx⟩)
  have := h.le
  exact within_iff.2 ⟨by omega, by omega⟩
theorem Cov.cover {G n} (h : Cov G n) {m : Nat} (hm : m < n) : (m : Int) ∈ G.flatten := by
  apply Classical.byContradiction
  intro hno
  have hS : G.flatten.length = n := by rw [total_flatten, h.len]
  obtain ⟨i, j, hij, hj, e⟩ := ph n (fun i => if hi : i < G.flatten.length then (G.flatten[i]).toNat else m) (fun i hi => by
    by_cases hh : i < G.flatten.length
    · simp only [dif_pos hh]
      have := h.rng _ (List.getElem_mem hh)
      omega
    · simp only [dif_neg hh]; exact hm)
  have hi : i < G.flatten.length := by omega
  have ri := h.rng _ (List.getElem_mem hi)
  by_cases hj' : j < G.flatten.length
  · have rj := h.rng _ (List.getElem_mem hj')
    simp only [dif_pos hi, dif_pos hj'] at e
    have e2 : G.flatten[i] = G.flatten[j] := by omega
    have := nd_inj h.nd (List.getElem?_eq_getElem hi) (by rw [List.getElem?_eq_getElem hj', e2])
    omega
  · simp only [dif_pos hi, dif_neg hj'] at e
    have e2 : G.flatten[i] = (m : Int) := by omega
    exact hno (e2 ▸ List.getElem_mem hi)
theorem Cov.place {G n} (h : Cov G n) {m : Nat} (hm : m < n) : ∃ l k, l ∈ G ∧ k < l.length ∧ l[k]? = some (m : Int) := by
  obtain ⟨l, hl, hx⟩ := List.mem_flatten.1 (h.cover hm)
  obtain ⟨k, hk, e⟩ := List.getElem_of_mem hx
  exact ⟨l, k, hl, hk, by rw [List.getElem?_eq_getElem hk, e]⟩
theorem Cov.ndl {G n} (h : Cov G n) {l} (hl : l ∈ G) : l.Nodup := by
  obtain ⟨A, B, rfl⟩ := List.append_of_mem hl
  have hnd := h.nd
  rw [List.flatten_append, List.flatten_cons] at hnd
  obtain ⟨-, h2, -⟩ := List.nodup_append.1 hnd
  exact (List.nodup_append.1 h2).1
theorem Cov.same {G n} (h : Cov G n) {l l'} (hl : l ∈ G) (hl' : l' ∈ G) {x : Int} (hx : x ∈ l) (hx' : x ∈ l') : l = l' := by
  obtain ⟨A, B, rfl⟩ := List.append_of_mem hl
  have hnd := h.nd
  rw [List.flatten_append, List.flatten_cons] at hnd
  obtain ⟨-, h2, h3⟩ := List.nodup_append.1 hnd
  obtain ⟨-, -, h5⟩ := List.nodup_append.1 h2
  rcases List.mem_append.1 hl' with ha | hb
  · exact absurd rfl (h3 x (List.mem_flatten.2 ⟨l', ha, hx'⟩) x (List.mem_append_left _ hx))
  · rcases List.mem_cons.1 hb with rfl | hb
    · rfl
    · exact absurd rfl (h5 x hx x (List.mem_flatten.2 ⟨l', hb, hx'⟩))
theorem next_get {l : List Int} {k : Nat} (hk : k < l.length) : (k + 1) % l.length < l.length ∧ ∃ x, l[(k + 1) % l.length]? = some x ∧ l.getD ((k + 1) % l.length) 0 = x ∧ x ∈ l := by
  have hq : (k + 1) % l.length < l.length := Nat.mod_lt _ (by omega)
  exact ⟨hq, l[(k + 1) % l.length], List.getElem?_eq_getElem hq, by rw [List.getD_eq_getElem?_getD, List.getElem?_eq_getElem hq]; rfl, List.getElem_mem hq⟩
theorem succ_mod_inj {n i j : Nat} (hi : i < n) (hj : j < n) (h : (i + 1) % n = (j + 1) % n) : i = j := by
  rcases Nat.lt_or_ge (i + 1) n with h1 | h1
  · rcases Nat.lt_or_ge (j + 1) n with h2 | h2
    · rw [Nat.mod_eq_of_lt h1, Nat.mod_eq_of_lt h2] at h; omega
    · have : j + 1 = n := by omega
      rw [Nat.mod_eq_of_lt h1, this, Nat.mod_self] at h; omega
  · have e1 : i + 1 = n := by omega
    rcases Nat.lt_or_ge (j + 1) n with h2 | h2
    · rw [e1, Nat.mod_self, Nat.mod_eq_of_lt h2] at h; omega
    · omega
theorem Cov.after {G n} (h : Cov G n) {l : List Int} {k m : Nat} (hl : l ∈ G) (hk : k < l.length) (hkm : l[k]? = some (m : Int)) : afterC (tabF G) m = l.getD ((k + 1) % l.length) 0 :=
  tabF_after h.h16 h.nd hl hk hkm
theorem Cov.prm {G n} (h : Cov G n) : Prm (afterC (tabF G)) n := by
  refine ⟨fun a ha => ?_, fun a b ha hb e => ?_⟩
  · obtain ⟨l, k, hl, hk, hkm⟩ := h.place ha
    obtain ⟨-, x, -, e2, e3⟩ := next_get hk
    rw [h.after hl hk hkm, e2]
    have := h.rng x (List.mem_flatten.2 ⟨l, hl, e3⟩)
    omega
  · obtain ⟨l, k, hl, hk, hkm⟩ := h.place ha
    obtain ⟨l', k', hl', hk', hkm'⟩ := h.place hb
    rw [h.after hl hk hkm, h.after hl' hk' hkm'] at e
    obtain ⟨-, x, e1, e2, e3⟩ := next_get hk
    obtain ⟨-, y, f1, f2, f3⟩ := next_get hk'
    rw [e2, f2] at e
    subst e
    obtain rfl := h.same hl hl' e3 f3
    have := succ_mod_inj hk hk' (nd_inj (h.ndl hl) e1 f1)
    subst this
    rw [hkm] at hkm'
    simp at hkm'
    omega
theorem chk_cov {L : List (List Int)} (h : chk L = 0) : Cov L (total L) := by
  obtain ⟨h1, h2, -⟩ := chk_zero h
  refine ⟨(scanM_nodup h2).1, fun x hx => ?_, rfl, h1⟩
  obtain ⟨l, hl, hx⟩ := List.mem_flatten.1 hx
  exact (scanM_in h2 l hl).2 x hx
end Go.Sx.Ch
end
section
set_option maxRecDepth 4000
namespace Go.Sx.Ch
open Go Go.Sx Go.Proofs
set_option maxHeartbeats 2000000
def idxR (x : Int) : List Int → Int → Int
  | [], _ => -1
  | y :: r, i => if y = x then i else idxR x r (i + 1)
def idxL (l : List Int) (x : Int) : Int := idxR x l 0
def ptR (x : Int) : List (List Int) → Int → Int
  | [], _ => -1
  | l :: L, i => if 0 ≤ idxL l x then i else ptR x L (i + 1)
theorem total_mem : ∀ {L : List (List Int)} {l : List Int}, l ∈ L → l.length ≤ total L
  | x :: L, l, h => by
    simp only [total, List.map_cons, List.sum_cons]
    rcases List.mem_cons.1 h with rfl | h
    · omega
    · have := total_mem h
      simp only [total] at this; omega
theorem smM_small {L : List (List Int)} (h : smM L = true) {l : List Int} (hl : l ∈ L) : small l = true := by
  simp only [smM, Bool.and_eq_true, decide_eq_true_eq] at h
  have := total_mem hl
  simp only [small, decide_eq_true_eq]; omega
end Go.Sx.Ch
end
section
set_option maxRecDepth 4000
namespace Go.Sx.Ch
open Go Go.Sx Go.Proofs
theorem idxR_at {x : Int} : ∀ {l : List Int} {i : Nat}, 0 ≤ idxR x l i → ∃ k, k < l.length ∧ idxR x l i = ((i + k : Nat) : Int) ∧ l[k]? = some x
  | [], i, h => by simp [idxR] at h
  | y :: r, i, h => by
    simp only [idxR] at h ⊢
    split at h
    · rename_i e; rw [if_pos e]; exact ⟨0, by simp, by simp, by simp [e]⟩
    · rename_i e
      rw [if_neg e]
      have h' : 0 ≤ idxR x r ((i + 1 : Nat) : Int) := by simpa using h
      obtain ⟨k, h1, h2, h3⟩ := idxR_at h'
      refine ⟨k + 1, by simp; omega, ?_, by simpa using h3⟩
      have e2 : (((i + 1 : Nat) : Int)) = (i : Int) + 1 := by omega
      rw [e2] at h2
      rw [h2]; omega
theorem idxL_at {l : List Int} {x : Int} (h : 0 ≤ idxL l x) : ∃ k : Nat, k < l.length ∧ idxL l x = k ∧ l[k]? = some x := by
  obtain ⟨k, h1, h2, h3⟩ := idxR_at (i := 0) (by simpa [idxL] using h)
  exact ⟨k, h1, by simpa [idxL] using h2, h3⟩
theorem ptR_at {x : Int} : ∀ {L : List (List Int)} {i : Nat}, 0 ≤ ptR x L i → ∃ k l, L[k]? = some l ∧ ptR x L i = ((i + k : Nat) : Int) ∧ 0 ≤ idxL l x
  | [], i, h => by simp [ptR] at h
  | l :: L, i, h => by
    simp only [ptR] at h ⊢
    split at h
    · rename_i e; rw [if_pos e]; exact ⟨0, l, by simp, by simp, e⟩
    · rename_i e
      rw [if_neg e]
      have h' : 0 ≤ ptR x L ((i + 1 : Nat) : Int) := by simpa using h
      obtain ⟨k, l', h1, h2, h3⟩ := ptR_at h'
      refine ⟨k + 1, l', by simpa using h1, ?_, h3⟩
      have e2 : (((i + 1 : Nat) : Int)) = (i : Int) + 1 := by omega
      rw [e2] at h2
      rw [h2]; omega
def ptL (L : List (List Int)) (x : Int) : Int := ptR x L 0
theorem ptL_at {L : List (List Int)} {x : Int} (h : 0 ≤ ptL L x) : ∃ (k : Nat) (l : List Int), L[k]? = some l ∧ ptL L x = k ∧ 0 ≤ idxL l x := by
  obtain ⟨k, l, h1, h2, h3⟩ := ptR_at (i := 0) (by simpa [ptL] using h)
  exact ⟨k, l, h1, by simpa [ptL] using h2, h3⟩
set_option maxHeartbeats 2000000
def otherI (e : Int) : Int := if e % 2 = 0 then e + 1 else e - 1
def afterR (L : List (List Int)) (e : Int) : Int := (L.getD (ptL L e).toNat []).getD ((idxL (L.getD (ptL L e).toNat []) e + 1) % ((L.getD (ptL L e).toNat []).length : Int)).toNat 0
end Go.Sx.Ch
end
section
namespace Go.Sx.Ch
open Go Go.Sx Go.Proofs
def onat (m : Nat) : Nat := if m % 2 = 0 then m + 1 else m - 1
theorem oth_onat : ∀ m : Nat, m < 16 → othI (m : Int) = (onat m : Int) := by decide
theorem other_onat (m : Nat) : otherI (m : Int) = (onat m : Int) := by
  unfold otherI onat
  split <;> split <;> omega
theorem onat_lt {n m : Nat} (hn : n % 2 = 0) (hm : m < n) : onat m < n := by
  unfold onat; split <;> omega
theorem onat_inj {a b : Nat} (h : onat a = onat b) : a = b := by
  unfold onat at h; split at h <;> split at h <;> omega
end Go.Sx.Ch
end
section
set_option maxRecDepth 4000
namespace Go.Sx.Ch
open Go Go.Sx Go.Proofs
theorem zl : [AV.v (Value.int IntKind.i64 0), AV.v (Value.int IntKind.i64 0), AV.v (Value.int IntKind.i64 0), AV.v (Value.int IntKind.i64 0), AV.v (Value.int IntKind.i64 0), AV.v (Value.int IntKind.i64 0), AV.v (Value.int IntKind.i64 0), AV.v (Value.int IntKind.i64 0), AV.v (Value.int IntKind.i64 0), AV.v (Value.int IntKind.i64 0), AV.v (Value.int IntKind.i64 0), AV.v (Value.int IntKind.i64 0), AV.v (Value.int IntKind.i64 0), AV.v (Value.int IntKind.i64 0), AV.v (Value.int IntKind.i64 0), AV.v (Value.int IntKind.i64 0), AV.v (Value.int IntKind.i64 0), AV.v (Value.int IntKind.i64 0), AV.v (Value.int IntKind.i64 0), AV.v (Value.int IntKind.i64 0), AV.v (Value.int IntKind.i64 0), AV.v (Value.int IntKind.i64 0), AV.v (Value.int IntKind.i64 0), AV.v (Value.int IntKind.i64 0), AV.v (Value.int IntKind.i64 0), AV.v (Value.int IntKind.i64 0), AV.v (Value.int IntKind.i64 0), AV.v (Value.int IntKind.i64 0), AV.v (Value.int IntKind.i64 0), AV.v (Value.int IntKind.i64 0), AV.v (Value.int IntKind.i64 0), AV.v (Value.int IntKind.i64 0), AV.v (Value.int IntKind.i64 0), AV.v (Value.int IntKind.i64 0)] = ints Z34 := rfl
theorem z34_len : Z34.length = 34 := rfl
theorem z34_take : Z34.take 34 = Z34 := rfl
theorem zz : splice (ints Z34) 0 (ints Z34) = ints Z34 := splice_all rfl
theorem fl : [AV.v (Value.bool false), AV.v (Value.bool false), AV.v (Value.bool false), AV.v (Value.bool false), AV.v (Value.bool false), AV.v (Value.bool false), AV.v (Value.bool false), AV.v (Value.bool false), AV.v (Value.bool false), AV.v (Value.bool false), AV.v (Value.bool false), AV.v (Value.bool false), AV.v (Value.bool false), AV.v (Value.bool false), AV.v (Value.bool false), AV.v (Value.bool false)] = bls (metL []) := by rw [metL_nil]; rfl
set_option maxHeartbeats 4000000
def s67 : Sp := spT 67 [.mp] fun (L : List (List Int)) => res (smM L) (openV L)
@[simp] theorem s67_g : s67.g = 67 := rfl
@[simp] theorem s67_f : s67.f = (spT 67 [.mp] fun (L : List (List Int)) => res (smM L) (openV L)).f := rfl
theorem s67_ok : s67.ok Tryd.prog := by
  apply spT_ok
  simp only [OkT, Ty.all, List.nil_append, List.cons_append]
  intro (L : List (List Int)) u
  apply okT_res; intro hg
  refine P67.rz (ss := [s70]) ⟨s70_ok, trivial⟩ (by simp) fun Q hQ => ?_
  delta p67 p67_r0 p67_r1 p67_r2
  have hg0 := hg
  simp only [smM, Bool.and_eq_true, decide_eq_true_eq] at hg
  obtain ⟨hlen, htot⟩ := hg
  simp (disch := omega) [oLt, oLe, oLtN, oLeN, nLt, nLe, nLtN, nLeN, zl]
  refine XZ_for (fun i : Nat => ⟨[(1, .ptr 0 0), (2, .ptr 1 0), (4, vI (total (L.take i))), (13, .il (lls L) L.length u), (14, vI L.length), (15, vI i)], [(0, .cells [.il (lls L) L.length u]), (1, .cells (ints Z34))], 2⟩) (fun i => L.length - i) (fun i => i ≤ L.length) 0 (by simp) (.tot [1, 2] (by simp [total])) ?_
  intro i hi N Q' hN hE
  rcases Nat.lt_or_ge i L.length with h | h
  · have hic : (i : Int) < L.length := by omega
    obtain ⟨l, r, -, e2, e3, -, e5⟩ := drop_split h
    have htl : total (L.take (i + 1)) ≤ 10000 := Nat.le_trans (total_take L _) htot
    have hnext : total (L.take (i + 1)) = total (L.take i) + l.length := by rw [List.take_succ_eq_append_getElem h, e3, total_snoc]
    rw [hnext] at htl
    have fin : ∀ s', ChgT 0 s' ⟨[(1, .ptr 0 0), (2, .ptr 1 0), (4, vI ((total (L.take i) + l.length : Nat) : Int)), (13, .il (lls L) L.length u), (14, vI L.length), (15, vI ((i + 1 : Nat) : Int))], [(0, .cells [.il (lls L) L.length u]), (1, .cells (ints Z34))], 2⟩ → N s' := fun s' hh => hN s' (i + 1) (by omega) h (by rw [hnext]; exact hh)
    obtain ⟨z, hz⟩ : ∃ z : Int, ((total (L.take i) : Nat) : Int) = z := ⟨_, rfl⟩
    have hz1 : 0 ≤ z := by omega
    have hz2 : z + l.length ≤ 10000 := by omega
    rw [hz]
    delta p67_l0 p67_r3 p67_r4 p67_r5 p67_r6
    simp (disch := omega) [oLt, oLe, oLtN, oLeN, nLt, nLe, nLtN, nLeN, hic, h, e2, e3]
    exact fin _ (.tot [1, 2] (by simp [← hz]))
  · obtain rfl : i = L.length := by omega
    have hic : ¬ (L.length : Int) < L.length := by omega
    rw [List.take_length] at *
    delta p67_l0 p67_r3 p67_r4 p67_r5 p67_r6
    simp (disch := omega) [oLt, oLe, oLtN, oLeN, nLt, nLe, nLtN, nLeN, hic]
    refine hE _ _ _ .refl ?_
    by_cases hmany : 16 < total L
    · have hm : (16 : Int) < total L := by omega
      delta p67_r7 p67_r8 p67_r9 p67_r10
      simp (disch := omega) [oLt, oLe, oLtN, oLeN, nLt, nLe, nLtN, nLeN, hm, zl, zz, z34_len]
      exact hQ _ _ (.p (.inl rfl) (by simp [openV, chk, hmany, Eff.exec, z34_len, z34_take]) (by simp [openV, chk, hmany]))
    · have herr : ∀ (c : Int), scanM (total L) [] L = c → c ≠ 0 → openV L = .tup [.agg (ints Z34), vI c] := fun c h1 h2 => by
        have : chk L = c := by unfold chk; rw [if_neg hmany, if_neg (by rw [h1]; exact h2), h1]
        unfold openV; rw [this, if_neg h2]
      have hok : scanM (total L) [] L = 0 → chk L = if total L % 2 = 1 then 5 else 0 := fun h1 => by unfold chk; rw [if_neg hmany, if_pos h1]
      obtain ⟨z, hz⟩ : ∃ z : Int, ((total L : Nat) : Int) = z := ⟨_, rfl⟩
      have hz0 : 0 ≤ z := by omega
      have hz1 : z ≤ 16 := by omega
      have hm : ¬ (16 : Int) < z := by omega
      rw [hz] at herr hok ⊢
      delta p67_r7 p67_r8 p67_r9 p67_r10
      simp (disch := omega) [oLt, oLe, oLtN, oLeN, nLt, nLe, nLtN, nLeN, hm, fl]
      refine XZ_for (fun i : Nat => ⟨[(1, .ptr 0 0), (2, .ptr 1 0), (4, vI z), (7, .ptr 2 0), (28, .il (lls L) L.length u), (29, vI L.length), (30, vI i)], [(0, .cells [.il (lls L) L.length u]), (1, .cells (ints Z34)), (2, .cells (bls (metL (L.take i).flatten)))], 3⟩) (fun i => L.length - i)
        (fun i => i ≤ L.length ∧ scanM z (L.take i).flatten (L.drop i) = scanM z [] L) 0 ⟨by simp, by simp⟩ (.tot [1, 2, 7] (by simp)) ?_
      clear hN hE hi N Q'
      rintro i ⟨hi, hinv⟩ N Q' hN hE
      rcases Nat.lt_or_ge i L.length with h | h
      · have hic : (i : Int) < L.length := by omega
        obtain ⟨l, r, e1, e2, e3, e4, e5⟩ := drop_split h
        have hlb : l.length ≤ 10000 := by
          have := Nat.le_trans (total_take L (i + 1)) htot
          rw [List.take_succ_eq_append_getElem h, e3, total_snoc] at this
          omega
        have hfl : (L.take (i + 1)).flatten = (L.take i).flatten ++ l := by rw [List.take_succ_eq_append_getElem h, e3]; simp
        rw [e1] at hinv
        simp only [scanM] at hinv
        have fin : scanL z (L.take i).flatten l = 0 → l.length ≠ 0 → ∀ s', ChgT 0 s' ⟨[(1, .ptr 0 0), (2, .ptr 1 0), (4, vI z), (7, .ptr 2 0), (28, .il (lls L) L.length u), (29, vI L.length), (30, vI ((i + 1 : Nat) : Int))], [(0, .cells [.il (lls L) L.length u]), (1, .cells (ints Z34)), (2, .cells (bls (metL ((L.take i).flatten ++ l))))], 3⟩ → N s' := fun h1 h2 s' hh =>
          hN s' (i + 1) (by omega) ⟨h, by rw [hfl, e4]; rw [if_neg h2, if_pos h1] at hinv; exact hinv⟩ (by rw [hfl]; exact hh)
        clear hN hfl
        generalize (L.take i).flatten = S at *
        by_cases hl0 : l.length = 0
        · have hlc : (l.length : Int) = 0 := by omega
          rw [if_pos hl0] at hinv
          have hv := herr 4 hinv.symm (by decide)
          delta p67_l2 p67_r11 p67_r12 p67_r13 p67_r14 p67_r15
          simp (disch := omega) [oLt, oLe, oLtN, oLeN, nLt, nLe, nLtN, nLeN, hic, h, e2, e3, hl0, hlc, zl, zz, z34_len]
          exact hE _ _ _ .refl (hQ _ _ (.p (.inl rfl) (by simp [hv, Eff.exec, z34_len, z34_take]) (by simp [hv])))
        · have hlc : ¬ (l.length : Int) = 0 := by omega
          rw [if_neg hl0] at hinv
          delta p67_l2 p67_r11 p67_r12 p67_r13 p67_r14 p67_r15
          simp (disch := omega) [oLt, oLe, oLtN, oLeN, nLt, nLe, nLtN, nLeN, hic, h, e2, e3, hl0, hlc]
          refine XZ_for (fun k : Nat => ⟨[(1, .ptr 0 0), (2, .ptr 1 0), (4, vI z), (7, .ptr 2 0), (28, .il (lls L) L.length u), (29, vI L.length), (30, vI i), (38, .il (ints l) l.length false), (39, vI l.length), (40, vI k)], [(0, .cells [.il (lls L) L.length u]), (1, .cells (ints Z34)), (2, .cells (bls (metL (S ++ l.take k))))], 3⟩) (fun k => l.length - k)
            (fun k => k ≤ l.length ∧ scanL z (S ++ l.take k) (l.drop k) = scanL z S l) 0 ⟨by simp, by simp⟩ (.tot [1, 2, 7] (by simp)) ?_
          rintro k ⟨hk, hkinv⟩ N2 Q2 hN2 hE2
          have hbad : ∀ c : Int, c ≠ 0 → scanL z (S ++ l.take k) (l.drop k) = c → openV L = .tup [.agg (ints Z34), vI c] := fun c h1 h2 => by
            refine herr c ?_ h1
            rw [← hinv, if_neg (by rw [← hkinv, h2]; exact h1), ← hkinv, h2]
          rcases Nat.lt_or_ge k l.length with h1 | h1
          · have hkc : (k : Int) < l.length := by omega
            obtain ⟨e, q, y1, y2, y3, y4, y5⟩ := drop_split h1
            have htk : l.take (k + 1) = l.take k ++ [e] := by rw [List.take_succ_eq_append_getElem h1, y3]
            rw [y1] at hkinv hbad
            simp only [scanL] at hkinv hbad
            by_cases hlo : e < 0
            · have hv := hbad 2 (by decide) (if_pos (.inl hlo))
              delta p67_l1 p67_r16 p67_r17 p67_r18 p67_r19 p67_r20 p67_r21 p67_r22 p67_r23
              simp (disch := omega) [oLt, oLe, oLtN, oLeN, nLt, nLe, nLtN, nLeN, hkc, h1, y2, y3, hlo, zl, zz, z34_len]
              exact hE2 _ _ _ .refl (hE _ _ _ .refl (hQ _ _ (.p (.inl rfl) (by simp [hv, Eff.exec, z34_len, z34_take]) (by simp [hv]))))
            · by_cases hhi : z ≤ e
              · have hv := hbad 2 (by decide) (if_pos (.inr hhi))
                delta p67_l1 p67_r16 p67_r17 p67_r18 p67_r19 p67_r20 p67_r21 p67_r22 p67_r23
                simp (disch := omega) [oLt, oLe, oLtN, oLeN, nLt, nLe, nLtN, nLeN, hkc, h1, y2, y3, hlo, hhi, zl, zz, z34_len]
                exact hE2 _ _ _ .refl (hE _ _ _ .refl (hQ _ _ (.p (.inl rfl) (by simp [hv, Eff.exec, z34_len, z34_take]) (by simp [hv]))))
              · have hno : ¬ (e < 0 ∨ z ≤ e) := by omega
                obtain ⟨m, rfl⟩ := Int.eq_ofNat_of_zero_le (show 0 ≤ e by omega)
                have hm16 : m < 16 := by omega
                have hmc : (m : Int) < 16 := by omega
                have hml := metL_len (S ++ l.take k)
                have hmg := metL_get (S ++ l.take k) hm16
                have hmg' := (List.getElem?_eq_some_iff.1 hmg).2
                rw [if_neg hno] at hkinv hbad
                by_cases hmem : (m : Int) ∈ S ++ l.take k
                · have hv := hbad 6 (by decide) (if_pos hmem)
                  simp only [hmem, decide_true] at hmg hmg'
                  generalize metL (S ++ l.take k) = M at *
                  delta p67_l1 p67_r16 p67_r17 p67_r18 p67_r19 p67_r20 p67_r21 p67_r22 p67_r23
                  simp (disch := omega) [oLt, oLe, oLtN, oLeN, nLt, nLe, nLtN, nLeN, hkc, h1, y2, y3, hlo, hhi, hm16, hmc, hml, hmg, hmg', zl, zz, z34_len]
                  exact hE2 _ _ _ .refl (hE _ _ _ .refl (hQ _ _ (.p (.inl rfl) (by simp [hv, Eff.exec, z34_len, z34_take]) (by simp [hv]))))
                · rw [if_neg hmem] at hkinv
                  simp only [hmem, decide_false] at hmg hmg'
                  have hset : metL (S ++ l.take (k + 1)) = (metL (S ++ l.take k)).set m true := by rw [htk, ← List.append_assoc, metL_snoc _ hm16]
                  have fin2 : ∀ s', ChgT 0 s' ⟨[(1, .ptr 0 0), (2, .ptr 1 0), (4, vI z), (7, .ptr 2 0), (28, .il (lls L) L.length u), (29, vI L.length), (30, vI i), (38, .il (ints l) l.length false), (39, vI l.length), (40, vI ((k + 1 : Nat) : Int))], [(0, .cells [.il (lls L) L.length u]), (1, .cells (ints Z34)), (2, .cells (bls ((metL (S ++ l.take k)).set m true)))], 3⟩ → N2 s' := fun s' hh =>
                    hN2 s' (k + 1) (by omega) ⟨h1, by rw [htk, ← List.append_assoc, y4]; exact hkinv⟩ (by rw [hset]; exact hh)
                  clear hN2 hset hbad
                  generalize metL (S ++ l.take k) = M at *
                  delta p67_l1 p67_r16 p67_r17 p67_r18 p67_r19 p67_r20 p67_r21 p67_r22 p67_r23
                  simp (disch := omega) [oLt, oLe, oLtN, oLeN, nLt, nLe, nLtN, nLeN, hkc, h1, y2, y3, hlo, hhi, hm16, hmc, hml, hmg, hmg']
                  exact fin2 _ (.tot [1, 2, 7] (by simp))
          · obtain rfl : k = l.length := by omega
            have hkc : ¬ (l.length : Int) < l.length := by omega
            rw [List.drop_eq_nil_of_le (Nat.le_refl _), List.take_length] at hkinv
            simp only [scanL] at hkinv
            rw [List.take_length]
            delta p67_l1 p67_r16 p67_r17 p67_r18 p67_r19 p67_r20 p67_r21 p67_r22 p67_r23
            simp (disch := omega) [oLt, oLe, oLtN, oLeN, nLt, nLe, nLtN, nLeN, hkc]
            refine hE2 _ _ _ .refl ?_
            simp only [inBE, thenE, if_true]
            delta p67_r24
            simp (disch := omega) [oLt, oLe, oLtN, oLeN, nLt, nLe, nLtN, nLeN]
            exact fin hkinv.symm hl0 _ (.tot [1, 2, 7] (by simp))
      · obtain rfl : i = L.length := by omega
        have hic : ¬ (L.length : Int) < L.length := by omega
        rw [List.drop_eq_nil_of_le (Nat.le_refl _)] at hinv
        simp only [scanM] at hinv
        have hc := hok hinv.symm
        delta p67_l2 p67_r11 p67_r12 p67_r13 p67_r14 p67_r15
        simp (disch := omega) [oLt, oLe, oLtN, oLeN, nLt, nLe, nLtN, nLeN, hic]
        refine hE _ _ _ .refl ?_
        by_cases hodd : total L % 2 = 1
        · have hzo : z % 2 = 1 := by omega
          rw [if_pos hodd] at hc
          have hv : openV L = .tup [.agg (ints Z34), vI 5] := by unfold openV; rw [hc]; rfl
          delta p67_r25 p67_r26 p67_r27
          simp (disch := omega) [oLt, oLe, oLtN, oLeN, nLt, nLe, nLtN, nLeN, hzo, zl, zz, z34_len]
          exact hQ _ _ (.p (.inl rfl) (by simp [hv, Eff.exec, z34_len, z34_take]) (by simp [hv]))
        · have hzo : ¬ z % 2 = 1 := by omega
          rw [if_neg hodd] at hc
          have hv : openV L = .tup [.agg (ints (tabF L)), vI 0] := by unfold openV; rw [hc]; rfl
          have hg70 := chk_g70 hc hg0
          have htl := (tabF_facts (by simp only [g70, Bool.and_eq_true] at hg70; exact hg70.1.1)).1
          have hsp : splice (ints Z34) 0 (ints (tabF L)) = ints (tabF L) := splice_all (by simp [htl, z34_len])
          delta p67_r25 p67_r26 p67_r27
          have htt : (tabF L).take 34 = tabF L := List.take_of_length_le (by omega)
          simp (disch := omega) [oLt, oLe, oLtN, oLeN, nLt, nLe, nLtN, nLeN, hzo, hg70, hsp, htl, z34_len]
          exact hQ _ _ (.p (.inl rfl) (by simp [hv, Eff.exec, htl, htt]) (by simp [hv]))
end Go.Sx.Ch
end
section
set_option maxRecDepth 4000
namespace Go.Sx.Ch
open Go Go.Sx Go.Proofs
def st68 (F : AV) (n k : Nat) (M : List Bool) (out : List (List Int)) : ST :=
  ⟨[(1, F), (5, fA 1 out), (6, .ptr 0 0), (11, vI n), (12, vI k)], (0, .cells (bls M)) :: fH 1 out, 1 + fN out⟩
def in68 (F : AV) (n k : Nat) (M : List Bool) (out : List (List Int)) (e : Int) (acc : List Int) : ST :=
  ⟨[(1, F), (5, fA 1 out), (6, .ptr 0 0), (7, vI k), (8, gA (1 + fN out) acc), (9, vI e), (11, vI n), (12, vI k)], (0, .cells (bls M)) :: (fH 1 out ++ gH (1 + fN out) acc), 1 + fN out + gN acc⟩
set_option maxHeartbeats 2000000 in
theorem in68_ok {T : List Int} {n k : Nat} {out : List (List Int)} {L : List Int} {M' : List Bool} {s0 : ST} {Q : Exit → ST → Prop} (hT : t34 T = true) (hn : n ≤ 16) (hs : ∀ k : Nat, k < n → 0 ≤ afterC T k ∧ afterC T k ≤ n - 1) (hk : k < n) (ho : out.length ≤ 16)
    {M : List Bool} (hM : M.length = 16) (hL : orb (afterC T) k 16 k = some L) (hM' : setM M L = M') (hs0 : ChgT 0 s0 (in68 (.fn (.func 71) [.agg (ints T)] []) n k M out k []))
    (hQ : Q (.exit 1000001) (st68 (.fn (.func 71) [.agg (ints T)] []) n k M' (out ++ [L]))) : XZ (rZ (spc [s71])) 0 (.loop p68_l0) s0 Q := by
  refine XZ_for (fun p : Nat × Int × List Int × List Bool => in68 (.fn (.func 71) [.agg (ints T)] []) n k p.2.2.2 out p.2.1 p.2.2.1) (fun p => p.1)
    (fun p => 0 ≤ p.2.1 ∧ p.2.1 ≤ n - 1 ∧ p.2.2.2.length = 16 ∧ p.2.2.1.length + p.1 ≤ 16 ∧ ∃ r, orb (afterC T) k p.1 p.2.1 = some r ∧ p.2.2.1 ++ r = L ∧ setM p.2.2.2 r = M') (16, k, [], M) ⟨by simp, by simp only; omega, hM, by simp, L, hL, by simp, hM'⟩ hs0 ?_
  rintro ⟨f, e, acc, M1⟩ ⟨h0, h1, h2, h3, r, hr, hacc, hset⟩ N Q' hN hE
  simp only at h0 h1 h2 h3 hr hacc hset ⊢
  cases f with
  | zero => cases hr
  | succ f =>
    obtain ⟨m, rfl⟩ := Int.eq_ofNat_of_zero_le h0
    have hm : m < n := by omega
    have hm16 : m < 16 := by omega
    have hmc : (m : Int) < 16 := by omega
    have hw : within 0 (m : Int) 15 = true := within_iff.2 ⟨by omega, by omega⟩
    have hv := hs m hm
    simp only [orb] at hr
    obtain ⟨v, hve⟩ : ∃ v, afterC T m = v := ⟨_, rfl⟩
    rw [hve] at hr hv
    by_cases hvk : v = k
    · rw [if_pos hvk] at hr
      cases hr
      have hvk' : ¬ v ≠ k := fun h => h hvk
      subst hacc
      rw [setM_cons, Int.toNat_natCast] at hset
      simp only [setM, List.foldl_nil] at hset
      subst hset
      rcases out with _ | ⟨o, orr⟩
      · rcases acc with _ | ⟨a, ar⟩
        · simp only [in68, fA, fH, fN, gA, gH, gN]
          delta p68_l0 p68_r9 p68_r10 p68_r11 p68_r12 p68_r13
          simp (disch := omega) [oLt, oLe, oLtN, oLeN, nLt, nLe, nLtN, nLeN, hm, hm16, hmc, hw, hT, hve, hvk, h2]
          exact hE _ _ _ (.frz 7 (by simp; rfl) (by simp) (.tot [6, 5] (by simp [st68, fA, fH, fN]))) hQ
        · simp only [List.length_cons] at h3
          simp only [in68, fA, fH, fN, gA, gH, gN]
          delta p68_l0 p68_r9 p68_r10 p68_r11 p68_r12 p68_r13
          simp (disch := omega) [oLt, oLe, oLtN, oLeN, nLt, nLe, nLtN, nLeN, hm, hm16, hmc, hw, hT, hve, hvk, h2]
          exact hE _ _ _ (.frz 8 (by simp; rfl) (by simp) (.tot [6, 5] (by simp [st68, fA, fH, fN]))) hQ
      · rcases acc with _ | ⟨a, ar⟩
        · simp only [List.length_cons] at ho
          simp only [in68, fA, fH, fN, gA, gH, gN]
          delta p68_l0 p68_r9 p68_r10 p68_r11 p68_r12 p68_r13
          simp (disch := omega) [oLt, oLe, oLtN, oLeN, nLt, nLe, nLtN, nLeN, hm, hm16, hmc, hw, hT, hve, hvk, h2, ho]
          exact hE _ _ _ (.frz 8 (by simp; rfl) (by simp) (.tot [6, 5] (by simp [st68, fA, fH, fN]))) hQ
        · simp only [List.length_cons] at ho h3
          simp only [in68, fA, fH, fN, gA, gH, gN]
          delta p68_l0 p68_r9 p68_r10 p68_r11 p68_r12 p68_r13
          simp (disch := omega) [oLt, oLe, oLtN, oLeN, nLt, nLe, nLtN, nLeN, hm, hm16, hmc, hw, hT, hve, hvk, h2, ho]
          exact hE _ _ _ (.frz 9 (by simp; rfl) (by simp) (.tot [6, 5] (by simp [st68, fA, fH, fN]))) hQ
    · rw [if_neg hvk] at hr
      obtain ⟨r', hr', rfl⟩ : ∃ r', orb (afterC T) k f v = some r' ∧ r = (m : Int) :: r' := by
        obtain ⟨r', h, e⟩ := Option.map_eq_some_iff.1 hr; exact ⟨r', h, e.symm⟩
      rw [setM_cons, Int.toNat_natCast] at hset
      have fin : ∀ s', ChgT 0 s' (in68 (.fn (.func 71) [.agg (ints T)] []) n k (M1.set m true) out v (acc ++ [(m : Int)])) → N s' := fun s' hh =>
        hN s' (f, v, acc ++ [(m : Int)], M1.set m true) (Nat.lt_succ_self f) ⟨hv.1, hv.2, by simp [h2], by simp; omega, r', hr', by simp [hacc], hset⟩ hh
      clear hN
      rcases out with _ | ⟨o, orr⟩
      · rcases acc with _ | ⟨a, ar⟩
        · simp only [in68, fA, fH, fN, gA, gH, gN]
          delta p68_l0 p68_r9 p68_r10 p68_r11 p68_r12 p68_r13
          simp (disch := omega) [oLt, oLe, oLtN, oLeN, nLt, nLe, nLtN, nLeN, hm, hm16, hmc, hw, hT, hve, hvk, h2]
          exact fin _ (.tot [6, 8] (by simp [in68, fA, fH, fN, gA, gH, gN]))
        · simp only [List.length_cons] at h3
          simp only [in68, fA, fH, fN, gA, gH, gN]
          delta p68_l0 p68_r9 p68_r10 p68_r11 p68_r12 p68_r13
          simp (disch := omega) [oLt, oLe, oLtN, oLeN, nLt, nLe, nLtN, nLeN, hm, hm16, hmc, hw, hT, hve, hvk, h2]
          exact fin _ (.tot [6, 8] (by simp [in68, fA, fH, fN, gA, gH, gN]))
      · simp only [List.length_cons] at ho
        rcases acc with _ | ⟨a, ar⟩
        · simp only [in68, fA, fH, fN, gA, gH, gN]
          delta p68_l0 p68_r9 p68_r10 p68_r11 p68_r12 p68_r13
          simp (disch := omega) [oLt, oLe, oLtN, oLeN, nLt, nLe, nLtN, nLeN, hm, hm16, hmc, hw, hT, hve, hvk, h2]
          exact fin _ (.tot [6, 5, 8] (by simp [in68, fA, fH, fN, gA, gH, gN]))
        · simp only [List.length_cons] at h3
          simp only [in68, fA, fH, fN, gA, gH, gN]
          delta p68_l0 p68_r9 p68_r10 p68_r11 p68_r12 p68_r13
          simp (disch := omega) [oLt, oLe, oLtN, oLeN, nLt, nLe, nLtN, nLeN, hm, hm16, hmc, hw, hT, hve, hvk, h2]
          exact fin _ (.tot [6, 5, 8] (by simp [in68, fA, fH, fN, gA, gH, gN]))
end Go.Sx.Ch
end
