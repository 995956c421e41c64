/- What functions of the chart layer return: steps around a map. No conditions. -/
import Derived.Test.YtfiebjbhiflfpaaDoorSxPCa
import Derived.Test.YtfiebjbhiflfpaaDoorSxJSttoSd
set_option linter.unusedVariables false
set_option linter.unusedSimpArgs false
namespace Go.Sx
theorem drop_split {α : Type} {l : List α} {i : Nat} (h : i < l.length) : ∃ x r, l.drop i = x :: r ∧ l[i]? = some x ∧ l[i] = x ∧ l.drop (i + 1) = r ∧ x ∈ l :=
  ⟨l[i], l.drop (i + 1), List.drop_eq_getElem_cons h, by simp [h], rfl, rfl, List.getElem_mem h⟩
end Go.Sx
namespace Go.Sx.Ch
open Go Go.Sx Go.Proofs

abbrev vI (n : Int) : AV := .v (.int .i64 n)
abbrev vB (b : Bool) : AV := .v (.bool b)
def small (l : List Int) : Bool := decide (l.length ≤ 1000000)
def within (a n b : Int) : Bool := decide (a ≤ n) && decide (n ≤ b)
theorem within_iff {a n b : Int} : within a n b = true ↔ a ≤ n ∧ n ≤ b := by simp [within]
def oth : List Int := [1, 0, 3, 2, 5, 4, 7, 6, 9, 8, 11, 10, 13, 12, 15, 14]
@[simp] theorem globA_0 : globA 0 = .elt (ints oth) 0 := rfl
theorem oth_get {e : Int} (h : 0 ≤ e ∧ e ≤ 15) : ∃ v, oth[e.toNat]? = some v ∧ 0 ≤ v ∧ v ≤ 15 := by
  obtain ⟨n, rfl⟩ := Int.eq_ofNat_of_zero_le h.1
  have hn : n < 16 := by omega
  simp only [Int.toNat_natCast]
  have : ∀ n, n < 16 → ∃ v, oth[n]? = some v ∧ 0 ≤ v ∧ v ≤ 15 := by decide
  exact this n hn

/-! ### Steps -/
/-- What comes after an end in a table. -/
def afterC (C : List Int) (e : Int) : Int := C.getD (1 + e.toNat) 0
def othI (e : Int) : Int := oth.getD e.toNat 0
def t34 (C : List Int) : Bool := decide (C.length = 34)
def s71 : Sp := spT 71 [.tb, .i] fun (C : List Int) (e : Int) => res (t34 C && within 0 e 15) (vI (afterC C e))
@[simp] theorem s71_g : s71.g = 71 := rfl
@[simp] theorem s71_f : s71.f = (spT 71 [.tb, .i] fun (C : List Int) (e : Int) => res (t34 C && within 0 e 15) (vI (afterC C e))).f := rfl
theorem s71_ok : s71.ok Tryd.prog := by
  apply spT_ok
  simp only [OkT, Ty.all, List.nil_append, List.cons_append]
  intro (C : List Int) (e : Int)
  apply okT_res; intro hg
  refine P71.rz (ss := []) trivial (by simp) fun Q hQ => ?_
  delta p71 p71_r0 p71_r1
  simp only [Bool.and_eq_true, t34, decide_eq_true_eq, within_iff] at hg
  obtain ⟨h34, h0, h15⟩ := hg
  obtain ⟨v, hv⟩ : ∃ v, C[1 + e.toNat]? = some v := ⟨C[1 + e.toNat], by rw [List.getElem?_eq_getElem]⟩
  have hr : afterC C e = v := by simp [afterC, List.getD_eq_getElem?_getD, hv]
  have h16 : e < 16 := by omega
  simp (disch := omega) [oLt, oLe, oLtN, oLeN, nLt, nLe, nLtN, nLeN, h0, h16, hv, hr]
  exact hQ _ _ (.p (.inl rfl) (by simp [hr, (List.getElem?_eq_some_iff.1 hv).2]) rfl)
def s84 : Sp := spT 84 [.tb, .i] fun (C : List Int) (e : Int) => res (t34 C && within 0 e 15) (vI (afterC C (othI e)))
@[simp] theorem s84_g : s84.g = 84 := rfl
@[simp] theorem s84_f : s84.f = (spT 84 [.tb, .i] fun (C : List Int) (e : Int) => res (t34 C && within 0 e 15) (vI (afterC C (othI e)))).f := rfl
theorem s84_ok : s84.ok Tryd.prog := by
  apply spT_ok
  simp only [OkT, Ty.all, List.nil_append, List.cons_append]
  intro (C : List Int) (e : Int)
  apply okT_res; intro hg
  refine P84.rz (ss := []) trivial (by simp) fun Q hQ => ?_
  delta p84 p84_r0 p84_r1
  simp only [Bool.and_eq_true, t34, decide_eq_true_eq, within_iff] at hg
  obtain ⟨h34, h0, h15⟩ := hg
  have h16 : e < 16 := by omega
  obtain ⟨o, ho, o0, o15⟩ := oth_get ⟨h0, h15⟩
  have ho' : othI e = o := by simp [othI, List.getD_eq_getElem?_getD, ho]
  have o16 : o < 16 := by omega
  obtain ⟨v, hv⟩ : ∃ v, C[1 + o.toNat]? = some v := ⟨C[1 + o.toNat], by rw [List.getElem?_eq_getElem]⟩
  have hr : afterC C (othI e) = v := by rw [ho']; simp [afterC, List.getD_eq_getElem?_getD, hv]
  simp (disch := omega) [oLt, oLe, oLtN, oLeN, nLt, nLe, nLtN, nLeN, h0, h16, ho, o0, o16, hv, hr]
  exact hQ _ _ (.p (.inl rfl) (by simp [hr, (List.getElem?_eq_some_iff.1 hv).2]) rfl)
def s69 : Sp := spT 69 [.i, .el] fun (e : Int) (B : List Int) => res (decide (B.length = 16) && within 0 e 15) (vI (B.getD e.toNat 0))
@[simp] theorem s69_g : s69.g = 69 := rfl
@[simp] theorem s69_f : s69.f = (spT 69 [.i, .el] fun (e : Int) (B : List Int) => res (decide (B.length = 16) && within 0 e 15) (vI (B.getD e.toNat 0))).f := rfl
theorem s69_ok : s69.ok Tryd.prog := by
  apply spT_ok
  simp only [OkT, Ty.all, List.nil_append, List.cons_append]
  intro (e : Int) (B : List Int)
  apply okT_res; intro hg
  refine P69.rz (ss := []) trivial (by simp) fun Q hQ => ?_
  delta p69 p69_r0 p69_r1
  simp only [Bool.and_eq_true, decide_eq_true_eq, within_iff] at hg
  obtain ⟨h16', h0, h15⟩ := hg
  have h16 : e < 16 := by omega
  obtain ⟨v, hv⟩ : ∃ v, B[e.toNat]? = some v := ⟨B[e.toNat], by rw [List.getElem?_eq_getElem]⟩
  have hr : B.getD e.toNat 0 = v := by simp [List.getD_eq_getElem?_getD, hv]
  simp (disch := omega) [oLt, oLe, oLtN, oLeN, nLt, nLe, nLtN, nLeN, h0, h16, hv, hr]
  exact hQ _ _ (.p (.inl rfl) (by simp [- List.getD_eq_getElem?_getD, hr, (List.getElem?_eq_some_iff.1 hv).2]) rfl)
end Go.Sx.Ch
namespace Go.Sx.Ch
open Go Go.Sx Go.Proofs

/-- What comes next on a face. -/
def alongC (C : List Int) (e : Int) : Int := afterC C (othI e)
/-- What comes before. -/
def backC (B : List Int) (e : Int) : Int := B.getD e.toNat 0
/-- From e on, until the step leads to a. -/
def orb (σ : Int → Int) (a : Int) : Nat → Int → Option (List Int)
  | 0, _ => none
  | f + 1, e => if σ e = a then some [e] else (orb σ a f (σ e)).map (e :: ·)
def setM (M : List Bool) (l : List Int) : List Bool := l.foldl (fun M e => M.set e.toNat true) M
theorem setM_cons (M : List Bool) (e : Int) (l : List Int) : setM M (e :: l) = setM (M.set e.toNat true) l := rfl
theorem setM_len (M : List Bool) (l : List Int) : (setM M l).length = M.length := by
  unfold setM
  induction l generalizing M with
  | nil => rfl
  | cons e l ih => simp only [List.foldl_cons]; rw [ih]; simp
def cycS (σ : Int → Int) (s : List Bool × List (List Int)) (k : Nat) : List Bool × List (List Int) :=
  if s.1.getD k false = true then s else (setM s.1 ((orb σ k 16 k).getD []), s.2 ++ [(orb σ k 16 k).getD []])
def cycN (σ : Int → Int) (n : Nat) : List Bool × List (List Int) := (List.range n).foldl (cycS σ) (List.replicate 16 false, [])
theorem cycN_succ (σ : Int → Int) (n : Nat) : cycN σ (n + 1) = cycS σ (cycN σ n) n := by
  simp [cycN, List.range_succ, List.foldl_append]
theorem cycN_len (σ : Int → Int) (n : Nat) : (cycN σ n).1.length = 16 ∧ (cycN σ n).2.length ≤ n := by
  induction n with
  | zero => simp [cycN]
  | succ n ih =>
    rw [cycN_succ]; unfold cycS
    split
    · exact ⟨ih.1, by omega⟩
    · refine ⟨by rw [setM_len]; exact ih.1, by simp; exact ih.2⟩
def cyc (σ : Int → Int) (n : Nat) : List (List Int) := (cycN σ n).2
/-- The step leads around, below n. -/
def okS (σ : Int → Int) (n : Nat) : Bool := decide (n ≤ 16) && (List.range n).all fun k => within 0 (σ k) (n - 1) && (orb σ k 16 k).isSome
theorem okS_iff {σ : Int → Int} {n : Nat} : okS σ n = true ↔ n ≤ 16 ∧ ∀ k, k < n → (0 ≤ σ k ∧ σ k ≤ n - 1) ∧ ∃ l, orb σ k 16 k = some l := by
  simp only [okS, Bool.and_eq_true, decide_eq_true_eq, List.all_eq_true, List.mem_range, within_iff, Option.isSome_iff_exists]
theorem orb_len {σ : Int → Int} {a : Int} : ∀ {f : Nat} {e : Int} {l : List Int}, orb σ a f e = some l → l.length ≤ f ∧ l ≠ []
  | 0, e, l, h => by cases h
  | f + 1, e, l, h => by
    simp only [orb] at h
    split at h
    · cases h; simp
    · obtain ⟨r, hr, rfl⟩ := Option.map_eq_some_iff.1 h
      have := (orb_len hr).1
      simp; omega
/-- A list that grows: what it is, its block. -/
def gA (i : Nat) : List Int → AV
  | [] => .v (.slice none 0 0)
  | _ :: r => .ref i 0 (r.length + 1) 1 none
def gH (i : Nat) : List Int → HL
  | [] => []
  | x :: r => [(i, .cells (ints (x :: r)))]
def gN : List Int → Nat
  | [] => 0
  | _ :: _ => 1
def fA (i : Nat) : List (List Int) → AV
  | [] => .v (.slice none 0 0)
  | _ :: r => .ref i 0 (r.length + 1) 1 none
def fH (i : Nat) : List (List Int) → HL
  | [] => []
  | x :: r => [(i, .cells (lls (x :: r)))]
def fN : List (List Int) → Nat
  | [] => 0
  | _ :: _ => 1
def endsC (C : List Int) : Int := C.getD 0 0
end Go.Sx.Ch
set_option maxRecDepth 4000
namespace Go.Sx.Ch
open Go Go.Sx Go.Proofs

/-- The states of the walk: behind so many ends. -/
def st68 (F : AV) (n k : Nat) (M : List Bool) (out : List (List Int)) : ST :=
  ⟨[(1, F), (5, fA 1 out), (6, .ptr 0 0), (11, vI n), (12, vI k)], (0, .cells (bls M)) :: fH 1 out, 1 + fN out⟩
/-- Within a list. -/
def in68 (F : AV) (n k : Nat) (M : List Bool) (out : List (List Int)) (e : Int) (acc : List Int) : ST :=
  ⟨[(1, F), (5, fA 1 out), (6, .ptr 0 0), (7, vI k), (8, gA (1 + fN out) acc), (9, vI e), (11, vI n), (12, vI k)], (0, .cells (bls M)) :: (fH 1 out ++ gH (1 + fN out) acc), 1 + fN out + gN acc⟩
set_option maxHeartbeats 2000000 in
theorem in68_ok {T : List Int} {n k : Nat} {out : List (List Int)} {L : List Int} {M' : List Bool} {s0 : ST} {Q : Exit → ST → Prop} (hT : t34 T = true) (hn : n ≤ 16) (hs : ∀ k : Nat, k < n → 0 ≤ afterC T k ∧ afterC T k ≤ n - 1) (hk : k < n) (ho : out.length ≤ 16)
    {M : List Bool} (hM : M.length = 16) (hL : orb (afterC T) k 16 k = some L) (hM' : setM M L = M') (hs0 : ChgT 0 s0 (in68 (.fn (.func 71) [.agg (ints T)] []) n k M out k []))
    (hQ : Q (.exit 1000001) (st68 (.fn (.func 71) [.agg (ints T)] []) n k M' (out ++ [L]))) : XZ (rZ (spc [s71])) 0 (.loop p68_l0) s0 Q := by
  refine XZ_for (fun p : Nat × Int × List Int × List Bool => in68 (.fn (.func 71) [.agg (ints T)] []) n k p.2.2.2 out p.2.1 p.2.2.1) (fun p => p.1)
    (fun p => 0 ≤ p.2.1 ∧ p.2.1 ≤ n - 1 ∧ p.2.2.2.length = 16 ∧ p.2.2.1.length + p.1 ≤ 16 ∧ ∃ r, orb (afterC T) k p.1 p.2.1 = some r ∧ p.2.2.1 ++ r = L ∧ setM p.2.2.2 r = M') (16, k, [], M) ⟨by simp, by simp only; omega, hM, by simp, L, hL, by simp, hM'⟩ hs0 ?_
  rintro ⟨f, e, acc, M1⟩ ⟨h0, h1, h2, h3, r, hr, hacc, hset⟩ N Q' hN hE
  simp only at h0 h1 h2 h3 hr hacc hset ⊢
  cases f with
  | zero => cases hr
  | succ f =>
    obtain ⟨m, rfl⟩ := Int.eq_ofNat_of_zero_le h0
    have hm : m < n := by omega
    have hm16 : m < 16 := by omega
    have hmc : (m : Int) < 16 := by omega
    have hw : within 0 (m : Int) 15 = true := within_iff.2 ⟨by omega, by omega⟩
    have hv := hs m hm
    simp only [orb] at hr
    obtain ⟨v, hve⟩ : ∃ v, afterC T m = v := ⟨_, rfl⟩
    rw [hve] at hr hv
    by_cases hvk : v = k
    · rw [if_pos hvk] at hr
      cases hr
      have hvk' : ¬ v ≠ k := fun h => h hvk
      subst hacc
      rw [setM_cons, Int.toNat_natCast] at hset
      simp only [setM, List.foldl_nil] at hset
      subst hset
      rcases out with _ | ⟨o, orr⟩
      · rcases acc with _ | ⟨a, ar⟩
        · simp only [in68, fA, fH, fN, gA, gH, gN]
          delta p68_l0 p68_r9 p68_r10 p68_r11 p68_r12 p68_r13
          simp (disch := omega) [oLt, oLe, oLtN, oLeN, nLt, nLe, nLtN, nLeN, hm, hm16, hmc, hw, hT, hve, hvk, h2]
          exact hE _ _ _ (.frz 7 (by simp; rfl) (by simp) (.tot [6, 5] (by simp [st68, fA, fH, fN]))) hQ
        · simp only [List.length_cons] at h3
          simp only [in68, fA, fH, fN, gA, gH, gN]
          delta p68_l0 p68_r9 p68_r10 p68_r11 p68_r12 p68_r13
          simp (disch := omega) [oLt, oLe, oLtN, oLeN, nLt, nLe, nLtN, nLeN, hm, hm16, hmc, hw, hT, hve, hvk, h2]
          exact hE _ _ _ (.frz 8 (by simp; rfl) (by simp) (.tot [6, 5] (by simp [st68, fA, fH, fN]))) hQ
      · rcases acc with _ | ⟨a, ar⟩
        · simp only [List.length_cons] at ho
          simp only [in68, fA, fH, fN, gA, gH, gN]
          delta p68_l0 p68_r9 p68_r10 p68_r11 p68_r12 p68_r13
          simp (disch := omega) [oLt, oLe, oLtN, oLeN, nLt, nLe, nLtN, nLeN, hm, hm16, hmc, hw, hT, hve, hvk, h2, ho]
          exact hE _ _ _ (.frz 8 (by simp; rfl) (by simp) (.tot [6, 5] (by simp [st68, fA, fH, fN]))) hQ
        · simp only [List.length_cons] at ho h3
          simp only [in68, fA, fH, fN, gA, gH, gN]
          delta p68_l0 p68_r9 p68_r10 p68_r11 p68_r12 p68_r13
          simp (disch := omega) [oLt, oLe, oLtN, oLeN, nLt, nLe, nLtN, nLeN, hm, hm16, hmc, hw, hT, hve, hvk, h2, ho]
          exact hE _ _ _ (.frz 9 (by simp; rfl) (by simp) (.tot [6, 5] (by simp [st68, fA, fH, fN]))) hQ
    · rw [if_neg hvk] at hr
      obtain ⟨r', hr', rfl⟩ : ∃ r', orb (afterC T) k f v = some r' ∧ r = (m : Int) :: r' := by
        obtain ⟨r', h, e⟩ := Option.map_eq_some_iff.1 hr; exact ⟨r', h, e.symm⟩
      rw [setM_cons, Int.toNat_natCast] at hset
      have fin : ∀ s', ChgT 0 s' (in68 (.fn (.func 71) [.agg (ints T)] []) n k (M1.set m true) out v (acc ++ [(m : Int)])) → N s' := fun s' hh =>
        hN s' (f, v, acc ++ [(m : Int)], M1.set m true) (Nat.lt_succ_self f) ⟨hv.1, hv.2, by simp [h2], by simp; omega, r', hr', by simp [hacc], hset⟩ hh
      clear hN
      rcases out with _ | ⟨o, orr⟩
      · rcases acc with _ | ⟨a, ar⟩
        · simp only [in68, fA, fH, fN, gA, gH, gN]
          delta p68_l0 p68_r9 p68_r10 p68_r11 p68_r12 p68_r13
          simp (disch := omega) [oLt, oLe, oLtN, oLeN, nLt, nLe, nLtN, nLeN, hm, hm16, hmc, hw, hT, hve, hvk, h2]
          exact fin _ (.tot [6, 8] (by simp [in68, fA, fH, fN, gA, gH, gN]))
        · simp only [List.length_cons] at h3
          simp only [in68, fA, fH, fN, gA, gH, gN]
          delta p68_l0 p68_r9 p68_r10 p68_r11 p68_r12 p68_r13
          simp (disch := omega) [oLt, oLe, oLtN, oLeN, nLt, nLe, nLtN, nLeN, hm, hm16, hmc, hw, hT, hve, hvk, h2]
          exact fin _ (.tot [6, 8] (by simp [in68, fA, fH, fN, gA, gH, gN]))
      · simp only [List.length_cons] at ho
        rcases acc with _ | ⟨a, ar⟩
        · simp only [in68, fA, fH, fN, gA, gH, gN]
          delta p68_l0 p68_r9 p68_r10 p68_r11 p68_r12 p68_r13
          simp (disch := omega) [oLt, oLe, oLtN, oLeN, nLt, nLe, nLtN, nLeN, hm, hm16, hmc, hw, hT, hve, hvk, h2]
          exact fin _ (.tot [6, 5, 8] (by simp [in68, fA, fH, fN, gA, gH, gN]))
        · simp only [List.length_cons] at h3
          simp only [in68, fA, fH, fN, gA, gH, gN]
          delta p68_l0 p68_r9 p68_r10 p68_r11 p68_r12 p68_r13
          simp (disch := omega) [oLt, oLe, oLtN, oLeN, nLt, nLe, nLtN, nLeN, hm, hm16, hmc, hw, hT, hve, hvk, h2]
          exact fin _ (.tot [6, 5, 8] (by simp [in68, fA, fH, fN, gA, gH, gN]))
end Go.Sx.Ch
set_option maxRecDepth 4000
namespace Go.Sx.Ch
open Go Go.Sx Go.Proofs

set_option maxHeartbeats 2000000 in
theorem cyc71_runs {C T : List Int} {n : Nat} (hC : t34 C = true) (hT : t34 T = true) (hn : C.getD 0 0 = n) (hg : okS (afterC T) n = true) :
    Runs Tryd.prog 68 0 [.agg (ints C), .fn (.func 71) [.agg (ints T)] []] (hpF []) (.il (lls (cyc (afterC T) n)) (cyc (afterC T) n).length false) 0 (hpF []) := by
  obtain ⟨h16, hs⟩ := okS_iff.1 hg
  have h34 : C.length = 34 := by simpa [t34] using hC
  have h0 : C[0]? = some (n : Int) := by
    rw [List.getElem?_eq_getElem (by omega)]
    simpa [List.getD_eq_getElem?_getD, h34] using hn
  have h0' : C[0] = (n : Int) := (List.getElem?_eq_some_iff.1 h0).2
  refine P68.rz (ss := [s71]) ⟨s71_ok, trivial⟩ (by simp) fun Q hQ => ?_
  delta p68 p68_r0 p68_r1 p68_r2 p68_r3
  simp (disch := omega) [oLt, oLe, oLtN, oLeN, nLt, nLe, nLtN, nLeN, h0, h0', h34]
  refine XZ_for (fun k : Nat => st68 (.fn (.func 71) [.agg (ints T)] []) n k (cycN (afterC T) k).1 (cycN (afterC T) k).2) (fun k => n - k) (fun k => k ≤ n) 0 (by simp) (.tot [6] (by simp [st68, cycN, fA, fH, fN])) ?_
  intro k hk N Q' hN hE
  obtain ⟨hMl, hol⟩ := cycN_len (afterC T) k
  rcases Nat.lt_or_ge k n with h | h
  · have hkc : (k : Int) < n := by omega
    have hk16 : (k : Int) < 16 := by omega
    have hk16' : k < 16 := by omega
    obtain ⟨-, L, hL⟩ := hs k h
    have hnext := cycN_succ (afterC T) k
    obtain ⟨b, hb⟩ : ∃ b, (cycN (afterC T) k).1[k]? = some b := ⟨(cycN (afterC T) k).1[k], by rw [List.getElem?_eq_getElem]⟩
    have hb' : (cycN (afterC T) k).1.getD k false = b := by simp [List.getD_eq_getElem?_getD, hb]
    unfold cycS at hnext
    rw [hb', hL] at hnext
    generalize hM : (cycN (afterC T) k).1 = M at *
    generalize ho : (cycN (afterC T) k).2 = out at *
    have hbe : M[k] = b := (List.getElem?_eq_some_iff.1 hb).2
    cases b with
    | true =>
      rw [if_pos rfl] at hnext
      have fin : ∀ s', ChgT 0 s' (st68 (.fn (.func 71) [.agg (ints T)] []) n ((k + 1 : Nat)) M out) → N s' := fun s' hh => hN s' (k + 1) (by omega) h (by rw [hnext, hM, ho]; exact hh)
      rcases out with _ | ⟨o, orr⟩
      · simp only [st68, fA, fH, fN]
        delta p68_l1 p68_r4 p68_r5 p68_r6 p68_r7 p68_r8
        simp (disch := omega) [oLt, oLe, oLtN, oLeN, nLt, nLe, nLtN, nLeN, hkc, hk16, hk16', hb, hbe, hMl]
        delta p68_r14
        simp (disch := omega) [oLt, oLe, oLtN, oLeN, nLt, nLe, nLtN, nLeN]
        exact fin _ (.tot [6] (by simp [st68, fA, fH, fN]))
      · simp only [st68, fA, fH, fN]
        delta p68_l1 p68_r4 p68_r5 p68_r6 p68_r7 p68_r8
        simp (disch := omega) [oLt, oLe, oLtN, oLeN, nLt, nLe, nLtN, nLeN, hkc, hk16, hk16', hb, hbe, hMl]
        delta p68_r14
        simp (disch := omega) [oLt, oLe, oLtN, oLeN, nLt, nLe, nLtN, nLeN]
        exact fin _ (.tot [6, 5] (by simp [st68, fA, fH, fN]))
    | false =>
      rw [if_neg (by simp)] at hnext
      simp only [Option.getD_some] at hnext
      have fin : ∀ s', ChgT 0 s' (st68 (.fn (.func 71) [.agg (ints T)] []) n ((k + 1 : Nat)) (setM M L) (out ++ [L])) → N s' := fun s' hh => hN s' (k + 1) (by omega) h (by rw [hnext]; exact hh)
      rcases out with _ | ⟨o, orr⟩
      · simp only [st68, fA, fH, fN]
        delta p68_l1 p68_r4 p68_r5 p68_r6 p68_r7 p68_r8
        simp (disch := omega) [oLt, oLe, oLtN, oLeN, nLt, nLe, nLtN, nLeN, hkc, hk16, hk16', hb, hbe, hMl]
        refine in68_ok (out := []) hT h16 (fun k hk => (hs k hk).1) h (by simp) hMl hL rfl (.tot [6] (by simp [in68, fA, fH, fN, gA, gH, gN])) ?_
        simp only [inBE, thenE, if_true, st68, fA, fH, fN, List.nil_append]
        delta p68_r14
        simp (disch := omega) [oLt, oLe, oLtN, oLeN, nLt, nLe, nLtN, nLeN]
        exact fin _ (.tot [6, 5] (by simp [st68, fA, fH, fN]))
      · simp only [st68, fA, fH, fN]
        delta p68_l1 p68_r4 p68_r5 p68_r6 p68_r7 p68_r8
        simp (disch := omega) [oLt, oLe, oLtN, oLeN, nLt, nLe, nLtN, nLeN, hkc, hk16, hk16', hb, hbe, hMl]
        refine in68_ok (out := o :: orr) hT h16 (fun k hk => (hs k hk).1) h (by simp at hol ⊢; omega) hMl hL rfl (.tot [6, 5] (by simp [in68, fA, fH, fN, gA, gH, gN])) ?_
        simp only [inBE, thenE, if_true, st68, fA, fH, fN, List.cons_append]
        delta p68_r14
        simp (disch := omega) [oLt, oLe, oLtN, oLeN, nLt, nLe, nLtN, nLeN]
        exact fin _ (.tot [6, 5] (by simp [st68, fA, fH, fN]))
  · have hkc : ¬ (k : Int) < n := by omega
    obtain rfl : k = n := by omega
    have hcyc : (cycN (afterC T) k).2 = cyc (afterC T) k := rfl
    generalize (cycN (afterC T) k).1 = M at *
    rw [hcyc]
    clear hcyc
    generalize cyc (afterC T) k = out at *
    rcases out with _ | ⟨o, orr⟩
    · simp only [st68, fA, fH, fN]
      delta p68_l1 p68_r4 p68_r5 p68_r6 p68_r7 p68_r8
      simp (disch := omega) [oLt, oLe, oLtN, oLeN, nLt, nLe, nLtN, nLeN, hkc]
      refine hE _ _ _ .refl ?_
      delta p68_r15
      simp (disch := omega) [oLt, oLe, oLtN, oLeN, nLt, nLe, nLtN, nLeN]
      exact hQ _ _ (.fz [4] _ (.inl rfl) (by simp; rfl) (by simp) (by simp))
    · simp only [st68, fA, fH, fN]
      delta p68_l1 p68_r4 p68_r5 p68_r6 p68_r7 p68_r8
      simp (disch := omega) [oLt, oLe, oLtN, oLeN, nLt, nLe, nLtN, nLeN, hkc]
      refine hE _ _ _ .refl ?_
      delta p68_r15
      simp (disch := omega) [oLt, oLe, oLtN, oLeN, nLt, nLe, nLtN, nLeN]
      exact hQ _ _ (.fz [4] _ (.inl rfl) (by simp; rfl) (by simp) (by simp))
end Go.Sx.Ch
