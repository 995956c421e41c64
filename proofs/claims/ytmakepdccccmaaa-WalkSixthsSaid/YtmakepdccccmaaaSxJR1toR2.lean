/- Weights: who weighs more than 1 can't be walked for ever; a plan that comes back can. No conditions. -/
import Derived.Test.YtmakepdccccmaaaSxJQBtoQD
import Derived.Test.YtmakepdccccmaaaSxJPd14toPd72
set_option linter.unusedVariables false
set_option linter.unusedSimpArgs false
namespace Go.Sx.Wk
open Go Go.Sx Go.Proofs

/-- How often the stretches must be met in so many tides. -/
def need : List Int → List Int → Int → Int
  | t :: ts, x :: xs, k => (k + t - x) / t + need ts xs k
  | _, _, _ => 0
theorem need_aft {s : Int} : ∀ {t x l : List Int} {i k : Int}, val t x → aftG s t x i = some l → need t x (k + 1) ≤ need t l k + (if i ≤ s ∧ s < i + t.length then 1 else 0)
  | [], [], l, i, k, _, h => by simp [aftG] at h; subst h; simp [need]; split <;> omega
  | t :: ts, x :: xs, l, i, k, hv, h => by
    simp only [aftG] at h
    have h1 := hv.1
    have h2 := hv.2.1
    have ht : 0 < t := by omega
    by_cases hs : i = s
    · rw [if_pos hs] at h
      cases hr : aftG s ts xs (i + 1) with
      | none => rw [hr] at h; simp at h
      | some r =>
        rw [hr] at h; simp at h; subst h
        have ih := need_aft (k := k) hv.2.2 hr
        rw [if_neg (by omega)] at ih
        rw [if_pos (by simp only [List.length_cons]; omega)]
        simp only [need]
        have e1 : (k + t) / t = k / t + 1 := by
          have := Int.add_mul_ediv_right k 1 (c := t) (by omega)
          rwa [Int.one_mul] at this
        have e : (k + 1 + t - x) / t ≤ (k + t) / t := Int.ediv_le_ediv ht (by omega)
        rw [show k + t - t = k by omega]
        omega
    · rw [if_neg hs] at h
      by_cases h0 : x = 1
      · rw [if_pos h0] at h; cases h
      · rw [if_neg h0] at h
        cases hr : aftG s ts xs (i + 1) with
        | none => rw [hr] at h; simp at h
        | some r =>
          rw [hr] at h; simp at h; subst h
          have ih := need_aft (k := k) hv.2.2 hr
          simp only [need]
          rw [show k + 1 + t - x = k + t - (x - 1) by omega]
          have : (if i + 1 ≤ s ∧ s < i + 1 + ts.length then (1 : Int) else 0) ≤ (if i ≤ s ∧ s < i + ((t :: ts).length : Nat) then 1 else 0) := by
            simp only [List.length_cons]
            split <;> split <;> omega
          omega
theorem need_le {t : List Int} (h1 : ∀ y ∈ t, 1 ≤ y) : ∀ {k : Nat} {x : List Int}, val t x → canK t k x = true → need t x k ≤ k
  | 0, x, hv, _ => by
    have : ∀ {t x : List Int}, val t x → need t x 0 ≤ 0 := by
      intro t
      induction t with
      | nil => intro x h; cases x <;> simp [need]
      | cons a r ih =>
        intro x h
        cases x with
        | nil => simp [val] at h
        | cons b q =>
          have h1 := h.1
          have h2 := h.2.1
          have := ih h.2.2
          simp only [need]
          have e : (0 + a - b) / a = 0 := Int.ediv_eq_zero_of_lt (by omega) (by omega)
          omega
    exact this hv
  | k + 1, x, hv, h => by
    obtain ⟨s, s1, l, s2, s3⟩ := canK_succ.1 h
    have a := need_aft (k := k) hv s2
    have b := need_le h1 (aft_val hv h1 s2) s3
    have : (if (0 : Int) ≤ s ∧ (s : Int) < 0 + t.length then (1 : Int) else 0) ≤ 1 := by split <;> omega
    rw [Int.natCast_add, Int.natCast_one]
    omega
/-- The weight, times 840. -/
def wgt : List Int → Int
  | [] => 0
  | t :: ts => 840 / t + wgt ts
theorem need_self : ∀ (t : List Int), need t t 840 = wgt t
  | [] => rfl
  | t :: ts => by simp only [need, wgt, need_self ts]; rw [show (840 : Int) + t - t = 840 by omega]
theorem ever_wgt {t : List Int} (h : ∀ y ∈ t, 1 ≤ y ∧ y ≤ 8) (he : Ever t t) : wgt t ≤ 840 := by
  have := need_le (fun y hy => (h y hy).1) (k := 840) (val_self h) (he 840)
  rw [← need_self]; exact this

/-! ### A plan that comes back -/
def runW (t : List Int) : List Nat → List Int → Option (List Int)
  | [], x => some x
  | s :: w, x => if s < t.length then (match aftG (s : Nat) t x 0 with
    | some l => runW t w l
    | none => none) else none
theorem run_path {t : List Int} : ∀ {w : List Nat} {x y : List Int}, w ≠ [] → runW t w x = some y → PathP t x y
  | [], x, y, h, _ => absurd rfl h
  | s :: w, x, y, _, h => by
    simp only [runW] at h
    by_cases hs : s < t.length
    · rw [if_pos hs] at h
      cases ha : aftG (s : Nat) t x 0 with
      | none => rw [ha] at h; cases h
      | some l =>
        rw [ha] at h
        simp only at h
        have h1 : St1 t x l := ⟨s, hs, ha⟩
        by_cases hw : w = []
        · subst hw
          simp only [runW, Option.some.injEq] at h
          subst h
          exact .one h1
        · have ih := run_path hw h
          clear h
          induction ih with
          | one h => exact .tail (.one h1) h
          | tail _ h2 ih => exact .tail ih h2
    · rw [if_neg hs] at h; cases h
def backW (t : List Int) (w : List Nat) : Bool := match runW t w t with
  | some x => decide (runW t w x = some x) && !w.isEmpty
  | none => false
theorem back_ever {t : List Int} {w : List Nat} (h : backW t w = true) : Ever t t := by
  unfold backW at h
  split at h
  · rename_i x hx
    simp only [Bool.and_eq_true, decide_eq_true_eq, Bool.not_eq_true', List.isEmpty_eq_false_iff] at h
    exact ever_path (run_path h.2 hx) (ever_cycle (run_path h.2 h.1))
  · cases h
end Go.Sx.Wk
namespace Go.Sx.Wk
open Go Go.Sx Go.Proofs
/-- A plan of 24 tides: each stretch, from the smallest number on, gets the first tides that are free. -/
def placeW (slots : List (Option Nat)) (s t : Nat) : List (Option Nat) :=
  match (List.range t).find? (fun a => (List.range slots.length).all fun i => i % t != a || (slots[i]?).getD none == none) with
  | some a => (List.range slots.length).map fun i => if i % t = a then some s else (slots[i]?).getD none
  | none => slots
def planW (t : List Int) : List Nat :=
  (((List.range 9).foldl (fun sl (v : Nat) => (List.range t.length).foldl (fun sl s => if t[s]? = some (v : Int) then placeW sl s v else sl) sl) (List.replicate 24 none))).map fun o => o.getD 0
def allL (C : List Int) : Nat → List (List Int)
  | 0 => [[]]
  | n + 1 => C.flatMap fun x => (allL C n).map (x :: ·)
theorem mem_allL {C : List Int} : ∀ {t : List Int}, (∀ x ∈ t, x ∈ C) → t ∈ allL C t.length
  | [], _ => by simp [allL]
  | x :: r, h => by
    simp only [allL, List.length_cons, List.mem_flatMap, List.mem_map]
    exact ⟨x, h x (by simp), r, mem_allL (fun y hy => h y (by simp [hy])), rfl⟩
set_option maxRecDepth 100000
theorem evens : ∀ C ∈ [[1, 2, 4, 8], [1, 2, 6], [1, 3, 6]], ∀ n ∈ [1, 2, 3, 4], ∀ t ∈ allL C n, wgt t ≤ 840 → backW t (planW t) = true := by decide +kernel
theorem even_can {C t : List Int} (hC : C ∈ [[1, 2, 4, 8], [1, 2, 6], [1, 3, 6]]) (h : ∀ x ∈ t, x ∈ C) (hne : t ≠ []) (h4 : t.length ≤ 4) : canB t = decide (wgt t ≤ 840) := by
  have h8 : ∀ y ∈ t, 1 ≤ y ∧ y ≤ 8 := fun y hy => by
    have := h y hy
    simp only [List.mem_cons, List.not_mem_nil, or_false] at hC
    rcases hC with rfl | rfl | rfl <;> simp at this <;> omega
  rw [Bool.eq_iff_iff, canB_iff (ok8_iff.2 h8) h4, decide_eq_true_eq]
  refine ⟨ever_wgt h8, fun hw => ?_⟩
  have hl := List.length_pos_iff.2 hne
  exact back_ever (evens C hC t.length (by simp; omega) t (mem_allL h) hw)
end Go.Sx.Wk
namespace Go.Sx.Wk
open Go Go.Sx Go.Proofs

@[simp] theorem bin_eff (P : Program) (ρ : Operand → AV) (op : BinOp) (t : TypeId) (x y : Operand) : SOp.eff P ρ (.bin op t x y) = effPlain2 P (fun u v => do eqGuard op t x y u v; binOp op t u v) (ρ x) (ρ y) := rfl
theorem shl0 (x y : Operand) : effPlain2 Try.prog (fun u v => do eqGuard .shl 3 x y u v; binOp .shl 3 u v) (.v (.int .i64 1)) (.v (.int .u8 0)) = ret (.v (.int .i64 1)) := by kernel_rfl
theorem shl1 (x y : Operand) : effPlain2 Try.prog (fun u v => do eqGuard .shl 3 x y u v; binOp .shl 3 u v) (.v (.int .i64 1)) (.v (.int .u8 1)) = ret (.v (.int .i64 2)) := by kernel_rfl
theorem shl2 (x y : Operand) : effPlain2 Try.prog (fun u v => do eqGuard .shl 3 x y u v; binOp .shl 3 u v) (.v (.int .i64 1)) (.v (.int .u8 2)) = ret (.v (.int .i64 4)) := by kernel_rfl
theorem shl3 (x y : Operand) : effPlain2 Try.prog (fun u v => do eqGuard .shl 3 x y u v; binOp .shl 3 u v) (.v (.int .i64 1)) (.v (.int .u8 3)) = ret (.v (.int .i64 8)) := by kernel_rfl

/-- The weight, times 840 and a number. -/
def wgtB (b : Int) : List Int → Int
  | [] => 0
  | t :: ts => 840 / t * b + wgtB b ts
def wsgn (n : Int) : Int := if (if -1 < n then n else -1) < 1 then (if -1 < n then n else -1) else 1
def s38 : Sp := spT 38 [.l, .i, .i] fun (t : List Int) (a b : Int) => res (ok8 t && decide (t.length ≤ 4) && within 0 a 4000 && within 0 b 4000) (vI (wsgn (wgtB b t - 840 * a)))
@[simp] theorem s38_g : s38.g = 38 := rfl
@[simp] theorem s38_f : s38.f = (spT 38 [.l, .i, .i] fun (t : List Int) (a b : Int) => res (ok8 t && decide (t.length ≤ 4) && within 0 a 4000 && within 0 b 4000) (vI (wsgn (wgtB b t - 840 * a)))).f := rfl
theorem s38_ok : s38.ok Try.prog := by
  apply spT_ok
  simp only [OkT, Ty.all, List.nil_append, List.cons_append]
  intro (t : List Int) ut (a : Int) (b : Int)
  apply okT_res; intro hs
  refine P38.rz (ss := []) trivial (by simp) fun Q hQ => ?_
  delta p38 p38_r0 p38_r1 p38_r2
  simp only [Bool.and_eq_true, decide_eq_true_eq, within_iff] at hs
  obtain ⟨⟨⟨ht, h4⟩, ha⟩, hb⟩ := hs
  have ht8 := ok8_iff.1 ht
  simp (disch := omega) [oLt, oLe, oLtN, oLeN, nLt, nLe, nLtN, nLeN]
  refine XZ_for (fun p : Nat × Int => ⟨[(1, vI a), (2, vI b), (7, vI p.2), (10, .il (ints t) t.length ut), (11, vI t.length), (12, vI p.1)], [], 0⟩) (fun p => t.length - p.1) (fun p => p.1 ≤ t.length ∧ 0 ≤ p.2 ∧ p.2 ≤ p.1 * 3360000 ∧ p.2 + wgtB b (t.drop p.1) = wgtB b t) (0, 0) (by simp) (.to [] (by simp)) ?_
  rintro ⟨i, s⟩ ⟨hi, h0, hm, hp⟩ N Q' hN hE
  simp only at hi h0 hm hp ⊢
  rcases Nat.lt_or_ge i t.length with h | h
  · obtain ⟨y, r, e1, e2, e3, e4, e5⟩ := drop_split h
    have hy := ht8 y e5
    rw [e1] at hp
    simp only [wgtB] at hp
    have hy0 : ¬ y = 0 := by omega
    have hq0 : 0 ≤ 840 / y := Int.ediv_nonneg (by omega) (by omega)
    have hq1 : 840 / y ≤ 840 := Int.ediv_le_self _ (by omega)
    generalize hq : 840 / y = q at *
    obtain ⟨q, rfl⟩ := Int.eq_ofNat_of_zero_le hq0
    obtain ⟨b, rfl⟩ := Int.eq_ofNat_of_zero_le hb.1
    have hz1 : q * b ≤ 840 * 4000 := Nat.mul_le_mul (by omega) (by omega)
    have hz : ((q : Int) * b) = ((q * b : Nat) : Int) := by rw [Int.natCast_mul]
    rw [hz] at hp
    generalize q * b = z at *
    have hyn : (0 : Int) ≤ y := by omega
    delta p38_l0 p38_r3 p38_r4 p38_r5 p38_r6
    simp (disch := omega) [oLt, oLe, oLtN, oLeN, nLt, nLe, nLtN, nLeN, h, e2, e3, hy0, hq, hz, hyn]
    refine hN _ (i + 1, s + z) (by simp only; omega) ⟨h, by simp only; omega, by simp only; omega, by simp only [e4]; rw [← hp]; omega⟩ (.to [] (by simp))
  · have h' : ¬ i < t.length := by omega
    rw [List.drop_eq_nil_of_le h] at hp
    simp only [wgtB, Int.add_zero] at hp
    delta p38_l0 p38_r3 p38_r4 p38_r5 p38_r6
    simp (disch := omega) [oLt, oLe, oLtN, oLeN, nLt, nLe, nLtN, nLeN, h']
    refine hE _ _ _ .refl ?_
    delta p38_r7
    simp (disch := omega) [oLt, oLe, oLtN, oLeN, nLt, nLe, nLtN, nLeN]
    exact hQ _ _ (.p (.inl rfl) (by simp [wsgn, ← hp]) rfl)
end Go.Sx.Wk
