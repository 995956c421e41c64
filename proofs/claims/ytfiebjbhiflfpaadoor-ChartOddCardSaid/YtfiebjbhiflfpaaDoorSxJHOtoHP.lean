/- Rings of so many points: looked for by trying. No conditions. -/
import Derived.Test.YtfiebjbhiflfpaaDoorSxJDStoDU
import Derived.Test.YtfiebjbhiflfpaaDoorSxJDVtoDV0
import Derived.Test.YtfiebjbhiflfpaaDoorSxDX
set_option linter.unusedVariables false
set_option linter.unusedSimpArgs false
namespace Go.Sx.Ch

/-- Whether a point may come next. -/
def okP (J : Nat → Nat → Bool) (pre : List Int) (p : Nat) : Bool := !pre.contains (p : Int) && (decide (pre.length = 0) || J (pre.getD (pre.length - 1) 0).toNat p)
/-- The first ring of so many points that begins with some. -/
def ringR (J : Nat → Nat → Bool) (P many : Nat) : Nat → List Int → Option (List Int)
  | 0, _ => none
  | f + 1, pre => if pre.length = many then (if J (pre.getD 0 0).toNat (pre.getD (many - 1) 0).toNat then some pre else none)
    else tryF (fun p => if okP J pre p then ringR J P many f (pre ++ [(p : Int)]) else none) P 0
/-- The first ring of so many, two more, .. points. -/
def oddT (J : Nat → Nat → Bool) (P : Nat) : Nat → Nat → Option (List Int)
  | 0, _ => none
  | f + 1, many => if many ≤ P then (match ringR J P many 17 [] with
    | some r => some r
    | none => oddT J P f (many + 2)) else none
/-- Points below a number. -/
def below (P : Nat) (pre : List Int) : Prop := ∀ x ∈ pre, ∃ k : Nat, k < P ∧ x = k
theorem below_push {P : Nat} {pre : List Int} {p : Nat} (h : below P pre) (hp : p < P) : below P (pre ++ [(p : Int)]) := fun x hx => by
  rcases List.mem_append.1 hx with h1 | h1
  · exact h x h1
  · rw [List.mem_singleton] at h1; exact ⟨p, hp, h1⟩
theorem below_get {P : Nat} {pre : List Int} (h : below P pre) {i : Nat} (hi : i < pre.length) : ∃ k : Nat, k < P ∧ pre[i]? = some (k : Int) ∧ pre.getD i 0 = k := by
  obtain ⟨k, hk, he⟩ := h _ (List.getElem_mem hi)
  exact ⟨k, hk, by rw [List.getElem?_eq_getElem hi, he], by rw [List.getD_eq_getElem?_getD, List.getElem?_eq_getElem hi, he]; rfl⟩
theorem tryF_congr' {α : Type} {f g : Nat → Option α} : ∀ {n c : Nat}, (∀ j, c ≤ j → j < c + n → f j = g j) → tryF f n c = tryF g n c
  | 0, c, _ => rfl
  | n + 1, c, h => by
    simp only [tryF]
    rw [h c (Nat.le_refl _) (by omega), tryF_congr' (n := n) fun j h1 h2 => h j (by omega) (by omega)]
theorem ringR_congr {J J' : Nat → Nat → Bool} {P many : Nat} (h : ∀ p q, p < P → q < P → J p q = J' p q) (hm : 0 < many) : ∀ (f : Nat) (pre : List Int), below P pre → ringR J P many f pre = ringR J' P many f pre
  | 0, _, _ => rfl
  | f + 1, pre, hb => by
    simp only [ringR]
    by_cases hl : pre.length = many
    · rw [if_pos hl, if_pos hl]
      obtain ⟨a, ha, -, ha'⟩ := below_get hb (i := 0) (by omega)
      obtain ⟨b, hb', -, hb''⟩ := below_get hb (i := many - 1) (by omega)
      rw [ha', hb'', Int.toNat_natCast, Int.toNat_natCast, h a b ha hb']
    · rw [if_neg hl, if_neg hl]
      refine tryF_congr' fun p _ hp => ?_
      have hok : okP J pre p = okP J' pre p := by
        unfold okP
        by_cases h0 : pre.length = 0
        · simp [h0]
        · obtain ⟨a, ha, -, ha'⟩ := below_get hb (i := pre.length - 1) (by omega)
          rw [ha', Int.toNat_natCast, h a p ha (by omega)]
      rw [hok, ringR_congr h hm f _ (below_push hb (by omega))]
theorem oddT_congr {J J' : Nat → Nat → Bool} {P : Nat} (h : ∀ p q, p < P → q < P → J p q = J' p q) : ∀ (f many : Nat), 0 < many → oddT J P f many = oddT J' P f many
  | 0, _, _ => rfl
  | f + 1, many, hm => by
    simp only [oddT]
    rw [ringR_congr h hm _ [] (fun x hx => by cases hx), oddT_congr h f (many + 2) (by omega)]
/-- Points as bits. -/
def maskL (pre : List Int) : Nat := pre.foldl (fun m x => m ||| 2 ^ x.toNat) 0
theorem maskL_push (pre : List Int) (p : Nat) : maskL (pre ++ [(p : Int)]) = maskL pre ||| 2 ^ p := by simp [maskL, List.foldl_append]
theorem mask_aux {P : Nat} {q : Nat} : ∀ (r : List Int), below P r.reverse → ((maskL r.reverse).testBit q = true ↔ (q : Int) ∈ r.reverse)
  | [], _ => by simp [maskL]
  | x :: r, h => by
    obtain ⟨k, hk, rfl⟩ := h x (by simp)
    rw [List.reverse_cons] at h ⊢
    have hb : below P r.reverse := fun y hy => h y (List.mem_append_left _ hy)
    rw [maskL_push, Nat.testBit_or, Bool.or_eq_true, mask_aux r hb, List.mem_append, List.mem_singleton, Nat.testBit_two_pow, decide_eq_true_eq]
    constructor
    · rintro (h1 | h1)
      · exact .inl h1
      · exact .inr (by omega)
    · rintro (h1 | h1)
      · exact .inl h1
      · exact .inr (by omega)
theorem mask_bit {P : Nat} {q : Nat} {pre : List Int} (h : below P pre) : (maskL pre).testBit q = pre.contains (q : Int) := by
  have := mask_aux (P := P) (q := q) pre.reverse (by rw [List.reverse_reverse]; exact h)
  rw [List.reverse_reverse] at this
  rw [Bool.eq_iff_iff, this, List.contains_iff_mem]
theorem mask_lt : ∀ (r : List Int), below 16 r.reverse → maskL r.reverse < 65536
  | [], _ => by simp [maskL]
  | x :: r, h => by
    obtain ⟨k, hk, rfl⟩ := h x (by simp)
    rw [List.reverse_cons] at h ⊢
    have hb : below 16 r.reverse := fun y hy => h y (List.mem_append_left _ hy)
    rw [maskL_push]
    exact Nat.or_lt_two_pow (n := 16) (mask_lt r hb) (Nat.pow_lt_pow_right (by omega) hk)
theorem mask_small {P : Nat} (hP : P ≤ 16) {pre : List Int} (h : below P pre) : maskL pre < 65536 := by
  have := mask_lt pre.reverse (by rw [List.reverse_reverse]; exact fun x hx => by obtain ⟨k, h1, h2⟩ := h x hx; exact ⟨k, by omega, h2⟩)
  rwa [List.reverse_reverse] at this
end Go.Sx.Ch
set_option maxRecDepth 4000
namespace Go.Sx.Ch
open Go Go.Sx Go.Proofs

set_option maxHeartbeats 4000000
def s82 : Sp := spT 82 [.l] fun (l : List Int) => res true (.il (ints l) l.length true)
@[simp] theorem s82_g : s82.g = 82 := rfl
@[simp] theorem s82_f : s82.f = (spT 82 [.l] fun (l : List Int) => res true (.il (ints l) l.length true)).f := rfl
theorem s82_ok : s82.ok Tryd.prog := by
  apply spT_ok
  simp only [OkT, Ty.all, List.nil_append, List.cons_append]
  intro (l : List Int) u
  apply okT_res; intro hg
  refine P82.rz (ss := []) trivial (by simp) fun Q hQ => ?_
  delta p82 p82_r0 p82_r1
  have ht : (ints l).take l.length = ints l := List.take_of_length_le (by simp)
  simp (disch := omega) [oLt, oLe, oLtN, oLeN, nLt, nLe, nLtN, nLeN, ht]
  exact hQ _ _ (.p (.inl rfl) (by simp) (by simp))
def putA (b : Nat) : AV := .fn (.func 81) [] [.ptr b 0, .ptr (b + 1) 0, .ptr (b + 2) 0, .ptr (b + 3) 0, .ptr (b + 4) 0]
/-- What the search holds: how many, what was found, the bits, the table, and itself. -/
def hpR (b : Nat) (many : Int) (fo : AV) (N : List Nat) (C : List Int) : HL :=
  [(b, .cells [vI many]), (b + 1, .cells [fo]), (b + 2, .cells [.il (uws N) N.length false]), (b + 3, .cells (ints C)), (b + 4, .cells [putA b])]
theorem r6 : List.range 6 = [0, 1, 2, 3, 4, 5] := rfl
theorem l6 : ∀ x, x < 6 → ([0, 1, 2, 3, 4, 5] : List Nat)[x]? = some x := by decide
theorem hpR_any {b : Nat} {many : Int} {x : AV} {N : List Nat} {C : List Int} : heapWk (hpR b many x N C) (hpR b many .any N C) :=
  ⟨rfl, .refl, rfl, ⟨rfl, fun i u v hu hv => by
    cases i with
    | zero => cases hu; cases hv; exact .any
    | succ i => simp at hu⟩, rfl, .refl, rfl, .refl, rfl, .refl, trivial⟩
def resR (b : Nat) (many : Int) (N : List Nat) (C : List Int) (k : Nat) : Option (List Int) → Option (AV × HL × Nat)
  | some r => some (vB true, hpR b many (.il (ints r) r.length false) N C, k)
  | none => some (vB false, hpR b many .any N C, k)
structure GdR (f : Nat) (N : List Nat) (C : List Int) (many : Int) (pre : List Int) (met : Int) : Prop where
  g : g80 C = true
  hN : nearF C = N
  m0 : 3 ≤ many
  m1 : many ≤ 16
  bl : below N.length pre
  le : (pre.length : Int) ≤ many
  fu : many + 1 ≤ (pre.length : Int) + f
  met : met = (maskL pre : Nat)
open Classical in
noncomputable def s81r (f : Nat) (N : List Nat) (C : List Int) : Sp := ⟨81, fun args h k => match args, h with
  | .ref 0 0 n 1 none :: .v (.int .u32 met) :: rest, (0, .cells lc) :: (1, .cells [.v (.int .i64 many)]) :: hr => match unints lc with
    | some pre => if n = pre.length ∧ k = 6 ∧ rest = [.ptr 1 0, .ptr 2 0, .ptr 3 0, .ptr 4 0, .ptr 5 0] ∧ hr = (hpR 1 many .any N C).tail ∧ pre ≠ [] ∧ GdR f N C many pre met then
        resR 1 many N C 6 (ringR (JN N) N.length many.toNat f pre) else none
    | none => none
  | _, _ => none⟩
@[simp] theorem s81r_g (f : Nat) (N : List Nat) (C : List Int) : (s81r f N C).g = 81 := rfl
open Classical in
@[simp] theorem s81r_f (f : Nat) (N : List Nat) (C : List Int) (n : Nat) (met many : Int) (lc : List AV) : (s81r f N C).f [.ref 0 0 n 1 none, .v (.int .u32 met), .ptr 1 0, .ptr 2 0, .ptr 3 0, .ptr 4 0, .ptr 5 0]
    [(0, .cells lc), (1, .cells [.v (.int .i64 many)]), (2, .cells [.any]), (3, .cells [.il (uws N) N.length false]), (4, .cells (ints C)), (5, .cells [.fn (.func 81) [] [.ptr 1 0, .ptr 2 0, .ptr 3 0, .ptr 4 0, .ptr 5 0]])] 6 =
    match unints lc with
    | some pre => if n = pre.length ∧ pre ≠ [] ∧ GdR f N C many pre met then resR 1 many N C 6 (ringR (JN N) N.length many.toNat f pre) else none
    | none => none := by
  simp only [s81r]
  cases unints lc with
  | none => rfl
  | some pre => simp [hpR, putA]
theorem s81r_inv {f : Nat} {N : List Nat} {C : List Int} {args : List AV} {h : HL} {k : Nat} {r : AV} {h' : HL} {k' : Nat} (hh : (s81r f N C).f args h k = some (r, h', k')) :
    ∃ (many met : Int) (pre : List Int), args = [.ref 0 0 pre.length 1 none, .v (.int .u32 met), .ptr 1 0, .ptr 2 0, .ptr 3 0, .ptr 4 0, .ptr 5 0] ∧ h = (0, .cells (ints pre)) :: hpR 1 many .any N C ∧ k = 6 ∧ pre ≠ [] ∧ GdR f N C many pre met ∧
      resR 1 many N C 6 (ringR (JN N) N.length many.toNat f pre) = some (r, h', k') := by
  unfold s81r at hh
  simp only at hh
  split at hh
  · rename_i n met rest lc many hr
    split at hh
    · rename_i pre hp
      split at hh
      · rename_i hc
        obtain ⟨h1, h2, h3, h4, h5, h6⟩ := hc
        refine ⟨many, met, pre, by rw [h1, h3], ?_, h2, h5, h6, hh⟩
        rw [unints_inv hp, h4]; rfl
      · cases hh
    · cases hh
  · cases hh
end Go.Sx.Ch
