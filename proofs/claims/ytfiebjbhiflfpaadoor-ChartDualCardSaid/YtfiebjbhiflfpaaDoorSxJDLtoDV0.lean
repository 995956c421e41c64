/- The faces found by looking are the lists that the step leads around. No conditions. -/
import Derived.Test.YtfiebjbhiflfpaaDoorSxJCPtoDK
import Derived.Test.YtfiebjbhiflfpaaDoorSxJNtoNq
import Derived.KernelRfl
import Derived.Test.YtfiebjbhiflfpaaDoorProg
import Derived.Test.YtfiebjbhiflfpaaDoorSxJW
section
set_option linter.unusedVariables false
set_option linter.unusedSimpArgs false
namespace Go.Sx.Ch
open Go Go.Sx Go.Proofs
theorem orb_in {σ : Int → Int} {n : Nat} (h : Prm σ n) {a : Int} : ∀ {f m : Nat} {l : List Int}, m < n → orb σ a f m = some l → ∀ x ∈ l, 0 ≤ x ∧ x < n
  | 0, m, l, _, hl => by cases hl
  | f + 1, m, l, hm, hl => by
    simp only [orb] at hl
    split at hl
    · cases hl
      intro x hx
      simp at hx; omega
    · obtain ⟨r, hr, rfl⟩ := Option.map_eq_some_iff.1 hl
      obtain ⟨h0, h1⟩ := h.rng m hm
      obtain ⟨q, hq⟩ := Int.eq_ofNat_of_zero_le h0
      rw [hq] at hr
      intro x hx
      rcases List.mem_cons.1 hx with rfl | hx
      · omega
      · exact orb_in h (by omega) hr x hx
theorem setM_get {m : Nat} : ∀ {l : List Int} {M : List Bool} {b : Bool}, (∀ x ∈ l, 0 ≤ x) → M[m]? = some b → (setM M l)[m]? = some (b || decide ((m : Int) ∈ l))
  | [], M, b, _, h => by simpa [setM] using h
  | x :: l, M, b, hx, h => by
    rw [setM_cons]
    have hm := (List.getElem?_eq_some_iff.1 h).1
    have h0 := hx x List.mem_cons_self
    have h1 : (M.set x.toNat true)[m]? = some (b || decide ((m : Int) = x)) := by
      rw [List.getElem?_set]
      by_cases e : x.toNat = m
      · have : (m : Int) = x := by omega
        simp [e, hm, this]
      · have : ¬ (m : Int) = x := by omega
        rw [if_neg e, h]; simp [this]
    rw [setM_get (fun y hy => hx y (List.mem_cons_of_mem _ hy)) h1]
    simp [Bool.or_assoc]
theorem cyc_fac {σ : Int → Int} {n : Nat} (h : Prm σ n) (hn : n ≤ 16) : ∀ k, k ≤ n → (cycN σ k).2 = (facN σ k).2 ∧ ∀ m : Nat, m < 16 → (cycN σ k).1[m]? = some (decide ((m : Int) ∈ (facN σ k).1))
  | 0, _ => ⟨rfl, fun m hm => by rw [show (cycN σ 0).1 = List.replicate 16 false from rfl, List.getElem?_replicate, if_pos hm]; simp [facN]⟩
  | k + 1, hk => by
    obtain ⟨h1, h2⟩ := cyc_fac h hn k (by omega)
    rw [cycN_succ, facN_succ]
    have hb : (cycN σ k).1.getD k false = decide ((k : Int) ∈ (facN σ k).1) := by rw [List.getD_eq_getElem?_getD, h2 k (by omega)]; rfl
    unfold cycS facS
    rw [hb]
    by_cases hmem : (k : Int) ∈ (facN σ k).1
    · rw [if_pos (by simp [hmem]), if_pos hmem]; exact ⟨h1, h2⟩
    · rw [if_neg (by simp [hmem]), if_neg hmem]
      obtain ⟨-, l, hl⟩ := (okS_iff.1 (h.ok hn)).2 k (by omega)
      rw [hl, Option.getD_some]
      refine ⟨by simp only [h1], fun m hm => ?_⟩
      simp only
      rw [setM_get (fun x hx => (orb_in h (by omega) hl x hx).1) (h2 m hm)]
      simp
end Go.Sx.Ch
end
section
set_option linter.unusedVariables false
set_option linter.unusedSimpArgs false
namespace Go.Sx.Ch
open Go Go.Sx Go.Proofs
theorem leastF_get {l : List Int} {i : Nat} (hi : i < l.length) : (leastF l)[i]? = l[(bstN l l.length + i) % l.length]? := by
  have hb := bstN_le l
  have hb' : bstN l l.length < l.length := by
    obtain ⟨m, hm⟩ : ∃ m, l.length = m + 1 := ⟨l.length - 1, by omega⟩
    have := bstN_lt l m
    rw [hm]; omega
  unfold leastF
  generalize bstN l l.length = b at *
  rcases Nat.lt_or_ge (b + i) l.length with h | h
  · rw [Nat.mod_eq_of_lt h, List.getElem?_append_left (by simp; omega), List.getElem?_drop]
  · rw [Nat.mod_eq_sub_mod h, Nat.mod_eq_of_lt (by omega), List.getElem?_append_right (by simp; omega), List.length_drop, List.getElem?_take, if_pos (by omega)]
    congr 1; omega
/-- From any place of the list on. -/
theorem orb_list {G : List (List Int)} {n : Nat} (h : Cov G n) {l : List Int} (hl : l ∈ G) {a : Int} (ha : (leastF l)[0]? = some a) : ∀ {f i : Nat} {x : Int}, i < l.length → l.length ≤ i + f → (leastF l)[i]? = some x → orb (afterC (tabF G)) a f x = some ((leastF l).drop i)
  | 0, i, x, hi, hf, _ => by omega
  | f + 1, i, x, hi, hf, hx => by
    have hlen := leastF_len l
    have hlp : 0 < l.length := by omega
    have hx' := hx
    rw [leastF_get hi] at hx'
    have hk : (bstN l l.length + i) % l.length < l.length := Nat.mod_lt _ hlp
    have hmem : x ∈ l := List.mem_of_getElem? hx'
    have hr := h.rng x (List.mem_flatten.2 ⟨l, hl, hmem⟩)
    obtain ⟨m, rfl⟩ := Int.eq_ofNat_of_zero_le hr.1
    have hs := h.after hl hk hx'
    have hnx : ((bstN l l.length + i) % l.length + 1) % l.length = (bstN l l.length + (i + 1)) % l.length := by rw [Nat.mod_add_mod]; rfl
    rw [hnx] at hs
    have hd : (leastF l).drop i = (m : Int) :: (leastF l).drop (i + 1) := by
      have hi' : i < (leastF l).length := by omega
      rw [List.drop_eq_getElem_cons hi', (List.getElem?_eq_some_iff.1 hx).2]
    simp only [orb]
    rcases Nat.lt_or_ge (i + 1) l.length with h1 | h1
    · have hi1 : i + 1 < (leastF l).length := by omega
      have hy : (leastF l)[i + 1]? = some (leastF l)[i + 1] := List.getElem?_eq_getElem hi1
      have hy' := hy
      rw [leastF_get h1] at hy'
      rw [List.getD_eq_getElem?_getD, hy', Option.getD_some] at hs
      have hne : ¬ (leastF l)[i + 1] = a := fun e => by
        have hz := ha
        rw [leastF_get hlp] at hz
        rw [e] at hy'
        have := nd_inj (h.ndl hl) hy' hz
        have hb' : bstN l l.length < l.length := by
          obtain ⟨m, hm⟩ : ∃ m, l.length = m + 1 := ⟨l.length - 1, by omega⟩
          have := bstN_lt l m
          rw [hm]; omega
        have hz0 : (bstN l l.length + 0) % l.length = bstN l l.length := Nat.mod_eq_of_lt hb'
        rw [hz0] at this
        rcases Nat.lt_or_ge (bstN l l.length + (i + 1)) l.length with h2 | h2
        · rw [Nat.mod_eq_of_lt h2] at this; omega
        · rw [Nat.mod_eq_sub_mod h2, Nat.mod_eq_of_lt (by omega)] at this; omega
      rw [hs, if_neg hne, orb_list h hl ha h1 (by omega) hy, hd]
      rfl
    · have e1 : i + 1 = l.length := by omega
      have hz := ha
      rw [leastF_get hlp, Nat.add_zero] at hz
      rw [e1, Nat.add_mod_right, List.getD_eq_getElem?_getD, hz, Option.getD_some] at hs
      rw [hs, if_pos rfl, hd, e1, ← hlen, List.drop_length]
theorem orb_least {G : List (List Int)} {n : Nat} (h : Cov G n) {l : List Int} (hl : l ∈ G) {a : Int} (h0 : 0 < l.length) (h16 : l.length ≤ 16) (ha : (leastF l)[0]? = some a) : orb (afterC (tabF G)) a 16 a = some (leastF l) := by
  have := orb_list h hl ha (f := 16) (i := 0) h0 (by omega) ha
  simpa using this
end Go.Sx.Ch
end
section
set_option linter.unusedVariables false
set_option linter.unusedSimpArgs false
namespace Go.Sx.Ch
open Go Go.Sx Go.Proofs
theorem bstN_min (l : List Int) : ∀ n i, i < n → l.getD (bstN l n) 0 ≤ l.getD i 0
  | 0, i, h => by omega
  | n + 1, i, h => by
    rw [bstN_succ]; unfold bstI
    rcases Nat.lt_or_ge i n with hi | hi
    · have := bstN_min l n i hi
      split
      · rename_i hlt; omega
      · exact this
    · obtain rfl : i = n := by omega
      split
      · exact Int.le_refl _
      · rename_i hlt; omega
/-- The smallest number of a list. -/
def hd (l : List Int) : Int := (leastF l).getD 0 0
theorem hd_facts {l : List Int} (h0 : 0 < l.length) : (leastF l)[0]? = some (hd l) ∧ hd l ∈ l ∧ ∀ x ∈ l, hd l ≤ x := by
  have hb' : bstN l l.length < l.length := by
    obtain ⟨m, hm⟩ : ∃ m, l.length = m + 1 := ⟨l.length - 1, by omega⟩
    have := bstN_lt l m
    rw [hm]; omega
  have e : (leastF l)[0]? = l[bstN l l.length]? := by rw [leastF_get h0, Nat.add_zero, Nat.mod_eq_of_lt hb']
  have e2 : l[bstN l l.length]? = some l[bstN l l.length] := List.getElem?_eq_getElem hb'
  have e3 : hd l = l[bstN l l.length] := by unfold hd; rw [List.getD_eq_getElem?_getD, e, e2]; rfl
  refine ⟨by rw [e, e2, e3], by rw [e3]; exact List.getElem_mem hb', fun x hx => ?_⟩
  obtain ⟨i, hi, rfl⟩ := List.getElem_of_mem hx
  have := bstN_min l l.length i hi
  rw [List.getD_eq_getElem?_getD, List.getD_eq_getElem?_getD, e2, List.getElem?_eq_getElem hi] at this
  rw [e3]; exact this
theorem tid_none {e : Nat} : ∀ {G acc : List (List Int)}, (∀ l ∈ G, 0 < l.length → hd l ≠ e) → G.foldl (tidI e) acc = acc
  | [], acc, _ => rfl
  | l :: G, acc, h => by
    simp only [List.foldl_cons]
    have : tidI e acc l = acc := by
      unfold tidI
      rw [if_neg]
      rintro ⟨h1, h2⟩
      exact h l List.mem_cons_self (by omega) h2
    rw [this]
    exact tid_none fun l' hl' => h l' (List.mem_cons_of_mem _ hl')
def metG (G : List (List Int)) (e m : Nat) : Bool := G.any fun l => decide ((m : Int) ∈ l) && decide (hd l < e)
theorem metG_iff {G : List (List Int)} {e m : Nat} : metG G e m = true ↔ ∃ l ∈ G, (m : Int) ∈ l ∧ hd l < e := by
  simp [metG, List.any_eq_true]
theorem tidy_cyc {G : List (List Int)} {n : Nat} (h : Cov G n) : ∀ e, e ≤ n → tidyF G e = (cycN (afterC (tabF G)) e).2 ∧ ∀ m : Nat, m < 16 → (cycN (afterC (tabF G)) e).1[m]? = some (metG G e m)
  | 0, _ => by
    refine ⟨rfl, fun m hm => ?_⟩
    have hz : metG G 0 m = false := by
      cases hh : metG G 0 m with
      | false => rfl
      | true =>
        obtain ⟨l, hl, h1, h2⟩ := metG_iff.1 hh
        have h3 := (hd_facts (List.length_pos_of_mem h1)).2.1
        have := h.rng _ (List.mem_flatten.2 ⟨l, hl, h3⟩)
        omega
    rw [show (cycN (afterC (tabF G)) 0).1 = List.replicate 16 false from rfl, List.getElem?_replicate, if_pos hm, hz]
  | e + 1, he => by
    obtain ⟨h1, h2⟩ := tidy_cyc h e (by omega)
    have hn := h.le
    obtain ⟨l, k, hl, hk, hkm⟩ := h.place (m := e) (by omega)
    have hel : (e : Int) ∈ l := List.mem_of_getElem? hkm
    have hlp : 0 < l.length := by omega
    obtain ⟨d1, d2, d3⟩ := hd_facts hlp
    have hle := d3 _ hel
    have hll : l.length ≤ 16 := by
      have := total_mem hl
      rw [h.len] at this; omega
    have only : ∀ l' ∈ G, (e : Int) ∈ l' → l' = l := fun l' hl' hx => h.same hl' hl hx hel
    have hhead : ∀ l' ∈ G, 0 < l'.length → hd l' = e → l' = l := fun l' hl' hp e1 => only l' hl' (by rw [← e1]; exact (hd_facts hp).2.1)
    have hb : (cycN (afterC (tabF G)) e).1.getD e false = metG G e e := by rw [List.getD_eq_getElem?_getD, h2 e (by omega)]; rfl
    rw [tidyF_succ, cycN_succ]
    unfold cycS
    rw [hb]
    by_cases hmu : hd l < e
    · have hmet : metG G e e = true := metG_iff.2 ⟨l, hl, hel, hmu⟩
      rw [if_pos hmet]
      refine ⟨?_, fun m hm => ?_⟩
      · unfold tidE
        rw [tid_none (fun l' hl' hp e1 => by have := hhead l' hl' hp e1; subst this; omega), h1]
      · rw [h2 m hm]
        congr 1
        rw [Bool.eq_iff_iff, metG_iff, metG_iff]
        constructor
        · rintro ⟨l', q1, q2, q3⟩; exact ⟨l', q1, q2, by omega⟩
        · rintro ⟨l', q1, q2, q3⟩
          refine ⟨l', q1, q2, ?_⟩
          apply Classical.byContradiction
          intro hno
          have := hhead l' q1 (List.length_pos_of_mem q2) (by omega)
          subst this; omega
    · have hmu' : hd l = e := by omega
      have hmet : ¬ metG G e e = true := fun hh => by
        obtain ⟨l', q1, q2, q3⟩ := metG_iff.1 hh
        have := only l' q1 q2
        subst this; omega
      rw [if_neg hmet]
      rw [hmu'] at d1
      rw [orb_least h hl hlp hll d1, Option.getD_some]
      refine ⟨?_, fun m hm => ?_⟩
      · obtain ⟨A, B, hG⟩ := List.append_of_mem hl
        have hnd := h.nd
        rw [hG, List.flatten_append, List.flatten_cons] at hnd
        obtain ⟨-, n2, n3⟩ := List.nodup_append.1 hnd
        obtain ⟨-, -, n5⟩ := List.nodup_append.1 n2
        have hA : ∀ l' ∈ A, 0 < l'.length → hd l' ≠ e := fun l' hl' hp e1 =>
          n3 e (List.mem_flatten.2 ⟨l', hl', by rw [← e1]; exact (hd_facts hp).2.1⟩) e (List.mem_append_left _ hel) rfl
        have hB : ∀ l' ∈ B, 0 < l'.length → hd l' ≠ e := fun l' hl' hp e1 =>
          n5 e hel e (List.mem_flatten.2 ⟨l', hl', by rw [← e1]; exact (hd_facts hp).2.1⟩) rfl
        unfold tidE
        rw [hG, List.foldl_append, List.foldl_cons, tid_none hA, tid_none hB, ← hG]
        unfold tidI
        rw [if_pos ⟨by omega, hmu'⟩, h1]
      · have hml : ∀ x, x ∈ leastF l ↔ x ∈ l := fun x => by
          unfold leastF
          rw [List.mem_append, or_comm, ← List.mem_append, List.take_append_drop]
        simp only
        rw [setM_get (fun x hx => (h.rng x (List.mem_flatten.2 ⟨l, hl, (hml x).1 hx⟩)).1) (h2 m hm)]
        congr 1
        rw [Bool.eq_iff_iff, Bool.or_eq_true, metG_iff, metG_iff, decide_eq_true_eq, hml]
        constructor
        · rintro (⟨l', q1, q2, q3⟩ | q)
          · exact ⟨l', q1, q2, by omega⟩
          · exact ⟨l, hl, q, by omega⟩
        · rintro ⟨l', q1, q2, q3⟩
          by_cases hlt : hd l' < e
          · exact .inl ⟨l', q1, q2, hlt⟩
          · have := hhead l' q1 (List.length_pos_of_mem q2) (by omega)
            subst this; exact .inr q2
end Go.Sx.Ch
end
section
set_option linter.unusedVariables false
set_option linter.unusedSimpArgs false
set_option maxRecDepth 4000
namespace Go.Sx.Ch
open Go Go.Sx Go.Proofs
@[simp] theorem bin_eff (P : Program) (ρ : Operand → AV) (op : BinOp) (t : TypeId) (x y : Operand) : SOp.eff P ρ (.bin op t x y) = effPlain2 P (fun u v => do eqGuard op t x y u v; binOp op t u v) (ρ x) (ρ y) := rfl
end Go.Sx.Ch
end
section
set_option linter.unusedVariables false
set_option linter.unusedSimpArgs false
set_option maxRecDepth 4000
namespace Go.Sx.Ch
open Go Go.Sx Go.Proofs
/-- The point of an end, and how many points. -/
def atC (C : List Int) (e : Int) : Int := C.getD (17 + e.toNat) 0
def ptsC (C : List Int) : Int := C.getD 33 0
theorem tabI_at_ne {l C : List Int} {m : Nat} {k : Nat} (hl : in16 l = true) (hk : k < l.length) (hm : m < 16) (hne : l[k]? ≠ some (m : Int)) : (tabI l C k).getD (17 + m) 0 = C.getD (17 + m) 0 := by
  obtain ⟨q, hq, h1, h2⟩ := in16_get hl hk
  simp only [tabI, h2, Int.toNat_natCast]
  have hqm : q ≠ m := fun e => hne (by rw [h1, e])
  rw [getD_set_ne (by omega), getD_set_ne (by omega)]
theorem tabE_at_skip {l C : List Int} {m : Nat} (hl : in16 l = true) (hm : m < 16) (hnot : (m : Int) ∉ l) : ∀ j, j ≤ l.length → ((List.range j).foldl (tabI l) C).getD (17 + m) 0 = C.getD (17 + m) 0
  | 0, _ => rfl
  | j + 1, hj => by
    rw [List.range_succ, List.foldl_append]
    simp only [List.foldl_cons, List.foldl_nil]
    rw [tabI_at_ne hl (by omega) hm (fun e => hnot (List.mem_of_getElem? e))]
    exact tabE_at_skip hl hm hnot j (by omega)
theorem tabE_at {l C : List Int} {m k : Nat} (hl : in16 l = true) (hnd : l.Nodup) (hC : C.length = 34) (hm : m < 16) (hk : k < l.length) (hkm : l[k]? = some (m : Int)) :
    ∀ j, j ≤ l.length → k < j → ((List.range j).foldl (tabI l) C).getD (17 + m) 0 = C.getD 33 0
  | 0, _, h => by omega
  | j + 1, hj, hkj => by
    rw [List.range_succ, List.foldl_append]
    simp only [List.foldl_cons, List.foldl_nil]
    by_cases e : j = k
    · subst e
      have hg : l.getD j 0 = (m : Int) := by rw [List.getD_eq_getElem?_getD, hkm]; rfl
      simp only [tabI, hg, Int.toNat_natCast]
      rw [getD_set_eq (by rw [List.length_set, tabE_len]; omega)]
      exact (tabE_keep hl (List.range j) C fun k hk => by have := List.mem_range.1 hk; omega).2
    · rw [tabI_at_ne hl (by omega) hm (fun h => e ?_)]
      · exact tabE_at hl hnd hC hm hk hkm j (by omega) (by omega)
      · exact nd_inj hnd h hkm
theorem tabL_at_skip {l C : List Int} {m : Nat} (hl : in16 l = true) (hm : m < 16) (hnot : (m : Int) ∉ l) : (tabL C l).getD (17 + m) 0 = C.getD (17 + m) 0 := by
  unfold tabL
  split
  · rfl
  · rw [getD_set_ne (by omega), getD_set_ne (by omega)]
    exact tabE_at_skip hl hm hnot _ (Nat.le_refl _)
theorem tabL_at {l C : List Int} {m k : Nat} (hl : in16 l = true) (hnd : l.Nodup) (hC : C.length = 34) (hm : m < 16) (hk : k < l.length) (hkm : l[k]? = some (m : Int)) : (tabL C l).getD (17 + m) 0 = C.getD 33 0 := by
  unfold tabL
  rw [if_neg (by omega), getD_set_ne (by omega), getD_set_ne (by omega)]
  exact tabE_at hl hnd hC hm hk hkm _ (Nat.le_refl _) hk
theorem tabs_at_skip {m : Nat} (hm : m < 16) : ∀ {B : List (List Int)} {C : List Int}, B.all in16 = true → (m : Int) ∉ B.flatten → (B.foldl tabL C).getD (17 + m) 0 = C.getD (17 + m) 0
  | [], C, _, _ => rfl
  | l :: B, C, h, hn => by
    simp only [List.all_cons, Bool.and_eq_true] at h
    rw [List.flatten_cons, List.mem_append, not_or] at hn
    simp only [List.foldl_cons]
    rw [tabs_at_skip hm h.2 hn.2, tabL_at_skip h.1 hm hn.1]
/-- As many points as lists that hold something. -/
theorem tabs_pts : ∀ {B : List (List Int)} {C : List Int}, B.all in16 = true → C.length = 34 → (∀ l ∈ B, l.length ≠ 0) → (B.foldl tabL C).getD 33 0 = C.getD 33 0 + B.length
  | [], C, _, _, _ => by simp
  | l :: B, C, h, hC, h0 => by
    simp only [List.all_cons, Bool.and_eq_true] at h
    simp only [List.foldl_cons]
    obtain ⟨h1, -, h3⟩ := tabL_facts (C := C) h.1 hC
    rw [tabs_pts h.2 h1 (fun l hl => h0 l (List.mem_cons_of_mem _ hl)), h3, if_neg (h0 l List.mem_cons_self), List.length_cons]
    omega
theorem pts_eq {L : List (List Int)} (h : L.all in16 = true) (h0 : ∀ l ∈ L, l.length ≠ 0) : ptsC (tabF L) = L.length := by
  unfold ptsC tabF
  rw [tabs_pts h rfl h0]
  have : Z34.getD 33 0 = 0 := by decide
  omega
theorem ptR_app {x : Int} {l : List Int} {B : List (List Int)} (hl : 0 ≤ idxL l x) : ∀ {A : List (List Int)} {i : Int}, (∀ a ∈ A, ¬ 0 ≤ idxL a x) → ptR x (A ++ l :: B) i = i + A.length
  | [], i, _ => by simp [ptR, hl]
  | a :: A, i, h => by
    simp only [List.cons_append, ptR]
    rw [if_neg (h a List.mem_cons_self), ptR_app hl (fun a ha => h a (List.mem_cons_of_mem _ ha)), List.length_cons]
    omega
/-- The table tells the point of an end as looking does. -/
theorem Cov.at {L : List (List Int)} {n : Nat} (h : Cov L n) (h0 : ∀ l ∈ L, l.length ≠ 0) {k m : Nat} {l : List Int} (hk : L[k]? = some l) (hm : (m : Int) ∈ l) : atC (tabF L) m = k ∧ Go.Sx.Ch.ptL L m = k := by
  obtain ⟨hkl, hkk⟩ := List.getElem?_eq_some_iff.1 hk
  have hs : L = L.take k ++ l :: L.drop (k + 1) := by
    rw [← hkk, ← List.drop_eq_getElem_cons hkl, List.take_append_drop]
  obtain ⟨j, hj, hjm⟩ := List.getElem_of_mem hm
  have h16 := h.h16
  have hnd := h.nd
  have hin := h.rng m (List.mem_flatten.2 ⟨l, List.mem_of_getElem? hk, hm⟩)
  have hlt : m < 16 := by have := h.le; omega
  generalize hA : L.take k = A at hs
  generalize L.drop (k + 1) = B at hs
  have hAl : A.length = k := by rw [← hA, List.length_take]; omega
  subst hs
  have hA16 : A.all in16 = true := List.all_eq_true.2 fun x hx => List.all_eq_true.1 h16 x (by simp [hx])
  have hB16 : B.all in16 = true := List.all_eq_true.2 fun x hx => List.all_eq_true.1 h16 x (by simp [hx])
  have hl16 : in16 l = true := List.all_eq_true.1 h16 l (by simp)
  rw [List.flatten_append, List.flatten_cons] at hnd
  obtain ⟨-, h2, hAn⟩ := List.nodup_append.1 hnd
  obtain ⟨h3, -, h5⟩ := List.nodup_append.1 h2
  refine ⟨?_, ?_⟩
  · have e : tabF (A ++ l :: B) = B.foldl tabL (tabL (tabF A) l) := by simp [tabF, List.foldl_append]
    unfold atC
    rw [e, Int.toNat_natCast, tabs_at_skip hlt hB16 (fun h => h5 _ hm _ h rfl), tabL_at hl16 h3 (tabF_facts hA16).1 hlt hj (by rw [List.getElem?_eq_getElem hj, hjm])]
    have := pts_eq hA16 (fun l hl => h0 l (by simp [hl]))
    unfold ptsC at this
    rw [this, hAl]
  · unfold Go.Sx.Ch.ptL
    rw [ptR_app (idxL_mem.2 hm) (fun a ha hx => hAn _ (List.mem_flatten.2 ⟨a, ha, idxL_mem.1 hx⟩) _ (List.mem_append_left _ hm) rfl), hAl]
    omega
theorem Cov.pnt {L : List (List Int)} {n : Nat} (h : Cov L n) (h0 : ∀ l ∈ L, l.length ≠ 0) {m : Nat} (hm : m < n) : ∃ k l, L[k]? = some l ∧ (m : Int) ∈ l ∧ atC (tabF L) m = ((k : Nat) : Int) ∧ Go.Sx.Ch.ptL L m = k := by
  obtain ⟨l, i, hl, hi, him⟩ := h.place hm
  obtain ⟨k, hk, hkl⟩ := List.getElem_of_mem hl
  have hkk : L[k]? = some l := by rw [List.getElem?_eq_getElem hk, hkl]
  have hmem := List.mem_of_getElem? him
  exact ⟨k, l, hkk, hmem, h.at h0 hkk hmem⟩
theorem chk_ne {L : List (List Int)} (h : chk L = 0) : ∀ l ∈ L, l.length ≠ 0 := fun l hl => (scanM_in (chk_zero h).2.1 l hl).1
/-! ### Which points a line joins -/
end Go.Sx.Ch
end
section
set_option linter.unusedVariables false
set_option linter.unusedSimpArgs false
set_option maxRecDepth 4000
namespace Go.Sx.Ch
open Go Go.Sx Go.Proofs
set_option maxHeartbeats 4000000
def tidL (L : List (List Int)) : List (List Int) := if chk L = 0 then cyc (afterC (tabF L)) (total L) else []
end Go.Sx.Ch
end
section
set_option linter.unusedVariables false
set_option linter.unusedSimpArgs false
namespace Go.Sx.Ch
open Go Go.Sx Go.Proofs
/-- Each list from its smallest number on. -/
def tdM (L : List (List Int)) : List (List Int) := L.map leastF
/-- .. and sorted. -/
def tdW (L : List (List Int)) : List (List Int) := srtOn 0 L.length (tdM L)
theorem tdM_len (L : List (List Int)) : (tdM L).length = L.length := by simp [tdM]
theorem kx_tdM {L : List (List Int)} {p : Nat} (hp : p < L.length) : kx (tdM L) p = hd L[p] := by
  unfold kx tdM hd
  rw [List.getD_eq_getElem?_getD (l := L.map leastF), List.getElem?_map, List.getElem?_eq_getElem hp]; rfl
theorem Cov.dst {L : List (List Int)} {n : Nat} (h : Cov L n) (h0 : ∀ l ∈ L, l.length ≠ 0) : Dst (tdM L) := by
  intro p q hp hq e
  rw [tdM_len] at hp hq
  rw [kx_tdM hp, kx_tdM hq] at e
  have lp := h0 _ (List.getElem_mem hp)
  have lq := h0 _ (List.getElem_mem hq)
  have mp := (hd_facts (l := L[p]) (by omega)).2.1
  have mq := (hd_facts (l := L[q]) (by omega)).2.1
  have hr := h.rng _ (List.mem_flatten.2 ⟨L[p], List.getElem_mem hp, mp⟩)
  obtain ⟨m, hm⟩ := Int.eq_ofNat_of_zero_le hr.1
  rw [← e] at mq
  rw [hm] at mp mq
  have a1 := (h.at h0 (List.getElem?_eq_getElem hp) mp).2
  have a2 := (h.at h0 (List.getElem?_eq_getElem hq) mq).2
  rw [a1] at a2
  omega
theorem tidE_eq (e : Nat) : ∀ (G acc : List (List Int)), (∀ l ∈ G, l.length ≠ 0) → G.foldl (tidI e) acc = acc ++ (G.filter fun l => decide (hd l = e)).map leastF
  | [], acc, _ => by simp
  | l :: G, acc, h => by
    have h1 := h l List.mem_cons_self
    rw [List.foldl_cons, tidE_eq e G _ fun l' hl' => h l' (List.mem_cons_of_mem _ hl'), List.filter_cons]
    unfold tidI
    by_cases c : hd l = e
    · have c' : (leastF l).getD 0 0 = e := c
      rw [if_pos ⟨h1, c'⟩, if_pos (by simpa using c)]; simp
    · have c' : ¬ (leastF l).getD 0 0 = e := c
      rw [if_neg (fun hh => c' hh.2), if_neg (by simpa using c)]
theorem filter_perm {α : Type} {p q r : α → Bool} : ∀ {l : List α}, (∀ x ∈ l, r x = (p x || q x) ∧ ¬ (p x = true ∧ q x = true)) → (l.filter p ++ l.filter q).Perm (l.filter r)
  | [], _ => .refl _
  | x :: l, h => by
    obtain ⟨h1, h2⟩ := h x List.mem_cons_self
    have ih := filter_perm (l := l) (p := p) (q := q) (r := r) fun y hy => h y (List.mem_cons_of_mem _ hy)
    rw [List.filter_cons, List.filter_cons, List.filter_cons, h1]
    cases hp : p x <;> cases hq : q x
    · simpa using ih
    · simp only [Bool.false_or, if_true, Bool.false_eq_true, if_false]
      exact List.perm_middle.trans (ih.cons x)
    · simp only [Bool.or_false, if_true, Bool.false_eq_true, if_false, List.cons_append]
      exact ih.cons x
    · exact absurd ⟨hp, hq⟩ h2
theorem tidyF_perm {L : List (List Int)} (h0 : ∀ l ∈ L, l.length ≠ 0) (hr : ∀ l ∈ L, 0 ≤ hd l) : ∀ e, (tidyF L e).Perm ((L.filter fun l => decide (hd l < e)).map leastF)
  | 0 => by
    have : (L.filter fun l => decide (hd l < (0 : Nat))) = [] := List.filter_eq_nil_iff.2 fun l hl => by
      have := hr l hl
      simp; omega
    rw [this]; exact .refl _
  | e + 1 => by
    rw [tidyF_succ]; unfold tidE
    rw [tidE_eq e L _ h0]
    have ih := tidyF_perm h0 hr e
    refine (ih.append_right _).trans ?_
    rw [← List.map_append]
    refine List.Perm.map _ (filter_perm fun l hl => ⟨?_, ?_⟩)
    · rw [Bool.eq_iff_iff, Bool.or_eq_true, decide_eq_true_eq, decide_eq_true_eq, decide_eq_true_eq]; omega
    · rw [decide_eq_true_eq, decide_eq_true_eq]; omega
theorem kx_app {A B : List (List Int)} {p : Nat} : kx (A ++ B) p = if p < A.length then kx A p else kx B (p - A.length) := by
  unfold kx
  simp only [List.getD_eq_getElem?_getD (l := A ++ B), List.getElem?_append]
  split
  · rw [List.getD_eq_getElem?_getD (l := A)]
  · rw [List.getD_eq_getElem?_getD (l := B)]
theorem tidyF_sorted {L : List (List Int)} (h0 : ∀ l ∈ L, l.length ≠ 0) : ∀ e, (∀ p, p < (tidyF L e).length → kx (tidyF L e) p < e) ∧ ∀ p q, p < q → q < (tidyF L e).length → kx (tidyF L e) p ≤ kx (tidyF L e) q
  | 0 => ⟨fun p hp => by simp [tidyF] at hp, fun p q hp hq => by simp [tidyF] at hq⟩
  | e + 1 => by
    obtain ⟨h1, h2⟩ := tidyF_sorted h0 e
    rw [tidyF_succ]; unfold tidE
    rw [tidE_eq e L _ h0]
    generalize hB : (L.filter fun l => decide (hd l = e)).map leastF = B
    have hk : ∀ p, p < B.length → kx B p = e := fun p hp => by
      have hm : ∀ x ∈ B, x ∈ (L.filter fun l => decide (hd l = e)).map leastF := fun x hx => by rw [hB]; exact hx
      obtain ⟨l, hl, hle⟩ := List.mem_map.1 (hm _ (List.getElem_mem hp))
      have hc := (List.mem_filter.1 hl).2
      rw [decide_eq_true_eq] at hc
      unfold kx
      rw [List.getD_eq_getElem?_getD (l := B), List.getElem?_eq_getElem hp, Option.getD_some]
      rw [← hle]; exact hc
    refine ⟨fun p hp => ?_, fun p q hp hq => ?_⟩
    · rw [kx_app]
      rw [List.length_append] at hp
      split
      · rename_i h; have := h1 p h; omega
      · rw [hk _ (by omega)]; omega
    · rw [List.length_append] at hq
      rw [kx_app, kx_app]
      split
      · rename_i a
        split
        · rename_i b; exact h2 p q hp b
        · have := h1 p a; rw [hk (q - _) (by omega)]; omega
      · rename_i a
        rw [if_neg (by omega), hk (p - _) (by omega), hk (q - _) (by omega)]; omega
theorem tdW_tidyF {L : List (List Int)} {n : Nat} (h : Cov L n) (h0 : ∀ l ∈ L, l.length ≠ 0) : tdW L = tidyF L n := by
  have hd1 := h.dst h0
  have hr : ∀ l ∈ L, 0 ≤ hd l ∧ hd l < n := fun l hl => h.rng _ (List.mem_flatten.2 ⟨l, hl, (hd_facts (by have := h0 l hl; omega)).2.1⟩)
  have hp := tidyF_perm h0 (fun l hl => (hr l hl).1) n
  have hall : (L.filter fun l => decide (hd l < n)) = L := List.filter_eq_self.2 fun l hl => by simpa using (hr l hl).2
  rw [hall] at hp
  have hlen : (tidyF L n).length = L.length := by rw [hp.length_eq]; simp
  obtain ⟨-, hs⟩ := tidyF_sorted h0 n
  unfold tdW
  refine srtOn_eq hd1 (by rw [tdM_len]; exact Nat.le_refl _) ⟨by rw [hlen, tdM_len], hp, fun i hi => ?_⟩ fun p q _ hpq hq => ?_
  · rw [List.getElem?_eq_none (by omega), List.getElem?_eq_none (by rw [tdM_len]; omega)]
  · have hle := hs p q hpq (by omega)
    have hne : kx (tidyF L n) p ≠ kx (tidyF L n) q := fun e => by
      have := (hd1.of_perm hp) p q (by omega) (by omega) e
      omega
    omega
/-- Sorted lists are the tidy map. -/
theorem tdW_eq {L : List (List Int)} (hc : chk L = 0) : tdW L = tidL L := by
  have h := chk_cov hc
  rw [tdW_tidyF h (chk_ne hc), (tidy_cyc h _ (Nat.le_refl _)).1]
  unfold tidL
  rw [if_pos hc]; rfl
end Go.Sx.Ch
end
section
set_option linter.unusedVariables false
set_option linter.unusedSimpArgs false
namespace Go.Sx.Ch
open Go Go.Sx Go.Proofs
theorem orb_facts {σ : Int → Int} {a : Int} : ∀ {f : Nat} {x : Int} {l : List Int}, orb σ a f x = some l → l[0]? = some x ∧ (∀ i y z, l[i]? = some y → l[i + 1]? = some z → σ y = z) ∧ (∀ y, l[l.length - 1]? = some y → σ y = a) ∧ ∀ i, l[i + 1]? ≠ some a
  | 0, x, l, h => by cases h
  | f + 1, x, l, h => by
    simp only [orb] at h
    split at h
    · rename_i e
      cases h
      refine ⟨rfl, fun i y z _ hz => by simp at hz, fun y hy => by simp at hy; rw [← hy]; exact e, fun i => by simp⟩
    · rename_i e
      obtain ⟨r, hr, rfl⟩ := Option.map_eq_some_iff.1 h
      obtain ⟨h1, h2, h3, h4⟩ := orb_facts hr
      have hrp : 0 < r.length := by
        rcases r with _ | ⟨r0, rr⟩
        · simp at h1
        · simp
      refine ⟨rfl, fun i y z hy hz => ?_, fun y hy => ?_, fun i hi => ?_⟩
      · cases i with
        | zero =>
          simp at hy
          rw [List.getElem?_cons_succ, h1] at hz
          rw [← hy]; exact Option.some.inj hz
        | succ i => simp at hy hz; exact h2 i y z hy hz
      · refine h3 y ?_
        have : (x :: r).length - 1 = (r.length - 1) + 1 := by simp; omega
        rw [this] at hy
        simpa using hy
      · simp at hi
        cases i with
        | zero => rw [h1] at hi; cases hi; exact e rfl
        | succ i => exact h4 i hi
/-- Lists around which the step leads. -/
def Lnk (σ : Int → Int) (l : List Int) : Prop := ∀ k x, l[k]? = some x → l[(k + 1) % l.length]? = some (σ x)
theorem orb_lnk {σ : Int → Int} {a : Int} {f : Nat} {l : List Int} (h : orb σ a f a = some l) : Lnk σ l := by
  obtain ⟨h1, h2, h3, h4⟩ := orb_facts h
  intro k x hx
  have hk := (List.getElem?_eq_some_iff.1 hx).1
  rcases Nat.lt_or_ge (k + 1) l.length with hlt | hge
  · rw [Nat.mod_eq_of_lt hlt, List.getElem?_eq_getElem hlt, h2 k x _ hx (List.getElem?_eq_getElem hlt)]
  · have e : k + 1 = l.length := by omega
    rw [e, Nat.mod_self, h1]
    have : k = l.length - 1 := by omega
    rw [this] at hx
    rw [h3 x hx]
theorem orb_nodup {σ : Int → Int} {n : Nat} (h : Prm σ n) {a : Nat} (ha : a < n) {f : Nat} {l : List Int} (hl : orb σ a f a = some l) : l.Nodup := by
  obtain ⟨h1, h2, h3, h4⟩ := orb_facts hl
  have hin := orb_in h ha hl
  have key : ∀ i j : Nat, i < j → ∀ x : Int, l[i]? = some x → l[j]? ≠ some x := by
    intro i
    induction i with
    | zero =>
      intro j hj x hx hy
      rw [h1] at hx; cases hx
      obtain ⟨j, rfl⟩ : ∃ j', j = j' + 1 := ⟨j - 1, by omega⟩
      exact h4 j hy
    | succ i ih =>
      intro j hj x hx hy
      obtain ⟨j, rfl⟩ : ∃ j', j = j' + 1 := ⟨j - 1, by omega⟩
      have hi := (List.getElem?_eq_some_iff.1 hx).1
      have hj' := (List.getElem?_eq_some_iff.1 hy).1
      have g1 : l[i]? = some l[i] := List.getElem?_eq_getElem (by omega)
      have g2 : l[j]? = some l[j] := List.getElem?_eq_getElem (by omega)
      have s1 := h2 i _ x g1 hx
      have s2 := h2 j _ x g2 hy
      have r1 := hin _ (List.mem_of_getElem? g1)
      have r2 := hin _ (List.mem_of_getElem? g2)
      obtain ⟨p, hp⟩ := Int.eq_ofNat_of_zero_le r1.1
      obtain ⟨q, hq⟩ := Int.eq_ofNat_of_zero_le r2.1
      rw [hp] at s1 r1 g1
      rw [hq] at s2 r2 g2
      have := h.inj p q (by omega) (by omega) (s1.trans s2.symm)
      subst this
      exact ih j (by omega) _ g1 g2
  unfold List.Nodup
  rw [List.pairwise_iff_getElem]
  intro i j hi hj hij e
  exact key i j hij _ (List.getElem?_eq_getElem hi) (by rw [List.getElem?_eq_getElem hj, e])
/-- The ends that were met. -/
theorem fac_inv {σ : Int → Int} {n : Nat} (h : Prm σ n) (hn : n ≤ 16) : ∀ k, k ≤ n → (facN σ k).1 = (facN σ k).2.flatten ∧ (facN σ k).1.Nodup ∧ (∀ x ∈ (facN σ k).1, 0 ≤ x ∧ x < n) ∧ (∀ l ∈ (facN σ k).2, Lnk σ l) ∧ ∀ m : Nat, m < k → (m : Int) ∈ (facN σ k).1
  | 0, _ => ⟨rfl, List.nodup_nil, fun x hx => by simp [facN] at hx, fun l hl => by simp [facN] at hl, fun m hm => by omega⟩
  | k + 1, hk => by
    obtain ⟨h1, h2, h3, h4, h5⟩ := fac_inv h hn k (by omega)
    rw [facN_succ]
    unfold facS
    by_cases hmem : (k : Int) ∈ (facN σ k).1
    · rw [if_pos hmem]
      refine ⟨h1, h2, h3, h4, fun m hm => ?_⟩
      rcases Nat.lt_or_ge m k with hlt | hge
      · exact h5 m hlt
      · have : m = k := by omega
        rw [this]; exact hmem
    · rw [if_neg hmem]
      obtain ⟨-, l, hl⟩ := (okS_iff.1 (h.ok hn)).2 k (by omega)
      rw [hl, Option.getD_some]
      obtain ⟨f1, f2, f3, f4⟩ := orb_facts hl
      -- what was met is closed under the step
      have hcl : ∀ x ∈ (facN σ k).1, σ x ∈ (facN σ k).1 := fun x hx => by
        rw [h1] at hx ⊢
        obtain ⟨l', q1, q2⟩ := List.mem_flatten.1 hx
        obtain ⟨i, hi, e⟩ := List.getElem_of_mem q2
        exact List.mem_flatten.2 ⟨l', q1, List.mem_of_getElem? (h4 l' q1 i x (by rw [List.getElem?_eq_getElem hi, e]))⟩
      have hup : ∀ d i : Nat, i + d + 1 = l.length → ∀ x : Int, l[i]? = some x → x ∈ (facN σ k).1 → (k : Int) ∈ (facN σ k).1 := by
        intro d
        induction d with
        | zero =>
          intro i hi x hx hm
          have : i = l.length - 1 := by omega
          rw [this] at hx
          rw [← f3 x hx]; exact hcl x hm
        | succ d ih =>
          intro i hi x hx hm
          have hlt : i + 1 < l.length := by omega
          have g := List.getElem?_eq_getElem hlt
          exact ih (i + 1) (by omega) _ g (by rw [← f2 i x _ hx g]; exact hcl x hm)
      have hdis : ∀ x ∈ l, x ∉ (facN σ k).1 := fun x hx hm => by
        obtain ⟨i, hi, e⟩ := List.getElem_of_mem hx
        exact hmem (hup (l.length - 1 - i) i (by omega) x (by rw [List.getElem?_eq_getElem hi, e]) hm)
      refine ⟨by simp [h1], List.nodup_append.2 ⟨h2, orb_nodup h (by omega) hl, fun x hx y hy e => hdis y hy (e ▸ hx)⟩, fun x hx => ?_, fun l' hl' => ?_, fun m hm => ?_⟩
      · rcases List.mem_append.1 hx with hx | hx
        · exact h3 x hx
        · exact orb_in h (by omega) hl x hx
      · rcases List.mem_append.1 hl' with q | q
        · exact h4 l' q
        · simp at q; rw [q]; exact orb_lnk hl
      · rcases Nat.lt_or_ge m k with hlt | hge
        · exact List.mem_append_left _ (h5 m hlt)
        · have : m = k := by omega
          rw [this]; exact List.mem_append_right _ (List.mem_of_getElem? f1)
end Go.Sx.Ch
end
section
set_option linter.unusedVariables false
set_option linter.unusedSimpArgs false
namespace Go.Sx.Ch
open Go Go.Sx Go.Proofs
theorem len_of {S : List Int} {n : Nat} (hnd : S.Nodup) (hr : ∀ x ∈ S, 0 ≤ x ∧ x < n) (hc : ∀ m : Nat, m < n → (m : Int) ∈ S) : S.length = n := by
  apply Classical.byContradiction
  intro hne
  rcases Nat.lt_or_ge n S.length with h | h
  · obtain ⟨i, j, hij, hj, e⟩ := ph n (fun i => if hi : i < S.length then (S[i]).toNat else 0) (fun i hi => by
      have hh : i < S.length := by omega
      simp only [dif_pos hh]
      have := hr _ (List.getElem_mem hh)
      omega)
    have hi : i < S.length := by omega
    have hj' : j < S.length := by omega
    simp only [dif_pos hi, dif_pos hj'] at e
    have r1 := hr _ (List.getElem_mem hi)
    have r2 := hr _ (List.getElem_mem hj')
    have e2 : S[i] = S[j] := by omega
    have := nd_inj hnd (List.getElem?_eq_getElem hi) (by rw [List.getElem?_eq_getElem hj', e2])
    omega
  · have hlt : S.length < n := by omega
    have idx : ∀ m : Nat, m < n → ∃ k : Nat, k < S.length ∧ idxL S m = k ∧ S[k]? = some (m : Int) := fun m hm => idxL_at (idxL_mem.2 (hc m hm))
    obtain ⟨i, j, hij, hj, e⟩ := ph S.length (fun i => (idxL S i).toNat) (fun i hi => by
      obtain ⟨k, hk, e, -⟩ := idx i (by omega)
      simp only [e, Int.toNat_natCast]; exact hk)
    obtain ⟨k, hk, e1, g1⟩ := idx i (by omega)
    obtain ⟨q, hq, e2, g2⟩ := idx j (by omega)
    simp only [e1, e2, Int.toNat_natCast] at e
    subst e
    rw [g1] at g2
    simp at g2; omega
theorem fac_cov {σ : Int → Int} {n : Nat} (h : Prm σ n) (hn : n ≤ 16) : Cov (facN σ n).2 n ∧ ∀ m : Nat, m < n → afterC (tabF (facN σ n).2) m = σ m := by
  obtain ⟨h1, h2, h3, h4, h5⟩ := fac_inv h hn n (Nat.le_refl _)
  rw [h1] at h2 h3 h5
  have hc : Cov (facN σ n).2 n := ⟨h2, h3, by rw [← total_flatten]; exact len_of h2 h3 h5, hn⟩
  refine ⟨hc, fun m hm => ?_⟩
  obtain ⟨l, k, hl, hk, hkm⟩ := hc.place hm
  rw [hc.after hl hk hkm, List.getD_eq_getElem?_getD, h4 l hl k _ hkm]
  rfl
/-- What comes of a step that is one to one is small. -/
theorem cyc_small {σ : Int → Int} {n : Nat} (h : Prm σ n) (hn : n ≤ 16) : smM (cyc σ n) = true ∧ (decide ((cyc σ n).length ≤ 10000) && (cyc σ n).all small) = true := by
  have e : cyc σ n = (facN σ n).2 := (cyc_fac h hn n (Nat.le_refl _)).1
  obtain ⟨hc, -⟩ := fac_cov h hn
  have hl := (cycN_len σ n).2
  have hl' : (cyc σ n).length ≤ n := hl
  have ht : total (cyc σ n) = n := by rw [e]; exact hc.len
  have hs : smM (cyc σ n) = true := by simp only [smM, Bool.and_eq_true, decide_eq_true_eq]; omega
  refine ⟨hs, ?_⟩
  simp only [Bool.and_eq_true, decide_eq_true_eq, List.all_eq_true]
  exact ⟨by omega, fun l hl => smM_small hs hl⟩
theorem face_small {L : List (List Int)} : (decide ((faceL L).length ≤ 10000) && (faceL L).all small) = true := by
  unfold faceL
  by_cases hc : chk L = 0
  · obtain ⟨h16, -, hev⟩ := chk_zero hc
    rw [if_pos hc]
    exact (cyc_small ((chk_cov hc).along hev) h16).2
  · rw [if_neg hc]; decide
end Go.Sx.Ch
end
section
set_option linter.unusedVariables false
set_option linter.unusedSimpArgs false
set_option maxRecDepth 4000
namespace Go.Sx.Ch
open Go Go.Sx Go.Proofs
def g80 (C : List Int) : Bool := t34 C && within 0 (endsC C) 16 && within 0 (ptsC C) 16 && (List.range (endsC C).toNat).all fun (e : Nat) => within 0 (atC C e) (ptsC C - 1) && within 0 (atC C (othI e)) (ptsC C - 1)
theorem get_of34 {C : List Int} {i : Nat} {n : Int} (h : C.length = 34) (hi : i < 34) (hn : C.getD i 0 = n) : C[i]? = some n := by
  rw [← hn, List.getD_eq_getElem?_getD, List.getElem?_eq_getElem (by omega)]; rfl
theorem g80_facts {C : List Int} (hg : g80 C = true) : ∃ n P : Nat, C.length = 34 ∧ n ≤ 16 ∧ P ≤ 16 ∧ C[0]? = some (n : Int) ∧ C[33]? = some (P : Int) ∧ endsC C = n ∧ ptsC C = P ∧
    ∀ e : Nat, e < n → ∃ o a b : Nat, o < 16 ∧ a < P ∧ b < P ∧ oth[e]? = some (o : Int) ∧ C[17 + e]? = some (a : Int) ∧ C[17 + o]? = some (b : Int) ∧ atC C e = a ∧ atC C (othI e) = b := by
  simp only [g80, Bool.and_eq_true, t34, decide_eq_true_eq, within_iff, List.all_eq_true, List.mem_range] at hg
  obtain ⟨⟨⟨h34, h0, h1⟩, h2, h3⟩, h4⟩ := hg
  obtain ⟨n, hn⟩ := Int.eq_ofNat_of_zero_le h0
  obtain ⟨P, hP⟩ := Int.eq_ofNat_of_zero_le h2
  refine ⟨n, P, h34, by omega, by omega, get_of34 h34 (by omega) hn, get_of34 h34 (by omega) hP, hn, hP, fun e he => ?_⟩
  obtain ⟨⟨a0, a1⟩, b0, b1⟩ := h4 e (by omega)
  obtain ⟨a, ha⟩ := Int.eq_ofNat_of_zero_le a0
  obtain ⟨b, hb⟩ := Int.eq_ofNat_of_zero_le b0
  obtain ⟨o, ho, o0, o1⟩ := oth_get (e := e) ⟨by omega, by omega⟩
  obtain ⟨o, rfl⟩ := Int.eq_ofNat_of_zero_le o0
  rw [Int.toNat_natCast] at ho
  have ho' : othI e = o := by simp [othI, List.getD_eq_getElem?_getD, ho]
  refine ⟨o, a, b, by omega, by omega, by omega, ho, get_of34 h34 (by omega) ?_, get_of34 h34 (by omega) ?_, ha, hb⟩
  · have := ha; unfold atC at this; simpa using this
  · have := hb; rw [ho'] at this; unfold atC at this; simpa using this
set_option maxHeartbeats 2000000
end Go.Sx.Ch
end
section
set_option linter.unusedVariables false
set_option linter.unusedSimpArgs false
set_option maxRecDepth 4000
namespace Go.Sx.Ch
open Go Go.Sx Go.Proofs
/-- What a map's table says of points. -/
theorem tab_pts {L : List (List Int)} (hc : chk L = 0) : (tabF L).length = 34 ∧ total L ≤ 16 ∧ total L % 2 = 0 ∧ L.length ≤ 16 ∧ (tabF L)[0]? = some ((total L : Nat) : Int) ∧ (tabF L)[33]? = some ((L.length : Nat) : Int) ∧
    ∀ m : Nat, m < total L → ∃ k : Nat, k < L.length ∧ (tabF L)[17 + m]? = some (k : Int) ∧ atC (tabF L) m = k ∧ ptL L m = k := by
  have hcv := chk_cov hc
  have h0 := chk_ne hc
  obtain ⟨h1, -, h3⟩ := chk_zero hc
  obtain ⟨h34, he, -, -⟩ := tabF_facts hcv.h16
  have hp : (tabF L).getD 33 0 = L.length := pts_eq hcv.h16 h0
  have hLl : ∀ M : List (List Int), (∀ l ∈ M, l.length ≠ 0) → M.length ≤ total M := by
    intro M
    induction M with
    | nil => simp
    | cons a M ih =>
      intro h
      have := ih fun l hl => h l (List.mem_cons_of_mem _ hl)
      have ha := h a List.mem_cons_self
      simp only [total, List.map_cons, List.sum_cons, List.length_cons] at this ⊢
      omega
  have := hLl L h0
  refine ⟨h34, h1, h3, by omega, get_of34 h34 (by omega) he, get_of34 h34 (by omega) hp, fun m hm => ?_⟩
  obtain ⟨k, l, e1, e2, e3, e4⟩ := hcv.pnt h0 hm
  exact ⟨k, (List.getElem?_eq_some_iff.1 e1).1, get_of34 h34 (by omega) (by have := e3; unfold atC at this; simpa using this), e3, e4⟩
theorem g80_tab {L : List (List Int)} (hc : chk L = 0) : g80 (tabF L) = true := by
  obtain ⟨h34, h16, hev, hl, h0, h33, hp⟩ := tab_pts hc
  have e0 : endsC (tabF L) = total L := by unfold endsC; rw [List.getD_eq_getElem?_getD, h0]; rfl
  have e33 : ptsC (tabF L) = L.length := by unfold ptsC; rw [List.getD_eq_getElem?_getD, h33]; rfl
  simp only [g80, Bool.and_eq_true, t34, decide_eq_true_eq, within_iff, List.all_eq_true, List.mem_range, e0, e33]
  refine ⟨⟨⟨h34, by omega, by omega⟩, by omega, by omega⟩, fun e he => ?_⟩
  have he' : e < total L := by omega
  obtain ⟨k, k1, -, k2, -⟩ := hp e he'
  obtain ⟨k', k1', -, k2', -⟩ := hp (onat e) (onat_lt (by omega) he')
  rw [oth_onat e (by omega), k2, k2']
  omega
def inL (l : List Int) : Bool := l.all (within 0 · 1000)
def inM (L : List (List Int)) : Bool := L.all inL
theorem inM_get {L : List (List Int)} (h : inM L = true) {p : Nat} (hp : p < L.length) : ∃ l, L[p]? = some l ∧ inL l = true :=
  ⟨L[p], List.getElem?_eq_getElem hp, List.all_eq_true.1 h _ (List.getElem_mem hp)⟩
end Go.Sx.Ch
end
