/- The list that a step leads around, from its smallest end on. No conditions. -/
import Derived.Test.YtfiebjbhiflfpaaDoorSxJCPtoDL
section
set_option linter.unusedVariables false
set_option linter.unusedSimpArgs false
namespace Go.Sx.Ch
open Go Go.Sx Go.Proofs
theorem leastF_get {l : List Int} {i : Nat} (hi : i < l.length) : (leastF l)[i]? = l[(bstN l l.length + i) % l.length]? := by
  have hb := bstN_le l
  have hb' : bstN l l.length < l.length := by
    obtain ⟨m, hm⟩ : ∃ m, l.length = m + 1 := ⟨l.length - 1, by omega⟩
    have := bstN_lt l m
    rw [hm]; omega
  unfold leastF
  generalize bstN l l.length = b at *
  rcases Nat.lt_or_ge (b + i) l.length with h | h
  · rw [Nat.mod_eq_of_lt h, List.getElem?_append_left (by simp; omega), List.getElem?_drop]
  · rw [Nat.mod_eq_sub_mod h, Nat.mod_eq_of_lt (by omega), List.getElem?_append_right (by simp; omega), List.length_drop, List.getElem?_take, if_pos (by omega)]
    congr 1; omega
/-- From any place of the list on. -/
theorem orb_list {G : List (List Int)} {n : Nat} (h : Cov G n) {l : List Int} (hl : l ∈ G) {a : Int} (ha : (leastF l)[0]? = some a) : ∀ {f i : Nat} {x : Int}, i < l.length → l.length ≤ i + f → (leastF l)[i]? = some x → orb (afterC (tabF G)) a f x = some ((leastF l).drop i)
  | 0, i, x, hi, hf, _ => by omega
  | f + 1, i, x, hi, hf, hx => by
    have hlen := leastF_len l
    have hlp : 0 < l.length := by omega
    have hx' := hx
    rw [leastF_get hi] at hx'
    have hk : (bstN l l.length + i) % l.length < l.length := Nat.mod_lt _ hlp
    have hmem : x ∈ l := List.mem_of_getElem? hx'
    have hr := h.rng x (List.mem_flatten.2 ⟨l, hl, hmem⟩)
    obtain ⟨m, rfl⟩ := Int.eq_ofNat_of_zero_le hr.1
    have hs := h.after hl hk hx'
    have hnx : ((bstN l l.length + i) % l.length + 1) % l.length = (bstN l l.length + (i + 1)) % l.length := by rw [Nat.mod_add_mod]; rfl
    rw [hnx] at hs
    have hd : (leastF l).drop i = (m : Int) :: (leastF l).drop (i + 1) := by
      have hi' : i < (leastF l).length := by omega
      rw [List.drop_eq_getElem_cons hi', (List.getElem?_eq_some_iff.1 hx).2]
    simp only [orb]
    rcases Nat.lt_or_ge (i + 1) l.length with h1 | h1
    · have hi1 : i + 1 < (leastF l).length := by omega
      have hy : (leastF l)[i + 1]? = some (leastF l)[i + 1] := List.getElem?_eq_getElem hi1
      have hy' := hy
      rw [leastF_get h1] at hy'
      rw [List.getD_eq_getElem?_getD, hy', Option.getD_some] at hs
      have hne : ¬ (leastF l)[i + 1] = a := fun e => by
        have hz := ha
        rw [leastF_get hlp] at hz
        rw [e] at hy'
        have := nd_inj (h.ndl hl) hy' hz
        have hb' : bstN l l.length < l.length := by
          obtain ⟨m, hm⟩ : ∃ m, l.length = m + 1 := ⟨l.length - 1, by omega⟩
          have := bstN_lt l m
          rw [hm]; omega
        have hz0 : (bstN l l.length + 0) % l.length = bstN l l.length := Nat.mod_eq_of_lt hb'
        rw [hz0] at this
        rcases Nat.lt_or_ge (bstN l l.length + (i + 1)) l.length with h2 | h2
        · rw [Nat.mod_eq_of_lt h2] at this; omega
        · rw [Nat.mod_eq_sub_mod h2, Nat.mod_eq_of_lt (by omega)] at this; omega
      rw [hs, if_neg hne, orb_list h hl ha h1 (by omega) hy, hd]
      rfl
    · have e1 : i + 1 = l.length := by omega
      have hz := ha
      rw [leastF_get hlp, Nat.add_zero] at hz
      rw [e1, Nat.add_mod_right, List.getD_eq_getElem?_getD, hz, Option.getD_some] at hs
      rw [hs, if_pos rfl, hd, e1, ← hlen, List.drop_length]
theorem orb_least {G : List (List Int)} {n : Nat} (h : Cov G n) {l : List Int} (hl : l ∈ G) {a : Int} (h0 : 0 < l.length) (h16 : l.length ≤ 16) (ha : (leastF l)[0]? = some a) : orb (afterC (tabF G)) a 16 a = some (leastF l) := by
  have := orb_list h hl ha (f := 16) (i := 0) h0 (by omega) ha
  simpa using this
end Go.Sx.Ch
end
section
set_option linter.unusedVariables false
set_option linter.unusedSimpArgs false
namespace Go.Sx.Ch
open Go Go.Sx Go.Proofs
theorem bstN_min (l : List Int) : ∀ n i, i < n → l.getD (bstN l n) 0 ≤ l.getD i 0
  | 0, i, h => by omega
  | n + 1, i, h => by
    rw [bstN_succ]; unfold bstI
    rcases Nat.lt_or_ge i n with hi | hi
    · have := bstN_min l n i hi
      split
      · rename_i hlt; omega
      · exact this
    · obtain rfl : i = n := by omega
      split
      · exact Int.le_refl _
      · rename_i hlt; omega
/-- The smallest number of a list. -/
def hd (l : List Int) : Int := (leastF l).getD 0 0
theorem hd_facts {l : List Int} (h0 : 0 < l.length) : (leastF l)[0]? = some (hd l) ∧ hd l ∈ l ∧ ∀ x ∈ l, hd l ≤ x := by
  have hb' : bstN l l.length < l.length := by
    obtain ⟨m, hm⟩ : ∃ m, l.length = m + 1 := ⟨l.length - 1, by omega⟩
    have := bstN_lt l m
    rw [hm]; omega
  have e : (leastF l)[0]? = l[bstN l l.length]? := by rw [leastF_get h0, Nat.add_zero, Nat.mod_eq_of_lt hb']
  have e2 : l[bstN l l.length]? = some l[bstN l l.length] := List.getElem?_eq_getElem hb'
  have e3 : hd l = l[bstN l l.length] := by unfold hd; rw [List.getD_eq_getElem?_getD, e, e2]; rfl
  refine ⟨by rw [e, e2, e3], by rw [e3]; exact List.getElem_mem hb', fun x hx => ?_⟩
  obtain ⟨i, hi, rfl⟩ := List.getElem_of_mem hx
  have := bstN_min l l.length i hi
  rw [List.getD_eq_getElem?_getD, List.getD_eq_getElem?_getD, e2, List.getElem?_eq_getElem hi] at this
  rw [e3]; exact this
theorem tid_none {e : Nat} : ∀ {G acc : List (List Int)}, (∀ l ∈ G, 0 < l.length → hd l ≠ e) → G.foldl (tidI e) acc = acc
  | [], acc, _ => rfl
  | l :: G, acc, h => by
    simp only [List.foldl_cons]
    have : tidI e acc l = acc := by
      unfold tidI
      rw [if_neg]
      rintro ⟨h1, h2⟩
      exact h l List.mem_cons_self (by omega) h2
    rw [this]
    exact tid_none fun l' hl' => h l' (List.mem_cons_of_mem _ hl')
def metG (G : List (List Int)) (e m : Nat) : Bool := G.any fun l => decide ((m : Int) ∈ l) && decide (hd l < e)
theorem metG_iff {G : List (List Int)} {e m : Nat} : metG G e m = true ↔ ∃ l ∈ G, (m : Int) ∈ l ∧ hd l < e := by
  simp [metG, List.any_eq_true]
theorem tidy_cyc {G : List (List Int)} {n : Nat} (h : Cov G n) : ∀ e, e ≤ n → tidyF G e = (cycN (afterC (tabF G)) e).2 ∧ ∀ m : Nat, m < 16 → (cycN (afterC (tabF G)) e).1[m]? = some (metG G e m)
  | 0, _ => by
    refine ⟨rfl, fun m hm => ?_⟩
    have hz : metG G 0 m = false := by
      cases hh : metG G 0 m with
      | false => rfl
      | true =>
        obtain ⟨l, hl, h1, h2⟩ := metG_iff.1 hh
        have h3 := (hd_facts (List.length_pos_of_mem h1)).2.1
        have := h.rng _ (List.mem_flatten.2 ⟨l, hl, h3⟩)
        omega
    rw [show (cycN (afterC (tabF G)) 0).1 = List.replicate 16 false from rfl, List.getElem?_replicate, if_pos hm, hz]
  | e + 1, he => by
    obtain ⟨h1, h2⟩ := tidy_cyc h e (by omega)
    have hn := h.le
    obtain ⟨l, k, hl, hk, hkm⟩ := h.place (m := e) (by omega)
    have hel : (e : Int) ∈ l := List.mem_of_getElem? hkm
    have hlp : 0 < l.length := by omega
    obtain ⟨d1, d2, d3⟩ := hd_facts hlp
    have hle := d3 _ hel
    have hll : l.length ≤ 16 := by
      have := total_mem hl
      rw [h.len] at this; omega
    have only : ∀ l' ∈ G, (e : Int) ∈ l' → l' = l := fun l' hl' hx => h.same hl' hl hx hel
    have hhead : ∀ l' ∈ G, 0 < l'.length → hd l' = e → l' = l := fun l' hl' hp e1 => only l' hl' (by rw [← e1]; exact (hd_facts hp).2.1)
    have hb : (cycN (afterC (tabF G)) e).1.getD e false = metG G e e := by rw [List.getD_eq_getElem?_getD, h2 e (by omega)]; rfl
    rw [tidyF_succ, cycN_succ]
    unfold cycS
    rw [hb]
    by_cases hmu : hd l < e
    · have hmet : metG G e e = true := metG_iff.2 ⟨l, hl, hel, hmu⟩
      rw [if_pos hmet]
      refine ⟨?_, fun m hm => ?_⟩
      · unfold tidE
        rw [tid_none (fun l' hl' hp e1 => by have := hhead l' hl' hp e1; subst this; omega), h1]
      · rw [h2 m hm]
        congr 1
        rw [Bool.eq_iff_iff, metG_iff, metG_iff]
        constructor
        · rintro ⟨l', q1, q2, q3⟩; exact ⟨l', q1, q2, by omega⟩
        · rintro ⟨l', q1, q2, q3⟩
          refine ⟨l', q1, q2, ?_⟩
          apply Classical.byContradiction
          intro hno
          have := hhead l' q1 (List.length_pos_of_mem q2) (by omega)
          subst this; omega
    · have hmu' : hd l = e := by omega
      have hmet : ¬ metG G e e = true := fun hh => by
        obtain ⟨l', q1, q2, q3⟩ := metG_iff.1 hh
        have := only l' q1 q2
        subst this; omega
      rw [if_neg hmet]
      rw [hmu'] at d1
      rw [orb_least h hl hlp hll d1, Option.getD_some]
      refine ⟨?_, fun m hm => ?_⟩
      · obtain ⟨A, B, hG⟩ := List.append_of_mem hl
        have hnd := h.nd
        rw [hG, List.flatten_append, List.flatten_cons] at hnd
        obtain ⟨-, n2, n3⟩ := List.nodup_append.1 hnd
        obtain ⟨-, -, n5⟩ := List.nodup_append.1 n2
        have hA : ∀ l' ∈ A, 0 < l'.length → hd l' ≠ e := fun l' hl' hp e1 =>
          n3 e (List.mem_flatten.2 ⟨l', hl', by rw [← e1]; exact (hd_facts hp).2.1⟩) e (List.mem_append_left _ hel) rfl
        have hB : ∀ l' ∈ B, 0 < l'.length → hd l' ≠ e := fun l' hl' hp e1 =>
          n5 e hel e (List.mem_flatten.2 ⟨l', hl', by rw [← e1]; exact (hd_facts hp).2.1⟩) rfl
        unfold tidE
        rw [hG, List.foldl_append, List.foldl_cons, tid_none hA, tid_none hB, ← hG]
        unfold tidI
        rw [if_pos ⟨by omega, hmu'⟩, h1]
      · have hml : ∀ x, x ∈ leastF l ↔ x ∈ l := fun x => by
          unfold leastF
          rw [List.mem_append, or_comm, ← List.mem_append, List.take_append_drop]
        simp only
        rw [setM_get (fun x hx => (h.rng x (List.mem_flatten.2 ⟨l, hl, (hml x).1 hx⟩)).1) (h2 m hm)]
        congr 1
        rw [Bool.eq_iff_iff, Bool.or_eq_true, metG_iff, metG_iff, decide_eq_true_eq, hml]
        constructor
        · rintro (⟨l', q1, q2, q3⟩ | q)
          · exact ⟨l', q1, q2, by omega⟩
          · exact ⟨l, hl, q, by omega⟩
        · rintro ⟨l', q1, q2, q3⟩
          by_cases hlt : hd l' < e
          · exact .inl ⟨l', q1, q2, hlt⟩
          · have := hhead l' q1 (List.length_pos_of_mem q2) (by omega)
            subst this; exact .inr q2
end Go.Sx.Ch
end
section
set_option linter.unusedVariables false
set_option linter.unusedSimpArgs false
set_option maxRecDepth 4000
namespace Go.Sx.Ch
open Go Go.Sx Go.Proofs
@[simp] theorem bin_eff (P : Program) (ρ : Operand → AV) (op : BinOp) (t : TypeId) (x y : Operand) : SOp.eff P ρ (.bin op t x y) = effPlain2 P (fun u v => do eqGuard op t x y u v; binOp op t u v) (ρ x) (ρ y) := rfl
end Go.Sx.Ch
end
section
set_option linter.unusedVariables false
set_option linter.unusedSimpArgs false
set_option maxRecDepth 4000
namespace Go.Sx.Ch
open Go Go.Sx Go.Proofs
/-- The point of an end, and how many points. -/
def atC (C : List Int) (e : Int) : Int := C.getD (17 + e.toNat) 0
def ptsC (C : List Int) : Int := C.getD 33 0
theorem tabI_at_ne {l C : List Int} {m : Nat} {k : Nat} (hl : in16 l = true) (hk : k < l.length) (hm : m < 16) (hne : l[k]? ≠ some (m : Int)) : (tabI l C k).getD (17 + m) 0 = C.getD (17 + m) 0 := by
  obtain ⟨q, hq, h1, h2⟩ := in16_get hl hk
  simp only [tabI, h2, Int.toNat_natCast]
  have hqm : q ≠ m := fun e => hne (by rw [h1, e])
  rw [getD_set_ne (by omega), getD_set_ne (by omega)]
theorem tabE_at_skip {l C : List Int} {m : Nat} (hl : in16 l = true) (hm : m < 16) (hnot : (m : Int) ∉ l) : ∀ j, j ≤ l.length → ((List.range j).foldl (tabI l) C).getD (17 + m) 0 = C.getD (17 + m) 0
  | 0, _ => rfl
  | j + 1, hj => by
    rw [List.range_succ, List.foldl_append]
    simp only [List.foldl_cons, List.foldl_nil]
    rw [tabI_at_ne hl (by omega) hm (fun e => hnot (List.mem_of_getElem? e))]
    exact tabE_at_skip hl hm hnot j (by omega)
theorem tabE_at {l C : List Int} {m k : Nat} (hl : in16 l = true) (hnd : l.Nodup) (hC : C.length = 34) (hm : m < 16) (hk : k < l.length) (hkm : l[k]? = some (m : Int)) :
    ∀ j, j ≤ l.length → k < j → ((List.range j).foldl (tabI l) C).getD (17 + m) 0 = C.getD 33 0
  | 0, _, h => by omega
  | j + 1, hj, hkj => by
    rw [List.range_succ, List.foldl_append]
    simp only [List.foldl_cons, List.foldl_nil]
    by_cases e : j = k
    · subst e
      have hg : l.getD j 0 = (m : Int) := by rw [List.getD_eq_getElem?_getD, hkm]; rfl
      simp only [tabI, hg, Int.toNat_natCast]
      rw [getD_set_eq (by rw [List.length_set, tabE_len]; omega)]
      exact (tabE_keep hl (List.range j) C fun k hk => by have := List.mem_range.1 hk; omega).2
    · rw [tabI_at_ne hl (by omega) hm (fun h => e ?_)]
      · exact tabE_at hl hnd hC hm hk hkm j (by omega) (by omega)
      · exact nd_inj hnd h hkm
theorem tabL_at_skip {l C : List Int} {m : Nat} (hl : in16 l = true) (hm : m < 16) (hnot : (m : Int) ∉ l) : (tabL C l).getD (17 + m) 0 = C.getD (17 + m) 0 := by
  unfold tabL
  split
  · rfl
  · rw [getD_set_ne (by omega), getD_set_ne (by omega)]
    exact tabE_at_skip hl hm hnot _ (Nat.le_refl _)
theorem tabL_at {l C : List Int} {m k : Nat} (hl : in16 l = true) (hnd : l.Nodup) (hC : C.length = 34) (hm : m < 16) (hk : k < l.length) (hkm : l[k]? = some (m : Int)) : (tabL C l).getD (17 + m) 0 = C.getD 33 0 := by
  unfold tabL
  rw [if_neg (by omega), getD_set_ne (by omega), getD_set_ne (by omega)]
  exact tabE_at hl hnd hC hm hk hkm _ (Nat.le_refl _) hk
theorem tabs_at_skip {m : Nat} (hm : m < 16) : ∀ {B : List (List Int)} {C : List Int}, B.all in16 = true → (m : Int) ∉ B.flatten → (B.foldl tabL C).getD (17 + m) 0 = C.getD (17 + m) 0
  | [], C, _, _ => rfl
  | l :: B, C, h, hn => by
    simp only [List.all_cons, Bool.and_eq_true] at h
    rw [List.flatten_cons, List.mem_append, not_or] at hn
    simp only [List.foldl_cons]
    rw [tabs_at_skip hm h.2 hn.2, tabL_at_skip h.1 hm hn.1]
/-- As many points as lists that hold something. -/
theorem tabs_pts : ∀ {B : List (List Int)} {C : List Int}, B.all in16 = true → C.length = 34 → (∀ l ∈ B, l.length ≠ 0) → (B.foldl tabL C).getD 33 0 = C.getD 33 0 + B.length
  | [], C, _, _, _ => by simp
  | l :: B, C, h, hC, h0 => by
    simp only [List.all_cons, Bool.and_eq_true] at h
    simp only [List.foldl_cons]
    obtain ⟨h1, -, h3⟩ := tabL_facts (C := C) h.1 hC
    rw [tabs_pts h.2 h1 (fun l hl => h0 l (List.mem_cons_of_mem _ hl)), h3, if_neg (h0 l List.mem_cons_self), List.length_cons]
    omega
theorem pts_eq {L : List (List Int)} (h : L.all in16 = true) (h0 : ∀ l ∈ L, l.length ≠ 0) : ptsC (tabF L) = L.length := by
  unfold ptsC tabF
  rw [tabs_pts h rfl h0]
  have : Z34.getD 33 0 = 0 := by decide
  omega
theorem ptR_app {x : Int} {l : List Int} {B : List (List Int)} (hl : 0 ≤ idxL l x) : ∀ {A : List (List Int)} {i : Int}, (∀ a ∈ A, ¬ 0 ≤ idxL a x) → ptR x (A ++ l :: B) i = i + A.length
  | [], i, _ => by simp [ptR, hl]
  | a :: A, i, h => by
    simp only [List.cons_append, ptR]
    rw [if_neg (h a List.mem_cons_self), ptR_app hl (fun a ha => h a (List.mem_cons_of_mem _ ha)), List.length_cons]
    omega
/-- The table tells the point of an end as looking does. -/
theorem Cov.at {L : List (List Int)} {n : Nat} (h : Cov L n) (h0 : ∀ l ∈ L, l.length ≠ 0) {k m : Nat} {l : List Int} (hk : L[k]? = some l) (hm : (m : Int) ∈ l) : atC (tabF L) m = k ∧ Go.Sx.Ch.ptL L m = k := by
  obtain ⟨hkl, hkk⟩ := List.getElem?_eq_some_iff.1 hk
  have hs : L = L.take k ++ l :: L.drop (k + 1) := by
    rw [← hkk, ← List.drop_eq_getElem_cons hkl, List.take_append_drop]
  obtain ⟨j, hj, hjm⟩ := List.getElem_of_mem hm
  have h16 := h.h16
  have hnd := h.nd
  have hin := h.rng m (List.mem_flatten.2 ⟨l, List.mem_of_getElem? hk, hm⟩)
  have hlt : m < 16 := by have := h.le; omega
  generalize hA : L.take k = A at hs
  generalize L.drop (k + 1) = B at hs
  have hAl : A.length = k := by rw [← hA, List.length_take]; omega
  subst hs
  have hA16 : A.all in16 = true := List.all_eq_true.2 fun x hx => List.all_eq_true.1 h16 x (by simp [hx])
  have hB16 : B.all in16 = true := List.all_eq_true.2 fun x hx => List.all_eq_true.1 h16 x (by simp [hx])
  have hl16 : in16 l = true := List.all_eq_true.1 h16 l (by simp)
  rw [List.flatten_append, List.flatten_cons] at hnd
  obtain ⟨-, h2, hAn⟩ := List.nodup_append.1 hnd
  obtain ⟨h3, -, h5⟩ := List.nodup_append.1 h2
  refine ⟨?_, ?_⟩
  · have e : tabF (A ++ l :: B) = B.foldl tabL (tabL (tabF A) l) := by simp [tabF, List.foldl_append]
    unfold atC
    rw [e, Int.toNat_natCast, tabs_at_skip hlt hB16 (fun h => h5 _ hm _ h rfl), tabL_at hl16 h3 (tabF_facts hA16).1 hlt hj (by rw [List.getElem?_eq_getElem hj, hjm])]
    have := pts_eq hA16 (fun l hl => h0 l (by simp [hl]))
    unfold ptsC at this
    rw [this, hAl]
  · unfold Go.Sx.Ch.ptL
    rw [ptR_app (idxL_mem.2 hm) (fun a ha hx => hAn _ (List.mem_flatten.2 ⟨a, ha, idxL_mem.1 hx⟩) _ (List.mem_append_left _ hm) rfl), hAl]
    omega
theorem Cov.pnt {L : List (List Int)} {n : Nat} (h : Cov L n) (h0 : ∀ l ∈ L, l.length ≠ 0) {m : Nat} (hm : m < n) : ∃ k l, L[k]? = some l ∧ (m : Int) ∈ l ∧ atC (tabF L) m = ((k : Nat) : Int) ∧ Go.Sx.Ch.ptL L m = k := by
  obtain ⟨l, i, hl, hi, him⟩ := h.place hm
  obtain ⟨k, hk, hkl⟩ := List.getElem_of_mem hl
  have hkk : L[k]? = some l := by rw [List.getElem?_eq_getElem hk, hkl]
  have hmem := List.mem_of_getElem? him
  exact ⟨k, l, hkk, hmem, h.at h0 hkk hmem⟩
theorem chk_ne {L : List (List Int)} (h : chk L = 0) : ∀ l ∈ L, l.length ≠ 0 := fun l hl => (scanM_in (chk_zero h).2.1 l hl).1
/-! ### Which points a line joins -/
end Go.Sx.Ch
end
