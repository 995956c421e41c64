/- A step that is one to one leads around. No conditions. -/
import Derived.Test.YtfiebjbhiflfpaaDoorSxJCAtoCD
import Derived.Test.YtfiebjbhiflfpaaDoorSxJCItoCL
import Derived.Test.YtfiebjbhiflfpaaDoorSxJCPtoCR0
set_option linter.unusedVariables false
set_option linter.unusedSimpArgs false
namespace Go.Sx.Ch
open Go Go.Sx Go.Proofs

/-- More numbers than places: two are the same. -/
theorem ph : ∀ (n : Nat) (f : Nat → Nat), (∀ i, i ≤ n → f i < n) → ∃ i j, i < j ∧ j ≤ n ∧ f i = f j
  | 0, f, h => absurd (h 0 (Nat.le_refl _)) (by omega)
  | n + 1, f, h => by
    by_cases hx : ∃ i, i ≤ n ∧ f i = f (n + 1)
    · obtain ⟨i, hi, e⟩ := hx; exact ⟨i, n + 1, by omega, Nat.le_refl _, e⟩
    · have hx' : ∀ i, i ≤ n → f i ≠ f (n + 1) := fun i hi e => hx ⟨i, hi, e⟩
      have h2 := h (n + 1) (Nat.le_refl _)
      obtain ⟨i, j, hij, hj, e⟩ := ph n (fun i => if f i = n then f (n + 1) else f i) (fun i hi => by
        have h1 := h i (by omega)
        have h3 := hx' i hi
        by_cases e : f i = n
        · simp only [if_pos e]; omega
        · simp only [if_neg e]; omega)
      refine ⟨i, j, hij, by omega, ?_⟩
      have hi' := hx' i (by omega)
      have hj' := hx' j hj
      by_cases ei : f i = n
      · by_cases ej : f j = n
        · omega
        · simp only [if_pos ei, if_neg ej] at e; exact absurd e.symm hj'
      · by_cases ej : f j = n
        · simp only [if_neg ei, if_pos ej] at e; exact absurd e hi'
        · simpa only [if_neg ei, if_neg ej] using e
def itr (σ : Int → Int) : Nat → Int → Int
  | 0, a => a
  | k + 1, a => σ (itr σ k a)
theorem orb_of {σ : Int → Int} {a : Int} : ∀ {f i : Nat}, (∃ p, i < p ∧ p ≤ i + f ∧ itr σ p a = a) → ∃ l, orb σ a f (itr σ i a) = some l
  | 0, i, h => by obtain ⟨p, h1, h2, _⟩ := h; omega
  | f + 1, i, h => by
    simp only [orb]
    by_cases e : σ (itr σ i a) = a
    · rw [if_pos e]; exact ⟨_, rfl⟩
    · rw [if_neg e]
      obtain ⟨p, h1, h2, h3⟩ := h
      have hp : p ≠ i + 1 := fun hh => e (by rw [hh] at h3; exact h3)
      obtain ⟨l, hl⟩ := orb_of (f := f) (i := i + 1) ⟨p, by omega, by omega, h3⟩
      have hl' : orb σ a f (σ (itr σ i a)) = some l := hl
      rw [hl']; exact ⟨_, rfl⟩
/-- One to one, below n. -/
structure Prm (σ : Int → Int) (n : Nat) : Prop where
  rng : ∀ k : Nat, k < n → 0 ≤ σ k ∧ σ k ≤ n - 1
  inj : ∀ i j : Nat, i < n → j < n → σ i = σ j → i = j
theorem Prm.itr {σ : Int → Int} {n : Nat} (h : Prm σ n) {a : Nat} (ha : a < n) : ∀ k, ∃ m : Nat, m < n ∧ itr σ k a = m
  | 0 => ⟨a, ha, rfl⟩
  | k + 1 => by
    obtain ⟨m, hm, e⟩ := Prm.itr h ha k
    obtain ⟨h0, h1⟩ := h.rng m hm
    obtain ⟨q, hq⟩ := Int.eq_ofNat_of_zero_le h0
    exact ⟨q, by omega, by simp only [Go.Sx.Ch.itr]; rw [e, hq]⟩
theorem Prm.back {σ : Int → Int} {n : Nat} (h : Prm σ n) {a : Nat} (ha : a < n) : ∀ i j, i < j → Go.Sx.Ch.itr σ i a = Go.Sx.Ch.itr σ j a → Go.Sx.Ch.itr σ (j - i) a = a
  | 0, j, _, e => e.symm
  | i + 1, j, hij, e => by
    obtain ⟨j, rfl⟩ : ∃ j', j = j' + 1 := ⟨j - 1, by omega⟩
    obtain ⟨m, hm, em⟩ := h.itr ha i
    obtain ⟨q, hq, eq⟩ := h.itr ha j
    simp only [Go.Sx.Ch.itr] at e
    rw [em, eq] at e
    have hmq := h.inj m q hm hq e
    have : j + 1 - (i + 1) = j - i := by omega
    rw [this]
    exact Prm.back h ha i j (by omega) (by rw [em, eq, hmq])
theorem Prm.ok {σ : Int → Int} {n : Nat} (h : Prm σ n) (hn : n ≤ 16) : okS σ n = true := by
  refine okS_iff.2 ⟨hn, fun k hk => ⟨h.rng k hk, ?_⟩⟩
  obtain ⟨i, j, hij, hj, e⟩ := ph n (fun t => (Go.Sx.Ch.itr σ t k).toNat) (fun t _ => by
    obtain ⟨m, hm, em⟩ := h.itr hk t
    simp only [em, Int.toNat_natCast]; exact hm)
  obtain ⟨m, hm, em⟩ := h.itr hk i
  obtain ⟨q, hq, eq⟩ := h.itr hk j
  simp only [em, eq, Int.toNat_natCast] at e
  have hb := h.back hk i j hij (by rw [em, eq, e])
  exact orb_of (f := 16) (i := 0) ⟨j - i, by omega, by omega, hb⟩
end Go.Sx.Ch
namespace Go.Sx.Ch
open Go Go.Sx Go.Proofs

theorem scanL_nodup {n : Int} : ∀ {seen l : List Int}, scanL n seen l = 0 → l.Nodup ∧ ∀ x ∈ l, x ∉ seen
  | seen, [], _ => ⟨List.nodup_nil, fun x hx => by cases hx⟩
  | seen, e :: l, h => by
    simp only [scanL] at h
    split at h
    · cases h
    · split at h
      · cases h
      · rename_i hs
        obtain ⟨h1, h2⟩ := scanL_nodup h
        refine ⟨List.nodup_cons.2 ⟨fun hm => (h2 e hm) (by simp), h1⟩, fun x hx => ?_⟩
        rcases List.mem_cons.1 hx with rfl | hx
        · exact hs
        · exact fun hm => (h2 x hx) (List.mem_append_left _ hm)
theorem scanM_nodup {n : Int} : ∀ {seen : List Int} {L : List (List Int)}, scanM n seen L = 0 → L.flatten.Nodup ∧ ∀ x ∈ L.flatten, x ∉ seen
  | seen, [], _ => ⟨List.nodup_nil, fun x hx => by cases hx⟩
  | seen, l :: L, h => by
    simp only [scanM] at h
    split at h
    · cases h
    · split at h
      · rename_i h0
        obtain ⟨h1, h2⟩ := scanL_nodup h0
        obtain ⟨h3, h4⟩ := scanM_nodup h
        rw [List.flatten_cons]
        refine ⟨List.nodup_append.2 ⟨h1, h3, fun x hx y hy e => ?_⟩, fun x hx => ?_⟩
        · subst e; exact (h4 x hy) (List.mem_append_right _ hx)
        · rcases List.mem_append.1 hx with hx | hx
          · exact h2 x hx
          · exact fun hm => (h4 x hx) (List.mem_append_left _ hm)
      · rename_i h0; exact absurd h h0
theorem nd_inj {l : List Int} (h : l.Nodup) {i j : Nat} {x : Int} (hi : l[i]? = some x) (hj : l[j]? = some x) : i = j := by
  obtain ⟨h1, e1⟩ := List.getElem?_eq_some_iff.1 hi
  obtain ⟨h2, e2⟩ := List.getElem?_eq_some_iff.1 hj
  have hp := List.pairwise_iff_getElem.1 h
  rcases Nat.lt_trichotomy i j with hlt | rfl | hlt
  · exact absurd (e1.trans e2.symm) (hp i j h1 h2 hlt)
  · rfl
  · exact absurd (e2.trans e1.symm) (hp j i h2 h1 hlt)
theorem tabI_ne {l C : List Int} {m : Nat} {k : Nat} (hl : in16 l = true) (hk : k < l.length) (hm : m < 16) (hne : l[k]? ≠ some (m : Int)) : (tabI l C k).getD (1 + m) 0 = C.getD (1 + m) 0 := by
  obtain ⟨q, hq, h1, h2⟩ := in16_get hl hk
  simp only [tabI, h2, Int.toNat_natCast]
  have hqm : q ≠ m := fun e => hne (by rw [h1, e])
  rw [getD_set_ne (by omega), getD_set_ne (by omega)]
theorem tabE_skip {l C : List Int} {m : Nat} (hl : in16 l = true) (hm : m < 16) (hnot : (m : Int) ∉ l) : ∀ j, j ≤ l.length → ((List.range j).foldl (tabI l) C).getD (1 + m) 0 = C.getD (1 + m) 0
  | 0, _ => rfl
  | j + 1, hj => by
    rw [List.range_succ, List.foldl_append]
    simp only [List.foldl_cons, List.foldl_nil]
    rw [tabI_ne hl (by omega) hm (fun e => hnot (List.mem_of_getElem? e))]
    exact tabE_skip hl hm hnot j (by omega)
theorem tabE_after {l C : List Int} {m k : Nat} (hl : in16 l = true) (hnd : l.Nodup) (hC : C.length = 34) (hm : m < 16) (hk : k < l.length) (hkm : l[k]? = some (m : Int)) :
    ∀ j, j ≤ l.length → k < j → ((List.range j).foldl (tabI l) C).getD (1 + m) 0 = l.getD ((k + 1) % l.length) 0
  | 0, _, h => by omega
  | j + 1, hj, hkj => by
    rw [List.range_succ, List.foldl_append]
    simp only [List.foldl_cons, List.foldl_nil]
    by_cases e : j = k
    · subst e
      have hg : l.getD j 0 = (m : Int) := by rw [List.getD_eq_getElem?_getD, hkm]; rfl
      simp only [tabI, hg, Int.toNat_natCast]
      rw [getD_set_ne (by omega), getD_set_eq (by rw [tabE_len]; omega)]
    · rw [tabI_ne hl (by omega) hm (fun h => e ?_)]
      · exact tabE_after hl hnd hC hm hk hkm j (by omega) (by omega)
      · exact nd_inj hnd h hkm
theorem tabL_skip {l C : List Int} {m : Nat} (hl : in16 l = true) (hm : m < 16) (hnot : (m : Int) ∉ l) : (tabL C l).getD (1 + m) 0 = C.getD (1 + m) 0 := by
  unfold tabL
  split
  · rfl
  · rw [getD_set_ne (by omega), getD_set_ne (by omega)]
    exact tabE_skip hl hm hnot _ (Nat.le_refl _)
theorem tabL_after {l C : List Int} {m k : Nat} (hl : in16 l = true) (hnd : l.Nodup) (hC : C.length = 34) (hm : m < 16) (hk : k < l.length) (hkm : l[k]? = some (m : Int)) : (tabL C l).getD (1 + m) 0 = l.getD ((k + 1) % l.length) 0 := by
  unfold tabL
  rw [if_neg (by omega), getD_set_ne (by omega), getD_set_ne (by omega)]
  exact tabE_after hl hnd hC hm hk hkm _ (Nat.le_refl _) hk
theorem tabs_skip {m : Nat} (hm : m < 16) : ∀ {B : List (List Int)} {C : List Int}, B.all in16 = true → (m : Int) ∉ B.flatten → (B.foldl tabL C).getD (1 + m) 0 = C.getD (1 + m) 0
  | [], C, _, _ => rfl
  | l :: B, C, h, hn => by
    simp only [List.all_cons, Bool.and_eq_true] at h
    rw [List.flatten_cons, List.mem_append, not_or] at hn
    simp only [List.foldl_cons]
    rw [tabs_skip hm h.2 hn.2, tabL_skip h.1 hm hn.1]
/-- What comes after the end at place k of a list. -/
theorem tabF_after {G : List (List Int)} {l : List Int} {k m : Nat} (h16 : G.all in16 = true) (hnd : G.flatten.Nodup) (hl : l ∈ G) (hk : k < l.length) (hkm : l[k]? = some (m : Int)) : afterC (tabF G) m = l.getD ((k + 1) % l.length) 0 := by
  obtain ⟨A, B, rfl⟩ := List.append_of_mem hl
  have hA : A.all in16 = true := List.all_eq_true.2 fun x hx => List.all_eq_true.1 h16 x (by simp [hx])
  have hB : B.all in16 = true := List.all_eq_true.2 fun x hx => List.all_eq_true.1 h16 x (by simp [hx])
  have hll : in16 l = true := List.all_eq_true.1 h16 l hl
  rw [List.flatten_append, List.flatten_cons] at hnd
  obtain ⟨-, h2, -⟩ := List.nodup_append.1 hnd
  obtain ⟨h3, -, h5⟩ := List.nodup_append.1 h2
  have hmem : (m : Int) ∈ l := List.mem_of_getElem? hkm
  have hm : m < 16 := by
    obtain ⟨q, hq, h1, -⟩ := in16_get hll hk
    rw [hkm] at h1; simp at h1; omega
  have e : tabF (A ++ l :: B) = B.foldl tabL (tabL (tabF A) l) := by simp [tabF, List.foldl_append]
  unfold afterC
  rw [e, Int.toNat_natCast, tabs_skip hm hB (fun h => h5 _ hmem _ h rfl)]
  exact tabL_after hll h3 (tabF_facts hA).1 hm hk hkm
end Go.Sx.Ch
namespace Go.Sx.Ch
open Go Go.Sx Go.Proofs

/-- The lists hold each end below n just once. -/
structure Cov (G : List (List Int)) (n : Nat) : Prop where
  nd : G.flatten.Nodup
  rng : ∀ x ∈ G.flatten, 0 ≤ x ∧ x < n
  len : total G = n
  le : n ≤ 16
theorem total_flatten (G : List (List Int)) : G.flatten.length = total G := by simp [total, List.length_flatten]
theorem Cov.h16 {G n} (h : Cov G n) : G.all in16 = true := List.all_eq_true.2 fun l hl => List.all_eq_true.2 fun x hx => by
  have := h.rng x (List.mem_flatten.2 ⟨l, hl, hx⟩)
  have := h.le
  exact within_iff.2 ⟨by omega, by omega⟩
theorem Cov.cover {G n} (h : Cov G n) {m : Nat} (hm : m < n) : (m : Int) ∈ G.flatten := by
  apply Classical.byContradiction
  intro hno
  have hS : G.flatten.length = n := by rw [total_flatten, h.len]
  obtain ⟨i, j, hij, hj, e⟩ := ph n (fun i => if hi : i < G.flatten.length then (G.flatten[i]).toNat else m) (fun i hi => by
    by_cases hh : i < G.flatten.length
    · simp only [dif_pos hh]
      have := h.rng _ (List.getElem_mem hh)
      omega
    · simp only [dif_neg hh]; exact hm)
  have hi : i < G.flatten.length := by omega
  have ri := h.rng _ (List.getElem_mem hi)
  by_cases hj' : j < G.flatten.length
  · have rj := h.rng _ (List.getElem_mem hj')
    simp only [dif_pos hi, dif_pos hj'] at e
    have e2 : G.flatten[i] = G.flatten[j] := by omega
    have := nd_inj h.nd (List.getElem?_eq_getElem hi) (by rw [List.getElem?_eq_getElem hj', e2])
    omega
  · simp only [dif_pos hi, dif_neg hj'] at e
    have e2 : G.flatten[i] = (m : Int) := by omega
    exact hno (e2 ▸ List.getElem_mem hi)
theorem Cov.place {G n} (h : Cov G n) {m : Nat} (hm : m < n) : ∃ l k, l ∈ G ∧ k < l.length ∧ l[k]? = some (m : Int) := by
  obtain ⟨l, hl, hx⟩ := List.mem_flatten.1 (h.cover hm)
  obtain ⟨k, hk, e⟩ := List.getElem_of_mem hx
  exact ⟨l, k, hl, hk, by rw [List.getElem?_eq_getElem hk, e]⟩
theorem Cov.ndl {G n} (h : Cov G n) {l} (hl : l ∈ G) : l.Nodup := by
  obtain ⟨A, B, rfl⟩ := List.append_of_mem hl
  have hnd := h.nd
  rw [List.flatten_append, List.flatten_cons] at hnd
  obtain ⟨-, h2, -⟩ := List.nodup_append.1 hnd
  exact (List.nodup_append.1 h2).1
theorem Cov.same {G n} (h : Cov G n) {l l'} (hl : l ∈ G) (hl' : l' ∈ G) {x : Int} (hx : x ∈ l) (hx' : x ∈ l') : l = l' := by
  obtain ⟨A, B, rfl⟩ := List.append_of_mem hl
  have hnd := h.nd
  rw [List.flatten_append, List.flatten_cons] at hnd
  obtain ⟨-, h2, h3⟩ := List.nodup_append.1 hnd
  obtain ⟨-, -, h5⟩ := List.nodup_append.1 h2
  rcases List.mem_append.1 hl' with ha | hb
  · exact absurd rfl (h3 x (List.mem_flatten.2 ⟨l', ha, hx'⟩) x (List.mem_append_left _ hx))
  · rcases List.mem_cons.1 hb with rfl | hb
    · rfl
    · exact absurd rfl (h5 x hx x (List.mem_flatten.2 ⟨l', hb, hx'⟩))
/-- The next end of a list. -/
theorem next_get {l : List Int} {k : Nat} (hk : k < l.length) : (k + 1) % l.length < l.length ∧ ∃ x, l[(k + 1) % l.length]? = some x ∧ l.getD ((k + 1) % l.length) 0 = x ∧ x ∈ l := by
  have hq : (k + 1) % l.length < l.length := Nat.mod_lt _ (by omega)
  exact ⟨hq, l[(k + 1) % l.length], List.getElem?_eq_getElem hq, by rw [List.getD_eq_getElem?_getD, List.getElem?_eq_getElem hq]; rfl, List.getElem_mem hq⟩
theorem succ_mod_inj {n i j : Nat} (hi : i < n) (hj : j < n) (h : (i + 1) % n = (j + 1) % n) : i = j := by
  rcases Nat.lt_or_ge (i + 1) n with h1 | h1
  · rcases Nat.lt_or_ge (j + 1) n with h2 | h2
    · rw [Nat.mod_eq_of_lt h1, Nat.mod_eq_of_lt h2] at h; omega
    · have : j + 1 = n := by omega
      rw [Nat.mod_eq_of_lt h1, this, Nat.mod_self] at h; omega
  · have e1 : i + 1 = n := by omega
    rcases Nat.lt_or_ge (j + 1) n with h2 | h2
    · rw [e1, Nat.mod_self, Nat.mod_eq_of_lt h2] at h; omega
    · omega
theorem Cov.after {G n} (h : Cov G n) {l : List Int} {k m : Nat} (hl : l ∈ G) (hk : k < l.length) (hkm : l[k]? = some (m : Int)) : afterC (tabF G) m = l.getD ((k + 1) % l.length) 0 :=
  tabF_after h.h16 h.nd hl hk hkm
/-- What comes after is one to one. -/
theorem Cov.prm {G n} (h : Cov G n) : Prm (afterC (tabF G)) n := by
  refine ⟨fun a ha => ?_, fun a b ha hb e => ?_⟩
  · obtain ⟨l, k, hl, hk, hkm⟩ := h.place ha
    obtain ⟨-, x, -, e2, e3⟩ := next_get hk
    rw [h.after hl hk hkm, e2]
    have := h.rng x (List.mem_flatten.2 ⟨l, hl, e3⟩)
    omega
  · obtain ⟨l, k, hl, hk, hkm⟩ := h.place ha
    obtain ⟨l', k', hl', hk', hkm'⟩ := h.place hb
    rw [h.after hl hk hkm, h.after hl' hk' hkm'] at e
    obtain ⟨-, x, e1, e2, e3⟩ := next_get hk
    obtain ⟨-, y, f1, f2, f3⟩ := next_get hk'
    rw [e2, f2] at e
    subst e
    obtain rfl := h.same hl hl' e3 f3
    have := succ_mod_inj hk hk' (nd_inj (h.ndl hl) e1 f1)
    subst this
    rw [hkm] at hkm'
    simp at hkm'
    omega
/-- The lists of a map hold each end once. -/
theorem chk_cov {L : List (List Int)} (h : chk L = 0) : Cov L (total L) := by
  obtain ⟨h1, h2, -⟩ := chk_zero h
  refine ⟨(scanM_nodup h2).1, fun x hx => ?_, rfl, h1⟩
  obtain ⟨l, hl, hx⟩ := List.mem_flatten.1 hx
  exact (scanM_in h2 l hl).2 x hx
end Go.Sx.Ch
namespace Go.Sx.Ch
open Go Go.Sx Go.Proofs

def onat (m : Nat) : Nat := if m % 2 = 0 then m + 1 else m - 1
theorem oth_onat : ∀ m : Nat, m < 16 → othI (m : Int) = (onat m : Int) := by decide
theorem other_onat (m : Nat) : otherI (m : Int) = (onat m : Int) := by
  unfold otherI onat
  split <;> split <;> omega
theorem onat_lt {n m : Nat} (hn : n % 2 = 0) (hm : m < n) : onat m < n := by
  unfold onat; split <;> omega
theorem onat_inj {a b : Nat} (h : onat a = onat b) : a = b := by
  unfold onat at h; split at h <;> split at h <;> omega
end Go.Sx.Ch
