/- Tidy lists are the lists that the step leads around. No conditions. -/
import Derived.Test.YtfiebjbhiflfpaaDoorSxJDKtoDM
set_option linter.unusedVariables false
set_option linter.unusedSimpArgs false
namespace Go.Sx.Ch
open Go Go.Sx Go.Proofs

theorem bstN_min (l : List Int) : ∀ n i, i < n → l.getD (bstN l n) 0 ≤ l.getD i 0
  | 0, i, h => by omega
  | n + 1, i, h => by
    rw [bstN_succ]; unfold bstI
    rcases Nat.lt_or_ge i n with hi | hi
    · have := bstN_min l n i hi
      split
      · rename_i hlt; omega
      · exact this
    · obtain rfl : i = n := by omega
      split
      · exact Int.le_refl _
      · rename_i hlt; omega
/-- The smallest number of a list. -/
def hd (l : List Int) : Int := (leastF l).getD 0 0
theorem hd_facts {l : List Int} (h0 : 0 < l.length) : (leastF l)[0]? = some (hd l) ∧ hd l ∈ l ∧ ∀ x ∈ l, hd l ≤ x := by
  have hb' : bstN l l.length < l.length := by
    obtain ⟨m, hm⟩ : ∃ m, l.length = m + 1 := ⟨l.length - 1, by omega⟩
    have := bstN_lt l m
    rw [hm]; omega
  have e : (leastF l)[0]? = l[bstN l l.length]? := by rw [leastF_get h0, Nat.add_zero, Nat.mod_eq_of_lt hb']
  have e2 : l[bstN l l.length]? = some l[bstN l l.length] := List.getElem?_eq_getElem hb'
  have e3 : hd l = l[bstN l l.length] := by unfold hd; rw [List.getD_eq_getElem?_getD, e, e2]; rfl
  refine ⟨by rw [e, e2, e3], by rw [e3]; exact List.getElem_mem hb', fun x hx => ?_⟩
  obtain ⟨i, hi, rfl⟩ := List.getElem_of_mem hx
  have := bstN_min l l.length i hi
  rw [List.getD_eq_getElem?_getD, List.getD_eq_getElem?_getD, e2, List.getElem?_eq_getElem hi] at this
  rw [e3]; exact this
theorem tid_none {e : Nat} : ∀ {G acc : List (List Int)}, (∀ l ∈ G, 0 < l.length → hd l ≠ e) → G.foldl (tidI e) acc = acc
  | [], acc, _ => rfl
  | l :: G, acc, h => by
    simp only [List.foldl_cons]
    have : tidI e acc l = acc := by
      unfold tidI
      rw [if_neg]
      rintro ⟨h1, h2⟩
      exact h l List.mem_cons_self (by omega) h2
    rw [this]
    exact tid_none fun l' hl' => h l' (List.mem_cons_of_mem _ hl')
def metG (G : List (List Int)) (e m : Nat) : Bool := G.any fun l => decide ((m : Int) ∈ l) && decide (hd l < e)
theorem metG_iff {G : List (List Int)} {e m : Nat} : metG G e m = true ↔ ∃ l ∈ G, (m : Int) ∈ l ∧ hd l < e := by
  simp [metG, List.any_eq_true]
theorem tidy_cyc {G : List (List Int)} {n : Nat} (h : Cov G n) : ∀ e, e ≤ n → tidyF G e = (cycN (afterC (tabF G)) e).2 ∧ ∀ m : Nat, m < 16 → (cycN (afterC (tabF G)) e).1[m]? = some (metG G e m)
  | 0, _ => by
    refine ⟨rfl, fun m hm => ?_⟩
    have hz : metG G 0 m = false := by
      cases hh : metG G 0 m with
      | false => rfl
      | true =>
        obtain ⟨l, hl, h1, h2⟩ := metG_iff.1 hh
        have h3 := (hd_facts (List.length_pos_of_mem h1)).2.1
        have := h.rng _ (List.mem_flatten.2 ⟨l, hl, h3⟩)
        omega
    rw [show (cycN (afterC (tabF G)) 0).1 = List.replicate 16 false from rfl, List.getElem?_replicate, if_pos hm, hz]
  | e + 1, he => by
    obtain ⟨h1, h2⟩ := tidy_cyc h e (by omega)
    have hn := h.le
    obtain ⟨l, k, hl, hk, hkm⟩ := h.place (m := e) (by omega)
    have hel : (e : Int) ∈ l := List.mem_of_getElem? hkm
    have hlp : 0 < l.length := by omega
    obtain ⟨d1, d2, d3⟩ := hd_facts hlp
    have hle := d3 _ hel
    have hll : l.length ≤ 16 := by
      have := total_mem hl
      rw [h.len] at this; omega
    have only : ∀ l' ∈ G, (e : Int) ∈ l' → l' = l := fun l' hl' hx => h.same hl' hl hx hel
    have hhead : ∀ l' ∈ G, 0 < l'.length → hd l' = e → l' = l := fun l' hl' hp e1 => only l' hl' (by rw [← e1]; exact (hd_facts hp).2.1)
    have hb : (cycN (afterC (tabF G)) e).1.getD e false = metG G e e := by rw [List.getD_eq_getElem?_getD, h2 e (by omega)]; rfl
    rw [tidyF_succ, cycN_succ]
    unfold cycS
    rw [hb]
    by_cases hmu : hd l < e
    · have hmet : metG G e e = true := metG_iff.2 ⟨l, hl, hel, hmu⟩
      rw [if_pos hmet]
      refine ⟨?_, fun m hm => ?_⟩
      · unfold tidE
        rw [tid_none (fun l' hl' hp e1 => by have := hhead l' hl' hp e1; subst this; omega), h1]
      · rw [h2 m hm]
        congr 1
        rw [Bool.eq_iff_iff, metG_iff, metG_iff]
        constructor
        · rintro ⟨l', q1, q2, q3⟩; exact ⟨l', q1, q2, by omega⟩
        · rintro ⟨l', q1, q2, q3⟩
          refine ⟨l', q1, q2, ?_⟩
          apply Classical.byContradiction
          intro hno
          have := hhead l' q1 (List.length_pos_of_mem q2) (by omega)
          subst this; omega
    · have hmu' : hd l = e := by omega
      have hmet : ¬ metG G e e = true := fun hh => by
        obtain ⟨l', q1, q2, q3⟩ := metG_iff.1 hh
        have := only l' q1 q2
        subst this; omega
      rw [if_neg hmet]
      rw [hmu'] at d1
      rw [orb_least h hl hlp hll d1, Option.getD_some]
      refine ⟨?_, fun m hm => ?_⟩
      · obtain ⟨A, B, hG⟩ := List.append_of_mem hl
        have hnd := h.nd
        rw [hG, List.flatten_append, List.flatten_cons] at hnd
        obtain ⟨-, n2, n3⟩ := List.nodup_append.1 hnd
        obtain ⟨-, -, n5⟩ := List.nodup_append.1 n2
        have hA : ∀ l' ∈ A, 0 < l'.length → hd l' ≠ e := fun l' hl' hp e1 =>
          n3 e (List.mem_flatten.2 ⟨l', hl', by rw [← e1]; exact (hd_facts hp).2.1⟩) e (List.mem_append_left _ hel) rfl
        have hB : ∀ l' ∈ B, 0 < l'.length → hd l' ≠ e := fun l' hl' hp e1 =>
          n5 e hel e (List.mem_flatten.2 ⟨l', hl', by rw [← e1]; exact (hd_facts hp).2.1⟩) rfl
        unfold tidE
        rw [hG, List.foldl_append, List.foldl_cons, tid_none hA, tid_none hB, ← hG]
        unfold tidI
        rw [if_pos ⟨by omega, hmu'⟩, h1]
      · have hml : ∀ x, x ∈ leastF l ↔ x ∈ l := fun x => by
          unfold leastF
          rw [List.mem_append, or_comm, ← List.mem_append, List.take_append_drop]
        simp only
        rw [setM_get (fun x hx => (h.rng x (List.mem_flatten.2 ⟨l, hl, (hml x).1 hx⟩)).1) (h2 m hm)]
        congr 1
        rw [Bool.eq_iff_iff, Bool.or_eq_true, metG_iff, metG_iff, decide_eq_true_eq, hml]
        constructor
        · rintro (⟨l', q1, q2, q3⟩ | q)
          · exact ⟨l', q1, q2, by omega⟩
          · exact ⟨l, hl, q, by omega⟩
        · rintro ⟨l', q1, q2, q3⟩
          by_cases hlt : hd l' < e
          · exact .inl ⟨l', q1, q2, hlt⟩
          · have := hhead l' q1 (List.length_pos_of_mem q2) (by omega)
            subst this; exact .inr q2
end Go.Sx.Ch
namespace Go.Sx.Ch
open Go Go.Sx Go.Proofs

theorem orb_facts {σ : Int → Int} {a : Int} : ∀ {f : Nat} {x : Int} {l : List Int}, orb σ a f x = some l → l[0]? = some x ∧ (∀ i y z, l[i]? = some y → l[i + 1]? = some z → σ y = z) ∧ (∀ y, l[l.length - 1]? = some y → σ y = a) ∧ ∀ i, l[i + 1]? ≠ some a
  | 0, x, l, h => by cases h
  | f + 1, x, l, h => by
    simp only [orb] at h
    split at h
    · rename_i e
      cases h
      refine ⟨rfl, fun i y z _ hz => by simp at hz, fun y hy => by simp at hy; rw [← hy]; exact e, fun i => by simp⟩
    · rename_i e
      obtain ⟨r, hr, rfl⟩ := Option.map_eq_some_iff.1 h
      obtain ⟨h1, h2, h3, h4⟩ := orb_facts hr
      have hrp : 0 < r.length := by
        rcases r with _ | ⟨r0, rr⟩
        · simp at h1
        · simp
      refine ⟨rfl, fun i y z hy hz => ?_, fun y hy => ?_, fun i hi => ?_⟩
      · cases i with
        | zero =>
          simp at hy
          rw [List.getElem?_cons_succ, h1] at hz
          rw [← hy]; exact Option.some.inj hz
        | succ i => simp at hy hz; exact h2 i y z hy hz
      · refine h3 y ?_
        have : (x :: r).length - 1 = (r.length - 1) + 1 := by simp; omega
        rw [this] at hy
        simpa using hy
      · simp at hi
        cases i with
        | zero => rw [h1] at hi; cases hi; exact e rfl
        | succ i => exact h4 i hi
/-- Lists around which the step leads. -/
def Lnk (σ : Int → Int) (l : List Int) : Prop := ∀ k x, l[k]? = some x → l[(k + 1) % l.length]? = some (σ x)
theorem orb_lnk {σ : Int → Int} {a : Int} {f : Nat} {l : List Int} (h : orb σ a f a = some l) : Lnk σ l := by
  obtain ⟨h1, h2, h3, h4⟩ := orb_facts h
  intro k x hx
  have hk := (List.getElem?_eq_some_iff.1 hx).1
  rcases Nat.lt_or_ge (k + 1) l.length with hlt | hge
  · rw [Nat.mod_eq_of_lt hlt, List.getElem?_eq_getElem hlt, h2 k x _ hx (List.getElem?_eq_getElem hlt)]
  · have e : k + 1 = l.length := by omega
    rw [e, Nat.mod_self, h1]
    have : k = l.length - 1 := by omega
    rw [this] at hx
    rw [h3 x hx]
theorem orb_nodup {σ : Int → Int} {n : Nat} (h : Prm σ n) {a : Nat} (ha : a < n) {f : Nat} {l : List Int} (hl : orb σ a f a = some l) : l.Nodup := by
  obtain ⟨h1, h2, h3, h4⟩ := orb_facts hl
  have hin := orb_in h ha hl
  have key : ∀ i j : Nat, i < j → ∀ x : Int, l[i]? = some x → l[j]? ≠ some x := by
    intro i
    induction i with
    | zero =>
      intro j hj x hx hy
      rw [h1] at hx; cases hx
      obtain ⟨j, rfl⟩ : ∃ j', j = j' + 1 := ⟨j - 1, by omega⟩
      exact h4 j hy
    | succ i ih =>
      intro j hj x hx hy
      obtain ⟨j, rfl⟩ : ∃ j', j = j' + 1 := ⟨j - 1, by omega⟩
      have hi := (List.getElem?_eq_some_iff.1 hx).1
      have hj' := (List.getElem?_eq_some_iff.1 hy).1
      have g1 : l[i]? = some l[i] := List.getElem?_eq_getElem (by omega)
      have g2 : l[j]? = some l[j] := List.getElem?_eq_getElem (by omega)
      have s1 := h2 i _ x g1 hx
      have s2 := h2 j _ x g2 hy
      have r1 := hin _ (List.mem_of_getElem? g1)
      have r2 := hin _ (List.mem_of_getElem? g2)
      obtain ⟨p, hp⟩ := Int.eq_ofNat_of_zero_le r1.1
      obtain ⟨q, hq⟩ := Int.eq_ofNat_of_zero_le r2.1
      rw [hp] at s1 r1 g1
      rw [hq] at s2 r2 g2
      have := h.inj p q (by omega) (by omega) (s1.trans s2.symm)
      subst this
      exact ih j (by omega) _ g1 g2
  unfold List.Nodup
  rw [List.pairwise_iff_getElem]
  intro i j hi hj hij e
  exact key i j hij _ (List.getElem?_eq_getElem hi) (by rw [List.getElem?_eq_getElem hj, e])
/-- The ends that were met. -/
theorem fac_inv {σ : Int → Int} {n : Nat} (h : Prm σ n) (hn : n ≤ 16) : ∀ k, k ≤ n → (facN σ k).1 = (facN σ k).2.flatten ∧ (facN σ k).1.Nodup ∧ (∀ x ∈ (facN σ k).1, 0 ≤ x ∧ x < n) ∧ (∀ l ∈ (facN σ k).2, Lnk σ l) ∧ ∀ m : Nat, m < k → (m : Int) ∈ (facN σ k).1
  | 0, _ => ⟨rfl, List.nodup_nil, fun x hx => by simp [facN] at hx, fun l hl => by simp [facN] at hl, fun m hm => by omega⟩
  | k + 1, hk => by
    obtain ⟨h1, h2, h3, h4, h5⟩ := fac_inv h hn k (by omega)
    rw [facN_succ]
    unfold facS
    by_cases hmem : (k : Int) ∈ (facN σ k).1
    · rw [if_pos hmem]
      refine ⟨h1, h2, h3, h4, fun m hm => ?_⟩
      rcases Nat.lt_or_ge m k with hlt | hge
      · exact h5 m hlt
      · have : m = k := by omega
        rw [this]; exact hmem
    · rw [if_neg hmem]
      obtain ⟨-, l, hl⟩ := (okS_iff.1 (h.ok hn)).2 k (by omega)
      rw [hl, Option.getD_some]
      obtain ⟨f1, f2, f3, f4⟩ := orb_facts hl
      -- what was met is closed under the step
      have hcl : ∀ x ∈ (facN σ k).1, σ x ∈ (facN σ k).1 := fun x hx => by
        rw [h1] at hx ⊢
        obtain ⟨l', q1, q2⟩ := List.mem_flatten.1 hx
        obtain ⟨i, hi, e⟩ := List.getElem_of_mem q2
        exact List.mem_flatten.2 ⟨l', q1, List.mem_of_getElem? (h4 l' q1 i x (by rw [List.getElem?_eq_getElem hi, e]))⟩
      have hup : ∀ d i : Nat, i + d + 1 = l.length → ∀ x : Int, l[i]? = some x → x ∈ (facN σ k).1 → (k : Int) ∈ (facN σ k).1 := by
        intro d
        induction d with
        | zero =>
          intro i hi x hx hm
          have : i = l.length - 1 := by omega
          rw [this] at hx
          rw [← f3 x hx]; exact hcl x hm
        | succ d ih =>
          intro i hi x hx hm
          have hlt : i + 1 < l.length := by omega
          have g := List.getElem?_eq_getElem hlt
          exact ih (i + 1) (by omega) _ g (by rw [← f2 i x _ hx g]; exact hcl x hm)
      have hdis : ∀ x ∈ l, x ∉ (facN σ k).1 := fun x hx hm => by
        obtain ⟨i, hi, e⟩ := List.getElem_of_mem hx
        exact hmem (hup (l.length - 1 - i) i (by omega) x (by rw [List.getElem?_eq_getElem hi, e]) hm)
      refine ⟨by simp [h1], List.nodup_append.2 ⟨h2, orb_nodup h (by omega) hl, fun x hx y hy e => hdis y hy (e ▸ hx)⟩, fun x hx => ?_, fun l' hl' => ?_, fun m hm => ?_⟩
      · rcases List.mem_append.1 hx with hx | hx
        · exact h3 x hx
        · exact orb_in h (by omega) hl x hx
      · rcases List.mem_append.1 hl' with q | q
        · exact h4 l' q
        · simp at q; rw [q]; exact orb_lnk hl
      · rcases Nat.lt_or_ge m k with hlt | hge
        · exact List.mem_append_left _ (h5 m hlt)
        · have : m = k := by omega
          rw [this]; exact List.mem_append_right _ (List.mem_of_getElem? f1)
end Go.Sx.Ch
