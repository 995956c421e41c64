/- Tidy lists are the lists that the step leads around. No conditions. -/
import Derived.Test.YtfiebjbhiflfpaaDoorSxJDKtoDM
import Derived.Test.YtfiebjbhiflfpaaDoorSxJCXtoDA
set_option linter.unusedVariables false
set_option linter.unusedSimpArgs false
namespace Go.Sx.Ch
open Go Go.Sx Go.Proofs

theorem bstN_min (l : List Int) : ∀ n i, i < n → l.getD (bstN l n) 0 ≤ l.getD i 0
  | 0, i, h => by omega
  | n + 1, i, h => by
    rw [bstN_succ]; unfold bstI
    rcases Nat.lt_or_ge i n with hi | hi
    · have := bstN_min l n i hi
      split
      · rename_i hlt; omega
      · exact this
    · obtain rfl : i = n := by omega
      split
      · exact Int.le_refl _
      · rename_i hlt; omega
/-- The smallest number of a list. -/
def hd (l : List Int) : Int := (leastF l).getD 0 0
theorem hd_facts {l : List Int} (h0 : 0 < l.length) : (leastF l)[0]? = some (hd l) ∧ hd l ∈ l ∧ ∀ x ∈ l, hd l ≤ x := by
  have hb' : bstN l l.length < l.length := by
    obtain ⟨m, hm⟩ : ∃ m, l.length = m + 1 := ⟨l.length - 1, by omega⟩
    have := bstN_lt l m
    rw [hm]; omega
  have e : (leastF l)[0]? = l[bstN l l.length]? := by rw [leastF_get h0, Nat.add_zero, Nat.mod_eq_of_lt hb']
  have e2 : l[bstN l l.length]? = some l[bstN l l.length] := List.getElem?_eq_getElem hb'
  have e3 : hd l = l[bstN l l.length] := by unfold hd; rw [List.getD_eq_getElem?_getD, e, e2]; rfl
  refine ⟨by rw [e, e2, e3], by rw [e3]; exact List.getElem_mem hb', fun x hx => ?_⟩
  obtain ⟨i, hi, rfl⟩ := List.getElem_of_mem hx
  have := bstN_min l l.length i hi
  rw [List.getD_eq_getElem?_getD, List.getD_eq_getElem?_getD, e2, List.getElem?_eq_getElem hi] at this
  rw [e3]; exact this
theorem tid_none {e : Nat} : ∀ {G acc : List (List Int)}, (∀ l ∈ G, 0 < l.length → hd l ≠ e) → G.foldl (tidI e) acc = acc
  | [], acc, _ => rfl
  | l :: G, acc, h => by
    simp only [List.foldl_cons]
    have : tidI e acc l = acc := by
      unfold tidI
      rw [if_neg]
      rintro ⟨h1, h2⟩
      exact h l List.mem_cons_self (by omega) h2
    rw [this]
    exact tid_none fun l' hl' => h l' (List.mem_cons_of_mem _ hl')
def metG (G : List (List Int)) (e m : Nat) : Bool := G.any fun l => decide ((m : Int) ∈ l) && decide (hd l < e)
theorem metG_iff {G : List (List Int)} {e m : Nat} : metG G e m = true ↔ ∃ l ∈ G, (m : Int) ∈ l ∧ hd l < e := by
  simp [metG, List.any_eq_true]
theorem tidy_cyc {G : List (List Int)} {n : Nat} (h : Cov G n) : ∀ e, e ≤ n → tidyF G e = (cycN (afterC (tabF G)) e).2 ∧ ∀ m : Nat, m < 16 → (cycN (afterC (tabF G)) e).1[m]? = some (metG G e m)
  | 0, _ => by
    refine ⟨rfl, fun m hm => ?_⟩
    have hz : metG G 0 m = false := by
      cases hh : metG G 0 m with
      | false => rfl
      | true =>
        obtain ⟨l, hl, h1, h2⟩ := metG_iff.1 hh
        have h3 := (hd_facts (List.length_pos_of_mem h1)).2.1
        have := h.rng _ (List.mem_flatten.2 ⟨l, hl, h3⟩)
        omega
    rw [show (cycN (afterC (tabF G)) 0).1 = List.replicate 16 false from rfl, List.getElem?_replicate, if_pos hm, hz]
  | e + 1, he => by
    obtain ⟨h1, h2⟩ := tidy_cyc h e (by omega)
    have hn := h.le
    obtain ⟨l, k, hl, hk, hkm⟩ := h.place (m := e) (by omega)
    have hel : (e : Int) ∈ l := List.mem_of_getElem? hkm
    have hlp : 0 < l.length := by omega
    obtain ⟨d1, d2, d3⟩ := hd_facts hlp
    have hle := d3 _ hel
    have hll : l.length ≤ 16 := by
      have := total_mem hl
      rw [h.len] at this; omega
    have only : ∀ l' ∈ G, (e : Int) ∈ l' → l' = l := fun l' hl' hx => h.same hl' hl hx hel
    have hhead : ∀ l' ∈ G, 0 < l'.length → hd l' = e → l' = l := fun l' hl' hp e1 => only l' hl' (by rw [← e1]; exact (hd_facts hp).2.1)
    have hb : (cycN (afterC (tabF G)) e).1.getD e false = metG G e e := by rw [List.getD_eq_getElem?_getD, h2 e (by omega)]; rfl
    rw [tidyF_succ, cycN_succ]
    unfold cycS
    rw [hb]
    by_cases hmu : hd l < e
    · have hmet : metG G e e = true := metG_iff.2 ⟨l, hl, hel, hmu⟩
      rw [if_pos hmet]
      refine ⟨?_, fun m hm => ?_⟩
      · unfold tidE
        rw [tid_none (fun l' hl' hp e1 => by have := hhead l' hl' hp e1; subst this; omega), h1]
      · rw [h2 m hm]
        congr 1
        rw [Bool.eq_iff_iff, metG_iff, metG_iff]
        constructor
        · rintro ⟨l', q1, q2, q3⟩; exact ⟨l', q1, q2, by omega⟩
        · rintro ⟨l', q1, q2, q3⟩
          refine ⟨l', q1, q2, ?_⟩
          apply Classical.byContradiction
          intro hno
          have := hhead l' q1 (List.length_pos_of_mem q2) (by omega)
          subst this; omega
    · have hmu' : hd l = e := by omega
      have hmet : ¬ metG G e e = true := fun hh => by
        obtain ⟨l', q1, q2, q3⟩ := metG_iff.1 hh
        have := only l' q1 q2
        subst this; omega
      rw [if_neg hmet]
      rw [hmu'] at d1
      rw [orb_least h hl hlp hll d1, Option.getD_some]
      refine ⟨?_, fun m hm => ?_⟩
      · obtain ⟨A, B, hG⟩ := List.append_of_mem hl
        have hnd := h.nd
        rw [hG, List.flatten_append, List.flatten_cons] at hnd
        obtain ⟨-, n2, n3⟩ := List.nodup_append.1 hnd
        obtain ⟨-, -, n5⟩ := List.nodup_append.1 n2
        have hA : ∀ l' ∈ A, 0 < l'.length → hd l' ≠ e := fun l' hl' hp e1 =>
          n3 e (List.mem_flatten.2 ⟨l', hl', by rw [← e1]; exact (hd_facts hp).2.1⟩) e (List.mem_append_left _ hel) rfl
        have hB : ∀ l' ∈ B, 0 < l'.length → hd l' ≠ e := fun l' hl' hp e1 =>
          n5 e hel e (List.mem_flatten.2 ⟨l', hl', by rw [← e1]; exact (hd_facts hp).2.1⟩) rfl
        unfold tidE
        rw [hG, List.foldl_append, List.foldl_cons, tid_none hA, tid_none hB, ← hG]
        unfold tidI
        rw [if_pos ⟨by omega, hmu'⟩, h1]
      · have hml : ∀ x, x ∈ leastF l ↔ x ∈ l := fun x => by
          unfold leastF
          rw [List.mem_append, or_comm, ← List.mem_append, List.take_append_drop]
        simp only
        rw [setM_get (fun x hx => (h.rng x (List.mem_flatten.2 ⟨l, hl, (hml x).1 hx⟩)).1) (h2 m hm)]
        congr 1
        rw [Bool.eq_iff_iff, Bool.or_eq_true, metG_iff, metG_iff, decide_eq_true_eq, hml]
        constructor
        · rintro (⟨l', q1, q2, q3⟩ | q)
          · exact ⟨l', q1, q2, by omega⟩
          · exact ⟨l, hl, q, by omega⟩
        · rintro ⟨l', q1, q2, q3⟩
          by_cases hlt : hd l' < e
          · exact .inl ⟨l', q1, q2, hlt⟩
          · have := hhead l' q1 (List.length_pos_of_mem q2) (by omega)
            subst this; exact .inr q2
end Go.Sx.Ch
namespace Go.Sx.Ch
open Go Go.Sx Go.Proofs

theorem total_rev (G : List (List Int)) : total (revL G) = total G := by simp [total, revL, Function.comp_def]
theorem mem_rev {G : List (List Int)} {x : Int} : x ∈ (revL G).flatten ↔ x ∈ G.flatten := by
  simp only [revL, List.mem_flatten, List.mem_map]
  constructor
  · rintro ⟨l, ⟨a, ha, rfl⟩, hx⟩; exact ⟨a, ha, List.mem_reverse.1 hx⟩
  · rintro ⟨l, hl, hx⟩; exact ⟨l.reverse, ⟨l, hl, rfl⟩, List.mem_reverse.2 hx⟩
theorem nd_rev {l : List Int} (h : l.Nodup) : l.reverse.Nodup := by
  unfold List.Nodup at *
  rw [List.pairwise_reverse]
  exact h.imp fun h => Ne.symm h
theorem nodup_rev : ∀ {G : List (List Int)}, G.flatten.Nodup → (revL G).flatten.Nodup
  | [], h => h
  | l :: G, h => by
    rw [List.flatten_cons] at h
    obtain ⟨h1, h2, h3⟩ := List.nodup_append.1 h
    show ((l.reverse) :: revL G).flatten.Nodup
    rw [List.flatten_cons]
    refine List.nodup_append.2 ⟨nd_rev h1, nodup_rev h2, fun x hx y hy => h3 x (by simpa using hx) y (mem_rev.1 hy)⟩
theorem Cov.rev {G n} (h : Cov G n) : Cov (revL G) n :=
  ⟨nodup_rev h.nd, fun x hx => h.rng x (mem_rev.1 hx), by rw [total_rev, h.len], h.le⟩
theorem befN_get {C : List Int} {n : Nat} (h : Prm (afterC C) n) (hn : n ≤ 16) : ∀ j, j ≤ n → ∀ k, k < j → (befN C j).getD (afterC C k).toNat 0 = k
  | 0, _, k, hk => by omega
  | j + 1, hj, k, hk => by
    rw [befN_succ]
    have r1 := h.rng j (by omega)
    have r2 := h.rng k (by omega)
    by_cases e : k = j
    · subst e; rw [getD_set_eq (by rw [befN_len]; omega)]
    · have hne : (afterC C j).toNat ≠ (afterC C k).toNat := fun he => e (h.inj k j (by omega) (by omega) (by omega))
      rw [getD_set_ne hne]
      exact befN_get h hn j (by omega) k (by omega)
theorem Cov.back {G n} (h : Cov G n) {m : Nat} (hm : m < n) : backC (befN (tabF G) n) m = afterC (tabF (revL G)) m := by
  obtain ⟨l, k, hl, hk, hkm⟩ := h.place hm
  have hlr : l.reverse ∈ revL G := List.mem_map.2 ⟨l, hl, rfl⟩
  have hlen : l.reverse.length = l.length := List.length_reverse
  -- the place before
  obtain ⟨p, hp, hpk⟩ : ∃ p, p < l.length ∧ (p + 1) % l.length = k := by
    cases k with
    | zero => exact ⟨l.length - 1, by omega, by rw [show l.length - 1 + 1 = l.length by omega, Nat.mod_self]⟩
    | succ k => exact ⟨k, by omega, Nat.mod_eq_of_lt hk⟩
  have hpm : l[p]? = some l[p] := List.getElem?_eq_getElem hp
  have hr := h.rng l[p] (List.mem_flatten.2 ⟨l, hl, List.getElem_mem hp⟩)
  obtain ⟨q, hq⟩ := Int.eq_ofNat_of_zero_le hr.1
  rw [hq] at hpm hr
  have ha := h.after hl hp hpm
  rw [hpk, List.getD_eq_getElem?_getD, hkm, Option.getD_some] at ha
  have hb := befN_get h.prm h.le n (Nat.le_refl _) q (by omega)
  rw [ha, Int.toNat_natCast] at hb
  have hk' : l.length - 1 - k < l.reverse.length := by omega
  have hrk : l.reverse[l.length - 1 - k]? = some (m : Int) := by
    rw [List.getElem?_reverse (by omega), ← hkm]; congr 1; omega
  rw [h.rev.after hlr hk' hrk]
  unfold backC
  rw [Int.toNat_natCast, hb, hlen, List.getD_eq_getElem?_getD]
  have hidx : (l.length - 1 - k + 1) % l.length = l.length - 1 - p := by
    rcases Nat.lt_or_ge (p + 1) l.length with h1 | h1
    · rw [Nat.mod_eq_of_lt h1] at hpk
      rw [Nat.mod_eq_of_lt (by omega)]; omega
    · have e1 : p + 1 = l.length := by omega
      rw [e1, Nat.mod_self] at hpk
      rw [show l.length - 1 - k + 1 = l.length by omega, Nat.mod_self]; omega
  rw [hidx, List.getElem?_reverse (by omega), show l.length - 1 - (l.length - 1 - p) = p by omega, hpm]
  rfl
theorem cycN_congr {σ τ : Int → Int} {n : Nat} (h : Prm σ n) (e : ∀ m : Nat, m < n → τ m = σ m) : ∀ k, k ≤ n → cycN τ k = cycN σ k
  | 0, _ => rfl
  | k + 1, hk => by
    rw [cycN_succ, cycN_succ, cycN_congr h e k (by omega)]
    unfold cycS
    rw [orb_congr h e 16 k (by omega)]
theorem back_eq {L : List (List Int)} (hc : chk L = 0) : tidyF (revL L) (total L) = backL L := by
  have h := chk_cov hc
  unfold backL cyc
  rw [if_pos hc, cycN_congr h.rev.prm (fun m hm => h.back hm) _ (Nat.le_refl _), (tidy_cyc h.rev _ (Nat.le_refl _)).1]
theorem smM_rev {L : List (List Int)} (hs : smM L = true) : smM (revL L) = true := by
  simp only [smM, Bool.and_eq_true, decide_eq_true_eq] at hs ⊢
  rw [total_rev]; simp only [revL, List.length_map]; exact hs
theorem g20_ok {L : List (List Int)} (hs : smM L = true) : g20 L = true := by
  simp only [g20, g64, Bool.and_eq_true, Bool.or_eq_true, decide_eq_true_eq]
  refine ⟨hs, ?_⟩
  by_cases hc : chk L = 0
  · have := (chk_zero hc).1
    exact .inr ⟨smM_rev hs, within_iff.2 ⟨by omega, by omega⟩⟩
  · exact .inl hc
theorem g19_ok {L : List (List Int)} (hs : smM L = true) : g19 L = true := by
  simp only [g19, Bool.and_eq_true, Bool.or_eq_true, decide_eq_true_eq, List.all_eq_true, List.mem_range]
  refine ⟨hs, ?_⟩
  by_cases hc : chk L = 0
  · have h := chk_cov hc
    have hn := (chk_zero hc).1
    refine .inr ⟨fun k hk => ?_, (h.rev.prm.congr (fun m hm => h.back hm)).ok hn⟩
    have := h.prm.rng k hk
    exact within_iff.2 ⟨by omega, by omega⟩
  · exact .inl hc
end Go.Sx.Ch
namespace Go.Sx.Ch
open Go Go.Sx Go.Proofs

theorem orb_facts {σ : Int → Int} {a : Int} : ∀ {f : Nat} {x : Int} {l : List Int}, orb σ a f x = some l → l[0]? = some x ∧ (∀ i y z, l[i]? = some y → l[i + 1]? = some z → σ y = z) ∧ (∀ y, l[l.length - 1]? = some y → σ y = a) ∧ ∀ i, l[i + 1]? ≠ some a
  | 0, x, l, h => by cases h
  | f + 1, x, l, h => by
    simp only [orb] at h
    split at h
    · rename_i e
      cases h
      refine ⟨rfl, fun i y z _ hz => by simp at hz, fun y hy => by simp at hy; rw [← hy]; exact e, fun i => by simp⟩
    · rename_i e
      obtain ⟨r, hr, rfl⟩ := Option.map_eq_some_iff.1 h
      obtain ⟨h1, h2, h3, h4⟩ := orb_facts hr
      have hrp : 0 < r.length := by
        rcases r with _ | ⟨r0, rr⟩
        · simp at h1
        · simp
      refine ⟨rfl, fun i y z hy hz => ?_, fun y hy => ?_, fun i hi => ?_⟩
      · cases i with
        | zero =>
          simp at hy
          rw [List.getElem?_cons_succ, h1] at hz
          rw [← hy]; exact Option.some.inj hz
        | succ i => simp at hy hz; exact h2 i y z hy hz
      · refine h3 y ?_
        have : (x :: r).length - 1 = (r.length - 1) + 1 := by simp; omega
        rw [this] at hy
        simpa using hy
      · simp at hi
        cases i with
        | zero => rw [h1] at hi; cases hi; exact e rfl
        | succ i => exact h4 i hi
/-- Lists around which the step leads. -/
def Lnk (σ : Int → Int) (l : List Int) : Prop := ∀ k x, l[k]? = some x → l[(k + 1) % l.length]? = some (σ x)
theorem orb_lnk {σ : Int → Int} {a : Int} {f : Nat} {l : List Int} (h : orb σ a f a = some l) : Lnk σ l := by
  obtain ⟨h1, h2, h3, h4⟩ := orb_facts h
  intro k x hx
  have hk := (List.getElem?_eq_some_iff.1 hx).1
  rcases Nat.lt_or_ge (k + 1) l.length with hlt | hge
  · rw [Nat.mod_eq_of_lt hlt, List.getElem?_eq_getElem hlt, h2 k x _ hx (List.getElem?_eq_getElem hlt)]
  · have e : k + 1 = l.length := by omega
    rw [e, Nat.mod_self, h1]
    have : k = l.length - 1 := by omega
    rw [this] at hx
    rw [h3 x hx]
theorem orb_nodup {σ : Int → Int} {n : Nat} (h : Prm σ n) {a : Nat} (ha : a < n) {f : Nat} {l : List Int} (hl : orb σ a f a = some l) : l.Nodup := by
  obtain ⟨h1, h2, h3, h4⟩ := orb_facts hl
  have hin := orb_in h ha hl
  have key : ∀ i j : Nat, i < j → ∀ x : Int, l[i]? = some x → l[j]? ≠ some x := by
    intro i
    induction i with
    | zero =>
      intro j hj x hx hy
      rw [h1] at hx; cases hx
      obtain ⟨j, rfl⟩ : ∃ j', j = j' + 1 := ⟨j - 1, by omega⟩
      exact h4 j hy
    | succ i ih =>
      intro j hj x hx hy
      obtain ⟨j, rfl⟩ : ∃ j', j = j' + 1 := ⟨j - 1, by omega⟩
      have hi := (List.getElem?_eq_some_iff.1 hx).1
      have hj' := (List.getElem?_eq_some_iff.1 hy).1
      have g1 : l[i]? = some l[i] := List.getElem?_eq_getElem (by omega)
      have g2 : l[j]? = some l[j] := List.getElem?_eq_getElem (by omega)
      have s1 := h2 i _ x g1 hx
      have s2 := h2 j _ x g2 hy
      have r1 := hin _ (List.mem_of_getElem? g1)
      have r2 := hin _ (List.mem_of_getElem? g2)
      obtain ⟨p, hp⟩ := Int.eq_ofNat_of_zero_le r1.1
      obtain ⟨q, hq⟩ := Int.eq_ofNat_of_zero_le r2.1
      rw [hp] at s1 r1 g1
      rw [hq] at s2 r2 g2
      have := h.inj p q (by omega) (by omega) (s1.trans s2.symm)
      subst this
      exact ih j (by omega) _ g1 g2
  unfold List.Nodup
  rw [List.pairwise_iff_getElem]
  intro i j hi hj hij e
  exact key i j hij _ (List.getElem?_eq_getElem hi) (by rw [List.getElem?_eq_getElem hj, e])
/-- The ends that were met. -/
theorem fac_inv {σ : Int → Int} {n : Nat} (h : Prm σ n) (hn : n ≤ 16) : ∀ k, k ≤ n → (facN σ k).1 = (facN σ k).2.flatten ∧ (facN σ k).1.Nodup ∧ (∀ x ∈ (facN σ k).1, 0 ≤ x ∧ x < n) ∧ (∀ l ∈ (facN σ k).2, Lnk σ l) ∧ ∀ m : Nat, m < k → (m : Int) ∈ (facN σ k).1
  | 0, _ => ⟨rfl, List.nodup_nil, fun x hx => by simp [facN] at hx, fun l hl => by simp [facN] at hl, fun m hm => by omega⟩
  | k + 1, hk => by
    obtain ⟨h1, h2, h3, h4, h5⟩ := fac_inv h hn k (by omega)
    rw [facN_succ]
    unfold facS
    by_cases hmem : (k : Int) ∈ (facN σ k).1
    · rw [if_pos hmem]
      refine ⟨h1, h2, h3, h4, fun m hm => ?_⟩
      rcases Nat.lt_or_ge m k with hlt | hge
      · exact h5 m hlt
      · have : m = k := by omega
        rw [this]; exact hmem
    · rw [if_neg hmem]
      obtain ⟨-, l, hl⟩ := (okS_iff.1 (h.ok hn)).2 k (by omega)
      rw [hl, Option.getD_some]
      obtain ⟨f1, f2, f3, f4⟩ := orb_facts hl
      -- what was met is closed under the step
      have hcl : ∀ x ∈ (facN σ k).1, σ x ∈ (facN σ k).1 := fun x hx => by
        rw [h1] at hx ⊢
        obtain ⟨l', q1, q2⟩ := List.mem_flatten.1 hx
        obtain ⟨i, hi, e⟩ := List.getElem_of_mem q2
        exact List.mem_flatten.2 ⟨l', q1, List.mem_of_getElem? (h4 l' q1 i x (by rw [List.getElem?_eq_getElem hi, e]))⟩
      have hup : ∀ d i : Nat, i + d + 1 = l.length → ∀ x : Int, l[i]? = some x → x ∈ (facN σ k).1 → (k : Int) ∈ (facN σ k).1 := by
        intro d
        induction d with
        | zero =>
          intro i hi x hx hm
          have : i = l.length - 1 := by omega
          rw [this] at hx
          rw [← f3 x hx]; exact hcl x hm
        | succ d ih =>
          intro i hi x hx hm
          have hlt : i + 1 < l.length := by omega
          have g := List.getElem?_eq_getElem hlt
          exact ih (i + 1) (by omega) _ g (by rw [← f2 i x _ hx g]; exact hcl x hm)
      have hdis : ∀ x ∈ l, x ∉ (facN σ k).1 := fun x hx hm => by
        obtain ⟨i, hi, e⟩ := List.getElem_of_mem hx
        exact hmem (hup (l.length - 1 - i) i (by omega) x (by rw [List.getElem?_eq_getElem hi, e]) hm)
      refine ⟨by simp [h1], List.nodup_append.2 ⟨h2, orb_nodup h (by omega) hl, fun x hx y hy e => hdis y hy (e ▸ hx)⟩, fun x hx => ?_, fun l' hl' => ?_, fun m hm => ?_⟩
      · rcases List.mem_append.1 hx with hx | hx
        · exact h3 x hx
        · exact orb_in h (by omega) hl x hx
      · rcases List.mem_append.1 hl' with q | q
        · exact h4 l' q
        · simp at q; rw [q]; exact orb_lnk hl
      · rcases Nat.lt_or_ge m k with hlt | hge
        · exact List.mem_append_left _ (h5 m hlt)
        · have : m = k := by omega
          rw [this]; exact List.mem_append_right _ (List.mem_of_getElem? f1)
end Go.Sx.Ch
namespace Go.Sx.Ch
open Go Go.Sx Go.Proofs

theorem len_of {S : List Int} {n : Nat} (hnd : S.Nodup) (hr : ∀ x ∈ S, 0 ≤ x ∧ x < n) (hc : ∀ m : Nat, m < n → (m : Int) ∈ S) : S.length = n := by
  apply Classical.byContradiction
  intro hne
  rcases Nat.lt_or_ge n S.length with h | h
  · obtain ⟨i, j, hij, hj, e⟩ := ph n (fun i => if hi : i < S.length then (S[i]).toNat else 0) (fun i hi => by
      have hh : i < S.length := by omega
      simp only [dif_pos hh]
      have := hr _ (List.getElem_mem hh)
      omega)
    have hi : i < S.length := by omega
    have hj' : j < S.length := by omega
    simp only [dif_pos hi, dif_pos hj'] at e
    have r1 := hr _ (List.getElem_mem hi)
    have r2 := hr _ (List.getElem_mem hj')
    have e2 : S[i] = S[j] := by omega
    have := nd_inj hnd (List.getElem?_eq_getElem hi) (by rw [List.getElem?_eq_getElem hj', e2])
    omega
  · have hlt : S.length < n := by omega
    have idx : ∀ m : Nat, m < n → ∃ k : Nat, k < S.length ∧ idxL S m = k ∧ S[k]? = some (m : Int) := fun m hm => idxL_at (idxL_mem.2 (hc m hm))
    obtain ⟨i, j, hij, hj, e⟩ := ph S.length (fun i => (idxL S i).toNat) (fun i hi => by
      obtain ⟨k, hk, e, -⟩ := idx i (by omega)
      simp only [e, Int.toNat_natCast]; exact hk)
    obtain ⟨k, hk, e1, g1⟩ := idx i (by omega)
    obtain ⟨q, hq, e2, g2⟩ := idx j (by omega)
    simp only [e1, e2, Int.toNat_natCast] at e
    subst e
    rw [g1] at g2
    simp at g2; omega
theorem fac_cov {σ : Int → Int} {n : Nat} (h : Prm σ n) (hn : n ≤ 16) : Cov (facN σ n).2 n ∧ ∀ m : Nat, m < n → afterC (tabF (facN σ n).2) m = σ m := by
  obtain ⟨h1, h2, h3, h4, h5⟩ := fac_inv h hn n (Nat.le_refl _)
  rw [h1] at h2 h3 h5
  have hc : Cov (facN σ n).2 n := ⟨h2, h3, by rw [← total_flatten]; exact len_of h2 h3 h5, hn⟩
  refine ⟨hc, fun m hm => ?_⟩
  obtain ⟨l, k, hl, hk, hkm⟩ := hc.place hm
  rw [hc.after hl hk hkm, List.getD_eq_getElem?_getD, h4 l hl k _ hkm]
  rfl
theorem tidy_fac {σ : Int → Int} {n : Nat} (h : Prm σ n) (hn : n ≤ 16) : tidyF (cyc σ n) n = cyc σ n := by
  have e : cyc σ n = (facN σ n).2 := (cyc_fac h hn n (Nat.le_refl _)).1
  obtain ⟨hc, ha⟩ := fac_cov h hn
  rw [e, (tidy_cyc hc n (Nat.le_refl _)).1, cycN_congr h ha n (Nat.le_refl _)]
  exact e
/-- What comes of a step that is one to one is small. -/
theorem cyc_small {σ : Int → Int} {n : Nat} (h : Prm σ n) (hn : n ≤ 16) : smM (cyc σ n) = true ∧ (decide ((cyc σ n).length ≤ 10000) && (cyc σ n).all small) = true := by
  have e : cyc σ n = (facN σ n).2 := (cyc_fac h hn n (Nat.le_refl _)).1
  obtain ⟨hc, -⟩ := fac_cov h hn
  have hl := (cycN_len σ n).2
  have hl' : (cyc σ n).length ≤ n := hl
  have ht : total (cyc σ n) = n := by rw [e]; exact hc.len
  have hs : smM (cyc σ n) = true := by simp only [smM, Bool.and_eq_true, decide_eq_true_eq]; omega
  refine ⟨hs, ?_⟩
  simp only [Bool.and_eq_true, decide_eq_true_eq, List.all_eq_true]
  exact ⟨by omega, fun l hl => smM_small hs hl⟩
theorem face_tidy {L : List (List Int)} (hc : chk L = 0) : tidyF (faceR L) (total L) = faceL L := by
  obtain ⟨h16, -, hev⟩ := chk_zero hc
  rw [faceR_eq hc]
  unfold faceL
  rw [if_pos hc]
  exact tidy_fac ((chk_cov hc).along hev) h16
theorem face_small {L : List (List Int)} : (decide ((faceL L).length ≤ 10000) && (faceL L).all small) = true := by
  unfold faceL
  by_cases hc : chk L = 0
  · obtain ⟨h16, -, hev⟩ := chk_zero hc
    rw [if_pos hc]
    exact (cyc_small ((chk_cov hc).along hev) h16).2
  · rw [if_neg hc]; decide
theorem back_small {L : List (List Int)} (hc : chk L = 0) : (decide ((backL L).length ≤ 10000) && (backL L).all small) = true := by
  obtain ⟨h16, -, -⟩ := chk_zero hc
  have h := chk_cov hc
  unfold backL
  rw [if_pos hc]
  exact (cyc_small (h.rev.prm.congr (fun m hm => h.back hm)) h16).2
theorem g18_ok {L : List (List Int)} (hs : smM L = true) : g18 L = true := by
  simp only [g18, g64, Bool.and_eq_true, Bool.or_eq_true, decide_eq_true_eq]
  refine ⟨hs, ?_⟩
  by_cases hc : chk L = 0
  · obtain ⟨h16, -, hev⟩ := chk_zero hc
    refine .inr ⟨g65_ok hs hc, ?_, within_iff.2 ⟨by omega, by omega⟩⟩
    rw [faceR_eq hc]
    unfold faceL
    rw [if_pos hc]
    exact (cyc_small ((chk_cov hc).along hev) h16).1
  · exact .inl hc
end Go.Sx.Ch
