/- Lists told from their smallest numbers on and sorted by these are the tidy map (plain). No conditions. -/
import Derived.Test.YtfiebjbhiflfpaaDoorSxJW
import Derived.Test.YtfiebjbhiflfpaaDoorSxJCDtoHM0
set_option linter.unusedVariables false
set_option linter.unusedSimpArgs false
namespace Go.Sx.Ch
open Go Go.Sx Go.Proofs
section
def tdM (L : List (List Int)) : List (List Int) := L.map leastF
def tdW (L : List (List Int)) : List (List Int) := srtOn 0 L.length (tdM L)
theorem tdM_len (L : List (List Int)) : (tdM L).length = L.length := by simp [tdM]
theorem kx_tdM {L : List (List Int)} {p : Nat} (hp : p < L.length) : kx (tdM L) p = hd L[p] := by
  unfold kx tdM hd
  rw [List.getD_eq_getElem?_getD (l := L.map leastF), List.getElem?_map, List.getElem?_eq_getElem hp]; rfl
theorem Cov.dst {L : List (List Int)} {n : Nat} (h : Cov L n) (h0 : ∀ l ∈ L, l.length ≠ 0) : Dst (tdM L) := by
  intro p q hp hq e
  rw [tdM_len] at hp hq
  rw [kx_tdM hp, kx_tdM hq] at e
  have lp := h0 _ (List.getElem_mem hp)
  have lq := h0 _ (List.getElem_mem hq)
  have mp := (hd_facts (l := L[p]) (by omega)).2.1
  have mq := (hd_facts (l := L[q]) (by omega)).2.1
  have hr := h.rng _ (List.mem_flatten.2 ⟨L[p], List.getElem_mem hp, mp⟩)
  obtain ⟨m, hm⟩ := Int.eq_ofNat_of_zero_le hr.1
  rw [← e] at mq
  rw [hm] at mp mq
  have a1 := (h.at h0 (List.getElem?_eq_getElem hp) mp).2
  have a2 := (h.at h0 (List.getElem?_eq_getElem hq) mq).2
  rw [a1] at a2
  omega
theorem tidE_eq (e : Nat) : ∀ (G acc : List (List Int)), (∀ l ∈ G, l.length ≠ 0) → G.foldl (tidI e) acc = acc ++ (G.filter fun l => decide (hd l = e)).map leastF
  | [], acc, _ => by simp
  | l :: G, acc, h => by
    have h1 := h l List.mem_cons_self
    rw [List.foldl_cons, tidE_eq e G _ fun l' hl' => h l' (List.mem_cons_of_mem _ hl'), List.filter_cons]
    unfold tidI
    by_cases c : hd l = e
    · have c' : (leastF l).getD 0 0 = e := c
      rw [if_pos ⟨h1, c'⟩, if_pos (by simpa using c)]; simp
    · have c' : ¬ (leastF l).getD 0 0 = e := c
      rw [if_neg (fun hh => c' hh.2), if_neg (by simpa using c)]
theorem filter_perm {α : Type} {p q r : α → Bool} : ∀ {l : List α}, (∀ x ∈ l, r x = (p x || q x) ∧ ¬ (p x = true ∧ q x = true)) → (l.filter p ++ l.filter q).Perm (l.filter r)
  | [], _ => .refl _
  | x :: l, h => by
    obtain ⟨h1, h2⟩ := h x List.mem_cons_self
    have ih := filter_perm (l := l) (p := p) (q := q) (r := r) fun y hy => h y (List.mem_cons_of_mem _ hy)
    rw [List.filter_cons, List.filter_cons, List.filter_cons, h1]
    cases hp : p x <;> cases hq : q x
    · simpa using ih
    · simp only [Bool.false_or, if_true, Bool.false_eq_true, if_false]
      exact List.perm_middle.trans (ih.cons x)
    · simp only [Bool.or_false, if_true, Bool.false_eq_true, if_false, List.cons_append]
      exact ih.cons x
    · exact absurd ⟨hp, hq⟩ h2
theorem tidyF_perm {L : List (List Int)} (h0 : ∀ l ∈ L, l.length ≠ 0) (hr : ∀ l ∈ L, 0 ≤ hd l) : ∀ e, (tidyF L e).Perm ((L.filter fun l => decide (hd l < e)).map leastF)
  | 0 => by
    have : (L.filter fun l => decide (hd l < (0 : Nat))) = [] := List.filter_eq_nil_iff.2 fun l hl => by
      have := hr l hl
      simp; omega
    rw [this]; exact .refl _
  | e + 1 => by
    rw [tidyF_succ]; unfold tidE
    rw [tidE_eq e L _ h0]
    have ih := tidyF_perm h0 hr e
    refine (ih.append_right _).trans ?_
    rw [← List.map_append]
    refine List.Perm.map _ (filter_perm fun l hl => ⟨?_, ?_⟩)
    · rw [Bool.eq_iff_iff, Bool.or_eq_true, decide_eq_true_eq, decide_eq_true_eq, decide_eq_true_eq]; omega
    · rw [decide_eq_true_eq, decide_eq_true_eq]; omega
theorem kx_app {A B : List (List Int)} {p : Nat} : kx (A ++ B) p = if p < A.length then kx A p else kx B (p - A.length) := by
  unfold kx
  simp only [List.getD_eq_getElem?_getD (l := A ++ B), List.getElem?_append]
  split
  · rw [List.getD_eq_getElem?_getD (l := A)]
  · rw [List.getD_eq_getElem?_getD (l := B)]
theorem tidyF_sorted {L : List (List Int)} (h0 : ∀ l ∈ L, l.length ≠ 0) : ∀ e, (∀ p, p < (tidyF L e).length → kx (tidyF L e) p < e) ∧ ∀ p q, p < q → q < (tidyF L e).length → kx (tidyF L e) p ≤ kx (tidyF L e) q
  | 0 => ⟨fun p hp => by simp [tidyF] at hp, fun p q hp hq => by simp [tidyF] at hq⟩
  | e + 1 => by
    obtain ⟨h1, h2⟩ := tidyF_sorted h0 e
    rw [tidyF_succ]; unfold tidE
    rw [tidE_eq e L _ h0]
    generalize hB : (L.filter fun l => decide (hd l = e)).map leastF = B
    have hk : ∀ p, p < B.length → kx B p = e := fun p hp => by
      have hm : ∀ x ∈ B, x ∈ (L.filter fun l => decide (hd l = e)).map leastF := fun x hx => by rw [hB]; exact hx
      obtain ⟨l, hl, hle⟩ := List.mem_map.1 (hm _ (List.getElem_mem hp))
      have hc := (List.mem_filter.1 hl).2
      rw [decide_eq_true_eq] at hc
      unfold kx
      rw [List.getD_eq_getElem?_getD (l := B), List.getElem?_eq_getElem hp, Option.getD_some]
      rw [← hle]; exact hc
    refine ⟨fun p hp => ?_, fun p q hp hq => ?_⟩
    · rw [kx_app]
      rw [List.length_append] at hp
      split
      · rename_i h; have := h1 p h; omega
      · rw [hk _ (by omega)]; omega
    · rw [List.length_append] at hq
      rw [kx_app, kx_app]
      split
      · rename_i a
        split
        · rename_i b; exact h2 p q hp b
        · have := h1 p a; rw [hk (q - _) (by omega)]; omega
      · rename_i a
        rw [if_neg (by omega), hk (p - _) (by omega), hk (q - _) (by omega)]; omega
theorem tdW_tidyF {L : List (List Int)} {n : Nat} (h : Cov L n) (h0 : ∀ l ∈ L, l.length ≠ 0) : tdW L = tidyF L n := by
  have hd1 := h.dst h0
  have hr : ∀ l ∈ L, 0 ≤ hd l ∧ hd l < n := fun l hl => h.rng _ (List.mem_flatten.2 ⟨l, hl, (hd_facts (by have := h0 l hl; omega)).2.1⟩)
  have hp := tidyF_perm h0 (fun l hl => (hr l hl).1) n
  have hall : (L.filter fun l => decide (hd l < n)) = L := List.filter_eq_self.2 fun l hl => by simpa using (hr l hl).2
  rw [hall] at hp
  have hlen : (tidyF L n).length = L.length := by rw [hp.length_eq]; simp
  obtain ⟨-, hs⟩ := tidyF_sorted h0 n
  unfold tdW
  refine srtOn_eq hd1 (by rw [tdM_len]; exact Nat.le_refl _) ⟨by rw [hlen, tdM_len], hp, fun i hi => ?_⟩ fun p q _ hpq hq => ?_
  · rw [List.getElem?_eq_none (by omega), List.getElem?_eq_none (by rw [tdM_len]; omega)]
  · have hle := hs p q hpq (by omega)
    have hne : kx (tidyF L n) p ≠ kx (tidyF L n) q := fun e => by
      have := (hd1.of_perm hp) p q (by omega) (by omega) e
      omega
    omega
theorem tdW_eq {L : List (List Int)} (hc : chk L = 0) : tdW L = tidL L := by
  have h := chk_cov hc
  rw [tdW_tidyF h (chk_ne hc), (tidy_cyc h _ (Nat.le_refl _)).1]
  unfold tidL
  rw [if_pos hc]; rfl
end
section
theorem orb_facts {σ : Int → Int} {a : Int} : ∀ {f : Nat} {x : Int} {l : List Int}, orb σ a f x = some l → l[0]? = some x ∧ (∀ i y z, l[i]? = some y → l[i + 1]? = some z → σ y = z) ∧ (∀ y, l[l.length - 1]? = some y → σ y = a) ∧ ∀ i, l[i + 1]? ≠ some a
  | 0, x, l, h => by cases h
  | f + 1, x, l, h => by
    simp only [orb] at h
    split at h
    · rename_i e
      cases h
      refine ⟨rfl, fun i y z _ hz => by simp at hz, fun y hy => by simp at hy; rw [← hy]; exact e, fun i => by simp⟩
    · rename_i e
      obtain ⟨r, hr, rfl⟩ := Option.map_eq_some_iff.1 h
      obtain ⟨h1, h2, h3, h4⟩ := orb_facts hr
      have hrp : 0 < r.length := by
        rcases r with _ | ⟨r0, rr⟩
        · simp at h1
        · simp
      refine ⟨rfl, fun i y z hy hz => ?_, fun y hy => ?_, fun i hi => ?_⟩
      · cases i with
        | zero =>
          simp at hy
          rw [List.getElem?_cons_succ, h1] at hz
          rw [← hy]; exact Option.some.inj hz
        | succ i => simp at hy hz; exact h2 i y z hy hz
      · refine h3 y ?_
        have : (x :: r).length - 1 = (r.length - 1) + 1 := by simp; omega
        rw [this] at hy
        simpa using hy
      · simp at hi
        cases i with
        | zero => rw [h1] at hi; cases hi; exact e rfl
        | succ i => exact h4 i hi
def Lnk (σ : Int → Int) (l : List Int) : Prop := ∀ k x, l[k]? = some x → l[(k + 1) % l.length]? = some (σ x)
theorem orb_lnk {σ : Int → Int} {a : Int} {f : Nat} {l : List Int} (h : orb σ a f a = some l) : Lnk σ l := by
  obtain ⟨h1, h2, h3, h4⟩ := orb_facts h
  intro k x hx
  have hk := (List.getElem?_eq_some_iff.1 hx).1
  rcases Nat.lt_or_ge (k + 1) l.length with hlt | hge
  · rw [Nat.mod_eq_of_lt hlt, List.getElem?_eq_getElem hlt, h2 k x _ hx (List.getElem?_eq_getElem hlt)]
  · have e : k + 1 = l.length := by omega
    rw [e, Nat.mod_self, h1]
    have : k = l.length - 1 := by omega
    rw [this] at hx
    rw [h3 x hx]
theorem orb_nodup {σ : Int → Int} {n : Nat} (h : Prm σ n) {a : Nat} (ha : a < n) {f : Nat} {l : List Int} (hl : orb σ a f a = some l) : l.Nodup := by
  obtain ⟨h1, h2, h3, h4⟩ := orb_facts hl
  have hin := orb_in h ha hl
  have key : ∀ i j : Nat, i < j → ∀ x : Int, l[i]? = some x → l[j]? ≠ some x := by
    intro i
    induction i with
    | zero =>
      intro j hj x hx hy
      rw [h1] at hx; cases hx
      obtain ⟨j, rfl⟩ : ∃ j', j = j' + 1 := ⟨j - 1, by omega⟩
      exact h4 j hy
    | succ i ih =>
      intro j hj x hx hy
      obtain ⟨j, rfl⟩ : ∃ j', j = j' + 1 := ⟨j - 1, by omega⟩
      have hi := (List.getElem?_eq_some_iff.1 hx).1
      have hj' := (List.getElem?_eq_some_iff.1 hy).1
      have g1 : l[i]? = some l[i] := List.getElem?_eq_getElem (by omega)
      have g2 : l[j]? = some l[j] := List.getElem?_eq_getElem (by omega)
      have s1 := h2 i _ x g1 hx
      have s2 := h2 j _ x g2 hy
      have r1 := hin _ (List.mem_of_getElem? g1)
      have r2 := hin _ (List.mem_of_getElem? g2)
      obtain ⟨p, hp⟩ := Int.eq_ofNat_of_zero_le r1.1
      obtain ⟨q, hq⟩ := Int.eq_ofNat_of_zero_le r2.1
      rw [hp] at s1 r1 g1
      rw [hq] at s2 r2 g2
      have := h.inj p q (by omega) (by omega) (s1.trans s2.symm)
      subst this
      exact ih j (by omega) _ g1 g2
  unfold List.Nodup
  rw [List.pairwise_iff_getElem]
  intro i j hi hj hij e
  exact key i j hij _ (List.getElem?_eq_getElem hi) (by rw [List.getElem?_eq_getElem hj, e])
theorem fac_inv {σ : Int → Int} {n : Nat} (h : Prm σ n) (hn : n ≤ 16) : ∀ k, k ≤ n → (facN σ k).1 = (facN σ k).2.flatten ∧ (facN σ k).1.Nodup ∧ (∀ x ∈ (facN σ k).1, 0 ≤ x ∧ x < n) ∧ (∀ l ∈ (facN σ k).2, Lnk σ l) ∧ ∀ m : Nat, m < k → (m : Int) ∈ (facN σ k).1
  | 0, _ => ⟨rfl, List.nodup_nil, fun x hx => by simp [facN] at hx, fun l hl => by simp [facN] at hl, fun m hm => by omega⟩
  | k + 1, hk => by
    obtain ⟨h1, h2, h3, h4, h5⟩ := fac_inv h hn k (by omega)
    rw [facN_succ]
    unfold facS
    by_cases hmem : (k : Int) ∈ (facN σ k).1
    · rw [if_pos hmem]
      refine ⟨h1, h2, h3, h4, fun m hm => ?_⟩
      rcases Nat.lt_or_ge m k with hlt | hge
      · exact h5 m hlt
      · have : m = k := by omega
        rw [this]; exact hmem
    · rw [if_neg hmem]
      obtain ⟨-, l, hl⟩ := (okS_iff.1 (h.ok hn)).2 k (by omega)
      rw [hl, Option.getD_some]
      obtain ⟨f1, f2, f3, f4⟩ := orb_facts hl
      -- what was met is closed under the step
      have hcl : ∀ x ∈ (facN σ k).1, σ x ∈ (facN σ k).1 := fun x hx => by
        rw [h1] at hx ⊢
        obtain ⟨l', q1, q2⟩ := List.mem_flatten.1 hx
        obtain ⟨i, hi, e⟩ := List.getElem_of_mem q2
        exact List.mem_flatten.2 ⟨l', q1, List.mem_of_getElem? (h4 l' q1 i x (by rw [List.getElem?_eq_getElem hi, e]))⟩
      have hup : ∀ d i : Nat, i + d + 1 = l.length → ∀ x : Int, l[i]? = some x → x ∈ (facN σ k).1 → (k : Int) ∈ (facN σ k).1 := by
        intro d
        induction d with
        | zero =>
          intro i hi x hx hm
          have : i = l.length - 1 := by omega
          rw [this] at hx
          rw [← f3 x hx]; exact hcl x hm
        | succ d ih =>
          intro i hi x hx hm
          have hlt : i + 1 < l.length := by omega
          have g := List.getElem?_eq_getElem hlt
          exact ih (i + 1) (by omega) _ g (by rw [← f2 i x _ hx g]; exact hcl x hm)
      have hdis : ∀ x ∈ l, x ∉ (facN σ k).1 := fun x hx hm => by
        obtain ⟨i, hi, e⟩ := List.getElem_of_mem hx
        exact hmem (hup (l.length - 1 - i) i (by omega) x (by rw [List.getElem?_eq_getElem hi, e]) hm)
      refine ⟨by simp [h1], List.nodup_append.2 ⟨h2, orb_nodup h (by omega) hl, fun x hx y hy e => hdis y hy (e ▸ hx)⟩, fun x hx => ?_, fun l' hl' => ?_, fun m hm => ?_⟩
      · rcases List.mem_append.1 hx with hx | hx
        · exact h3 x hx
        · exact orb_in h (by omega) hl x hx
      · rcases List.mem_append.1 hl' with q | q
        · exact h4 l' q
        · simp at q; rw [q]; exact orb_lnk hl
      · rcases Nat.lt_or_ge m k with hlt | hge
        · exact List.mem_append_left _ (h5 m hlt)
        · have : m = k := by omega
          rw [this]; exact List.mem_append_right _ (List.mem_of_getElem? f1)
end
section
theorem len_of {S : List Int} {n : Nat} (hnd : S.Nodup) (hr : ∀ x ∈ S, 0 ≤ x ∧ x < n) (hc : ∀ m : Nat, m < n → (m : Int) ∈ S) : S.length = n := by
  apply Classical.byContradiction
  intro hne
  rcases Nat.lt_or_ge n S.length with h | h
  · obtain ⟨i, j, hij, hj, e⟩ := ph n (fun i => if hi : i < S.length then (S[i]).toNat else 0) (fun i hi => by
      have hh : i < S.length := by omega
      simp only [dif_pos hh]
      have := hr _ (List.getElem_mem hh)
      omega)
    have hi : i < S.length := by omega
    have hj' : j < S.length := by omega
    simp only [dif_pos hi, dif_pos hj'] at e
    have r1 := hr _ (List.getElem_mem hi)
    have r2 := hr _ (List.getElem_mem hj')
    have e2 : S[i] = S[j] := by omega
    have := nd_inj hnd (List.getElem?_eq_getElem hi) (by rw [List.getElem?_eq_getElem hj', e2])
    omega
  · have hlt : S.length < n := by omega
    have idx : ∀ m : Nat, m < n → ∃ k : Nat, k < S.length ∧ idxL S m = k ∧ S[k]? = some (m : Int) := fun m hm => idxL_at (idxL_mem.2 (hc m hm))
    obtain ⟨i, j, hij, hj, e⟩ := ph S.length (fun i => (idxL S i).toNat) (fun i hi => by
      obtain ⟨k, hk, e, -⟩ := idx i (by omega)
      simp only [e, Int.toNat_natCast]; exact hk)
    obtain ⟨k, hk, e1, g1⟩ := idx i (by omega)
    obtain ⟨q, hq, e2, g2⟩ := idx j (by omega)
    simp only [e1, e2, Int.toNat_natCast] at e
    subst e
    rw [g1] at g2
    simp at g2; omega
theorem fac_cov {σ : Int → Int} {n : Nat} (h : Prm σ n) (hn : n ≤ 16) : Cov (facN σ n).2 n ∧ ∀ m : Nat, m < n → afterC (tabF (facN σ n).2) m = σ m := by
  obtain ⟨h1, h2, h3, h4, h5⟩ := fac_inv h hn n (Nat.le_refl _)
  rw [h1] at h2 h3 h5
  have hc : Cov (facN σ n).2 n := ⟨h2, h3, by rw [← total_flatten]; exact len_of h2 h3 h5, hn⟩
  refine ⟨hc, fun m hm => ?_⟩
  obtain ⟨l, k, hl, hk, hkm⟩ := hc.place hm
  rw [hc.after hl hk hkm, List.getD_eq_getElem?_getD, h4 l hl k _ hkm]
  rfl
theorem cyc_small {σ : Int → Int} {n : Nat} (h : Prm σ n) (hn : n ≤ 16) : smM (cyc σ n) = true ∧ (decide ((cyc σ n).length ≤ 10000) && (cyc σ n).all small) = true := by
  have e : cyc σ n = (facN σ n).2 := (cyc_fac h hn n (Nat.le_refl _)).1
  obtain ⟨hc, -⟩ := fac_cov h hn
  have hl := (cycN_len σ n).2
  have hl' : (cyc σ n).length ≤ n := hl
  have ht : total (cyc σ n) = n := by rw [e]; exact hc.len
  have hs : smM (cyc σ n) = true := by simp only [smM, Bool.and_eq_true, decide_eq_true_eq]; omega
  refine ⟨hs, ?_⟩
  simp only [Bool.and_eq_true, decide_eq_true_eq, List.all_eq_true]
  exact ⟨by omega, fun l hl => smM_small hs hl⟩
theorem face_small {L : List (List Int)} : (decide ((faceL L).length ≤ 10000) && (faceL L).all small) = true := by
  unfold faceL
  by_cases hc : chk L = 0
  · obtain ⟨h16, -, hev⟩ := chk_zero hc
    rw [if_pos hc]
    exact (cyc_small ((chk_cov hc).along hev) h16).2
  · rw [if_neg hc]; decide
end
section
set_option maxRecDepth 4000
def g80 (C : List Int) : Bool := t34 C && within 0 (endsC C) 16 && within 0 (ptsC C) 16 && (List.range (endsC C).toNat).all fun (e : Nat) => within 0 (atC C e) (ptsC C - 1) && within 0 (atC C (othI e)) (ptsC C - 1)
theorem get_of34 {C : List Int} {i : Nat} {n : Int} (h : C.length = 34) (hi : i < 34) (hn : C.getD i 0 = n) : C[i]? = some n := by
  rw [← hn, List.getD_eq_getElem?_getD, List.getElem?_eq_getElem (by omega)]; rfl
theorem g80_facts {C : List Int} (hg : g80 C = true) : ∃ n P : Nat, C.length = 34 ∧ n ≤ 16 ∧ P ≤ 16 ∧ C[0]? = some (n : Int) ∧ C[33]? = some (P : Int) ∧ endsC C = n ∧ ptsC C = P ∧
    ∀ e : Nat, e < n → ∃ o a b : Nat, o < 16 ∧ a < P ∧ b < P ∧ oth[e]? = some (o : Int) ∧ C[17 + e]? = some (a : Int) ∧ C[17 + o]? = some (b : Int) ∧ atC C e = a ∧ atC C (othI e) = b := by
  simp only [g80, Bool.and_eq_true, t34, decide_eq_true_eq, within_iff, List.all_eq_true, List.mem_range] at hg
  obtain ⟨⟨⟨h34, h0, h1⟩, h2, h3⟩, h4⟩ := hg
  obtain ⟨n, hn⟩ := Int.eq_ofNat_of_zero_le h0
  obtain ⟨P, hP⟩ := Int.eq_ofNat_of_zero_le h2
  refine ⟨n, P, h34, by omega, by omega, get_of34 h34 (by omega) hn, get_of34 h34 (by omega) hP, hn, hP, fun e he => ?_⟩
  obtain ⟨⟨a0, a1⟩, b0, b1⟩ := h4 e (by omega)
  obtain ⟨a, ha⟩ := Int.eq_ofNat_of_zero_le a0
  obtain ⟨b, hb⟩ := Int.eq_ofNat_of_zero_le b0
  obtain ⟨o, ho, o0, o1⟩ := oth_get (e := e) ⟨by omega, by omega⟩
  obtain ⟨o, rfl⟩ := Int.eq_ofNat_of_zero_le o0
  rw [Int.toNat_natCast] at ho
  have ho' : othI e = o := by simp [othI, List.getD_eq_getElem?_getD, ho]
  refine ⟨o, a, b, by omega, by omega, by omega, ho, get_of34 h34 (by omega) ?_, get_of34 h34 (by omega) ?_, ha, hb⟩
  · have := ha; unfold atC at this; simpa using this
  · have := hb; rw [ho'] at this; unfold atC at this; simpa using this
set_option maxHeartbeats 2000000
end
section
set_option maxRecDepth 4000
theorem tab_pts {L : List (List Int)} (hc : chk L = 0) : (tabF L).length = 34 ∧ total L ≤ 16 ∧ total L % 2 = 0 ∧ L.length ≤ 16 ∧ (tabF L)[0]? = some ((total L : Nat) : Int) ∧ (tabF L)[33]? = some ((L.length : Nat) : Int) ∧
    ∀ m : Nat, m < total L → ∃ k : Nat, k < L.length ∧ (tabF L)[17 + m]? = some (k : Int) ∧ atC (tabF L) m = k ∧ ptL L m = k := by
  have hcv := chk_cov hc
  have h0 := chk_ne hc
  obtain ⟨h1, -, h3⟩ := chk_zero hc
  obtain ⟨h34, he, -, -⟩ := tabF_facts hcv.h16
  have hp : (tabF L).getD 33 0 = L.length := pts_eq hcv.h16 h0
  have hLl : ∀ M : List (List Int), (∀ l ∈ M, l.length ≠ 0) → M.length ≤ total M := by
    intro M
    induction M with
    | nil => simp
    | cons a M ih =>
      intro h
      have := ih fun l hl => h l (List.mem_cons_of_mem _ hl)
      have ha := h a List.mem_cons_self
      simp only [total, List.map_cons, List.sum_cons, List.length_cons] at this ⊢
      omega
  have := hLl L h0
  refine ⟨h34, h1, h3, by omega, get_of34 h34 (by omega) he, get_of34 h34 (by omega) hp, fun m hm => ?_⟩
  obtain ⟨k, l, e1, e2, e3, e4⟩ := hcv.pnt h0 hm
  exact ⟨k, (List.getElem?_eq_some_iff.1 e1).1, get_of34 h34 (by omega) (by have := e3; unfold atC at this; simpa using this), e3, e4⟩
theorem g80_tab {L : List (List Int)} (hc : chk L = 0) : g80 (tabF L) = true := by
  obtain ⟨h34, h16, hev, hl, h0, h33, hp⟩ := tab_pts hc
  have e0 : endsC (tabF L) = total L := by unfold endsC; rw [List.getD_eq_getElem?_getD, h0]; rfl
  have e33 : ptsC (tabF L) = L.length := by unfold ptsC; rw [List.getD_eq_getElem?_getD, h33]; rfl
  simp only [g80, Bool.and_eq_true, t34, decide_eq_true_eq, within_iff, List.all_eq_true, List.mem_range, e0, e33]
  refine ⟨⟨⟨h34, by omega, by omega⟩, by omega, by omega⟩, fun e he => ?_⟩
  have he' : e < total L := by omega
  obtain ⟨k, k1, -, k2, -⟩ := hp e he'
  obtain ⟨k', k1', -, k2', -⟩ := hp (onat e) (onat_lt (by omega) he')
  rw [oth_onat e (by omega), k2, k2']
  omega
def inL (l : List Int) : Bool := l.all (within 0 · 1000)
def inM (L : List (List Int)) : Bool := L.all inL
theorem inM_get {L : List (List Int)} (h : inM L = true) {p : Nat} (hp : p < L.length) : ∃ l, L[p]? = some l ∧ inL l = true :=
  ⟨L[p], List.getElem?_eq_getElem hp, List.all_eq_true.1 h _ (List.getElem_mem hp)⟩
end
end Go.Sx.Ch
