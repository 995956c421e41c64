/- Lists sorted by their first numbers: changes of place, insertion (plain). No conditions. -/
set_option linter.unusedVariables false
set_option linter.unusedSimpArgs false
namespace Go.Sx.Ch
def kx (M : List (List Int)) (i : Nat) : Int := (M.getD i []).getD 0 0
def swp (M : List (List Int)) (i j : Nat) : List (List Int) := (M.set i (M.getD j [])).set j (M.getD i [])
@[simp] theorem swp_len (M : List (List Int)) (i j : Nat) : (swp M i j).length = M.length := by simp [swp]
theorem swp_get {M : List (List Int)} {i j : Nat} (hi : i < M.length) (hj : j < M.length) (p : Nat) : (swp M i j)[p]? = if p = j then M[i]? else if p = i then M[j]? else M[p]? := by
  unfold swp
  by_cases h1 : p = j
  · subst h1
    rw [if_pos rfl, List.getElem?_set_self (by simp; omega), List.getElem?_eq_getElem hi, List.getD_eq_getElem?_getD, List.getElem?_eq_getElem hi]; rfl
  · rw [if_neg h1, List.getElem?_set_ne (by omega)]
    by_cases h2 : p = i
    · subst h2
      rw [if_pos rfl, List.getElem?_set_self hi, List.getElem?_eq_getElem hj, List.getD_eq_getElem?_getD, List.getElem?_eq_getElem hj]; rfl
    · rw [if_neg h2, List.getElem?_set_ne (by omega)]
theorem kx_of {M N : List (List Int)} {p q : Nat} (h : M[p]? = N[q]?) : kx M p = kx N q := by
  unfold kx; simp only [List.getD_eq_getElem?_getD, h]
theorem swp_kx {M : List (List Int)} {i j : Nat} (hi : i < M.length) (hj : j < M.length) (p : Nat) : kx (swp M i j) p = if p = j then kx M i else if p = i then kx M j else kx M p := by
  have h := swp_get hi hj p
  split
  · rename_i e; rw [if_pos e] at h; exact kx_of h
  · rename_i e
    rw [if_neg e] at h
    split
    · rename_i e2; rw [if_pos e2] at h; exact kx_of h
    · rename_i e2; rw [if_neg e2] at h; exact kx_of h
theorem swp_perm {M : List (List Int)} {i j : Nat} (hi : i < M.length) (hj : j < M.length) : (swp M i j).Perm M := by
  rw [List.perm_iff_count]
  intro x
  unfold swp
  have h1 : M.getD i [] = M[i] := by rw [List.getD_eq_getElem?_getD, List.getElem?_eq_getElem hi]; rfl
  have h2 : M.getD j [] = M[j] := by rw [List.getD_eq_getElem?_getD, List.getElem?_eq_getElem hj]; rfl
  rw [h1, h2, List.count_set (by simpa using hj), List.count_set hi]
  by_cases e : i = j
  · subst e
    have hc : (M[i] == x) = true → 0 < M.count x := fun h => List.count_pos_iff.2 ((beq_iff_eq.1 h) ▸ List.getElem_mem hi)
    simp only [List.getElem_set_self]
    by_cases hx : (M[i] == x) = true
    · have := hc hx
      simp only [hx, if_true]; omega
    · simp only [hx, if_false]; simp
  · rw [List.getElem_set_ne (by omega)]
    have hci : (M[i] == x) = true → 0 < M.count x := fun h => List.count_pos_iff.2 ((beq_iff_eq.1 h) ▸ List.getElem_mem hi)
    have hcj : (M[j] == x) = true → 0 < M.count x := fun h => List.count_pos_iff.2 ((beq_iff_eq.1 h) ▸ List.getElem_mem hj)
    by_cases hx : (M[i] == x) = true <;> by_cases hy : (M[j] == x) = true
    · have := hci hx
      simp only [hx, hy, if_true]; omega
    · have := hci hx
      simp only [hx, hy, if_true, if_false]
      simp; omega
    · have := hcj hy
      simp only [hx, hy, if_true, if_false]; simp
    · simp only [hx, hy, if_false]; simp
def Dst (M : List (List Int)) : Prop := ∀ p q, p < M.length → q < M.length → kx M p = kx M q → p = q
structure Rg (a b : Nat) (M N : List (List Int)) : Prop where
  len : N.length = M.length
  perm : N.Perm M
  out : ∀ i, (i < a ∨ b ≤ i) → N[i]? = M[i]?
theorem Rg.refl (a b : Nat) (M : List (List Int)) : Rg a b M M := ⟨rfl, .refl _, fun _ _ => rfl⟩
theorem Rg.trans {a b : Nat} {M N K : List (List Int)} (h : Rg a b M N) (h2 : Rg a b N K) : Rg a b M K :=
  ⟨by rw [h2.len, h.len], h2.perm.trans h.perm, fun i hi => by rw [h2.out i hi, h.out i hi]⟩
theorem Rg.sub {a b a' b' : Nat} {M N : List (List Int)} (h : Rg a' b' M N) (h1 : a ≤ a') (h2 : b' ≤ b) : Rg a b M N :=
  ⟨h.len, h.perm, fun i hi => h.out i (by omega)⟩
theorem Rg.swp {a b i j : Nat} {M : List (List Int)} (hb : b ≤ M.length) (hi : a ≤ i ∧ i < b) (hj : a ≤ j ∧ j < b) : Rg a b M (swp M i j) :=
  ⟨swp_len _ _ _, swp_perm (by omega) (by omega), fun p hp => by rw [swp_get (by omega) (by omega), if_neg (by omega), if_neg (by omega)]⟩
theorem kx_nodup {M : List (List Int)} (h : Dst M) : (M.map fun l => l.getD 0 0).Nodup := by
  rw [List.nodup_iff_pairwise_ne, List.pairwise_iff_getElem]
  intro i j hi hj hij e
  simp only [List.length_map] at hi hj
  simp only [List.getElem_map] at e
  have := h i j hi hj (by
    unfold kx
    rw [List.getD_eq_getElem?_getD (l := M), List.getD_eq_getElem?_getD (l := M), List.getElem?_eq_getElem hi, List.getElem?_eq_getElem hj]
    exact e)
  omega
theorem Dst.of_perm {M N : List (List Int)} (h : Dst M) (p : N.Perm M) : Dst N := by
  have h1 := (p.map fun l => l.getD 0 0).nodup_iff.2 (kx_nodup h)
  rw [List.nodup_iff_pairwise_ne, List.pairwise_iff_getElem] at h1
  have hk : ∀ i (hi : i < N.length), kx N i = N[i].getD 0 0 := fun i hi => by
    unfold kx; rw [List.getD_eq_getElem?_getD (l := N), List.getElem?_eq_getElem hi]; rfl
  intro i j hi hj e
  rw [hk i hi, hk j hj] at e
  rcases Nat.lt_trichotomy i j with hlt | rfl | hlt
  · have := h1 i j (by simpa using hi) (by simpa using hj) hlt
    simp only [List.getElem_map] at this
    exact absurd e this
  · rfl
  · have := h1 j i (by simpa using hj) (by simpa using hi) hlt
    simp only [List.getElem_map] at this
    exact absurd e.symm this
theorem Dst.swp {M : List (List Int)} (h : Dst M) {i j : Nat} (hi : i < M.length) (hj : j < M.length) : Dst (swp M i j) := h.of_perm (swp_perm hi hj)
theorem Rg.from {a b : Nat} {M N : List (List Int)} (h : Rg a b M N) (hd : Dst M) (hb : b ≤ M.length) {i : Nat} (hi : a ≤ i ∧ i < b) : ∃ j, a ≤ j ∧ j < b ∧ N[i]? = M[j]? := by
  have hl := h.len
  have hiN : i < N.length := by omega
  obtain ⟨j, hj, he⟩ := List.getElem_of_mem (h.perm.mem_iff.1 (List.getElem_mem hiN))
  have he2 : N[i]? = M[j]? := by rw [List.getElem?_eq_getElem hiN, List.getElem?_eq_getElem hj, he]
  by_cases hc : a ≤ j ∧ j < b
  · exact ⟨j, hc.1, hc.2, he2⟩
  · have ho := h.out j (by omega)
    have := (hd.of_perm h.perm) i j hiN (by omega) (kx_of (by rw [he2, ho]))
    omega
def Srt (a b : Nat) (M : List (List Int)) : Prop := ∀ p q, a ≤ p → p < q → q < b → kx M p < kx M q
theorem Srt.unique {a b : Nat} {M N K : List (List Int)} (hd : Dst M) (hb : b ≤ M.length) (h1 : Rg a b M N) (s1 : Srt a b N) (h2 : Rg a b M K) (s2 : Srt a b K) : N = K := by
  have hNK : Rg a b N K := ⟨by rw [h2.len, h1.len], h2.perm.trans h1.perm.symm, fun i hi => by rw [h2.out i hi, h1.out i hi]⟩
  have hKN : Rg a b K N := ⟨by rw [h2.len, h1.len], h1.perm.trans h2.perm.symm, fun i hi => by rw [h2.out i hi, h1.out i hi]⟩
  have dN := hd.of_perm h1.perm
  have dK := hd.of_perm h2.perm
  have lN := h1.len
  have lK := h2.len
  have key : ∀ n, ∀ i, i < n → a ≤ i → i < b → N[i]? = K[i]? := by
    intro n
    induction n with
    | zero => intro i hi; omega
    | succ n ih =>
      intro i hi ha hib
      by_cases hin : i < n
      · exact ih i hin ha hib
      · have : i = n := by omega
        subst this
        obtain ⟨j, j1, j2, j3⟩ := hKN.from dK (by omega) (i := i) ⟨ha, hib⟩
        obtain ⟨k, k1, k2, k3⟩ := hNK.from dN (by omega) (i := i) ⟨ha, hib⟩
        by_cases hji : j = i
        · rw [j3, hji]
        · have hj : i < j := by
            apply Classical.byContradiction
            intro hlt
            have hjlt : j < i := by omega
            have e1 := ih j hjlt j1 j2
            have := dN i j (by omega) (by omega) (kx_of (by rw [j3, e1]))
            omega
          have hk : i ≤ k := by
            apply Classical.byContradiction
            intro hlt
            have e1 := ih k (by omega) k1 k2
            have := dK i k (by omega) (by omega) (kx_of (by rw [k3, e1]))
            omega
          have c1 := s2 i j ha hj j2
          have c2 : kx N i ≤ kx N k := by
            by_cases e : k = i
            · rw [e]; omega
            · have := s1 i k ha (by omega) k2; omega
          have c3 := kx_of j3
          have c4 := kx_of k3
          omega
  apply List.ext_getElem?
  intro i
  by_cases hc : a ≤ i ∧ i < b
  · exact key (i + 1) i (by omega) hc.1 hc.2
  · rw [h1.out i (by omega), h2.out i (by omega)]
def insJ (a : Nat) : Nat → List (List Int) → List (List Int)
  | 0, M => M
  | j + 1, M => if a < j + 1 ∧ kx M (j + 1) < kx M j then insJ a j (swp M (j + 1) j) else M
def insK (a : Nat) (M : List (List Int)) : Nat → List (List Int)
  | 0 => M
  | k + 1 => insJ a (a + k + 1) (insK a M k)
def srtOn (a b : Nat) (M : List (List Int)) : List (List Int) := insK a M (b - a - 1)
theorem insJ_rg {a b : Nat} : ∀ {j : Nat} {M : List (List Int)}, b ≤ M.length → j < b → Rg a b M (insJ a j M)
  | 0, M, _, _ => .refl _ _ _
  | j + 1, M, hb, hj => by
    simp only [insJ]
    split
    · rename_i h
      exact (Rg.swp hb ⟨by omega, hj⟩ ⟨by omega, by omega⟩).trans (insJ_rg (by simpa using hb) (by omega))
    · exact .refl _ _ _
theorem insJ_srt {a i : Nat} : ∀ {j : Nat} {M : List (List Int)}, Dst M → i < M.length → j ≤ i → a ≤ j → (∀ p q, a ≤ p → p < q → q < i + 1 → q ≠ j → kx M p < kx M q) → Srt a (i + 1) (insJ a j M)
  | 0, M, hd, hi, hj, ha, h => fun p q hp hq hqi => h p q hp hq hqi (by omega)
  | j + 1, M, hd, hi, hj, ha, h => by
    simp only [insJ]
    split
    · rename_i hc
      have h1 : j + 1 < M.length := by omega
      have h2 : j < M.length := by omega
      refine insJ_srt (hd.swp h1 h2) (by simpa using hi) (by omega) (by omega) fun p q hp hpq hq hqj => ?_
      rw [swp_kx h1 h2, swp_kx h1 h2]
      have e1 : ¬ q = j := hqj
      rw [if_neg e1]
      by_cases c1 : q = j + 1
      · subst c1
        rw [if_pos rfl]
        by_cases c2 : p = j
        · rw [if_pos c2]; exact hc.2
        · rw [if_neg c2, if_neg (by omega)]
          exact h p j hp (by omega) (by omega) (by omega)
      · rw [if_neg c1]
        by_cases c2 : p = j
        · rw [if_pos c2]; exact h (j + 1) q (by omega) (by omega) hq (by omega)
        · rw [if_neg c2]
          by_cases c3 : p = j + 1
          · rw [if_pos c3]; exact h j q (by omega) (by omega) hq (by omega)
          · rw [if_neg c3]; exact h p q hp hpq hq c1
    · rename_i hc
      intro p q hp hpq hq
      by_cases c1 : q = j + 1
      · subst c1
        have hlt : kx M j < kx M (j + 1) := by
          have hne : kx M (j + 1) ≠ kx M j := fun e => by have := hd _ _ (by omega) (by omega) e; omega
          have : ¬ kx M (j + 1) < kx M j := fun hh => hc ⟨by omega, hh⟩
          omega
        by_cases c2 : p = j
        · rw [c2]; exact hlt
        · have := h p j hp (by omega) (by omega) (by omega); omega
      · exact h p q hp hpq hq c1
theorem insK_ok {a b : Nat} {M : List (List Int)} (hd : Dst M) (hb : b ≤ M.length) : ∀ {k : Nat}, a + k < b → Rg a b M (insK a M k) ∧ Srt a (a + k + 1) (insK a M k)
  | 0, h => ⟨.refl _ _ _, fun p q hp hpq hq => by omega⟩
  | k + 1, h => by
    obtain ⟨h1, h2⟩ := insK_ok (a := a) (b := b) hd hb (k := k) (by omega)
    have hl := h1.len
    have hd2 := hd.of_perm h1.perm
    simp only [insK]
    exact ⟨h1.trans (insJ_rg (b := b) (by omega) (by omega)), insJ_srt (i := a + k + 1) hd2 (by omega) (Nat.le_refl _) (by omega) fun p q hp hpq hq hne => h2 p q hp hpq (by omega)⟩
theorem srtOn_ok {a b : Nat} {M : List (List Int)} (hd : Dst M) (hb : b ≤ M.length) : Rg a b M (srtOn a b M) ∧ Srt a b (srtOn a b M) := by
  unfold srtOn
  by_cases h : a < b
  · obtain ⟨h1, h2⟩ := insK_ok hd hb (a := a) (k := b - a - 1) (by omega)
    exact ⟨h1, fun p q hp hpq hq => h2 p q hp hpq (by omega)⟩
  · have e : b - a - 1 = 0 := by omega
    rw [e]
    exact ⟨.refl _ _ _, fun p q hp hpq hq => by omega⟩
theorem srtOn_eq {a b : Nat} {M N : List (List Int)} (hd : Dst M) (hb : b ≤ M.length) (h : Rg a b M N) (s : Srt a b N) : srtOn a b M = N := by
  obtain ⟨h1, h2⟩ := srtOn_ok (a := a) hd hb
  exact Srt.unique hd hb h1 h2 h s
theorem srtOn_rg {a b : Nat} {M N : List (List Int)} (hd : Dst M) (hb : b ≤ M.length) (h : Rg a b M N) : srtOn a b N = srtOn a b M := by
  have hdN := hd.of_perm h.perm
  have hl := h.len
  obtain ⟨h1, h2⟩ := srtOn_ok (a := a) hdN (by omega : b ≤ N.length)
  exact (srtOn_eq hd hb (h.trans h1) h2).symm
end Go.Sx.Ch
