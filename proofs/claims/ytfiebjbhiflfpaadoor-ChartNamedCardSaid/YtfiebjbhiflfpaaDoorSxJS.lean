/- Points in another order, told from other ends on: the same map (plain). No conditions. -/
import Derived.Test.YtfiebjbhiflfpaaDoorSxJJH0toJR0
import Derived.Test.YtfiebjbhiflfpaaDoorSxJJFtoJG
import Derived.Test.YtfiebjbhiflfpaaDoorSxHM0
set_option linter.unusedVariables false
set_option linter.unusedSimpArgs false
namespace Go.Sx.Ch
open Go Go.Sx Go.Proofs

/-- A list from another place on. -/
def rot {α : Type} (k : Nat) (l : List α) : List α := l.drop k ++ l.take k
theorem rot_len {α : Type} (k : Nat) (l : List α) : (rot k l).length = l.length := by simp [rot]; omega
theorem rot_perm {α : Type} (k : Nat) (l : List α) : (rot k l).Perm l := by
  have h : (l.drop k ++ l.take k).Perm (l.take k ++ l.drop k) := List.perm_append_comm
  rw [List.take_append_drop] at h; exact h
theorem mod_add {r a n : Nat} (hr : r < n) (ha : a < n) : (r + a) % n = if r + a < n then r + a else r + a - n := by
  split
  · rename_i h; exact Nat.mod_eq_of_lt h
  · rename_i h
    rw [Nat.mod_eq_sub_mod (by omega)]; exact Nat.mod_eq_of_lt (by omega)
theorem rot_get {α : Type} {k j : Nat} {l : List α} (hk : k < l.length) (hj : j < l.length) : (rot k l)[j]? = l[(k + j) % l.length]? := by
  rw [mod_add hk hj]
  unfold rot
  split
  · rename_i h
    rw [List.getElem?_append_left (by simp; omega), List.getElem?_drop]
  · rename_i h
    rw [List.getElem?_append_right (by simp; omega), List.getElem?_take]
    simp only [List.length_drop]
    rw [if_pos (by omega)]; congr 1; omega
def rt (t : Nat) (l : List Int) : List Int := rot (t % l.length) l
def nmX (t : Nat) (L : List (List Int)) : List (List Int) := (rot (t % L.length) L).map (rt t)
def nmL (t : Nat) (L : List (List Int)) : List (List Int) := (nmX t L).reverse
theorem flat_rev : ∀ L : List (List Int), L.reverse.flatten.Perm L.flatten
  | [] => .refl _
  | a :: L => by
    rw [List.reverse_cons, List.flatten_append, List.flatten_cons]
    simp only [List.flatten_cons, List.flatten_nil, List.append_nil]
    exact List.perm_append_comm.trans ((flat_rev L).append_left a)
theorem flat_rot (k : Nat) (L : List (List Int)) : (rot k L).flatten.Perm L.flatten := by
  unfold rot
  rw [List.flatten_append]
  have h : ((L.drop k).flatten ++ (L.take k).flatten).Perm ((L.take k).flatten ++ (L.drop k).flatten) := List.perm_append_comm
  have h2 : (L.take k).flatten ++ (L.drop k).flatten = L.flatten := by rw [← List.flatten_append, List.take_append_drop]
  rw [h2] at h; exact h
theorem flat_map (t : Nat) : ∀ L : List (List Int), (L.map (rt t)).flatten.Perm L.flatten
  | [] => .refl _
  | a :: L => by
    rw [List.map_cons, List.flatten_cons, List.flatten_cons]
    exact (rot_perm _ a).append (flat_map t L)
theorem nm_perm (t : Nat) (L : List (List Int)) : (nmL t L).flatten.Perm L.flatten :=
  (flat_rev _).trans ((flat_map t _).trans (flat_rot _ L))
theorem nm_len (t : Nat) (L : List (List Int)) : (nmL t L).length = L.length := by simp [nmL, nmX, rot_len]
theorem nm_total (t : Nat) (L : List (List Int)) : total (nmL t L) = total L := by rw [← total_flatten, ← total_flatten, (nm_perm t L).length_eq]
theorem Cov.nm {L : List (List Int)} {n : Nat} (h : Cov L n) (t : Nat) : Cov (nmL t L) n := by
  have p := nm_perm t L
  exact ⟨p.nodup_iff.2 h.nd, fun x hx => h.rng x (p.mem_iff.1 hx), by rw [nm_total]; exact h.len, h.le⟩
theorem nm_mem {t : Nat} {L : List (List Int)} {l' : List Int} (h : l' ∈ nmL t L) : ∃ l ∈ L, l' = rt t l := by
  unfold nmL nmX at h
  rw [List.mem_reverse, List.mem_map] at h
  obtain ⟨l, hl, rfl⟩ := h
  exact ⟨l, (rot_perm _ L).mem_iff.1 hl, rfl⟩
theorem nm_chk {L : List (List Int)} (hc : chk L = 0) (t : Nat) : chk (nmL t L) = 0 := by
  have hcv := chk_cov hc
  have hne := chk_ne hc
  obtain ⟨-, -, hev⟩ := chk_zero hc
  refine (hcv.nm t).chk (fun l hl => ?_) hev
  obtain ⟨l0, h0, rfl⟩ := nm_mem hl
  unfold rt
  rw [rot_len]; exact hne l0 h0
theorem nm_after {L : List (List Int)} (hc : chk L = 0) (t : Nat) {m : Nat} (hm : m < total L) : afterC (tabF (nmL t L)) m = afterC (tabF L) m := by
  have hcv := chk_cov hc
  have hcn := hcv.nm t
  have hmem := hcn.cover hm
  obtain ⟨l', hl', hx⟩ := List.mem_flatten.1 hmem
  obtain ⟨l, hl, rfl⟩ := nm_mem hl'
  obtain ⟨j, hj, hjm⟩ := List.getElem_of_mem hx
  have hlen : (rt t l).length = l.length := rot_len _ _
  have hj' : j < l.length := by rw [← hlen]; exact hj
  have hk : t % l.length < l.length := Nat.mod_lt _ (by omega)
  have hg : (rt t l)[j]? = some (m : Int) := by rw [List.getElem?_eq_getElem hj, hjm]
  have hg2 := hg
  unfold rt at hg2
  rw [rot_get hk hj'] at hg2
  rw [tabF_after hcn.h16 hcn.nd hl' hj hg, tabF_after hcv.h16 hcv.nd hl (Nat.mod_lt _ (by omega)) hg2, hlen]
  have hn : (j + 1) % l.length < l.length := Nat.mod_lt _ (by omega)
  rw [List.getD_eq_getElem?_getD, List.getD_eq_getElem?_getD]
  unfold rt
  rw [rot_get hk hn]
  congr 2
  rw [Nat.add_mod_mod, ← Nat.add_assoc, ← Nat.mod_add_mod]
theorem nm_tid {L : List (List Int)} (hc : chk L = 0) (t : Nat) : tidL (nmL t L) = tidL L := by
  have hcv := chk_cov hc
  unfold tidL
  rw [if_pos (nm_chk hc t), if_pos hc, nm_total]
  unfold cyc
  rw [cycN_cong2 hcv.prm (fun m hm => nm_after hc t hm) _ (Nat.le_refl _)]
theorem nm_face {L : List (List Int)} (hc : chk L = 0) (t : Nat) : faceL (nmL t L) = faceL L := by
  have hcv := chk_cov hc
  obtain ⟨h16, -, hev⟩ := chk_zero hc
  unfold faceL
  rw [if_pos (nm_chk hc t), if_pos hc, nm_total]
  unfold cyc
  rw [cycN_cong2 (hcv.along hev) (fun m hm => ?_) _ (Nat.le_refl _)]
  unfold alongC
  rw [oth_onat m (by omega)]
  exact nm_after hc t (onat_lt hev hm)
theorem join_iff {L : List (List Int)} (hc : chk L = 0) {p q : Nat} : joinR L p q = true ↔ ∃ m : Nat, m < total L ∧ (m : Int) ∈ L.getD p [] ∧ (onat m : Int) ∈ L.getD q [] := by
  have hcv := chk_cov hc
  have hne := chk_ne hc
  obtain ⟨-, -, hev⟩ := chk_zero hc
  have hget : ∀ {p : Nat} {x : Int}, x ∈ L.getD p [] → ∃ l, L[p]? = some l ∧ x ∈ l := fun {p x} h => by
    rw [List.getD_eq_getElem?_getD] at h
    cases hh : L[p]? with
    | none => rw [hh] at h; simp at h
    | some l => rw [hh] at h; exact ⟨l, rfl, h⟩
  unfold joinR
  rw [Int.toNat_natCast, List.any_eq_true]
  constructor
  · rintro ⟨e, he, he2⟩
    rw [decide_eq_true_eq] at he2
    obtain ⟨l, h1, h2⟩ := hget he
    obtain ⟨e1, e2⟩ := hcv.rng e (List.mem_flatten.2 ⟨l, List.mem_of_getElem? h1, h2⟩)
    obtain ⟨m, rfl⟩ := Int.eq_ofNat_of_zero_le e1
    rw [other_onat] at he2
    obtain ⟨k, l2, k1, k2, -, k3⟩ := hcv.pnt hne (m := onat m) (onat_lt hev (by omega))
    rw [k3] at he2
    obtain rfl : k = q := by omega
    exact ⟨m, by omega, he, by rw [List.getD_eq_getElem?_getD, k1]; exact k2⟩
  · rintro ⟨m, hm, h1, h2⟩
    obtain ⟨l, h3, h4⟩ := hget h2
    exact ⟨m, h1, by rw [other_onat, (hcv.at hne h3 h4).2]; simp⟩
/-- One map's points are another's, by a map of numbers. -/
structure Same (A B : List (List Int)) (s : Nat → Nat) : Prop where
  ca : chk A = 0
  cb : chk B = 0
  len : A.length = B.length
  tot : total A = total B
  lt : ∀ j, j < A.length → s j < A.length
  inj : ∀ i j, i < A.length → j < A.length → s i = s j → i = j
  mem : ∀ j, j < A.length → ∀ x, x ∈ A.getD j [] ↔ x ∈ B.getD (s j) []
theorem Same.join {A B s} (h : Same A B s) {p q : Nat} (hp : p < A.length) (hq : q < A.length) : joinR A p q = true ↔ joinR B (s p) (s q) = true := by
  rw [join_iff h.ca, join_iff h.cb, h.tot]
  simp only [h.mem p hp, h.mem q hq]
theorem Same.fits {A B s} (h : Same A B s) {k : Nat} {c : List Int} (hf : Fits (JR B) k c) (hl : c.length = B.length) : ∃ c', Fits (JR A) k c' ∧ c'.length = A.length := by
  have hget : ∀ j, j < A.length → ((List.range A.length).map fun j => c.getD (s j) 0).getD j 0 = c.getD (s j) 0 := fun j hj => by
    simp [List.getD_eq_getElem?_getD, hj]
  have hle := h.len
  refine ⟨(List.range A.length).map fun j => c.getD (s j) 0, ⟨fun i hi => ?_, fun p q hq hp ⟨e, hj⟩ => ?_⟩, by simp⟩
  · rw [List.length_map, List.length_range] at hi
    rw [hget i hi]
    exact hf.rng _ (by have := h.lt i hi; omega)
  · rw [List.length_map, List.length_range] at hp
    have hq' : q < A.length := by omega
    rw [hget p hp, hget q hq'] at e
    have hj2 : joinR B (s p) (s q) = true := (h.join hp hq').1 hj
    obtain ⟨-, -, hj3⟩ := join_sym h.cb hj2
    have l1 := h.lt p hp
    have l2 := h.lt q hq'
    rcases Nat.lt_trichotomy (s q) (s p) with hlt | heq | hlt
    · exact hf.ok _ _ hlt (by omega) ⟨e, hj2⟩
    · have := h.inj q p hq' hp heq; omega
    · exact hf.ok _ _ hlt (by omega) ⟨e.symm, hj3⟩
theorem Same.loop {A B s} (h : Same A B s) (hA : loopR A = true) : loopR B = true := by
  obtain ⟨p, hp, hj⟩ := List.any_eq_true.1 hA
  rw [List.mem_range] at hp
  have := h.lt p hp
  have hl := h.len
  exact List.any_eq_true.2 ⟨s p, List.mem_range.2 (by omega), (h.join hp hp).1 hj⟩
theorem Same.few {A B s} (h : Same A B s) {l l' : List Int} {k k' : Nat} (hA : fewT A = some (l, k)) (hB : fewT B = some (l', k')) : k ≤ k' := by
  obtain ⟨a1, a2, a3⟩ := few_first hA
  obtain ⟨b1, b2, b3⟩ := few_first hB
  apply Classical.byContradiction
  intro hk
  obtain ⟨c, c1, c2⟩ := h.fits b1.fits b1.len
  exact a3 k' (by omega) c c1 c2
theorem nm_getD {L : List (List Int)} {t j : Nat} (hj : j < L.length) : (nmL t L).getD j [] = rt t (L.getD ((t % L.length + (L.length - 1 - j)) % L.length) []) := by
  have hr : t % L.length < L.length := Nat.mod_lt _ (by omega)
  have hx : (nmX t L).length = L.length := by simp [nmX, rot_len]
  have hi : L.length - 1 - j < L.length := by omega
  have hm : (t % L.length + (L.length - 1 - j)) % L.length < L.length := Nat.mod_lt _ (by omega)
  unfold nmL
  rw [List.getD_eq_getElem?_getD, List.getElem?_reverse (by omega), hx]
  unfold nmX
  rw [List.getElem?_map, rot_get hr hi, List.getElem?_eq_getElem hm, List.getD_eq_getElem?_getD, List.getElem?_eq_getElem hm]
  rfl
theorem rt_mem {t : Nat} {l : List Int} {x : Int} : x ∈ rt t l ↔ x ∈ l := (rot_perm _ l).mem_iff
theorem nm_same {L : List (List Int)} (hc : chk L = 0) (t : Nat) : Same (nmL t L) L (fun j => (t % L.length + (L.length - 1 - j)) % L.length) ∧ Same L (nmL t L) (fun p => L.length - 1 - (L.length - t % L.length + p) % L.length) := by
  have hln := nm_len t L
  have hcn := nm_chk hc t
  have ht := nm_total t L
  have hmem : ∀ j, j < L.length → ∀ x, x ∈ (nmL t L).getD j [] ↔ x ∈ L.getD ((t % L.length + (L.length - 1 - j)) % L.length) [] := fun j hj x => by rw [nm_getD hj, rt_mem]
  have hsg : ∀ j, j < L.length → (t % L.length + (L.length - 1 - j)) % L.length = if t % L.length + (L.length - 1 - j) < L.length then t % L.length + (L.length - 1 - j) else t % L.length + (L.length - 1 - j) - L.length := fun j hj => mod_add (Nat.mod_lt _ (by omega)) (by omega)
  have htau : ∀ p, p < L.length → (L.length - t % L.length + p) % L.length = if t % L.length ≤ p then p - t % L.length else L.length - t % L.length + p := fun p hp => by
    have hr : t % L.length < L.length := Nat.mod_lt _ (by omega)
    split
    · rw [Nat.mod_eq_sub_mod (by omega), Nat.mod_eq_of_lt (by omega)]; omega
    · exact Nat.mod_eq_of_lt (by omega)
  have hr : 0 < L.length → t % L.length < L.length := fun h => Nat.mod_lt _ h
  refine ⟨⟨hcn, hc, hln, ht, fun j hj => ?_, fun i j hi hj e => ?_, fun j hj => hmem j (by omega)⟩, ⟨hc, hcn, hln.symm, ht.symm, fun j hj => ?_, fun i j hi hj e => ?_, fun p hp x => ?_⟩⟩
  · rw [hln] at hj ⊢
    exact Nat.mod_lt _ (by omega)
  · rw [hln] at hi hj
    try dsimp only at e
    rw [hsg i hi, hsg j hj] at e
    have := hr (by omega)
    split at e <;> split at e <;> omega
  · omega
  · try dsimp only at e
    rw [htau i hi, htau j hj] at e
    have := hr (by omega)
    split at e <;> split at e <;> omega
  · have hr := hr (by omega)
    have hjl : L.length - 1 - (L.length - t % L.length + p) % L.length < L.length := by omega
    rw [hmem _ hjl]
    rw [hsg _ hjl, htau p hp]
    have e : (if t % L.length + (L.length - 1 - (L.length - 1 - if t % L.length ≤ p then p - t % L.length else L.length - t % L.length + p)) < L.length then t % L.length + (L.length - 1 - (L.length - 1 - if t % L.length ≤ p then p - t % L.length else L.length - t % L.length + p)) else t % L.length + (L.length - 1 - (L.length - 1 - if t % L.length ≤ p then p - t % L.length else L.length - t % L.length + p)) - L.length) = p := by
      split <;> split <;> omega
    rw [e]
/-- The same fewest colours, and the same error. -/
theorem nm_best {L : List (List Int)} (hc : chk L = 0) (t : Nat) : bestN (nmL t L) = bestN L ∧ bestE (nmL t L) = bestE L ∧ bestE L = if loopR L = true then 12 else 0 := by
  obtain ⟨h1, h2⟩ := nm_same hc t
  have hcn := nm_chk hc t
  have he : ∀ {L : List (List Int)}, chk L = 0 → bestE L = if loopR L = true then 12 else 0 := fun {L} h => by
    unfold bestE; rw [if_neg (by simp [h])]
  have hlo : loopR (nmL t L) = loopR L := by
    apply Bool.eq_iff_iff.2
    exact ⟨h1.loop, h2.loop⟩
  refine ⟨?_, by rw [he hcn, he hc, hlo], he hc⟩
  cases hl : loopR L with
  | true =>
    have hb : ∀ {L : List (List Int)}, chk L = 0 → loopR L = true → bestN L = 0 := fun {L} h h' => by
      have hO : bestO L = none := by unfold bestO; rw [he h, h']; simp
      unfold bestN; rw [hO]
    rw [hb hcn (by rw [hlo]; exact hl), hb hc hl]
  | false =>
    obtain ⟨l, k, hT, b1, -⟩ := best_few9 hc hl
    obtain ⟨l', k', hT', b1', -⟩ := best_few9 hcn (by rw [hlo]; exact hl)
    have := h1.few hT' hT
    have := h2.few hT hT'
    rw [b1, b1']; omega
end Go.Sx.Ch
