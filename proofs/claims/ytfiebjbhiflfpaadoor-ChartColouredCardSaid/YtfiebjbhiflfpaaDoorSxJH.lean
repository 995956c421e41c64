/- Colours by numbers; with few lines few colours; the last two points made one (plain). No conditions. -/
import Derived.Test.YtfiebjbhiflfpaaDoorSxJJFtoJG
import Derived.Test.YtfiebjbhiflfpaaDoorSxJDYtoDZ
set_option linter.unusedVariables false
set_option linter.unusedSimpArgs false
namespace Go.Sx.Ch
open Go Go.Sx Go.Proofs

/-- The last digits of a number, and the number of digits. -/
def digT (m x : Nat) : Nat → List Int
  | 0 => []
  | j + 1 => ((x / m ^ j % m : Nat) : Int) :: digT m x j
def valL (m : Nat) : List Int → Nat
  | [] => 0
  | a :: l => a.toNat * m ^ l.length + valL m l
@[simp] theorem digT_len (m x : Nat) : ∀ j, (digT m x j).length = j
  | 0 => rfl
  | j + 1 => by simp [digT, digT_len m x j]
theorem digT_rng {m : Nat} (hm : 0 < m) (x : Nat) : ∀ (j : Nat), ∀ a ∈ digT m x j, 0 ≤ a ∧ a < m
  | 0, a, h => by simp [digT] at h
  | j + 1, a, h => by
    rcases List.mem_cons.1 h with rfl | h
    · have := Nat.mod_lt (x / m ^ j) hm
      omega
    · exact digT_rng hm x j a h
theorem val_dig (m x : Nat) : ∀ j, valL m (digT m x j) = x % m ^ j
  | 0 => by simp [digT, valL, Nat.mod_one]
  | j + 1 => by
    simp only [digT, valL, digT_len, val_dig m x j, Int.toNat_natCast]
    rw [Nat.pow_succ, Nat.mod_mul, Nat.mul_comm, Nat.add_comm]
theorem valL_lt {m : Nat} : ∀ {l : List Int}, (∀ a ∈ l, 0 ≤ a ∧ a < m) → valL m l < m ^ l.length
  | [], _ => by simp [valL]
  | a :: l, h => by
    have ih := valL_lt fun b hb => h b (List.mem_cons_of_mem _ hb)
    obtain ⟨h1, h2⟩ := h a List.mem_cons_self
    obtain ⟨n, rfl⟩ := Int.eq_ofNat_of_zero_le h1
    simp only [valL, List.length_cons, Int.toNat_natCast, Nat.pow_succ]
    have h3 : (n + 1) * m ^ l.length ≤ m * m ^ l.length := Nat.mul_le_mul_right _ (by omega)
    rw [Nat.add_mul, Nat.one_mul] at h3
    rw [Nat.mul_comm (m ^ l.length) m]
    omega
theorem dig_add {m : Nat} (hm : 0 < m) : ∀ {l : List Int} (y : Nat), (∀ a ∈ l, 0 ≤ a ∧ a < m) → digT m (y * m ^ l.length + valL m l) l.length = l
  | [], _, _ => rfl
  | a :: l, y, h => by
    have h' : ∀ b ∈ l, 0 ≤ b ∧ b < (m : Int) := fun b hb => h b (List.mem_cons_of_mem _ hb)
    have hv := valL_lt h'
    obtain ⟨h1, h2⟩ := h a List.mem_cons_self
    obtain ⟨n, rfl⟩ := Int.eq_ofNat_of_zero_le h1
    have hp : 0 < m ^ l.length := Nat.pow_pos hm
    have e : y * m ^ (l.length + 1) + (n * m ^ l.length + valL m l) = (y * m + n) * m ^ l.length + valL m l := by
      rw [Nat.pow_succ, Nat.add_mul, Nat.mul_comm (m ^ l.length) m, Nat.mul_assoc, Nat.add_assoc]
    simp only [List.length_cons, valL, Int.toNat_natCast, digT]
    rw [e, dig_add hm (y * m + n) h']
    congr 1
    have e2 : ((y * m + n) * m ^ l.length + valL m l) / m ^ l.length = y * m + n := by
      rw [Nat.mul_comm, Nat.mul_add_div hp, Nat.div_eq_of_lt hv, Nat.add_zero]
    rw [e2, Nat.mul_comm y m, Nat.mul_add_mod, Nat.mod_eq_of_lt (by omega)]
theorem dig_val {m : Nat} (hm : 0 < m) {l : List Int} (h : ∀ a ∈ l, 0 ≤ a ∧ a < m) : digT m (valL m l) l.length = l := by
  have := dig_add hm 0 h
  simpa using this
theorem lex_val {m : Nat} : ∀ {a b : List Int}, a.length = b.length → (∀ x ∈ a, 0 ≤ x ∧ x < m) → (∀ x ∈ b, 0 ≤ x ∧ x < m) → LexLe a b → valL m a ≤ valL m b
  | [], [], _, _, _, _ => Nat.le_refl _
  | x :: a, y :: b, hl, ha, hb, h => by
    have ha' : ∀ c ∈ a, 0 ≤ c ∧ c < (m : Int) := fun c hc => ha c (List.mem_cons_of_mem _ hc)
    have hb' : ∀ c ∈ b, 0 ≤ c ∧ c < (m : Int) := fun c hc => hb c (List.mem_cons_of_mem _ hc)
    have hv := valL_lt ha'
    have hl' : a.length = b.length := by simpa using hl
    have h0 := h 0 (by simp) (fun j hj => by omega)
    simp only [List.getD_cons_zero] at h0
    obtain ⟨x1, x2⟩ := ha x List.mem_cons_self
    obtain ⟨y1, y2⟩ := hb y List.mem_cons_self
    obtain ⟨p, rfl⟩ := Int.eq_ofNat_of_zero_le x1
    obtain ⟨q, rfl⟩ := Int.eq_ofNat_of_zero_le y1
    simp only [valL, Int.toNat_natCast]
    by_cases e : p = q
    · subst e
      have : LexLe a b := fun i hi hj => by
        have := h (i + 1) (by simp; omega) (fun j hj' => by
          rcases j with _ | j
          · simp
          · simpa using hj j (by omega))
        simpa using this
      have := lex_val hl' ha' hb' this
      rw [hl']; omega
    · have h3 : (p + 1) * m ^ a.length ≤ q * m ^ a.length := Nat.mul_le_mul_right _ (by omega)
      rw [Nat.add_mul, Nat.one_mul] at h3
      rw [← hl']; omega
theorem val_inj {m : Nat} (hm : 0 < m) {a b : List Int} (hl : a.length = b.length) (ha : ∀ x ∈ a, 0 ≤ x ∧ x < m) (hb : ∀ x ∈ b, 0 ≤ x ∧ x < m) (h : valL m a = valL m b) : a = b := by
  rw [← dig_val hm ha, ← dig_val hm hb, h, hl]

/-- Whether colours are proper, by bits. -/
def okN (N : List Nat) (c : List Int) (p q : Nat) : Bool := !(decide (c.getD p 0 = c.getD q 0) && (N.getD p 0).testBit q)
def gdQ (N : List Nat) (c : List Int) (p q : Nat) : Bool := (List.range q).all (okN N c p)
def gdP (N : List Nat) (c : List Int) (p : Nat) : Bool := (List.range p).all fun p' => gdQ N c p' p'
theorem gdQ_succ (N c p q) : gdQ N c p (q + 1) = (gdQ N c p q && okN N c p q) := by simp [gdQ, List.range_succ, List.all_append]
theorem gdP_succ (N c p) : gdP N c (p + 1) = (gdP N c p && gdQ N c p p) := by simp [gdP, List.range_succ, List.all_append]
theorem fits_gd {L : List (List Int)} (hc : chk L = 0) {m : Nat} {c : List Int} (hl : c.length = L.length) (hr : ∀ x ∈ c, 0 ≤ x ∧ x < m) : gdP (nearF (tabF L)) c c.length = true ↔ Fits (JR L) m c := by
  simp only [gdP, gdQ, okN, List.all_eq_true, List.mem_range, Bool.not_eq_true', Bool.and_eq_false_iff, decide_eq_false_iff_not]
  constructor
  · intro h
    refine ⟨fun i hi => ?_, fun p q hq hp ⟨h1, h2⟩ => ?_⟩
    · rw [List.getD_eq_getElem?_getD, List.getElem?_eq_getElem hi]; exact hr _ (List.getElem_mem hi)
    · rcases h p hp q hq with h3 | h3
      · exact h3 h1.symm
      · rw [near_join hc q (by omega)] at h3
        unfold JR at h2
        rw [h3] at h2; cases h2
  · intro h p hp q hq
    by_cases e : c.getD p 0 = c.getD q 0
    · refine .inr ?_
      rw [near_join hc q (by omega)]
      cases hj : joinR L p q with
      | false => rfl
      | true => exact absurd ⟨e.symm, hj⟩ (h.ok p q hq hp)
    · exact .inl e
/-- The first colours with as few as possible. -/
theorem few_first {L : List (List Int)} {l : List Int} {k : Nat} (h : fewT L = some (l, k)) : First (JR L) L.length k l ∧ k ≤ L.length ∧ ∀ j, j < k → ∀ m, Fits (JR L) j m → m.length ≠ L.length := by
  obtain ⟨k', -, h2, h3, h4⟩ := tryF_some h
  unfold fewF at h3
  obtain ⟨l', h5, h6⟩ := Option.map_eq_some_iff.1 h3
  cases h6
  refine ⟨colR_first.1 _ h5, by omega, fun j hj m hm => ?_⟩
  have := h4 j (Nat.zero_le _) hj
  unfold fewF at this
  rw [Option.map_eq_none_iff] at this
  exact colR_first.2 this m hm
theorem fits_rng {J : Nat → Nat → Bool} {m : Nat} {l : List Int} (h : Fits J m l) : ∀ x ∈ l, 0 ≤ x ∧ x < m := fun x hx => by
  obtain ⟨i, hi, rfl⟩ := List.getElem_of_mem hx
  have := h.rng i hi
  rw [List.getD_eq_getElem?_getD, List.getElem?_eq_getElem hi] at this
  exact this
/-- The first number whose digits are proper colours has the first colours as its digits. -/
theorem dig_first {L : List (List Int)} (hc : chk L = 0) {l : List Int} {k x : Nat} (hk : 0 < k) (h : First (JR L) L.length k l) (hx : x < k ^ L.length)
    (hg : gdP (nearF (tabF L)) (digT k x L.length) L.length = true) (hlow : ∀ y, y < x → gdP (nearF (tabF L)) (digT k y L.length) L.length = false) : digT k x L.length = l := by
  have hr := digT_rng hk x L.length
  have hf : Fits (JR L) k (digT k x L.length) := (fits_gd hc (digT_len _ _ _) hr).1 (by rw [digT_len]; exact hg)
  have hle := h.low _ hf (digT_len _ _ _)
  have hlr := fits_rng h.fits
  have hv := lex_val (by rw [h.len, digT_len]) hlr hr hle
  rw [val_dig, Nat.mod_eq_of_lt hx] at hv
  have hvl : digT k (valL k l) L.length = l := by have := dig_val hk hlr; rw [h.len] at this; exact this
  rcases Nat.lt_or_ge (valL k l) x with h1 | h1
  · have := hlow _ h1
    rw [hvl] at this
    have hgl := (fits_gd hc h.len hlr).2 h.fits
    rw [h.len] at hgl
    rw [hgl] at this; cases this
  · rw [← hvl, show valL k l = x by omega]
theorem dig_exists {L : List (List Int)} (hc : chk L = 0) {l : List Int} {k : Nat} (hk : 0 < k) (h : First (JR L) L.length k l) : ∃ y, y < k ^ L.length ∧ gdP (nearF (tabF L)) (digT k y L.length) L.length = true := by
  have hlr := fits_rng h.fits
  have hvl : digT k (valL k l) L.length = l := by have := dig_val hk hlr; rw [h.len] at this; exact this
  have hlt := valL_lt hlr
  rw [h.len] at hlt
  have hgl := (fits_gd hc h.len hlr).2 h.fits
  rw [h.len] at hgl
  exact ⟨_, hlt, by rw [hvl]; exact hgl⟩

theorem sub_len {α : Type} [DecidableEq α] : ∀ {A B : List α}, A.Nodup → (∀ x ∈ A, x ∈ B) → A.length ≤ B.length
  | [], B, _, _ => Nat.zero_le _
  | a :: A, B, hd, h => by
    obtain ⟨d1, d2⟩ := List.nodup_cons.1 hd
    have ha := h a List.mem_cons_self
    have := sub_len (B := B.erase a) d2 fun x hx => (List.mem_erase_of_ne (fun e => d1 (by rw [← e]; exact hx))).2 (h x (List.mem_cons_of_mem _ hx))
    rw [List.length_erase_of_mem ha] at this
    have hp : 0 < B.length := List.length_pos_of_mem ha
    simp only [List.length_cons]; omega
/-- One colour made another, and those above it lower. -/
def mrg (c d x : Int) : Int := if x = d then c else if d < x then x - 1 else x
theorem few_pair {L : List (List Int)} {l : List Int} {k : Nat} (h : First (JR L) L.length k l) (hno : ∀ m, Fits (JR L) (k - 1 : Nat) m → m.length ≠ L.length) {c d : Int} (hc0 : 0 ≤ c) (hcd : c < d) (hd : d < k) :
    ∃ p q, q < p ∧ p < L.length ∧ JR L p q = true ∧ ((l.getD p 0 = c ∧ l.getD q 0 = d) ∨ (l.getD p 0 = d ∧ l.getD q 0 = c)) := by
  apply Classical.byContradiction
  intro hn
  have hmap : ∀ i, i < l.length → (l.map (mrg c d)).getD i 0 = mrg c d (l.getD i 0) := fun i hi => by
    simp [List.getD_eq_getElem?_getD, List.getElem?_eq_getElem hi]
  refine hno (l.map (mrg c d)) ⟨fun i hi => ?_, fun p q hq hp ⟨h1, h2⟩ => ?_⟩ (by rw [List.length_map, h.len])
  · rw [List.length_map] at hi
    have := h.fits.rng i hi
    rw [hmap i hi]
    unfold mrg
    split
    · omega
    · split
      · omega
      · omega
  · rw [List.length_map] at hp
    rw [hmap p hp, hmap q (by omega)] at h1
    have hne : ¬ l.getD q 0 = l.getD p 0 := fun e => h.fits.ok p q hq hp ⟨e, h2⟩
    refine hn ⟨p, q, hq, by rw [← h.len]; exact hp, h2, ?_⟩
    generalize l.getD p 0 = x at *
    generalize l.getD q 0 = y at *
    unfold mrg at h1
    split at h1
    · split at h1
      · omega
      · split at h1 <;> omega
    · split at h1
      · split at h1
        · omega
        · split at h1 <;> omega
      · split at h1
        · omega
        · split at h1 <;> omega
/-- With at most six lines at most four colours. -/
theorem few_four {L : List (List Int)} (hc : chk L = 0) (ht : total L ≤ 12) {l : List Int} {k : Nat} (h : fewT L = some (l, k)) : k ≤ 4 := by
  obtain ⟨h1, h2, h3⟩ := few_first h
  apply Classical.byContradiction
  intro hk
  have hno := h3 (k - 1) (by omega)
  have hcv := chk_cov hc
  have hne := chk_ne hc
  obtain ⟨-, -, hev⟩ := chk_zero hc
  let A : List (Int × Int) := (List.range (total L / 2)).map fun i => (l.getD (ptL L ((2 * i : Nat) : Int)).toNat 0, l.getD (ptL L ((2 * i + 1 : Nat) : Int)).toNat 0)
  let B : List (Int × Int) := A.map fun x => if x.1 ≤ x.2 then x else (x.2, x.1)
  have hB : B.length ≤ 6 := by simp [B, A]; omega
  have hin : ∀ c d : Int, 0 ≤ c → c < d → d < k → (c, d) ∈ B := by
    intro c d hc0 hcd hd
    obtain ⟨p, q, hq, hp, hj, hor⟩ := few_pair h1 hno hc0 hcd hd
    unfold JR joinR at hj
    simp only [Int.toNat_natCast] at hj
    obtain ⟨e, he, he2⟩ := List.any_eq_true.1 hj
    rw [decide_eq_true_eq] at he2
    rw [List.getD_eq_getElem?_getD, List.getElem?_eq_getElem hp, Option.getD_some] at he
    obtain ⟨e1, e2⟩ := hcv.rng e (List.mem_flatten.2 ⟨_, List.getElem_mem hp, he⟩)
    obtain ⟨m, rfl⟩ := Int.eq_ofNat_of_zero_le e1
    have hpt := (hcv.at hne (List.getElem?_eq_getElem hp) he).2
    have hi : m / 2 < total L / 2 := by omega
    refine List.mem_map.2 ⟨(l.getD (ptL L ((2 * (m / 2) : Nat) : Int)).toNat 0, l.getD (ptL L ((2 * (m / 2) + 1 : Nat) : Int)).toNat 0), List.mem_map.2 ⟨m / 2, List.mem_range.2 hi, rfl⟩, ?_⟩
    rcases Nat.mod_two_eq_zero_or_one m with hm | hm
    · have x1 : 2 * (m / 2) = m := by omega
      have x2 : otherI (m : Int) = ((m + 1 : Nat) : Int) := by unfold otherI; rw [if_pos (by omega)]; omega
      rw [x2] at he2
      rw [x1, hpt, he2]
      simp only [Int.toNat_natCast]
      rcases hor with ⟨o1, o2⟩ | ⟨o1, o2⟩
      · rw [o1, o2, if_pos (show c ≤ d by omega)]
      · rw [o1, o2, if_neg (by simp; omega)]
    · have x1 : 2 * (m / 2) + 1 = m := by omega
      have x2 : otherI (m : Int) = ((2 * (m / 2) : Nat) : Int) := by unfold otherI; rw [if_neg (by omega)]; omega
      rw [x2] at he2
      rw [x1, hpt, he2]
      simp only [Int.toNat_natCast]
      rcases hor with ⟨o1, o2⟩ | ⟨o1, o2⟩
      · rw [o1, o2, if_neg (by simp; omega)]
      · rw [o1, o2, if_pos (show c ≤ d by omega)]
  have hsub := sub_len (A := [((0 : Int), (1 : Int)), (0, 2), (0, 3), (0, 4), (1, 2), (1, 3), (1, 4)]) (B := B) (by decide) fun x hx => by
    simp only [List.mem_cons, List.not_mem_nil, or_false] at hx
    rcases hx with rfl | rfl | rfl | rfl | rfl | rfl | rfl <;> exact hin _ _ (by omega) (by omega) (by omega)
  simp only [List.length_cons, List.length_nil] at hsub
  omega
/-- The last two points made one. -/
theorem Cov.join {D : List (List Int)} {a b : List Int} {n : Nat} (h : Cov (D ++ [a, b]) n) : Cov (D ++ [a ++ b]) n := by
  have e : (D ++ [a ++ b]).flatten = (D ++ [a, b]).flatten := by simp
  exact ⟨by rw [e]; exact h.nd, by rw [e]; exact h.rng, by rw [← total_flatten, e, total_flatten]; exact h.len, h.le⟩
theorem snoc2 {L : List (List Int)} (h : 2 ≤ L.length) : ∃ D a b, L = D ++ [a, b] := by
  rcases List.eq_nil_or_concat L with rfl | ⟨E, b, rfl⟩
  · simp at h
  · rcases List.eq_nil_or_concat E with rfl | ⟨D, a, rfl⟩
    · simp at h
    · exact ⟨D, a, b, by simp⟩
/-- Proper, by the program. -/
theorem prop_fits {L : List (List Int)} (hc : chk L = 0) (hlp : loopR L = false) {k : Nat} {l : List Int} (hf : Fits (JR L) k l) (hl : l.length = L.length) : propV L l = .tup [vB true, vI 0] := by
  have hcv := chk_cov hc
  have hne := chk_ne hc
  obtain ⟨-, -, hev⟩ := chk_zero hc
  have hneg : ¬ 0 ≤ negR l 0 := fun h => by
    obtain ⟨y, hy, hy2⟩ := (negR_iff (Int.le_refl 0)).1 h
    have := fits_rng hf y hy
    omega
  have hE : propE L l = 0 := by unfold propE; rw [if_neg (by simp [hc]), if_neg (by simp [hl]), if_neg hneg]
  have hB : propB L l = true := by
    unfold propB
    rw [hE]
    simp only [decide_true, Bool.true_and, List.all_eq_true, List.mem_range]
    intro i hi
    unfold okAt
    rw [decide_eq_true_eq]
    intro he
    obtain ⟨p, a, p1, p2, -, p3⟩ := hcv.pnt hne (m := 2 * i) (by omega)
    obtain ⟨q, b, q1, q2, -, q3⟩ := hcv.pnt hne (m := 2 * i + 1) (by omega)
    rw [p3, q3] at he
    simp only [Int.toNat_natCast] at he
    have hp := (List.getElem?_eq_some_iff.1 p1).1
    have hq := (List.getElem?_eq_some_iff.1 q1).1
    have x1 : otherI ((2 * i : Nat) : Int) = ((2 * i + 1 : Nat) : Int) := by unfold otherI; rw [if_pos (by omega)]; omega
    have x2 : otherI ((2 * i + 1 : Nat) : Int) = ((2 * i : Nat) : Int) := by unfold otherI; rw [if_neg (by omega)]; omega
    have j1 : joinR L p q = true := by
      unfold joinR
      rw [Int.toNat_natCast, List.getD_eq_getElem?_getD, p1, Option.getD_some]
      exact List.any_eq_true.2 ⟨_, p2, by rw [x1, q3]; simp⟩
    have j2 : joinR L q p = true := by
      unfold joinR
      rw [Int.toNat_natCast, List.getD_eq_getElem?_getD, q1, Option.getD_some]
      exact List.any_eq_true.2 ⟨_, q2, by rw [x2, p3]; simp⟩
    rcases Nat.lt_trichotomy p q with h | rfl | h
    · exact hf.ok q p h (by omega) ⟨he, j2⟩
    · have : loopR L = true := List.any_eq_true.2 ⟨p, List.mem_range.2 hp, j1⟩
      rw [hlp] at this; cases this
    · exact hf.ok p q h (by omega) ⟨he.symm, j1⟩
  unfold propV; rw [hE, hB]
end Go.Sx.Ch
