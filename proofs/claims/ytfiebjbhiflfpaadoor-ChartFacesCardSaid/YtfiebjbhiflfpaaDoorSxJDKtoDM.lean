/- What comes next on a face is one to one; found by looking it is the same. No conditions. -/
import Derived.Test.YtfiebjbhiflfpaaDoorSxJDHtoDJ
import Derived.Test.YtfiebjbhiflfpaaDoorSxCU
import Derived.Test.YtfiebjbhiflfpaaDoorSxJCNtoCO
import Derived.Test.YtfiebjbhiflfpaaDoorSxCV
import Derived.Test.YtfiebjbhiflfpaaDoorSxCT
set_option linter.unusedVariables false
set_option linter.unusedSimpArgs false
namespace Go.Sx.Ch
open Go Go.Sx Go.Proofs

def onat (m : Nat) : Nat := if m % 2 = 0 then m + 1 else m - 1
theorem oth_onat : ∀ m : Nat, m < 16 → othI (m : Int) = (onat m : Int) := by decide
theorem other_onat (m : Nat) : otherI (m : Int) = (onat m : Int) := by
  unfold otherI onat
  split <;> split <;> omega
theorem onat_lt {n m : Nat} (hn : n % 2 = 0) (hm : m < n) : onat m < n := by
  unfold onat; split <;> omega
theorem onat_inj {a b : Nat} (h : onat a = onat b) : a = b := by
  unfold onat at h; split at h <;> split at h <;> omega
theorem Prm.congr {σ τ : Int → Int} {n : Nat} (h : Prm σ n) (e : ∀ m : Nat, m < n → τ m = σ m) : Prm τ n :=
  ⟨fun k hk => by rw [e k hk]; exact h.rng k hk, fun i j hi hj hh => h.inj i j hi hj (by rw [← e i hi, ← e j hj]; exact hh)⟩
theorem Cov.along {G n} (h : Cov G n) (hn : n % 2 = 0) : Prm (alongC (tabF G)) n := by
  have e : ∀ m : Nat, m < n → alongC (tabF G) m = afterC (tabF G) (onat m : Int) := fun m hm => by
    have := h.le
    unfold alongC; rw [oth_onat m (by omega)]
  refine ⟨fun k hk => ?_, fun i j hi hj hh => ?_⟩
  · rw [e k hk]; exact h.prm.rng _ (onat_lt hn hk)
  · rw [e i hi, e j hj] at hh
    exact onat_inj (h.prm.inj _ _ (onat_lt hn hi) (onat_lt hn hj) hh)
theorem Cov.ptL {G n} (h : Cov G n) {m : Nat} (hm : m < n) : 0 ≤ Go.Sx.Ch.ptL G m := (ptR_mem (by decide)).2 (h.cover hm)
theorem Cov.look {G n} (h : Cov G n) {m : Nat} (hm : m < n) : afterR G m = afterC (tabF G) m := by
  obtain ⟨k, l, h1, h2, h3⟩ := ptL_at (h.ptL hm)
  obtain ⟨j, j1, j2, j3⟩ := idxL_at h3
  have hl := List.mem_of_getElem? h1
  have e : G.getD (Go.Sx.Ch.ptL G m).toNat [] = l := by rw [h2, Int.toNat_natCast, List.getD_eq_getElem?_getD, h1]; rfl
  have hmod : (((j : Int) + 1) % (l.length : Int)).toNat = (j + 1) % l.length := by
    have : ((j : Int) + 1) % (l.length : Int) = (((j + 1) % l.length : Nat) : Int) := by rw [Int.natCast_emod]; rfl
    rw [this, Int.toNat_natCast]
  rw [h.after hl j1 j3]
  unfold afterR
  rw [e, j2, hmod]
theorem Cov.fac {G n} (h : Cov G n) (hn : n % 2 = 0) {m : Nat} (hm : m < n) : facR G m = alongC (tabF G) m := by
  have := h.le
  unfold facR alongC
  rw [other_onat, oth_onat m (by omega), h.look (onat_lt hn hm)]
theorem g33_ok {L : List (List Int)} (hs : smM L = true) : g33 L = true := by
  simp only [g33, Bool.and_eq_true, Bool.or_eq_true, decide_eq_true_eq]
  refine ⟨hs, ?_⟩
  by_cases hc : chk L = 0
  · obtain ⟨h16, -, hev⟩ := chk_zero hc
    exact .inr (((chk_cov hc).along hev).ok h16)
  · exact .inl hc
theorem g65_ok {L : List (List Int)} (hs : smM L = true) (hc : chk L = 0) : g65 L = true := by
  obtain ⟨h16, -, hev⟩ := chk_zero hc
  have h := chk_cov hc
  simp only [g65, Bool.and_eq_true, List.all_eq_true, List.mem_range, decide_eq_true_eq]
  refine ⟨hs, ((h.along hev).congr (fun m hm => h.fac hev hm)).ok h16, fun k hk => ?_⟩
  rw [other_onat]
  have := onat_lt hev hk
  exact ⟨h.ptL this, within_iff.2 ⟨by omega, by omega⟩⟩
end Go.Sx.Ch
namespace Go.Sx.Ch
open Go Go.Sx Go.Proofs

theorem orb_congr {σ τ : Int → Int} {n : Nat} (h : Prm σ n) (e : ∀ m : Nat, m < n → τ m = σ m) {a : Int} : ∀ (f m : Nat), m < n → orb τ a f m = orb σ a f m
  | 0, m, _ => rfl
  | f + 1, m, hm => by
    simp only [orb]
    rw [e m hm]
    obtain ⟨h0, h1⟩ := h.rng m hm
    obtain ⟨q, hq⟩ := Int.eq_ofNat_of_zero_le h0
    rw [hq, orb_congr h e f q (by omega)]
theorem orb_in {σ : Int → Int} {n : Nat} (h : Prm σ n) {a : Int} : ∀ {f m : Nat} {l : List Int}, m < n → orb σ a f m = some l → ∀ x ∈ l, 0 ≤ x ∧ x < n
  | 0, m, l, _, hl => by cases hl
  | f + 1, m, l, hm, hl => by
    simp only [orb] at hl
    split at hl
    · cases hl
      intro x hx
      simp at hx; omega
    · obtain ⟨r, hr, rfl⟩ := Option.map_eq_some_iff.1 hl
      obtain ⟨h0, h1⟩ := h.rng m hm
      obtain ⟨q, hq⟩ := Int.eq_ofNat_of_zero_le h0
      rw [hq] at hr
      intro x hx
      rcases List.mem_cons.1 hx with rfl | hx
      · omega
      · exact orb_in h (by omega) hr x hx
theorem setM_get {m : Nat} : ∀ {l : List Int} {M : List Bool} {b : Bool}, (∀ x ∈ l, 0 ≤ x) → M[m]? = some b → (setM M l)[m]? = some (b || decide ((m : Int) ∈ l))
  | [], M, b, _, h => by simpa [setM] using h
  | x :: l, M, b, hx, h => by
    rw [setM_cons]
    have hm := (List.getElem?_eq_some_iff.1 h).1
    have h0 := hx x List.mem_cons_self
    have h1 : (M.set x.toNat true)[m]? = some (b || decide ((m : Int) = x)) := by
      rw [List.getElem?_set]
      by_cases e : x.toNat = m
      · have : (m : Int) = x := by omega
        simp [e, hm, this]
      · have : ¬ (m : Int) = x := by omega
        rw [if_neg e, h]; simp [this]
    rw [setM_get (fun y hy => hx y (List.mem_cons_of_mem _ hy)) h1]
    simp [Bool.or_assoc]
theorem cyc_fac {σ : Int → Int} {n : Nat} (h : Prm σ n) (hn : n ≤ 16) : ∀ k, k ≤ n → (cycN σ k).2 = (facN σ k).2 ∧ ∀ m : Nat, m < 16 → (cycN σ k).1[m]? = some (decide ((m : Int) ∈ (facN σ k).1))
  | 0, _ => ⟨rfl, fun m hm => by rw [show (cycN σ 0).1 = List.replicate 16 false from rfl, List.getElem?_replicate, if_pos hm]; simp [facN]⟩
  | k + 1, hk => by
    obtain ⟨h1, h2⟩ := cyc_fac h hn k (by omega)
    rw [cycN_succ, facN_succ]
    have hb : (cycN σ k).1.getD k false = decide ((k : Int) ∈ (facN σ k).1) := by rw [List.getD_eq_getElem?_getD, h2 k (by omega)]; rfl
    unfold cycS facS
    rw [hb]
    by_cases hmem : (k : Int) ∈ (facN σ k).1
    · rw [if_pos (by simp [hmem]), if_pos hmem]; exact ⟨h1, h2⟩
    · rw [if_neg (by simp [hmem]), if_neg hmem]
      obtain ⟨-, l, hl⟩ := (okS_iff.1 (h.ok hn)).2 k (by omega)
      rw [hl, Option.getD_some]
      refine ⟨by simp only [h1], fun m hm => ?_⟩
      simp only
      rw [setM_get (fun x hx => (orb_in h (by omega) hl x hx).1) (h2 m hm)]
      simp
theorem facN_congr {σ τ : Int → Int} {n : Nat} (h : Prm σ n) (e : ∀ m : Nat, m < n → τ m = σ m) : ∀ k, k ≤ n → facN τ k = facN σ k
  | 0, _ => rfl
  | k + 1, hk => by
    rw [facN_succ, facN_succ, facN_congr h e k (by omega)]
    unfold facS
    rw [orb_congr h e 16 k (by omega)]
theorem faceR_eq {L : List (List Int)} (hc : chk L = 0) : faceR L = faceL L := by
  obtain ⟨h16, -, hev⟩ := chk_zero hc
  have h := chk_cov hc
  have hp := h.along hev
  unfold faceR faceL cyc
  rw [if_pos hc, facN_congr hp (fun m hm => h.fac hev hm) _ (Nat.le_refl _), ← (cyc_fac hp h16 _ (Nat.le_refl _)).1]
end Go.Sx.Ch
namespace Go.Sx.Ch
open Go Go.Sx Go.Proofs

theorem leastF_get {l : List Int} {i : Nat} (hi : i < l.length) : (leastF l)[i]? = l[(bstN l l.length + i) % l.length]? := by
  have hb := bstN_le l
  have hb' : bstN l l.length < l.length := by
    obtain ⟨m, hm⟩ : ∃ m, l.length = m + 1 := ⟨l.length - 1, by omega⟩
    have := bstN_lt l m
    rw [hm]; omega
  unfold leastF
  generalize bstN l l.length = b at *
  rcases Nat.lt_or_ge (b + i) l.length with h | h
  · rw [Nat.mod_eq_of_lt h, List.getElem?_append_left (by simp; omega), List.getElem?_drop]
  · rw [Nat.mod_eq_sub_mod h, Nat.mod_eq_of_lt (by omega), List.getElem?_append_right (by simp; omega), List.length_drop, List.getElem?_take, if_pos (by omega)]
    congr 1; omega
/-- From any place of the list on. -/
theorem orb_list {G : List (List Int)} {n : Nat} (h : Cov G n) {l : List Int} (hl : l ∈ G) {a : Int} (ha : (leastF l)[0]? = some a) : ∀ {f i : Nat} {x : Int}, i < l.length → l.length ≤ i + f → (leastF l)[i]? = some x → orb (afterC (tabF G)) a f x = some ((leastF l).drop i)
  | 0, i, x, hi, hf, _ => by omega
  | f + 1, i, x, hi, hf, hx => by
    have hlen := leastF_len l
    have hlp : 0 < l.length := by omega
    have hx' := hx
    rw [leastF_get hi] at hx'
    have hk : (bstN l l.length + i) % l.length < l.length := Nat.mod_lt _ hlp
    have hmem : x ∈ l := List.mem_of_getElem? hx'
    have hr := h.rng x (List.mem_flatten.2 ⟨l, hl, hmem⟩)
    obtain ⟨m, rfl⟩ := Int.eq_ofNat_of_zero_le hr.1
    have hs := h.after hl hk hx'
    have hnx : ((bstN l l.length + i) % l.length + 1) % l.length = (bstN l l.length + (i + 1)) % l.length := by rw [Nat.mod_add_mod]; rfl
    rw [hnx] at hs
    have hd : (leastF l).drop i = (m : Int) :: (leastF l).drop (i + 1) := by
      have hi' : i < (leastF l).length := by omega
      rw [List.drop_eq_getElem_cons hi', (List.getElem?_eq_some_iff.1 hx).2]
    simp only [orb]
    rcases Nat.lt_or_ge (i + 1) l.length with h1 | h1
    · have hi1 : i + 1 < (leastF l).length := by omega
      have hy : (leastF l)[i + 1]? = some (leastF l)[i + 1] := List.getElem?_eq_getElem hi1
      have hy' := hy
      rw [leastF_get h1] at hy'
      rw [List.getD_eq_getElem?_getD, hy', Option.getD_some] at hs
      have hne : ¬ (leastF l)[i + 1] = a := fun e => by
        have hz := ha
        rw [leastF_get hlp] at hz
        rw [e] at hy'
        have := nd_inj (h.ndl hl) hy' hz
        have hb' : bstN l l.length < l.length := by
          obtain ⟨m, hm⟩ : ∃ m, l.length = m + 1 := ⟨l.length - 1, by omega⟩
          have := bstN_lt l m
          rw [hm]; omega
        have hz0 : (bstN l l.length + 0) % l.length = bstN l l.length := Nat.mod_eq_of_lt hb'
        rw [hz0] at this
        rcases Nat.lt_or_ge (bstN l l.length + (i + 1)) l.length with h2 | h2
        · rw [Nat.mod_eq_of_lt h2] at this; omega
        · rw [Nat.mod_eq_sub_mod h2, Nat.mod_eq_of_lt (by omega)] at this; omega
      rw [hs, if_neg hne, orb_list h hl ha h1 (by omega) hy, hd]
      rfl
    · have e1 : i + 1 = l.length := by omega
      have hz := ha
      rw [leastF_get hlp, Nat.add_zero] at hz
      rw [e1, Nat.add_mod_right, List.getD_eq_getElem?_getD, hz, Option.getD_some] at hs
      rw [hs, if_pos rfl, hd, e1, ← hlen, List.drop_length]
theorem orb_least {G : List (List Int)} {n : Nat} (h : Cov G n) {l : List Int} (hl : l ∈ G) {a : Int} (h0 : 0 < l.length) (h16 : l.length ≤ 16) (ha : (leastF l)[0]? = some a) : orb (afterC (tabF G)) a 16 a = some (leastF l) := by
  have := orb_list h hl ha (f := 16) (i := 0) h0 (by omega) ha
  simpa using this
end Go.Sx.Ch
