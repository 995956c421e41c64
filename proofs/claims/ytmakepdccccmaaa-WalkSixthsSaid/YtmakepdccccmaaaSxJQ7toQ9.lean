/- What functions of the walk layer return: for how long, and from where, walks go on. No conditions. -/
import Derived.Test.YtmakepdccccmaaaSxJQ4toQ6
set_option linter.unusedVariables false
set_option linter.unusedSimpArgs false
set_option maxRecDepth 4000
namespace Go.Sx
@[simp] theorem rep_bls (n : Nat) (b : Bool) : List.replicate n (AV.v (.bool b)) = bls (List.replicate n b) := by simp [bls]
theorem bls_ext {l : List Bool} {i : Nat} {b : Bool} (h : l[i]? = some b) : (bls l)[i]? = some (.v (.bool b)) := by simp [h]
end Go.Sx
namespace Go.Sx.Wk
open Go Go.Sx Go.Proofs

/-- A list that is filled: so many are done, and the next one holds 'b'. -/
def nxt (f : List Int → Bool) (L : List (List Int)) (i : Nat) (b : Bool) : List Bool := (L.take i).map f ++ b :: List.replicate (L.length - i - 1) false
theorem nxt_len {f : List Int → Bool} {L : List (List Int)} {i : Nat} {b : Bool} (h : i < L.length) : (nxt f L i b).length = L.length := by simp [nxt]; omega
theorem nxt_get {f : List Int → Bool} {L : List (List Int)} {i : Nat} {b : Bool} (h : i < L.length) : (nxt f L i b)[i]? = some b := by
  unfold nxt
  rw [List.getElem?_append_right (by simp; omega)]
  simp [show i - min i L.length = 0 by omega]
theorem nxt_set {f : List Int → Bool} {L : List (List Int)} {i : Nat} {b c : Bool} (h : i < L.length) : (nxt f L i b).set i c = nxt f L i c := by
  unfold nxt
  rw [List.set_append_right _ _ (by simp; omega)]
  simp [show i - min i L.length = 0 by omega]
theorem nxt_zero {f : List Int → Bool} {L : List (List Int)} {i : Nat} (h : i < L.length) : (L.take i).map f ++ List.replicate (L.length - i) false = nxt f L i false := by
  unfold nxt
  rw [show L.length - i = (L.length - i - 1) + 1 by omega, List.replicate_succ]; simp
theorem nxt_done {f : List Int → Bool} {L : List (List Int)} {i : Nat} {x : List Int} (h : L[i]? = some x) : nxt f L i (f x) = (L.take (i + 1)).map f ++ List.replicate (L.length - (i + 1)) false := by
  have hi : i < L.length := (List.getElem?_eq_some_iff.1 h).1
  unfold nxt
  rw [List.take_add_one, h]
  simp
  omega

def anyTo (t : List Int) (k : Nat) (x : List Int) (s : Nat) : Bool := (List.range s).any fun s => match aftG (s : Nat) t x 0 with
  | some l => canK t k l
  | none => false
theorem anyTo_succ (t : List Int) (k : Nat) (x : List Int) (s : Nat) : anyTo t k x (s + 1) = (anyTo t k x s || match aftG (s : Nat) t x 0 with
  | some l => canK t k l
  | none => false) := by simp [anyTo, List.range_succ]
theorem anyTo_all (t : List Int) (k : Nat) (x : List Int) : anyTo t k x t.length = canK t (k + 1) x := rfl

def avAlive (t : List Int) : AV := .tup [.il (bls (aliveF t).1) (aliveF t).1.length false, vI (aliveF t).2]
theorem alv_len {t : List Int} : ∀ (f k : Nat), cnt t k < f → (alv t f k).1.length = (stL t).length := by
  intro f
  induction f with
  | zero => intro k h; omega
  | succ f ih =>
    intro k hk
    simp only [alv]
    split
    · simp
    · split
      · simp
      · rename_i h; have := cnt_lt h; exact ih _ (by omega)
theorem cnt0 {t : List Int} (ht : ok8 t = true) (h4 : t.length ≤ 4) : cnt t 0 < 5000 := by
  have := stL_len ht h4
  have := List.countP_le_length (p := canK t 0) (l := stL t)
  unfold cnt; omega
theorem aliveF_len {t : List Int} (ht : ok8 t = true) (h4 : t.length ≤ 4) : (aliveF t).1.length = (stL t).length := alv_len _ _ (cnt0 ht h4)

def smT (t : List Int) (k : Nat) (L : List (List Int)) (i : Nat) : Bool := decide ((L.take i).map (canK t (k + 1)) = (L.take i).map (canK t k))
theorem smT_zero (t : List Int) (k : Nat) (L : List (List Int)) : smT t k L 0 = true := by simp [smT]
theorem smT_all (t : List Int) (k : Nat) (L : List (List Int)) : smT t k L L.length = decide (L.map (canK t (k + 1)) = L.map (canK t k)) := by simp [smT]
theorem smT_succ (t : List Int) (k : Nat) (L : List (List Int)) (i : Nat) (x : List Int) (h : L[i]? = some x) : smT t k L (i + 1) = (smT t k L i && (canK t (k + 1) x == canK t k x)) := by
  unfold smT
  rw [List.take_add_one, h, Bool.eq_iff_iff]
  simp only [Option.toList_some, List.map_append, decide_eq_true_eq, Bool.and_eq_true, beq_iff_eq]
  constructor
  · intro h
    have := List.append_inj' h (by simp)
    simpa using this
  · rintro ⟨h1, h2⟩
    rw [h1]; simp [h2]
set_option maxHeartbeats 4000000 in
def s57 : Sp := spT 57 [.l] fun (t : List Int) => res (g78 t) (avAlive t)
@[simp] theorem s57_g : s57.g = 57 := rfl
@[simp] theorem s57_f : s57.f = (spT 57 [.l] fun (t : List Int) => res (g78 t) (avAlive t)).f := rfl
set_option maxHeartbeats 4000000 in
theorem s57_ok : s57.ok Try.prog := by
  apply spT_ok
  simp only [OkT, Ty.all, List.nil_append, List.cons_append]
  intro (t : List Int) ut
  apply okT_res; intro hs
  refine P57.rz (ss := [s78, s65, s79]) ⟨s78_ok, s65_ok, s79_ok, trivial⟩ (by simp) fun Q hQ => ?_
  delta p57 p57_r0 p57_r1 p57_r2 p57_r3
  have hg := hs
  simp only [Bool.and_eq_true, decide_eq_true_eq, g78] at hs
  obtain ⟨ht, h4⟩ := hs
  have ht8 := ok8_iff.1 ht
  have ht1 : ∀ y ∈ t, 1 ≤ y := fun y hy => (ht8 y hy).1
  have hvt := val_self ht8
  have hlen := stL_len ht h4
  have hsm : small t = true := by simp [small]; omega
  have h5 : t.length < 5 := by omega
  obtain ⟨it, it1, it2⟩ := idx_get hvt
  have itl : it < (stL t).length := (List.getElem?_eq_some_iff.1 it2).1
  simp (disch := omega) [hg, h5, oLt, oLe, oLtN, oLeN, nLt, nLe]
  generalize hL : stL t = L at hlen it2 itl
  have hval : ∀ x ∈ L, val t x := fun x hx => st_val ht1 (by rw [hL]; exact hx)
  have hidx : ∀ {x : List Int}, val t x → ∃ i : Nat, idxL t x 0 = i ∧ L[i]? = some x := fun hx => by
    obtain ⟨i, a, b⟩ := idx_get hx; exact ⟨i, a, by rw [← hL]; exact b⟩
  refine XZ_for (fun p : Nat × List Bool => ⟨[(0, .il (ints t) t.length ut), (4, .il (lls L) L.length false), (5, .ref 0 0 L.length 1 (some L.length)), (6, vI p.1)], [(0, .cells (bls p.2))], 1⟩) (fun p => L.length - p.1) (fun p => p.1 ≤ L.length ∧ p.2 = List.replicate p.1 true ++ List.replicate (L.length - p.1) false) (0, List.replicate L.length false) (by simp) (.tot [5] (by simp)) ?_
  rintro ⟨i, M⟩ ⟨hi, hM⟩ N Q' hN hE
  simp only at hi hM ⊢
  have hMl : M.length = L.length := by rw [hM]; simp; omega
  rcases Nat.lt_or_ge i L.length with h | h
  · have e1 : M.set i true = List.replicate (i + 1) true ++ List.replicate (L.length - (i + 1)) false := by
      rw [hM, List.set_append_right _ _ (by simp)]
      simp only [List.length_replicate, Nat.sub_self]
      rw [show L.length - i = (L.length - (i + 1)) + 1 by omega, List.replicate_succ, List.set_cons_zero, List.replicate_succ', List.append_assoc]; rfl
    delta p57_l0 p57_r4 p57_r5 p57_r6
    simp (disch := omega) [oLt, oLe, oLtN, oLeN, nLt, nLe, nLtN, nLeN]
    exact hN _ (i + 1, M.set i true) (by simp only; omega) ⟨h, e1⟩ (.tot [5] (by simp))
  · have : i = L.length := by omega
    subst this
    have hM0 : M = L.map (canK t 0) := by
      rw [hM]; simp
      apply List.ext_getElem (by simp)
      intro n h1 h2
      simp [canK]
    delta p57_l0 p57_r4 p57_r5 p57_r6
    simp (disch := omega) [oLt, oLe, oLtN, oLeN, nLt, nLe, nLtN, nLeN]
    refine hE _ _ _ .refl ?_
    delta p57_r7
    simp (disch := omega) [oLt, oLe, oLtN, oLeN, nLt, nLe, nLtN, nLeN]
    clear hM
    refine XZ_for (fun p : Nat × Nat × List Bool => ⟨[(0, .il (ints t) t.length ut), (4, .il (lls L) L.length false), (5, .ref 0 0 L.length 1 (some L.length)), (7, vI p.2.1)], [(0, .cells (bls p.2.2))], 1⟩) (fun p => p.1) (fun p => p.2.2 = L.map (canK t p.2.1) ∧ cnt t p.2.1 < p.1 ∧ p.2.1 + p.1 = 5000 ∧ alv t p.1 p.2.1 = aliveF t) (5000, 0, M) ⟨hM0, cnt0 ht h4, by simp, rfl⟩ (.tot [5] (by simp)) ?_
    rintro ⟨f, k, M1⟩ ⟨hM1, hc, hf, ha⟩ N1 Q1 hN1 hE1
    simp only at hM1 hc hf ha ⊢
    have hM1l : M1.length = L.length := by rw [hM1]; simp
    have hM1t : M1.take L.length = M1 := List.take_of_length_le (by omega)
    have hget : ∀ {x : List Int} {i : Nat}, L[i]? = some x → M1[i]? = some (canK t k x) := fun hx => by rw [hM1, List.getElem?_map, hx]; rfl
    have hit := hget it2
    obtain ⟨f, rfl⟩ : ∃ g, f = g + 1 := ⟨f - 1, by omega⟩
    simp only [alv, hL] at ha
    by_cases h0 : canK t k t = false
    · rw [if_pos h0] at ha
      rw [h0] at hit
      have : M1[it] = false := by have := List.getElem?_eq_some_iff.1 hit; exact this.2
      delta p57_l3 p57_r8 p57_r9 p57_r10 p57_r11 p57_r12
      simp (disch := omega) [oLt, oLe, oLtN, oLeN, nLt, nLe, nLtN, nLeN, hg, ht, it1, hM1l, hit, this]
      refine hE1 _ _ _ .refl (hQ _ _ (.fz [2, 3] _ (.inl rfl) (by simp [hM1l, hM1t]; rfl) (by simp [avAlive, ← ha, hM1]) rfl))
    · rw [if_neg h0] at ha
      have h0' : canK t k t = true := by simpa using h0
      rw [h0'] at hit
      have : M1[it] = true := by have := List.getElem?_eq_some_iff.1 hit; exact this.2
      delta p57_l3 p57_r8 p57_r9 p57_r10 p57_r11 p57_r12
      simp (disch := omega) [oLt, oLe, oLtN, oLeN, nLt, nLe, nLtN, nLeN, hg, ht, it1, hM1l, hit, this]
      have hk0 : k + 1 ≤ 5000 := by omega
      -- what the next list is
      refine XZ_for (fun p : Nat × List Bool => ⟨[(0, .il (ints t) t.length ut), (4, .il (lls L) L.length false), (5, .ref 0 0 L.length 1 (some L.length)), (7, vI k), (8, .ref 1 0 L.length 1 (some L.length)), (9, vB (smT t k L p.1)), (10, vI p.1)], [(0, .cells (bls M1)), (1, .cells (bls p.2))], 2⟩) (fun p => L.length - p.1) (fun p => p.1 ≤ L.length ∧ p.2 = (L.take p.1).map (canK t (k + 1)) ++ List.replicate (L.length - p.1) false) (0, List.replicate L.length false) (by simp) (.tot [5, 8] (by simp [smT_zero])) ?_
      rintro ⟨i, M2⟩ ⟨hi2, hM2⟩ N2 Q2 hN2 hE2
      simp only at hi2 hM2 ⊢
      have hM2l : M2.length = L.length := by rw [hM2]; simp; omega
      rcases Nat.lt_or_ge i L.length with h | h
      · obtain ⟨x, r, d1, d2, d3, d4, d5⟩ := drop_split h
        have hvx := hval x d5
        have hxl := (val_len hvx).symm
        have hx79 : x.all (within 0 · 1000000) = true := by
          rw [List.all_eq_true]; intro y hy
          have := val_ok8 hvx ht8 y hy
          simp; omega
        delta p57_l2 p57_r13 p57_r14
        simp (disch := omega) [oLt, oLe, oLtN, oLeN, nLt, nLe, nLtN, nLeN, d2, d3]
        rw [nxt_zero h] at hM2
        subst hM2
        refine XZ_for (fun j : Nat => ⟨[(0, .il (ints t) t.length ut), (4, .il (lls L) L.length false), (5, .ref 0 0 L.length 1 (some L.length)), (7, vI k), (8, .ref 1 0 L.length 1 (some L.length)), (9, vB (smT t k L i)), (10, vI i), (11, vI j)], [(0, .cells (bls M1)), (1, .cells (bls (nxt (canK t (k + 1)) L i (anyTo t k x j))))], 2⟩) (fun j => t.length - j) (fun j => j ≤ t.length) 0 (by simp) (.tot [5, 8] (by simp [anyTo])) ?_
        rintro j hj N3 Q3 hN3 hE3
        have h6 := anyTo_succ t k x j
        have h9 : j = t.length → anyTo t k x j = canK t (k + 1) x := fun e => by rw [e, anyTo_all]
        generalize anyTo t k x j = b at h6 h9 ⊢
        have g1 := nxt_len (f := canK t (k + 1)) (b := b) h
        have g2 := nxt_get (f := canK t (k + 1)) (b := b) h
        have g3 : (nxt (canK t (k + 1)) L i b)[i] = b := (List.getElem?_eq_some_iff.1 g2).2
        have g4 := fun c => nxt_set (f := canK t (k + 1)) (b := b) (c := c) h
        rcases Nat.lt_or_ge j t.length with h3 | h3
        · cases b with
          | true =>
            simp only [Bool.true_or] at h6
            cases ho : aftG (j : Nat) t x 0 with
            | none =>
              delta p57_l1 p57_r15 p57_r16 p57_r17 p57_r18
              simp (disch := omega) [oLt, oLe, oLtN, oLeN, nLt, nLe, nLtN, nLeN, d2, d3, hxl, hsm, hx79, ho, avAft, g1, g2, g3, g4]
              exact hN3 _ (j + 1) (by omega) h3 (.tot [5, 8] (by simp [h6]))
            | some l =>
              delta p57_l1 p57_r15 p57_r16 p57_r17 p57_r18
              simp (disch := omega) [oLt, oLe, oLtN, oLeN, nLt, nLe, nLtN, nLeN, d2, d3, hxl, hsm, hx79, ho, avAft, g1, g2, g3, g4]
              exact hN3 _ (j + 1) (by omega) h3 (.tot [5, 8] (by simp [h6]))
          | false =>
            simp only [Bool.false_or] at h6
            cases ho : aftG (j : Nat) t x 0 with
            | none =>
              rw [ho] at h6
              delta p57_l1 p57_r15 p57_r16 p57_r17 p57_r18
              simp (disch := omega) [oLt, oLe, oLtN, oLeN, nLt, nLe, nLtN, nLeN, d2, d3, hxl, hsm, hx79, ho, avAft, g1, g2, g3, g4]
              exact hN3 _ (j + 1) (by omega) h3 (.tot [5, 8] (by simp [h6]))
            | some l =>
              rw [ho] at h6
              simp only at h6
              have hvl := aft_val hvx ht1 ho
              obtain ⟨il, il1, il2⟩ := hidx hvl
              have ill : il < L.length := (List.getElem?_eq_some_iff.1 il2).1
              have hll := (val_len hvl).symm
              have hl8 : ok8 l = true := ok8_iff.2 (val_ok8 hvl ht8)
              have q1 := hget il2
              have q2 : M1[il] = canK t k l := (List.getElem?_eq_some_iff.1 q1).2
              delta p57_l1 p57_r15 p57_r16 p57_r17 p57_r18
              simp (disch := omega) [oLt, oLe, oLtN, oLeN, nLt, nLe, nLtN, nLeN, d2, d3, hxl, hsm, hx79, ho, avAft, g1, g2, g3, g4, ht, hl8, hll, il1, q1, q2, hM1l]
              exact hN3 _ (j + 1) (by omega) h3 (.tot [5, 8] (by simp [h6]))
        · have : j = t.length := by omega
          have h10 := h9 this
          subst this
          subst h10
          delta p57_l1 p57_r15 p57_r16 p57_r17 p57_r18
          simp (disch := omega) [oLt, oLe, oLtN, oLeN, nLt, nLe, nLtN, nLeN]
          refine hE3 _ _ _ .refl ?_
          delta p57_r19 p57_r20
          have q1 := hget d2
          have q2 : M1[i] = canK t k x := (List.getElem?_eq_some_iff.1 q1).2
          have h7 := smT_succ t k L i x d2
          cases h8 : smT t k L i <;> (rw [h8] at h7; simp only [Bool.true_and, Bool.false_and] at h7; simp (disch := omega) [oLt, oLe, oLtN, oLeN, nLt, nLe, nLtN, nLeN, d2, d3, g1, g2, g3, q1, q2, hM1l]; refine hN2 _ (i + 1, nxt (canK t (k + 1)) L i (canK t (k + 1) x)) (by simp only; omega) ⟨h, nxt_done d2⟩ (.tot [5, 8] (by simp [h7])))
      · have : i = L.length := by omega
        subst this
        simp only [List.take_length, Nat.sub_self, List.replicate_zero, List.append_nil] at hM2 ⊢
        delta p57_l2 p57_r13 p57_r14
        simp (disch := omega) [oLt, oLe, oLtN, oLeN, nLt, nLe, nLtN, nLeN]
        refine hE2 _ _ _ .refl ?_
        delta p57_r21 p57_r22 p57_r23 p57_r24
        have hsm2 := smT_all t k L
        by_cases hs : L.map (canK t (k + 1)) = L.map (canK t k)
        · rw [if_pos hs] at ha
          rw [decide_eq_true hs] at hsm2
          simp (disch := omega) [oLt, oLe, oLtN, oLeN, nLt, nLe, nLtN, nLeN, hsm2]
          refine hE1 _ _ _ .refl (hQ _ _ (.fz [2, 3] _ (.inl rfl) (by simp [hM1l, hM1t]; rfl) (by simp [avAlive, ← ha, hM1]) rfl))
        · rw [if_neg hs] at ha
          rw [decide_eq_false hs] at hsm2
          simp (disch := omega) [oLt, oLe, oLtN, oLeN, nLt, nLe, nLtN, nLeN, hsm2]
          have hlt := cnt_lt (t := t) (k := k) (by rw [hL]; exact hs)
          exact hN1 _ (f, k + 1, M2) (by simp only; omega) ⟨hM2, by simp only; omega, by simp only; omega, ha⟩ (.tot [5] (by simp))
end Go.Sx.Wk
namespace Go.Sx.Wk
open Go Go.Sx Go.Proofs

def canB (t : List Int) : Bool := decide ((aliveF t).2 < 0)
def s56 : Sp := spT 56 [.l] fun (t : List Int) => res (g78 t) (vB (canB t))
@[simp] theorem s56_g : s56.g = 56 := rfl
@[simp] theorem s56_f : s56.f = (spT 56 [.l] fun (t : List Int) => res (g78 t) (vB (canB t))).f := rfl
theorem s56_ok : s56.ok Try.prog := by
  apply spT_ok
  simp only [OkT, Ty.all, List.nil_append, List.cons_append]
  intro (t : List Int) ut
  apply okT_res; intro hg
  refine P56.rz (ss := [s57]) ⟨s57_ok, trivial⟩ (by simp) fun Q hQ => ?_
  delta p56 p56_r0 p56_r1 p56_r2
  simp (disch := omega) [oLt, oLe, oLtN, oLeN, nLt, nLe, nLtN, nLeN, hg, avAlive]
  exact hQ _ _ (.p (.inl rfl) (by simp [canB]) rfl)

def canF (t : List Int) : AV := if chk t = 0 then .tup [vB (canB t), vI 0] else .tup [vB false, vI (chk t)]
theorem chk_g78 {t : List Int} (h : chk t = 0) : g78 t = true := by
  obtain ⟨_, h4, h8⟩ := chk_ok h
  simp only [g78, Bool.and_eq_true, decide_eq_true_eq]
  exact ⟨ok8_iff.2 h8, h4⟩
def s20 : Sp := spT 20 [.l] fun (t : List Int) => res (small t) (canF t)
@[simp] theorem s20_g : s20.g = 20 := rfl
@[simp] theorem s20_f : s20.f = (spT 20 [.l] fun (t : List Int) => res (small t) (canF t)).f := rfl
theorem s20_ok : s20.ok Try.prog := by
  apply spT_ok
  simp only [OkT, Ty.all, List.nil_append, List.cons_append]
  intro (t : List Int) ut
  apply okT_res; intro hg
  refine P20.rz (ss := [s24, s56]) ⟨s24_ok, s56_ok, trivial⟩ (by simp) fun Q hQ => ?_
  delta p20 p20_r0 p20_r1 p20_r2 p20_r3 p20_r4
  by_cases h0 : chk t = 0
  · have h1 := chk_g78 h0
    simp (disch := omega) [oLt, oLe, oLtN, oLeN, nLt, nLe, nLtN, nLeN, hg, h0, h1]
    exact hQ _ _ (.p (.inl rfl) (by simp [canF, h0]) (by simp [canF, h0]))
  · simp (disch := omega) [oLt, oLe, oLtN, oLeN, nLt, nLe, nLtN, nLeN, hg, h0]
    exact hQ _ _ (.p (.inl rfl) (by simp [canF, h0]) (by simp [canF, h0]))

def longF (t : List Int) : AV := if chk t = 0 then (if canB t = true then .tup [vI 0, vI 13] else .tup [vI (aliveF t).2, vI 0]) else .tup [vI 0, vI (chk t)]
def s22 : Sp := spT 22 [.l] fun (t : List Int) => res (small t) (longF t)
@[simp] theorem s22_g : s22.g = 22 := rfl
@[simp] theorem s22_f : s22.f = (spT 22 [.l] fun (t : List Int) => res (small t) (longF t)).f := rfl
theorem s22_ok : s22.ok Try.prog := by
  apply spT_ok
  simp only [OkT, Ty.all, List.nil_append, List.cons_append]
  intro (t : List Int) ut
  apply okT_res; intro hg
  refine P22.rz (ss := [s24, s57]) ⟨s24_ok, s57_ok, trivial⟩ (by simp) fun Q hQ => ?_
  delta p22 p22_r0 p22_r1 p22_r2 p22_r3 p22_r4 p22_r5 p22_r6 p22_r7
  by_cases h0 : chk t = 0
  · have h1 := chk_g78 h0
    by_cases h2 : (aliveF t).2 < 0
    · simp (disch := omega) [oLt, oLe, oLtN, oLeN, nLt, nLe, nLtN, nLeN, hg, h0, h1, h2, avAlive]
      exact hQ _ _ (.p (.inl rfl) (by simp [longF, h0, canB, h2]) (by simp [longF, h0, canB, h2]))
    · simp (disch := omega) [oLt, oLe, oLtN, oLeN, nLt, nLe, nLtN, nLeN, hg, h0, h1, h2, avAlive]
      exact hQ _ _ (.p (.inl rfl) (by simp [longF, h0, canB, h2]) (by simp [longF, h0, canB, h2]))
  · simp (disch := omega) [oLt, oLe, oLtN, oLeN, nLt, nLe, nLtN, nLeN, hg, h0]
    exact hQ _ _ (.p (.inl rfl) (by simp [longF, h0]) (by simp [longF, h0]))
end Go.Sx.Wk
set_option maxRecDepth 4000
namespace Go.Sx
@[simp] theorem range1 : List.range 1 = [0] := rfl
@[simp] theorem range2 : List.range 2 = [0, 1] := rfl
@[simp] theorem range3 : List.range 3 = [0, 1, 2] := rfl
@[simp] theorem range4 : List.range 4 = [0, 1, 2, 3] := rfl
@[simp] theorem range5 : List.range 5 = [0, 1, 2, 3, 4] := rfl
@[simp] theorem splice4 (a b c d : AV) (m : List Int) (h : m.length = 4) : splice [a, b, c, d] 0 (ints m) = ints m := by simp [splice, h]
@[simp] theorem splice4' (a b c d e f g h : AV) : splice [a, b, c, d] 0 [e, f, g, h] = [e, f, g, h] := by simp [splice]
@[simp] theorem exec_mk {rs ws : List Nat} {k : List Blk → Nat → Option Res} {h : Heap} {id : Nat} : (Eff.mk rs ws k).exec h id = match getAll h rs with
  | none => none
  | some bs => match k bs id with
    | none => none
    | some r => match r.nb with
      | none => some (r.v, setAll h ws r.outs)
      | some b => some (r.v, upd (setAll h ws r.outs) id (some b)) := rfl
attribute [simp] evCall reach idsB idsL ids inA inL inM inB allHp enumH gl renB effSlcA
@[simp] theorem ints_ids (l : List Int) : idsL (ints l) = [] := by
  induction l with
  | nil => rfl
  | cons a l ih => show idsL (.v (.int .i64 a) :: ints l) = []; simp [idsL, ids, ih]
@[simp] theorem ints_in (p : Nat → Bool) (l : List Int) : inL p (ints l) = true := by induction l with | nil => rfl | cons a l ih => simp [ih]
/-- The key of a row of numbers, and maps that have such keys. -/
def kS (s : List Int) : Value := .agg (s.map (Value.int .i64)).toArray
def mM {β : Type} (c : β → AV) (m : List (List Int × β)) : List (Value × AV) := m.map fun p => (kS p.1, c p.2)
@[simp] theorem mM_len {β : Type} (c : β → AV) (m : List (List Int × β)) : (mM c m).length = m.length := by simp [mM]
theorem mM_ids {β : Type} (c : β → AV) (hc : ∀ b, ids (c b) = []) (m : List (List Int × β)) : (mM c m).flatMap (fun p => ids p.2) = [] := by
  induction m with
  | nil => rfl
  | cons p m ih => simp only [mM, List.map_cons, List.flatMap_cons, hc, List.nil_append]; exact ih
theorem mM_ren {β : Type} (c : β → AV) (g : Nat → Nat) (hc : ∀ b, ren g (c b) = c b) (m : List (List Int × β)) : (mM c m).map (fun p => (p.1, ren g p.2)) = mM c m := by
  induction m with
  | nil => rfl
  | cons p m ih => simp only [mM, List.map_cons, hc]; congr 1
theorem mM_in {β : Type} (c : β → AV) (q : Nat → Bool) (hc : ∀ b, inA q (c b) = true) (m : List (List Int × β)) : inM q (mM c m) = true := by
  induction m with
  | nil => rfl
  | cons p m ih => simp only [mM, List.map_cons, inM, hc, Bool.true_and]; exact ih
theorem vals0_ints (l : List Int) : vals0 (ints l) = some (l.map (Value.int .i64)) := by
  induction l with
  | nil => rfl
  | cons a l ih => simp [vals0, AV.val0, ih]
@[simp] theorem val_ints (l : List Int) : (AV.agg (ints l)).val = some (kS l) := by simp [AV.val, vals0_ints, kS]
theorem allInt_ints (l : List Int) : allInt .i64 (l.map (Value.int .i64)) = true := by
  induction l with
  | nil => rfl
  | cons a l ih => simp [allInt, ih]
theorem kS_ok {l : List Int} (h : l.length = 4) : (KTy.ar 4 .i64).ok (kS l) = true := by simp [KTy.ok, kS, h, allInt_ints]
theorem keys_ok {β : Type} (c : β → AV) : ∀ {m : List (List Int × β)}, (∀ p ∈ m, p.1.length = 4) → keysOk (.ar 4 .i64) (mM c m) = true
  | [], _ => rfl
  | p :: m, h => by simp only [mM, List.map_cons, keysOk, kS_ok (h p (by simp)), Bool.true_and]; exact keys_ok c fun q hq => h q (by simp [hq])
theorem kEqL_ints : ∀ (a b : List Int), kEqL (a.map (Value.int .i64)) (b.map (Value.int .i64)) = decide (a = b)
  | [], [] => rfl
  | [], b :: s => by simp [kEqL]
  | a :: r, [] => by simp [kEqL]
  | a :: r, b :: s => by
    simp only [List.map_cons, kEqL, kEqL_ints r s]
    rw [Bool.eq_iff_iff]; simp
theorem kEq_kS (a b : List Int) : kEq (kS a) (kS b) = decide (a = b) := by simp [kS, kEq, kEqL_ints]
def findP {β : Type} (s : List Int) : List (List Int × β) → Nat → Option (Nat × β)
  | [], _ => none
  | p :: m, i => if s = p.1 then some (i, p.2) else findP s m (i + 1)
@[simp] theorem find_mM {β : Type} (c : β → AV) (s : List Int) : ∀ (m : List (List Int × β)) (i : Nat), findK (kS s) (mM c m) i = (findP s m i).map fun p => (p.1, c p.2)
  | [], _ => rfl
  | p :: m, i => by
    simp only [mM, List.map_cons, findK, findP, kEq_kS, decide_eq_true_eq]
    split
    · rfl
    · exact find_mM c s m (i + 1)
def putP {β : Type} (s : List Int) (b : β) (m : List (List Int × β)) : List (List Int × β) :=
  match findP s m 0 with
  | some (i, _) => m.set i (s, b)
  | none => m ++ [(s, b)]
theorem put_mM {β : Type} (c : β → AV) (s : List Int) (b : β) (m : List (List Int × β)) : putK (kS s) (c b) (mM c m) = mM c (putP s b m) := by
  unfold putK putP
  rw [find_mM]
  cases findP s m 0 with
  | none => simp [mM]
  | some p => simp [mM, List.map_set]
def mE (m : List (List Int × Bool)) : List (Value × AV) := mM (fun b => .v (.bool b)) m
def mI (m : List (List Int × Int)) : List (Value × AV) := mM (fun n => .v (.int .i64 n)) m
@[simp] theorem mE_len (m : List (List Int × Bool)) : (mE m).length = m.length := mM_len _ _
@[simp] theorem mI_len (m : List (List Int × Int)) : (mI m).length = m.length := mM_len _ _
@[simp] theorem mE_ids (m : List (List Int × Bool)) : (mE m).flatMap (fun p => ids p.2) = [] := mM_ids _ (fun _ => rfl) _
@[simp] theorem mI_ids (m : List (List Int × Int)) : (mI m).flatMap (fun p => ids p.2) = [] := mM_ids _ (fun _ => rfl) _
@[simp] theorem mE_ren (g : Nat → Nat) (m : List (List Int × Bool)) : (mE m).map (fun p => (p.1, ren g p.2)) = mE m := mM_ren _ g (fun _ => rfl) _
@[simp] theorem mI_ren (g : Nat → Nat) (m : List (List Int × Int)) : (mI m).map (fun p => (p.1, ren g p.2)) = mI m := mM_ren _ g (fun _ => rfl) _
@[simp] theorem mE_in (q : Nat → Bool) (m : List (List Int × Bool)) : inM q (mE m) = true := mM_in _ q (fun _ => rfl) _
@[simp] theorem mI_in (q : Nat → Bool) (m : List (List Int × Int)) : inM q (mI m) = true := mM_in _ q (fun _ => rfl) _
@[simp] theorem mE_find (s : List Int) (m : List (List Int × Bool)) (i : Nat) : findK (kS s) (mE m) i = (findP s m i).map fun p => (p.1, .v (.bool p.2)) := find_mM _ _ _ _
@[simp] theorem mI_find (s : List Int) (m : List (List Int × Int)) (i : Nat) : findK (kS s) (mI m) i = (findP s m i).map fun p => (p.1, .v (.int .i64 p.2)) := find_mM _ _ _ _
@[simp] theorem mE_put (s : List Int) (b : Bool) (m : List (List Int × Bool)) : putK (kS s) (.v (.bool b)) (mE m) = mE (putP s b m) := put_mM (fun b => .v (.bool b)) s b m
@[simp] theorem mI_put (s : List Int) (b : Int) (m : List (List Int × Int)) : putK (kS s) (.v (.int .i64 b)) (mI m) = mI (putP s b m) := put_mM (fun b => .v (.int .i64 b)) s b m
/-- The blocks of a shore. -/
def shp (t : List Int) (u : Bool) (b : List Int) (ev : List (List Int × Bool)) (sh : List (List Int × Int)) : HL :=
  [(0, .cells (.il (ints t) t.length u :: (ints b ++ [.map 1, .map 2]))), (1, .map (mE ev)), (2, .map (mI sh))]
end Go.Sx
namespace Go.Sx.Wk
open Go Go.Sx Go.Proofs

def stp (t : List Int) (x : Nat) (p : List Int) : Option (List Int) := (aftG x t (p.take t.length) 0).map (· ++ p.drop t.length)
def decT (i : Nat) (p : List Int) : List Int := (p.take i).map (· - 1) ++ p.drop i
theorem decT_len (i : Nat) (p : List Int) : (decT i p).length = p.length := by simp [decT]; omega
theorem decT_get {i : Nat} {p : List Int} (h : i < p.length) : (decT i p)[i]? = p[i]? := by
  unfold decT
  rw [List.getElem?_append_right (by simp; omega)]
  simp [show min i p.length = i by omega]
theorem decT_set {i : Nat} {p : List Int} {z : Int} (h : p[i]? = some z) : (decT i p).set i (z - 1) = decT (i + 1) p := by
  have hi : i < p.length := (List.getElem?_eq_some_iff.1 h).1
  unfold decT
  rw [List.set_append_right _ _ (by simp; omega)]
  simp only [List.length_map, List.length_take, show min i p.length = i by omega, Nat.sub_self]
  rw [List.drop_eq_getElem_cons hi, List.set_cons_zero, List.take_add_one, h]
  simp
theorem decT_zero (p : List Int) : decT 0 p = p := by simp [decT]

def avSt (o : Option (List Int)) : AV :=
  match o with
  | some q => .tup [.agg (ints q), vB true]
  | none => .tup [.agg (ints [0, 0, 0, 0]), vB false]
def stOk (t p : List Int) : Prop := p.length = 4 ∧ ∀ y ∈ p, 0 ≤ y ∧ y ≤ 8

theorem set_app_lt {α : Type} {a b : List α} {i : Nat} {x : α} (h : i < a.length) : (a ++ b).set i x = a.set i x ++ b := List.set_append_left _ _ h

theorem meet_runs {t p b : List Int} {u : Bool} {ev : List (List Int × Bool)} {sh : List (List Int × Int)} {x : Nat} (ht : t.length ≤ 4) (hp : stOk t p) (hb : b.length = 4) (hx : x < t.length) :
    Runs Try.prog 77 3 [.ptr 0 0, .agg (ints p), vI x] (hpF (shp t u b ev sh)) (avSt (stp t x p)) 3 (hpF (shp t u b ev sh)) := by
  obtain ⟨b0, b1, b2, b3, rfl⟩ : ∃ b0 b1 b2 b3, b = [b0, b1, b2, b3] := by
    match b, hb with
    | [b0, b1, b2, b3], _ => exact ⟨_, _, _, _, rfl⟩
  obtain ⟨hp4, hp8⟩ := hp
  refine P77.rz (ss := []) trivial (by simp) fun Q hQ => ?_
  delta p77 p77_r0 p77_r1
  simp [shp]
  obtain ⟨tx, htx⟩ : ∃ tx, t[x]? = some tx := ⟨t[x], by simp [hx]⟩
  have htx' : t[x] = tx := (List.getElem?_eq_some_iff.1 htx).2
  let H : List Int → HL := fun m => [(0, .cells [.il (ints t) t.length u, vI b0, vI b1, vI b2, vI b3, .map 1, .map 2]), (1, .map (mE ev)), (2, .map (mI sh)), (3, .cells (ints m)), (4, .cells (ints [0, 0, 0, 0]))]
  refine XZ_for (fun i : Nat => ⟨[(0, .ptr 0 0), (2, vI x), (4, .ptr 3 0), (6, .ptr 4 0), (13, vI t.length), (14, vI i)], H (decT i p), 5⟩) (fun i => t.length - i)
    (fun i => i ≤ t.length ∧ (aftG x (t.drop i) ((p.take t.length).drop i) i).map (((p.take i).map (· - 1)).set x tx ++ ·) = aftG x t (p.take t.length) 0) 0 (by simp) (.tot [4, 6] (by simp [H, decT_zero])) ?_
  rintro i ⟨hi, hb2⟩ N Q' hN hE
  have hml := decT_len i p
  rcases Nat.lt_or_ge i t.length with h | h
  · obtain ⟨y, r, e1, e2, e3, e4, e5⟩ := drop_split h
    have hpl : (p.take t.length).length = t.length := by simp; omega
    obtain ⟨z, q, f1, f2, f3, f4, f5⟩ := drop_split (show i < (p.take t.length).length by omega)
    have hip : i < p.length := by omega
    have hz : p[i]? = some z := by rw [List.getElem?_take] at f2; rwa [if_pos h] at f2
    have hz8 := hp8 z (List.mem_of_getElem? hz)
    have g1 := decT_get hip
    rw [hz] at g1
    have g1' : (decT i p)[i]'(by omega) = z := (List.getElem?_eq_some_iff.1 g1).2
    have g2 := decT_set hz
    have g3 : (decT (i + 1) p)[i]? = some (z - 1) := by rw [← g2]; simp [hml, hip]
    have g4 : (decT (i + 1) p).length = p.length := decT_len _ _
    have g3' : (decT (i + 1) p)[i]'(by omega) = z - 1 := (List.getElem?_eq_some_iff.1 g3).2
    rw [e1, f1] at hb2
    simp only [aftG] at hb2
    have tk : (p.take (i + 1)).map (· - 1) = (p.take i).map (· - 1) ++ [z - 1] := by rw [List.take_add_one, hz]; simp
    have tl : ((p.take i).map (· - 1)).length = i := by simp; omega
    by_cases hix : i = x
    · subst hix
      rw [if_pos rfl, map_app] at hb2
      delta p77_l0 p77_r2 p77_r3 p77_r4 p77_r5 p77_r6 p77_r7
      simp (disch := omega) [oLt, oLe, oLtN, oLeN, nLt, nLe, nLtN, nLeN, H, hml, hp4, g1, g1', g2, g3, g3', g4]
      refine hN _ (i + 1) (by omega) ⟨h, ?_⟩ (.tot [4, 6] (by simp [H]))
      rw [e4, f4, tk]
      have : tx = y := by rw [htx] at e2; simpa using e2
      subst this
      rw [List.set_append_right _ _ (by omega), tl, Nat.sub_self, List.set_cons_zero]
      rw [List.set_eq_of_length_le (by omega)] at hb2
      simpa using hb2
    · have hixI : ¬ (i : Int) = x := by omega
      rw [if_neg hixI] at hb2
      by_cases hz1 : z = 1
      · rw [if_pos hz1] at hb2
        simp only [Option.map_none] at hb2
        subst hz1
        simp only [Int.sub_self] at g2 g3 g3'
        delta p77_l0 p77_r2 p77_r3 p77_r4 p77_r5 p77_r6 p77_r7
        simp (disch := omega) [oLt, oLe, oLtN, oLeN, nLt, nLe, nLtN, nLeN, H, hml, hp4, g1, g1', g2, g3, g3', g4, hixI]
        refine hE _ _ _ .refl (hQ _ _ (.same (.inl rfl) ?_ ?_ rfl rfl ?_))
        · simp [stp, ← hb2, avSt]
        · simp [stp, ← hb2, avSt]
        · simp [shp]
      · rw [if_neg hz1, map_app] at hb2
        have hz0 : ¬ z - 1 = 0 := by omega
        delta p77_l0 p77_r2 p77_r3 p77_r4 p77_r5 p77_r6 p77_r7
        simp (disch := omega) [oLt, oLe, oLtN, oLeN, nLt, nLe, nLtN, nLeN, H, hml, hp4, g1, g1', g2, g3, g3', g4, hixI, hz0]
        refine hN _ (i + 1) (by omega) ⟨h, ?_⟩ (.tot [4, 6] (by simp [H]))
        rw [e4, f4, tk]
        have : ((p.take i).map (· - 1) ++ [z - 1]).set x tx = ((p.take i).map (· - 1)).set x tx ++ [z - 1] := by
          rcases Nat.lt_or_ge x i with hlt | hge
          · rw [set_app_lt (by omega)]
          · rw [List.set_eq_of_length_le (by simp; omega), List.set_eq_of_length_le (by omega)]
        rw [this]
        exact hb2
  · have : i = t.length := by omega
    subst this
    rw [List.drop_eq_nil_of_le (Nat.le_refl _)] at hb2
    simp only [aftG, Option.map_some, List.append_nil] at hb2
    have hst : stp t x p = some ((decT t.length p).set x tx) := by
      unfold stp
      rw [← hb2]
      simp only [Option.map_some, decT]
      rw [set_app_lt (by simp; omega)]
    delta p77_l0 p77_r2 p77_r3 p77_r4 p77_r5 p77_r6 p77_r7
    simp (disch := omega) [oLt, oLe, oLtN, oLeN, nLt, nLe, nLtN, nLeN, H]
    refine hE _ _ _ .refl ?_
    delta p77_r8 p77_r9
    have hs4 : ((decT t.length p).set x tx).length = 4 := by simp [hml, hp4]
    have hs5 : ((decT t.length p).set x tx).take 4 = (decT t.length p).set x tx := List.take_of_length_le (by omega)
    simp (disch := omega) [oLt, oLe, oLtN, oLeN, nLt, nLe, nLtN, nLeN, H, hml, hp4, htx, htx', hs4, hs5]
    refine hQ _ _ (.same (.inl rfl) ?_ ?_ rfl rfl ?_)
    · rw [hst]; simp [avSt, hs4, hs5]
    · rw [hst]; simp [avSt]
    · simp [shp]
end Go.Sx.Wk
