/- What functions of the walk layer return: for how long, and from where, walks go on. No conditions. -/
import Derived.Test.YtmakepdccccmaaaSxQ6
set_option linter.unusedVariables false
set_option linter.unusedSimpArgs false
set_option maxRecDepth 4000
namespace Go.Sx
@[simp] theorem rep_bls (n : Nat) (b : Bool) : List.replicate n (AV.v (.bool b)) = bls (List.replicate n b) := by simp [bls]
theorem bls_ext {l : List Bool} {i : Nat} {b : Bool} (h : l[i]? = some b) : (bls l)[i]? = some (.v (.bool b)) := by simp [h]
end Go.Sx
namespace Go.Sx.Wk
open Go Go.Sx Go.Proofs

/-- A list that is filled: so many are done, and the next one holds 'b'. -/
def nxt (f : List Int → Bool) (L : List (List Int)) (i : Nat) (b : Bool) : List Bool := (L.take i).map f ++ b :: List.replicate (L.length - i - 1) false
theorem nxt_len {f : List Int → Bool} {L : List (List Int)} {i : Nat} {b : Bool} (h : i < L.length) : (nxt f L i b).length = L.length := by simp [nxt]; omega
theorem nxt_get {f : List Int → Bool} {L : List (List Int)} {i : Nat} {b : Bool} (h : i < L.length) : (nxt f L i b)[i]? = some b := by
  unfold nxt
  rw [List.getElem?_append_right (by simp; omega)]
  simp [show i - min i L.length = 0 by omega]
theorem nxt_set {f : List Int → Bool} {L : List (List Int)} {i : Nat} {b c : Bool} (h : i < L.length) : (nxt f L i b).set i c = nxt f L i c := by
  unfold nxt
  rw [List.set_append_right _ _ (by simp; omega)]
  simp [show i - min i L.length = 0 by omega]
theorem nxt_zero {f : List Int → Bool} {L : List (List Int)} {i : Nat} (h : i < L.length) : (L.take i).map f ++ List.replicate (L.length - i) false = nxt f L i false := by
  unfold nxt
  rw [show L.length - i = (L.length - i - 1) + 1 by omega, List.replicate_succ]; simp
theorem nxt_done {f : List Int → Bool} {L : List (List Int)} {i : Nat} {x : List Int} (h : L[i]? = some x) : nxt f L i (f x) = (L.take (i + 1)).map f ++ List.replicate (L.length - (i + 1)) false := by
  have hi : i < L.length := (List.getElem?_eq_some_iff.1 h).1
  unfold nxt
  rw [List.take_add_one, h]
  simp
  omega

def anyTo (t : List Int) (k : Nat) (x : List Int) (s : Nat) : Bool := (List.range s).any fun s => match aftG (s : Nat) t x 0 with
  | some l => canK t k l
  | none => false
theorem anyTo_succ (t : List Int) (k : Nat) (x : List Int) (s : Nat) : anyTo t k x (s + 1) = (anyTo t k x s || match aftG (s : Nat) t x 0 with
  | some l => canK t k l
  | none => false) := by simp [anyTo, List.range_succ]
theorem anyTo_all (t : List Int) (k : Nat) (x : List Int) : anyTo t k x t.length = canK t (k + 1) x := rfl

def avAlive (t : List Int) : AV := .tup [.il (bls (aliveF t).1) (aliveF t).1.length false, vI (aliveF t).2]
theorem alv_len {t : List Int} : ∀ (f k : Nat), cnt t k < f → (alv t f k).1.length = (stL t).length := by
  intro f
  induction f with
  | zero => intro k h; omega
  | succ f ih =>
    intro k hk
    simp only [alv]
    split
    · simp
    · split
      · simp
      · rename_i h; have := cnt_lt h; exact ih _ (by omega)
theorem cnt0 {t : List Int} (ht : ok8 t = true) (h4 : t.length ≤ 4) : cnt t 0 < 5000 := by
  have := stL_len ht h4
  have := List.countP_le_length (p := canK t 0) (l := stL t)
  unfold cnt; omega
theorem aliveF_len {t : List Int} (ht : ok8 t = true) (h4 : t.length ≤ 4) : (aliveF t).1.length = (stL t).length := alv_len _ _ (cnt0 ht h4)

def smT (t : List Int) (k : Nat) (L : List (List Int)) (i : Nat) : Bool := decide ((L.take i).map (canK t (k + 1)) = (L.take i).map (canK t k))
theorem smT_zero (t : List Int) (k : Nat) (L : List (List Int)) : smT t k L 0 = true := by simp [smT]
theorem smT_all (t : List Int) (k : Nat) (L : List (List Int)) : smT t k L L.length = decide (L.map (canK t (k + 1)) = L.map (canK t k)) := by simp [smT]
theorem smT_succ (t : List Int) (k : Nat) (L : List (List Int)) (i : Nat) (x : List Int) (h : L[i]? = some x) : smT t k L (i + 1) = (smT t k L i && (canK t (k + 1) x == canK t k x)) := by
  unfold smT
  rw [List.take_add_one, h, Bool.eq_iff_iff]
  simp only [Option.toList_some, List.map_append, decide_eq_true_eq, Bool.and_eq_true, beq_iff_eq]
  constructor
  · intro h
    have := List.append_inj' h (by simp)
    simpa using this
  · rintro ⟨h1, h2⟩
    rw [h1]; simp [h2]
set_option maxHeartbeats 4000000 in
def s57 : Sp := spT 57 [.l] fun (t : List Int) => res (g78 t) (avAlive t)
@[simp] theorem s57_g : s57.g = 57 := rfl
@[simp] theorem s57_f : s57.f = (spT 57 [.l] fun (t : List Int) => res (g78 t) (avAlive t)).f := rfl
set_option maxHeartbeats 4000000 in
theorem s57_ok : s57.ok Try.prog := by
  apply spT_ok
  simp only [OkT, Ty.all, List.nil_append, List.cons_append]
  intro (t : List Int) ut
  apply okT_res; intro hs
  refine P57.rz (ss := [s78, s65, s79]) ⟨s78_ok, s65_ok, s79_ok, trivial⟩ (by simp) fun Q hQ => ?_
  delta p57 p57_r0 p57_r1 p57_r2 p57_r3
  have hg := hs
  simp only [Bool.and_eq_true, decide_eq_true_eq, g78] at hs
  obtain ⟨ht, h4⟩ := hs
  have ht8 := ok8_iff.1 ht
  have ht1 : ∀ y ∈ t, 1 ≤ y := fun y hy => (ht8 y hy).1
  have hvt := val_self ht8
  have hlen := stL_len ht h4
  have hsm : small t = true := by simp [small]; omega
  have h5 : t.length < 5 := by omega
  obtain ⟨it, it1, it2⟩ := idx_get hvt
  have itl : it < (stL t).length := (List.getElem?_eq_some_iff.1 it2).1
  simp (disch := omega) [hg, h5, oLt, oLe, oLtN, oLeN, nLt, nLe]
  generalize hL : stL t = L at hlen it2 itl
  have hval : ∀ x ∈ L, val t x := fun x hx => st_val ht1 (by rw [hL]; exact hx)
  have hidx : ∀ {x : List Int}, val t x → ∃ i : Nat, idxL t x 0 = i ∧ L[i]? = some x := fun hx => by
    obtain ⟨i, a, b⟩ := idx_get hx; exact ⟨i, a, by rw [← hL]; exact b⟩
  refine XZ_for (fun p : Nat × List Bool => ⟨[(0, .il (ints t) t.length ut), (4, .il (lls L) L.length false), (5, .ref 0 0 L.length 1 (some L.length)), (6, vI p.1)], [(0, .cells (bls p.2))], 1⟩) (fun p => L.length - p.1) (fun p => p.1 ≤ L.length ∧ p.2 = List.replicate p.1 true ++ List.replicate (L.length - p.1) false) (0, List.replicate L.length false) (by simp) (.tot [5] (by simp)) ?_
  rintro ⟨i, M⟩ ⟨hi, hM⟩ N Q' hN hE
  simp only at hi hM ⊢
  have hMl : M.length = L.length := by rw [hM]; simp; omega
  rcases Nat.lt_or_ge i L.length with h | h
  · have e1 : M.set i true = List.replicate (i + 1) true ++ List.replicate (L.length - (i + 1)) false := by
      rw [hM, List.set_append_right _ _ (by simp)]
      simp only [List.length_replicate, Nat.sub_self]
      rw [show L.length - i = (L.length - (i + 1)) + 1 by omega, List.replicate_succ, List.set_cons_zero, List.replicate_succ', List.append_assoc]; rfl
    delta p57_l0 p57_r4 p57_r5 p57_r6
    simp (disch := omega) [oLt, oLe, oLtN, oLeN, nLt, nLe, nLtN, nLeN]
    exact hN _ (i + 1, M.set i true) (by simp only; omega) ⟨h, e1⟩ (.tot [5] (by simp))
  · have : i = L.length := by omega
    subst this
    have hM0 : M = L.map (canK t 0) := by
      rw [hM]; simp
      apply List.ext_getElem (by simp)
      intro n h1 h2
      simp [canK]
    delta p57_l0 p57_r4 p57_r5 p57_r6
    simp (disch := omega) [oLt, oLe, oLtN, oLeN, nLt, nLe, nLtN, nLeN]
    refine hE _ _ _ .refl ?_
    delta p57_r7
    simp (disch := omega) [oLt, oLe, oLtN, oLeN, nLt, nLe, nLtN, nLeN]
    clear hM
    refine XZ_for (fun p : Nat × Nat × List Bool => ⟨[(0, .il (ints t) t.length ut), (4, .il (lls L) L.length false), (5, .ref 0 0 L.length 1 (some L.length)), (7, vI p.2.1)], [(0, .cells (bls p.2.2))], 1⟩) (fun p => p.1) (fun p => p.2.2 = L.map (canK t p.2.1) ∧ cnt t p.2.1 < p.1 ∧ p.2.1 + p.1 = 5000 ∧ alv t p.1 p.2.1 = aliveF t) (5000, 0, M) ⟨hM0, cnt0 ht h4, by simp, rfl⟩ (.tot [5] (by simp)) ?_
    rintro ⟨f, k, M1⟩ ⟨hM1, hc, hf, ha⟩ N1 Q1 hN1 hE1
    simp only at hM1 hc hf ha ⊢
    have hM1l : M1.length = L.length := by rw [hM1]; simp
    have hM1t : M1.take L.length = M1 := List.take_of_length_le (by omega)
    have hget : ∀ {x : List Int} {i : Nat}, L[i]? = some x → M1[i]? = some (canK t k x) := fun hx => by rw [hM1, List.getElem?_map, hx]; rfl
    have hit := hget it2
    obtain ⟨f, rfl⟩ : ∃ g, f = g + 1 := ⟨f - 1, by omega⟩
    simp only [alv, hL] at ha
    by_cases h0 : canK t k t = false
    · rw [if_pos h0] at ha
      rw [h0] at hit
      have : M1[it] = false := by have := List.getElem?_eq_some_iff.1 hit; exact this.2
      delta p57_l3 p57_r8 p57_r9 p57_r10 p57_r11 p57_r12
      simp (disch := omega) [oLt, oLe, oLtN, oLeN, nLt, nLe, nLtN, nLeN, hg, ht, it1, hM1l, hit, this]
      refine hE1 _ _ _ .refl (hQ _ _ (.fz [2, 3] _ (.inl rfl) (by simp [hM1l, hM1t]; rfl) (by simp [avAlive, ← ha, hM1]) rfl))
    · rw [if_neg h0] at ha
      have h0' : canK t k t = true := by simpa using h0
      rw [h0'] at hit
      have : M1[it] = true := by have := List.getElem?_eq_some_iff.1 hit; exact this.2
      delta p57_l3 p57_r8 p57_r9 p57_r10 p57_r11 p57_r12
      simp (disch := omega) [oLt, oLe, oLtN, oLeN, nLt, nLe, nLtN, nLeN, hg, ht, it1, hM1l, hit, this]
      have hk0 : k + 1 ≤ 5000 := by omega
      -- what the next list is
      refine XZ_for (fun p : Nat × List Bool => ⟨[(0, .il (ints t) t.length ut), (4, .il (lls L) L.length false), (5, .ref 0 0 L.length 1 (some L.length)), (7, vI k), (8, .ref 1 0 L.length 1 (some L.length)), (9, vB (smT t k L p.1)), (10, vI p.1)], [(0, .cells (bls M1)), (1, .cells (bls p.2))], 2⟩) (fun p => L.length - p.1) (fun p => p.1 ≤ L.length ∧ p.2 = (L.take p.1).map (canK t (k + 1)) ++ List.replicate (L.length - p.1) false) (0, List.replicate L.length false) (by simp) (.tot [5, 8] (by simp [smT_zero])) ?_
      rintro ⟨i, M2⟩ ⟨hi2, hM2⟩ N2 Q2 hN2 hE2
      simp only at hi2 hM2 ⊢
      have hM2l : M2.length = L.length := by rw [hM2]; simp; omega
      rcases Nat.lt_or_ge i L.length with h | h
      · obtain ⟨x, r, d1, d2, d3, d4, d5⟩ := drop_split h
        have hvx := hval x d5
        have hxl := (val_len hvx).symm
        have hx79 : x.all (within 0 · 1000000) = true := by
          rw [List.all_eq_true]; intro y hy
          have := val_ok8 hvx ht8 y hy
          simp; omega
        delta p57_l2 p57_r13 p57_r14
        simp (disch := omega) [oLt, oLe, oLtN, oLeN, nLt, nLe, nLtN, nLeN, d2, d3]
        rw [nxt_zero h] at hM2
        subst hM2
        refine XZ_for (fun j : Nat => ⟨[(0, .il (ints t) t.length ut), (4, .il (lls L) L.length false), (5, .ref 0 0 L.length 1 (some L.length)), (7, vI k), (8, .ref 1 0 L.length 1 (some L.length)), (9, vB (smT t k L i)), (10, vI i), (11, vI j)], [(0, .cells (bls M1)), (1, .cells (bls (nxt (canK t (k + 1)) L i (anyTo t k x j))))], 2⟩) (fun j => t.length - j) (fun j => j ≤ t.length) 0 (by simp) (.tot [5, 8] (by simp [anyTo])) ?_
        rintro j hj N3 Q3 hN3 hE3
        have h6 := anyTo_succ t k x j
        have h9 : j = t.length → anyTo t k x j = canK t (k + 1) x := fun e => by rw [e, anyTo_all]
        generalize anyTo t k x j = b at h6 h9 ⊢
        have g1 := nxt_len (f := canK t (k + 1)) (b := b) h
        have g2 := nxt_get (f := canK t (k + 1)) (b := b) h
        have g3 : (nxt (canK t (k + 1)) L i b)[i] = b := (List.getElem?_eq_some_iff.1 g2).2
        have g4 := fun c => nxt_set (f := canK t (k + 1)) (b := b) (c := c) h
        rcases Nat.lt_or_ge j t.length with h3 | h3
        · cases b with
          | true =>
            simp only [Bool.true_or] at h6
            cases ho : aftG (j : Nat) t x 0 with
            | none =>
              delta p57_l1 p57_r15 p57_r16 p57_r17 p57_r18
              simp (disch := omega) [oLt, oLe, oLtN, oLeN, nLt, nLe, nLtN, nLeN, d2, d3, hxl, hsm, hx79, ho, avAft, g1, g2, g3, g4]
              exact hN3 _ (j + 1) (by omega) h3 (.tot [5, 8] (by simp [h6]))
            | some l =>
              delta p57_l1 p57_r15 p57_r16 p57_r17 p57_r18
              simp (disch := omega) [oLt, oLe, oLtN, oLeN, nLt, nLe, nLtN, nLeN, d2, d3, hxl, hsm, hx79, ho, avAft, g1, g2, g3, g4]
              exact hN3 _ (j + 1) (by omega) h3 (.tot [5, 8] (by simp [h6]))
          | false =>
            simp only [Bool.false_or] at h6
            cases ho : aftG (j : Nat) t x 0 with
            | none =>
              rw [ho] at h6
              delta p57_l1 p57_r15 p57_r16 p57_r17 p57_r18
              simp (disch := omega) [oLt, oLe, oLtN, oLeN, nLt, nLe, nLtN, nLeN, d2, d3, hxl, hsm, hx79, ho, avAft, g1, g2, g3, g4]
              exact hN3 _ (j + 1) (by omega) h3 (.tot [5, 8] (by simp [h6]))
            | some l =>
              rw [ho] at h6
              simp only at h6
              have hvl := aft_val hvx ht1 ho
              obtain ⟨il, il1, il2⟩ := hidx hvl
              have ill : il < L.length := (List.getElem?_eq_some_iff.1 il2).1
              have hll := (val_len hvl).symm
              have hl8 : ok8 l = true := ok8_iff.2 (val_ok8 hvl ht8)
              have q1 := hget il2
              have q2 : M1[il] = canK t k l := (List.getElem?_eq_some_iff.1 q1).2
              delta p57_l1 p57_r15 p57_r16 p57_r17 p57_r18
              simp (disch := omega) [oLt, oLe, oLtN, oLeN, nLt, nLe, nLtN, nLeN, d2, d3, hxl, hsm, hx79, ho, avAft, g1, g2, g3, g4, ht, hl8, hll, il1, q1, q2, hM1l]
              exact hN3 _ (j + 1) (by omega) h3 (.tot [5, 8] (by simp [h6]))
        · have : j = t.length := by omega
          have h10 := h9 this
          subst this
          subst h10
          delta p57_l1 p57_r15 p57_r16 p57_r17 p57_r18
          simp (disch := omega) [oLt, oLe, oLtN, oLeN, nLt, nLe, nLtN, nLeN]
          refine hE3 _ _ _ .refl ?_
          delta p57_r19 p57_r20
          have q1 := hget d2
          have q2 : M1[i] = canK t k x := (List.getElem?_eq_some_iff.1 q1).2
          have h7 := smT_succ t k L i x d2
          cases h8 : smT t k L i <;> (rw [h8] at h7; simp only [Bool.true_and, Bool.false_and] at h7; simp (disch := omega) [oLt, oLe, oLtN, oLeN, nLt, nLe, nLtN, nLeN, d2, d3, g1, g2, g3, q1, q2, hM1l]; refine hN2 _ (i + 1, nxt (canK t (k + 1)) L i (canK t (k + 1) x)) (by simp only; omega) ⟨h, nxt_done d2⟩ (.tot [5, 8] (by simp [h7])))
      · have : i = L.length := by omega
        subst this
        simp only [List.take_length, Nat.sub_self, List.replicate_zero, List.append_nil] at hM2 ⊢
        delta p57_l2 p57_r13 p57_r14
        simp (disch := omega) [oLt, oLe, oLtN, oLeN, nLt, nLe, nLtN, nLeN]
        refine hE2 _ _ _ .refl ?_
        delta p57_r21 p57_r22 p57_r23 p57_r24
        have hsm2 := smT_all t k L
        by_cases hs : L.map (canK t (k + 1)) = L.map (canK t k)
        · rw [if_pos hs] at ha
          rw [decide_eq_true hs] at hsm2
          simp (disch := omega) [oLt, oLe, oLtN, oLeN, nLt, nLe, nLtN, nLeN, hsm2]
          refine hE1 _ _ _ .refl (hQ _ _ (.fz [2, 3] _ (.inl rfl) (by simp [hM1l, hM1t]; rfl) (by simp [avAlive, ← ha, hM1]) rfl))
        · rw [if_neg hs] at ha
          rw [decide_eq_false hs] at hsm2
          simp (disch := omega) [oLt, oLe, oLtN, oLeN, nLt, nLe, nLtN, nLeN, hsm2]
          have hlt := cnt_lt (t := t) (k := k) (by rw [hL]; exact hs)
          exact hN1 _ (f, k + 1, M2) (by simp only; omega) ⟨hM2, by simp only; omega, by simp only; omega, ha⟩ (.tot [5] (by simp))
end Go.Sx.Wk
