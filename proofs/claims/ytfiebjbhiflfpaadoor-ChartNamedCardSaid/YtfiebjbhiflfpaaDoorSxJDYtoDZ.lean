/- What functions of the chart layer return: colour. No conditions. -/
import Derived.Test.YtfiebjbhiflfpaaDoorSxDX
set_option linter.unusedVariables false
set_option linter.unusedSimpArgs false
set_option maxRecDepth 4000
namespace Go.Sx.Ch
open Go Go.Sx Go.Proofs

theorem colR_of_first {J : Nat → Nat → Bool} {most P : Nat} {l : List Int} (h : First J P most l) : colR J most P [] = some l := by
  cases hc : colR J most P [] with
  | none => exact absurd h.len (colR_first.2 hc l h.fits)
  | some m => rw [(colR_first.1 m hc).unique h]
theorem colR_of_none {J : Nat → Nat → Bool} {most P : Nat} (h : ∀ m, Fits J most m → m.length ≠ P) : colR J most P [] = none := by
  cases hc : colR J most P [] with
  | none => rfl
  | some m => exact absurd (colR_first.1 m hc).len (h m (colR_first.1 m hc).fits)
def colA : Option (List Int) → AV
  | some l => .il (ints l) l.length false
  | none => .v (.slice none 0 0)
def colF (C : List Int) (most : Int) : Option (List Int) := colR (JN (nearF C)) most.toNat (ptsC C).toNat []
def g100 (C : List Int) (most : Int) : Bool := g80 C && decide (1 ≤ ptsC C) && within 1 most 1000000
set_option maxHeartbeats 4000000
def s100 : Sp := spT 100 [.tb, .i] fun (C : List Int) (most : Int) => res (g100 C most) (colA (colF C most))
@[simp] theorem s100_g : s100.g = 100 := rfl
@[simp] theorem s100_f : s100.f = (spT 100 [.tb, .i] fun (C : List Int) (most : Int) => res (g100 C most) (colA (colF C most))).f := rfl
theorem s100_ok : s100.ok Tryd.prog := by
  apply spT_ok
  simp only [OkT, Ty.all, List.nil_append, List.cons_append]
  intro (C : List Int) (most : Int)
  apply okT_res; intro hg
  refine P100.rz (ss := [s80]) ⟨s80_ok, trivial⟩ (by simp) fun Q hQ => ?_
  delta p100 p100_r0 p100_r1 p100_r2 p100_r3
  simp only [g100, Bool.and_eq_true, decide_eq_true_eq, within_iff] at hg
  obtain ⟨⟨hg, h1P⟩, hm1, hm2⟩ := hg
  obtain ⟨n, P, h34, hn, hP, h0, h33, en, eP, hf⟩ := g80_facts hg
  have h33' := (List.getElem?_eq_some_iff.1 h33).2
  have hl : (nearF C).length = P := by unfold nearF; rw [nearN_len, eP]; simp
  have hlt : ∀ i, (nearF C).getD i 0 < 65536 := nearN_lt _ fun e he => by
    rw [en] at he
    obtain ⟨o, a, b, -, -, hb, -, -, -, -, e2⟩ := hf e (by simpa using he)
    rw [e2]; simp; omega
  have ht : C.take 34 = C := List.take_of_length_le (by omega)
  obtain ⟨most, rfl⟩ := Int.eq_ofNat_of_zero_le (show 0 ≤ most by omega)
  have hcol : colF C most = colR (JN (nearF C)) most P [] := by unfold colF; rw [eP]; simp
  rw [hcol] at hQ
  obtain ⟨M, hM⟩ : ∃ M, nearF C = M := ⟨_, rfl⟩
  rw [hM] at hQ hl hlt
  have hP1 : 1 ≤ P := by omega
  have hPc : (1 : Int) ≤ P := by omega
  have hO0 : List.replicate P (AV.v (.int .i64 0)) = ints (stO P [] 0) := by
    unfold stO
    obtain ⟨k, rfl⟩ : ∃ k, P = k + 1 := ⟨P - 1, by omega⟩
    simp [ints, List.replicate_succ]
  simp (disch := omega) [oLt, oLe, oLtN, oLeN, nLt, nLe, nLtN, nLeN, hg, h34, ht, hM, h33, h33', hl]
  rw [hO0]
  refine XZ_for (fun q : List Int × Nat => stB C M P most q.2 q.1) (fun q => if q.2 < P then mea (most + 1) P (q.1.take q.2) (q.1.getD q.2 0) + 1 else 0)
    (fun q => (∃ pre c, pre.length = q.2 ∧ q.1 = stO P pre c ∧ SInv (JN M) P most pre c ∧ c < most) ∨ (q.2 = P ∧ First (JN M) P most q.1)) (stO P [] 0, 0) (.inl ⟨[], 0, rfl, rfl, sinv_init hP1 (by omega), by omega⟩) (.tot [2, 6] (by simp [stB])) ?_
  rintro ⟨O, p⟩ hinv N Q' hN hE
  simp only at hinv hN ⊢
  rcases hinv with ⟨pre, c, hpl, rfl, hI, hcm⟩ | ⟨rfl, hF⟩
  · have hp : p < P := by rw [← hpl]; exact hI.len
    have hpc : (p : Int) < P := by omega
    have hO := stO_len (c := c) (show pre.length < P from hI.len)
    have hg' := stO_get (P := P) (pre := pre) (c := c)
    have htk := stO_take (P := P) (pre := pre) (c := c)
    rw [hpl] at hg' htk
    have hpre : ∀ q, q < p → (stO P pre c)[q]? = some (pre.getD q 0) := fun q hq => by
      unfold stO
      rw [List.getElem?_append_left (by omega), List.getD_eq_getElem?_getD, List.getElem?_eq_getElem (by omega)]; rfl
    have hgd : (stO P pre c).getD p 0 = c := by rw [List.getD_eq_getElem?_getD, hg']; rfl
    rw [if_pos hp, htk, hgd] at hN
    have hc0 := hI.c0
    have key : ∀ (pre' : List Int) (c' : Int), SInv (JN M) P most pre' c' → c' < most → mea (most + 1) P pre' c' < mea (most + 1) P pre c → ∀ s', ChgT 0 s' (stB C M P most pre'.length (stO P pre' c')) → N s' := fun pre' c' h1 h2 h3 s' hs => by
      refine hN s' (stO P pre' c', pre'.length) ?_ (.inl ⟨pre', c', rfl, rfl, h1, h2⟩) hs
      simp only
      rw [if_pos h1.len, stO_take, List.getD_eq_getElem?_getD, stO_get, Option.getD_some]
      omega
    have kdone : ∀ O', First (JN M) P most O' → ∀ s', ChgT 0 s' (stB C M P most P O') → N s' := fun O' h1 s' hs => by
      refine hN s' (O', P) ?_ (.inr ⟨rfl, h1⟩) hs
      simp only
      rw [if_neg (Nat.lt_irrefl _)]; omega
    clear hN
    have hO2 := hO
    generalize hOe : stO P pre c = O at *
    delta p100_l2 p100_r4 p100_r5 p100_r6
    unfold stB
    simp (disch := omega) [oLt, oLe, oLtN, oLeN, nLt, nLe, nLtN, nLeN, hpc, h33, h33', hp, hO, h34]
    refine l0_ok (C := C) (most := (most : Int)) hP hl hlt hO hp hg' hpl hpre (.to [0, 1] (by simp [stL])) ?_
    simp only [inBE, thenE, if_true, stK]
    have hgA := (List.getElem?_eq_some_iff.1 hg').2
    cases hcl : clash (JN M) pre c with
    | false =>
      delta p100_r11 p100_r12 p100_r13
      simp (disch := omega) [oLt, oLe, oLtN, oLeN, nLt, nLe, nLtN, nLeN, hpc, hp, hO, hg', hgA, hcm]
      by_cases hlast : pre.length + 1 < P
      · refine key (pre ++ [c]) 0 (sinv_next hI hcm hcl hlast) (by omega) (mea_next hlast) _ ?_
        rw [stO_next hlast, hOe, List.length_append, List.length_singleton, hpl]
        exact .to [0, 1] (by simp [stB])
      · have hl2 : pre.length + 1 = P := by omega
        refine kdone (pre ++ [c]) (sinv_done hI hcm hcl hl2) _ ?_
        rw [← stO_done hl2, hOe]
        have : ((p : Int) + 1) = (P : Int) := by omega
        rw [this]
        exact .to [0, 1] (by simp [stB])
    | true =>
      have hI' := sinv_up hI hcm hcl
      have hst : O.set p (c + 1) = stO P pre (c + 1) := by rw [← hOe, ← hpl, stO_set]
      delta p100_r11 p100_r12 p100_r13
      simp (disch := omega) [oLt, oLe, oLtN, oLeN, nLt, nLe, nLtN, nLeN, hpc, hp, hO, hg', hgA, hcm]
      rw [hst, ← hpl]
      refine l1_ok (C := C) hP hl hm2 hI' (.to [0, 1] (by simp [stB])) (fun r d hb => ?_) (fun hb s hs => ?_)
      · simp only [inBE, thenE, if_true]
        obtain ⟨g1, g2⟩ := bk_some (by rw [List.reverse_reverse]; exact hI') hb
        have hB : most < most + 1 := by omega
        have g3 := bk_phi (B := most + 1) hB (by rw [List.reverse_reverse]; exact hI') hb
        rw [List.reverse_reverse] at g3
        refine key r.reverse d g1 g2 (mea_phi (Nat.lt_of_lt_of_le (phi_up (by omega) hc0.1) g3) (phi_le hB g1)) _ ?_
        rw [List.length_reverse]
        exact .refl
      · simp only [inBE, thenE]
        have hno := bk_none (by rw [List.reverse_reverse]; exact hI') hb
        rw [colR_of_none hno, colA] at hQ
        exact hE _ _ _ .refl (hQ _ _ hs)
  · have hres : colR (JN M) most p [] = some O := colR_of_first hF
    rw [hres, colA] at hQ
    have hpc : ¬ (p : Int) < p := by omega
    have hOl := hF.len
    have hOt : O.take p = O := List.take_of_length_le (by omega)
    rw [hOl] at hQ
    clear hN
    delta p100_l2 p100_r4 p100_r5 p100_r6
    unfold stB
    simp (disch := omega) [oLt, oLe, oLtN, oLeN, nLt, nLe, nLtN, nLeN, hpc, h33, h33', h34]
    refine hE _ _ _ .refl ?_
    delta p100_r20
    simp (disch := omega) [oLt, oLe, oLtN, oLeN, nLt, nLe, nLtN, nLeN]
    exact hQ _ _ (.fz [4] _ (.inl rfl) (by simp [hOl, hOt]; rfl) (by simp [hOl]) (by simp))
end Go.Sx.Ch
set_option maxRecDepth 4000
namespace Go.Sx.Ch
open Go Go.Sx Go.Proofs

theorem tryF_congr {α : Type} {f g : Nat → Option α} : ∀ {n c : Nat}, (∀ j, c ≤ j → j < c + n → f j = g j) → tryF f n c = tryF g n c
  | 0, c, _ => rfl
  | n + 1, c, h => by
    simp only [tryF]
    rw [h c (Nat.le_refl _) (by omega), tryF_congr (n := n) fun j h1 h2 => h j (by omega) (by omega)]
theorem colR_congr {J J' : Nat → Nat → Bool} {most P : Nat} (h : ∀ p q, q < p → p < P → J p q = J' p q) : ∀ (k : Nat) (pre : List Int), pre.length + k = P → colR J most k pre = colR J' most k pre
  | 0, pre, _ => rfl
  | k + 1, pre, hp => by
    simp only [colR]
    refine tryF_congr fun c h1 h2 => ?_
    have hcl : clash J pre c = clash J' pre c := by
      unfold clash clashN
      apply Bool.eq_iff_iff.2
      simp only [List.any_eq_true, List.mem_range, Bool.and_eq_true]
      constructor <;> (rintro ⟨q, q1, q2, q3⟩; refine ⟨q, q1, q2, ?_⟩)
      · rw [← h _ _ q1 (by omega)]; exact q3
      · rw [h _ _ q1 (by omega)]; exact q3
    rw [hcl, colR_congr h k (pre ++ [(c : Int)]) (by simp; omega)]
def JR (L : List (List Int)) (p q : Nat) : Bool := joinR L p q
def loopR (L : List (List Int)) : Bool := (List.range L.length).any fun p => joinR L p p
theorem nearF_len {L : List (List Int)} (hc : chk L = 0) : (nearF (tabF L)).length = L.length := by
  have hcv := chk_cov hc
  unfold nearF
  rw [nearN_len, pts_eq hcv.h16 (chk_ne hc)]; simp
theorem loop_eq {L : List (List Int)} (hc : chk L = 0) : loopF (tabF L) = loopR L := by
  unfold loopF loopR
  rw [nearF_len hc]
  apply Bool.eq_iff_iff.2
  simp only [List.any_eq_true, List.mem_range]
  constructor <;> (rintro ⟨p, h1, h2⟩; refine ⟨p, h1, ?_⟩)
  · rw [← near_join hc p h1]; exact h2
  · rw [near_join hc p h1]; exact h2
theorem colF_eq {L : List (List Int)} (hc : chk L = 0) (m : Nat) : colF (tabF L) m = colR (JR L) m L.length [] := by
  have hcv := chk_cov hc
  unfold colF
  rw [pts_eq hcv.h16 (chk_ne hc), Int.toNat_natCast, Int.toNat_natCast]
  exact colR_congr (P := L.length) (fun p q hq hp => near_join hc q hp) _ _ (by simp)
/-- The first colours with as few as possible, and how many. -/
def fewF (L : List (List Int)) (m : Nat) : Option (List Int × Nat) := (colR (JR L) m L.length []).map fun l => (l, m)
def fewT (L : List (List Int)) : Option (List Int × Nat) := tryF (fewF L) (L.length + 1) 0
theorem fewF_last (L : List (List Int)) : fewF L L.length ≠ none := by
  intro h
  unfold fewF at h
  rw [Option.map_eq_none_iff] at h
  obtain ⟨m, h1, h2⟩ := first_all (J := JR L) (P := L.length)
  exact colR_first.2 h m h1 h2
theorem fewF_zero {L : List (List Int)} (h : 0 < L.length) : fewF L 0 = none := by
  unfold fewF
  obtain ⟨k, hk⟩ : ∃ k, L.length = k + 1 := ⟨L.length - 1, by omega⟩
  rw [hk]; rfl
def bestE (L : List (List Int)) : Int := if ¬ chk L = 0 then chk L else if loopR L = true then 12 else 0
def bestO (L : List (List Int)) : Option (List Int × Nat) := if bestE L = 0 ∧ 0 < L.length then fewT L else none
def bestL (L : List (List Int)) : AV := match bestO L with
  | some q => .il (ints q.1) q.1.length false
  | none => .v (.slice none 0 0)
def bestN (L : List (List Int)) : Nat := match bestO L with
  | some q => q.2
  | none => 0
def bestV (L : List (List Int)) : AV := .tup [bestL L, vI (bestN L), vI (bestE L)]
set_option maxHeartbeats 2000000
def s76 : Sp := spT 76 [.mp] fun (L : List (List Int)) => res (smM L) (bestV L)
@[simp] theorem s76_g : s76.g = 76 := rfl
@[simp] theorem s76_f : s76.f = (spT 76 [.mp] fun (L : List (List Int)) => res (smM L) (bestV L)).f := rfl
theorem s76_ok : s76.ok Tryd.prog := by
  apply spT_ok
  simp only [OkT, Ty.all, List.nil_append, List.cons_append]
  intro (L : List (List Int)) u
  apply okT_res; intro hs
  refine P76.rz (ss := [s67, s79, s100]) ⟨s67_ok, s79_ok, s100_ok, trivial⟩ (by simp) fun Q hQ => ?_
  delta p76 p76_r0 p76_r1 p76_r2 p76_r3 p76_r4 p76_r5 p76_r6 p76_r7 p76_r8
  by_cases hc : chk L = 0
  · obtain ⟨h34, h16, hev, hl, h0, h33, hp⟩ := tab_pts hc
    have h33' := (List.getElem?_eq_some_iff.1 h33).2
    have ht : (tabF L).take 34 = tabF L := List.take_of_length_le (by omega)
    have hv : openV L = .tup [.agg (ints (tabF L)), vI 0] := by unfold openV; rw [hc]; rfl
    have hsp : splice (ints Z34) 0 (ints (tabF L)) = ints (tabF L) := splice_all (by simp [h34, z34_len])
    have hg := g80_tab hc
    have hlo := loop_eq hc
    have hcol := colF_eq hc
    have hpts : ptsC (tabF L) = L.length := by unfold ptsC; rw [List.getD_eq_getElem?_getD, h33]; rfl
    generalize hCe : tabF L = C at *
    by_cases hlp : loopR L = true
    · have hr : bestV L = .tup [.v (.slice none 0 0), vI 0, vI 12] := by
        have hE : bestE L = 12 := by unfold bestE; simp [hc, hlp]
        have hO : bestO L = none := by unfold bestO; rw [hE]; simp
        unfold bestV bestL bestN; rw [hO, hE]; rfl
      rw [hr] at hQ
      simp (disch := omega) [oLt, oLe, oLtN, oLeN, nLt, nLe, nLtN, nLeN, hs, hv, zl, zz, hsp, h34, z34_len, ht, hg, hlo, hlp]
      exact hQ _ _ (.p (.inl rfl) (by simp) rfl)
    · have hlp' : loopR L = false := by simpa using hlp
      have hE : bestE L = 0 := by unfold bestE; simp [hc, hlp']
      by_cases hP : L.length = 0
      · have hr : bestV L = .tup [.v (.slice none 0 0), vI 0, vI 0] := by
          have hO : bestO L = none := by unfold bestO; rw [if_neg (by omega)]
          unfold bestV bestL bestN; rw [hO, hE]; rfl
        rw [hr] at hQ
        simp (disch := omega) [oLt, oLe, oLtN, oLeN, nLt, nLe, nLtN, nLeN, hs, hv, zl, zz, hsp, h34, z34_len, ht, hg, hlo, hlp', h33, h33', hP]
        exact hQ _ _ (.p (.inl rfl) (by simp) rfl)
      · have hP1 : 0 < L.length := by omega
        have hO : bestO L = fewT L := by unfold bestO; rw [if_pos ⟨hE, hP1⟩]
        have hPc : ¬ (L.length : Int) = 0 := by omega
        have hT1 : fewT L = tryF (fewF L) L.length 1 := by unfold fewT; simp only [tryF]; rw [fewF_zero hP1]
        simp (disch := omega) [oLt, oLe, oLtN, oLeN, nLt, nLe, nLtN, nLeN, hs, hv, zl, zz, hsp, h34, z34_len, ht, hg, hlo, hlp', h33, h33', hP, hPc]
        refine XZ_for (fun m : Nat => ⟨[(5, .ptr 0 0), (7, vI m)], [(0, .cells (ints C))], 1⟩) (fun m => L.length + 1 - m) (fun m => 1 ≤ m ∧ m ≤ L.length ∧ tryF (fewF L) (L.length + 1 - m) m = fewT L) 1 ⟨Nat.le_refl _, hP1, by rw [hT1]; rfl⟩ (.tot [5] (by simp)) ?_
        rintro m ⟨hm1, hm2, hinv⟩ N Q' hN hE2
        have hg100 : g100 C m = true := by
          simp only [g100, Bool.and_eq_true, decide_eq_true_eq, within_iff, hpts]
          exact ⟨⟨hg, by omega⟩, by omega, by omega⟩
        have hst : L.length + 1 - m = (L.length - m) + 1 := by omega
        rw [hst] at hinv
        simp only [tryF] at hinv
        cases hcm : colR (JR L) m L.length [] with
        | some l =>
          have hfm : fewF L m = some (l, m) := by unfold fewF; rw [hcm]; rfl
          rw [hfm] at hinv
          have hln : l.length = L.length := (colR_first.1 l hcm).len
          have hr : bestV L = .tup [.il (ints l) l.length false, vI m, vI 0] := by
            have hO' : bestO L = some (l, m) := by rw [hO, ← hinv]
            unfold bestV bestL bestN; rw [hO', hE]
          rw [hr] at hQ
          have hv1 : colF C m = some l := by rw [hcol, hcm]
          have hl0 : ¬ l = [] := fun e => by rw [e] at hln; simp at hln; omega
          have hl1 : ¬ l.length = 0 := by omega
          delta p76_l0 p76_r9 p76_r10 p76_r11 p76_r12
          simp (disch := omega) [oLt, oLe, oLtN, oLeN, nLt, nLe, nLtN, nLeN, h34, ht, hg100, hv1, colA, hl0, hl1, effEqn, Go.Sx.nilA, fits, nilOf]
          exact hE2 _ _ _ .refl (hQ _ _ (.p (.inl rfl) (by simp) (by simp)))
        | none =>
          have hfm : fewF L m = none := by unfold fewF; rw [hcm]; rfl
          rw [hfm] at hinv
          have hlt : m < L.length := by
            rcases Nat.lt_or_ge m L.length with h | h
            · exact h
            · have : m = L.length := by omega
              subst this
              exact absurd hfm (fewF_last L)
          have hv1 : colF C m = none := by rw [hcol, hcm]
          delta p76_l0 p76_r9 p76_r10 p76_r11 p76_r12
          simp (disch := omega) [oLt, oLe, oLtN, oLeN, nLt, nLe, nLtN, nLeN, h34, ht, hg100, hv1, colA, effEqn, Go.Sx.nilA, fits, nilOf]
          exact hN _ (m + 1) (by omega) ⟨by omega, by omega, by rw [← hinv, show L.length + 1 - (m + 1) = L.length - m by omega]⟩ (.tot [5] (by simp))
  · have hv : openV L = .tup [.agg (ints Z34), vI (chk L)] := by unfold openV; rw [if_neg hc]
    have hr : bestV L = .tup [.v (.slice none 0 0), vI 0, vI (chk L)] := by
      have hE : bestE L = chk L := by unfold bestE; simp [hc]
      have hO : bestO L = none := by unfold bestO; rw [hE]; simp [hc]
      unfold bestV bestL bestN; rw [hO, hE]; rfl
    rw [hr] at hQ
    generalize chk L = c at *
    simp (disch := omega) [oLt, oLe, oLtN, oLeN, nLt, nLe, nLtN, nLeN, hs, hv, zl, zz, z34_len, hc]
    exact hQ _ _ (.p (.inl rfl) (by simp) rfl)
theorem bestL_or (L : List (List Int)) : bestL L = .v (.slice none 0 0) ∨ ∃ l, bestL L = .il (ints l) l.length false := by
  unfold bestL
  cases bestO L with
  | none => exact .inl rfl
  | some q => exact .inr ⟨q.1, rfl⟩
def s26 : Sp := spT 26 [.mp] fun (L : List (List Int)) => res (smM L) (.tup [vI (bestN L), vI (bestE L)])
@[simp] theorem s26_g : s26.g = 26 := rfl
@[simp] theorem s26_f : s26.f = (spT 26 [.mp] fun (L : List (List Int)) => res (smM L) (.tup [vI (bestN L), vI (bestE L)])).f := rfl
theorem s26_ok : s26.ok Tryd.prog := by
  apply spT_ok
  simp only [OkT, Ty.all, List.nil_append, List.cons_append]
  intro (L : List (List Int)) u
  apply okT_res; intro hs
  refine P26.rz (ss := [s76]) ⟨s76_ok, trivial⟩ (by simp) fun Q hQ => ?_
  delta p26 p26_r0 p26_r1 p26_r2
  have hr : bestV L = .tup [bestL L, vI (bestN L), vI (bestE L)] := rfl
  rcases bestL_or L with h | ⟨l, h⟩
  · rw [h] at hr
    generalize bestE L = e at *
    generalize bestN L = n at *
    simp (disch := omega) [oLt, oLe, oLtN, oLeN, nLt, nLe, nLtN, nLeN, hs, hr]
    exact hQ _ _ (.p (.inl rfl) (by simp) rfl)
  · rw [h] at hr
    generalize bestE L = e at *
    generalize bestN L = n at *
    simp (disch := omega) [oLt, oLe, oLtN, oLeN, nLt, nLe, nLtN, nLeN, hs, hr]
    exact hQ _ _ (.p (.inl rfl) (by simp) rfl)
def s28 : Sp := spT 28 [.mp] fun (L : List (List Int)) => res (smM L) (.tup [bestL L, vI (bestE L)])
@[simp] theorem s28_g : s28.g = 28 := rfl
@[simp] theorem s28_f : s28.f = (spT 28 [.mp] fun (L : List (List Int)) => res (smM L) (.tup [bestL L, vI (bestE L)])).f := rfl
theorem s28_ok : s28.ok Tryd.prog := by
  apply spT_ok
  simp only [OkT, Ty.all, List.nil_append, List.cons_append]
  intro (L : List (List Int)) u
  apply okT_res; intro hs
  refine P28.rz (ss := [s76]) ⟨s76_ok, trivial⟩ (by simp) fun Q hQ => ?_
  delta p28 p28_r0 p28_r1 p28_r2
  have hr : bestV L = .tup [bestL L, vI (bestN L), vI (bestE L)] := rfl
  rcases bestL_or L with h | ⟨l, h⟩
  · rw [h] at hr hQ
    generalize bestE L = e at *
    generalize bestN L = n at *
    simp (disch := omega) [oLt, oLe, oLtN, oLeN, nLt, nLe, nLtN, nLeN, hs, hr]
    exact hQ _ _ (.p (.inl rfl) (by simp) rfl)
  · rw [h] at hr hQ
    generalize bestE L = e at *
    generalize bestN L = n at *
    simp (disch := omega) [oLt, oLe, oLtN, oLeN, nLt, nLe, nLtN, nLeN, hs, hr]
    exact hQ _ _ (.p (.inl rfl) (by simp) (by simp))
end Go.Sx.Ch
