/- ChartNamed: the law returns true. No conditions. Printed by gen/mkNamed.py. -/
import Derived.Test.YtfiebjbhiflfpaaDoorSxJU
import Derived.Test.YtfiebjbhiflfpaaDoorSxJJAtoJC
set_option linter.unusedVariables false
set_option linter.unusedSimpArgs false
set_option maxRecDepth 4000
namespace Go.Sx.Ch
open Go Go.Sx Go.Proofs

noncomputable def p1010 : PCode := (.seq (.reg p10_r0 [1, 2]) (.seq (.reg p10_r1 [1, 5]) (.seq (.reg p10_r2 [1, 5, 6]) (.seq (.reg p10_r3 [1, 5, 6, 7]) (.seq (.seq (.reg p10_r4 [1, 5, 6, 7, 28, 29]) (.block 0 (.loop p10_l0))) (.seqC (.reg p10_r11 [5, 6]) (.seq (.reg p10_r12 [5, 6, 11, 12]) (.seq (.reg p10_r13 [5, 6, 11, 12, 13, 14]) (.seq (.reg p10_r14 [5, 6, 11, 12, 13, 14, 15, 16]) (.seq (.reg p10_r15 [5, 6, 11, 12, 13, 14, 15, 16, 17, 18]) (.seq (.seq (.reg p10_r16 [5, 6, 111]) (.cond (Operand.tmp 111) (.seq (.reg p10_r17 [4]) .ret) .skip)) (.seq (.reg p10_r18 [5, 6, 12, 19]) (.seq (.reg p10_r19 [5, 12, 14, 19, 20]) (.seq (.reg p10_r20 [4]) .ret))))))))))))))
theorem P1010s : strip p1010 = p10 := by kernel_rfl
theorem XZ_stepC' {R : Rsv} {k0 : Nat} {a b : PCode} {s : ST} {Q : Exit → ST → Prop} (s1 s2 : ST) (h1 : ∀ (N : ST → Prop) (Q' : Exit → ST → Prop), N s1 → XZ R k0 a s (thenE N Q')) (hc : ChgT k0 s1 s2) (h2 : XZ R k0 b s2 Q) : XZ R k0 (.seqC a b) s Q := h1 _ _ ⟨s2, hc, h2⟩
@[simp] theorem idsL_lls10 : ∀ l : List (List Int), idsL (lls l) = []
  | [] => rfl
  | x :: l => by rw [lls_cons]; simp [idsL, ids, idsL_lls10 l]
@[simp] theorem inL_lls10 (p : Nat → Bool) : ∀ l : List (List Int), Go.Sx.inL p (lls l) = true
  | [] => rfl
  | x :: l => by rw [lls_cons]; simp [Go.Sx.inL, Go.Sx.inA, inL_lls10 p l]
theorem cyc_sm (σ : Int → Int) {n : Nat} (hn : n ≤ 16) : (decide ((cyc σ n).length ≤ 10000) && (cyc σ n).all small) = true := by
  have key : ∀ n, ∀ l ∈ (cycN σ n).2, l.length ≤ 16 := by
    intro n
    induction n with
    | zero => intro l hl; simp [cycN] at hl
    | succ n ih =>
      intro l hl
      rw [cycN_succ] at hl
      unfold cycS at hl
      split at hl
      · exact ih l hl
      · rw [List.mem_append, List.mem_singleton] at hl
        rcases hl with hl | rfl
        · exact ih l hl
        · cases h : orb σ n 16 n with
          | none => simp
          | some r => simpa using (orb_len h).1
  have := (cycN_len σ n).2
  simp only [Bool.and_eq_true, decide_eq_true_eq, List.all_eq_true]
  refine ⟨by unfold cyc; omega, fun l hl => ?_⟩
  have := key n l hl
  simp only [small, decide_eq_true_eq]; omega
set_option maxHeartbeats 8000000
theorem named_rest {L O : List (List Int)} {n : Nat} (hn : L.length = n) (hno : O.length = n) (hc : chk L = 0) (hco : chk O = 0) (ht : tidL O = tidL L) (hf : faceL O = faceL L) (hbN : bestN O = bestN L) (hbE : bestE O = bestE L)
    {s0 : ST} {Q : Exit → ST → Prop} (hs0 : s0 = ⟨[(5, .ptr 0 0), (6, .ptr 1 0)], [(0, .cells [.il (lls L) n false]), (1, .cells [.il (lls O) n false])], 2⟩) (hret : ∀ h nx, Q .ret ⟨[(4, vB true)], h, nx⟩) :
    XZ (rZ (spc ss10)) 0 (.seq (.reg p10_r12 [5, 6, 11, 12]) (.seq (.reg p10_r13 [5, 6, 11, 12, 13, 14]) (.seq (.reg p10_r14 [5, 6, 11, 12, 13, 14, 15, 16]) (.seq (.reg p10_r15 [5, 6, 11, 12, 13, 14, 15, 16, 17, 18]) (.seq (.seq (.reg p10_r16 [5, 6, 111]) (.cond (Operand.tmp 111) (.seq (.reg p10_r17 [4]) .ret) .skip)) (.seq (.reg p10_r18 [5, 6, 12, 19]) (.seq (.reg p10_r19 [5, 12, 14, 19, 20]) (.seq (.reg p10_r20 [4]) .ret)))))))) s0 Q := by
  subst hs0
  have sm : ∀ {L : List (List Int)}, chk L = 0 → smM L = true := fun {L} hc => by
    obtain ⟨-, h16, -, hP, -⟩ := tab_pts hc
    simp only [smM, Bool.and_eq_true, decide_eq_true_eq]; omega
  have hs := sm hc
  have hso := sm hco
  have hgd : gdM L = true := by simp only [gdM, hs, Bool.true_and, decide_eq_true_eq]; exact hc
  have hlo := loop_eq hc
  have g1 := g33_ok hs
  have g2 := g33_ok hso
  obtain ⟨h16, -, -⟩ := chk_zero hc
  have s1 : (decide ((tidL L).length ≤ 10000) && (tidL L).all small) = true := by unfold tidL; rw [if_pos hc]; exact cyc_sm _ h16
  have s2 : (decide ((faceL L).length ≤ 10000) && (faceL L).all small) = true := by unfold faceL; rw [if_pos hc]; exact cyc_sm _ h16
  have dL : tidV L = .tup [.agg [.il (lls (tidL L)) (tidL L).length false], vI 0] := by unfold tidV mpB; rw [hc, if_pos rfl]
  have dO : tidV O = .tup [.agg [.il (lls (tidL L)) (tidL L).length false], vI 0] := by unfold tidV mpB; rw [hco, if_pos rfl, ht]
  have fL : facV L = .tup [.il (lls (faceL L)) (faceL L).length false, vI 0] := by unfold facV; rw [hc]
  have fO : facV O = .tup [.il (lls (faceL L)) (faceL L).length false, vI 0] := by unfold facV; rw [hco, hf]
  generalize tidL L = T at *
  generalize faceL L = F at *
  obtain ⟨b, hb⟩ : ∃ b, bestN L = b := ⟨_, rfl⟩
  rw [hb] at hbN
  have hE : bestE L = if loopR L = true then 12 else 0 := by unfold bestE; rw [if_neg (by simp [hc])]
  refine XZ_step ?_ (fun N Q_ hN => ?_) ?_
  rotate_left
  · delta p10_r12; simp (disch := omega) [oLt, oLe, oLtN, oLeN, nLt, nLe, nLtN, nLeN, hs, dL, hn]
    exact hN
  refine XZ_step ?_ (fun N Q_ hN => ?_) ?_
  rotate_left
  · delta p10_r13; simp (disch := omega) [oLt, oLe, oLtN, oLeN, nLt, nLe, nLtN, nLeN, hso, dO, hno]
    exact hN
  refine XZ_step ?_ (fun N Q_ hN => ?_) ?_
  rotate_left
  · delta p10_r14; simp (disch := omega) [oLt, oLe, oLtN, oLeN, nLt, nLe, nLtN, nLeN, g1, fL, hn]
    exact hN
  refine XZ_step ?_ (fun N Q_ hN => ?_) ?_
  rotate_left
  · delta p10_r15; simp (disch := omega) [oLt, oLe, oLtN, oLeN, nLt, nLe, nLtN, nLeN, g2, fO, hno]
    exact hN
  refine XZ_step ?_ (fun N Q_ hN => ?_) ?_
  rotate_left
  · refine XZ_regG ?_
    delta p10_r16
    refine zOps_cut 7 ?_ (fun K_ hK => ?_) ?_
    rotate_left
    · simp only [List.take_succ_cons, List.take_zero]
      simp (disch := omega) [oLt, oLe, oLtN, oLeN, nLt, nLe, nLtN, nLeN]
      exact hK
    simp only [List.drop_succ_cons, List.drop_zero]
    refine zOps_cut 8 ?_ (fun K_ hK => ?_) ?_
    rotate_left
    · simp only [List.take_succ_cons, List.take_zero]
      simp (disch := omega) [oLt, oLe, oLtN, oLeN, nLt, nLe, nLtN, nLeN]
      exact hK
    simp only [List.drop_succ_cons, List.drop_zero]
    refine zOps_cut 4 ?_ (fun K_ hK => ?_) ?_
    rotate_left
    · simp only [List.take_succ_cons, List.take_zero]
      simp (disch := omega) [oLt, oLe, oLtN, oLeN, nLt, nLe, nLtN, nLeN]
      exact hK
    simp only [List.drop_succ_cons, List.drop_zero]
    refine zOps_cut 3 ?_ (fun K_ hK => ?_) ?_
    rotate_left
    · simp only [List.take_succ_cons, List.take_zero]
      simp (disch := omega) [oLt, oLe, oLtN, oLeN, nLt, nLe, nLtN, nLeN, s1]
      exact hK
    simp only [List.drop_succ_cons, List.drop_zero]
    refine zOps_cut 5 ?_ (fun K_ hK => ?_) ?_
    rotate_left
    · simp only [List.take_succ_cons, List.take_zero]
      simp (disch := omega) [oLt, oLe, oLtN, oLeN, nLt, nLe, nLtN, nLeN, s2]
      exact hK
    simp only [List.drop_succ_cons, List.drop_zero]
    simp (disch := omega) [oLt, oLe, oLtN, oLeN, nLt, nLe, nLtN, nLeN]
    exact hN
  cases hlp : loopR L with
  | true =>
    rw [hlp] at hlo hE
    rw [if_pos rfl] at hE
    rw [hE] at hbE
    refine XZ_step ?_ (fun N Q_ hN => ?_) ?_
    rotate_left
    · delta p10_r18; simp (disch := omega) [oLt, oLe, oLtN, oLeN, nLt, nLe, nLtN, nLeN, hs, hE, hn, hb]
      exact hN
    refine XZ_step ?_ (fun N Q_ hN => ?_) ?_
    rotate_left
    · delta p10_r19; simp (disch := omega) [oLt, oLe, oLtN, oLeN, nLt, nLe, nLtN, nLeN, hso, hbE, hbN, hno]
      exact hN
    refine XZ_regG ?_
    delta p10_r20
    refine zOps_cut 8 ?_ (fun K_ hK => ?_) ?_
    rotate_left
    · simp only [List.take_succ_cons, List.take_zero]
      simp (disch := omega) [oLt, oLe, oLtN, oLeN, nLt, nLe, nLtN, nLeN]
      exact hK
    simp only [List.drop_succ_cons, List.drop_zero]
    refine zOps_cut 6 ?_ (fun K_ hK => ?_) ?_
    rotate_left
    · simp only [List.take_succ_cons, List.take_zero]
      simp (disch := omega) [oLt, oLe, oLtN, oLeN, nLt, nLe, nLtN, nLeN, hgd, hlo, hn]
      exact hK
    simp only [List.drop_succ_cons, List.drop_zero]
    simp (disch := omega) [oLt, oLe, oLtN, oLeN, nLt, nLe, nLtN, nLeN]
    exact hret _ _
  | false =>
    rw [hlp] at hlo hE
    rw [if_neg (by simp)] at hE
    rw [hE] at hbE
    refine XZ_step ?_ (fun N Q_ hN => ?_) ?_
    rotate_left
    · delta p10_r18; simp (disch := omega) [oLt, oLe, oLtN, oLeN, nLt, nLe, nLtN, nLeN, hs, hE, hn, hb]
      exact hN
    refine XZ_step ?_ (fun N Q_ hN => ?_) ?_
    rotate_left
    · delta p10_r19; simp (disch := omega) [oLt, oLe, oLtN, oLeN, nLt, nLe, nLtN, nLeN, hso, hbE, hbN, hno]
      exact hN
    refine XZ_regG ?_
    delta p10_r20
    refine zOps_cut 8 ?_ (fun K_ hK => ?_) ?_
    rotate_left
    · simp only [List.take_succ_cons, List.take_zero]
      simp (disch := omega) [oLt, oLe, oLtN, oLeN, nLt, nLe, nLtN, nLeN]
      exact hK
    simp only [List.drop_succ_cons, List.drop_zero]
    refine zOps_cut 6 ?_ (fun K_ hK => ?_) ?_
    rotate_left
    · simp only [List.take_succ_cons, List.take_zero]
      simp (disch := omega) [oLt, oLe, oLtN, oLeN, nLt, nLe, nLtN, nLeN, hgd, hlo, hn]
      exact hK
    simp only [List.drop_succ_cons, List.drop_zero]
    simp (disch := omega) [oLt, oLe, oLtN, oLeN, nLt, nLe, nLtN, nLeN]
    exact hret _ _
theorem nmX_get {L : List (List Int)} {t n i : Nat} (hn : L.length = n) (hi : i < n) : (nmX t L)[i]? = some (rt t (L.getD ((i + t) % n) [])) := by
  subst hn
  have hr : t % L.length < L.length := Nat.mod_lt _ (by omega)
  have hm : (i + t) % L.length < L.length := Nat.mod_lt _ (by omega)
  unfold nmX
  rw [List.getElem?_map, rot_get hr hi, Nat.mod_add_mod, Nat.add_comm t i, List.getD_eq_getElem?_getD, List.getElem?_eq_getElem hm]
  rfl
theorem named_runs {s : Int} {O : List Int} {g t : Int} (h : gSk s O g 8 = true) (ht : 0 ≤ t ∧ t ≤ 255) :
    Runs Tryd.prog 10 0 [.agg (skA s O g), .v (.int .u8 t)] (hpF []) (vB true) 0 (hpF []) := by
  obtain ⟨t, rfl⟩ := Int.eq_ofNat_of_zero_le ht.1
  have ht2 : t ≤ 255 := by omega
  have hf49 := f49_at h
  have hOl : O.length = 16 := by
    simp only [gSk, Bool.and_eq_true, decide_eq_true_eq] at h
    exact h.1.1.1.2
  have hc0 := mdL_chk s.toNat O g.toNat 8 (by omega)
  have e6 : (8 : Int).toNat = 8 := rfl
  rw [e6] at hf49
  generalize mdL s.toNat O g.toNat 8 = L at *
  have hKl : (skA s O g).length = 18 := by simp [skA, u8s, hOl]
  have hKr : ∀ f, renL f (skA s O g) = skA s O g := fun f => by simp [skA, renL_app]
  have hKc : cloL (skA s O g) = true := by simp [skA]
  have hKt : (skA s O g).take 18 = skA s O g := List.take_of_length_le (by omega)
  generalize skA s O g = K at *
  have hm0 : mdV L = .agg [.il (lls L) L.length false] ∨ (mdV L = .agg [.v (.slice none 0 0)] ∧ L = []) := by
    unfold mdV
    by_cases h0 : L.length = 0
    · exact .inr ⟨by rw [if_pos h0], List.length_eq_zero_iff.1 h0⟩
    · exact .inl (by rw [if_neg h0])
  obtain ⟨-, h16, -, hP, -⟩ := tab_pts hc0
  have hne := chk_ne hc0
  have hl16 : ∀ l ∈ L, l.length ≤ 16 := fun l hl => Nat.le_trans (total_mem hl) h16
  have hX : (nmX t L).length = L.length := by simp [nmX, rot_len]
  obtain ⟨nb1, nb2, -⟩ := nm_best hc0 t
  have rest := fun s0 Q => named_rest (L := L) (O := nmL t L) (n := L.length) (s0 := s0) (Q := Q) rfl (nm_len t L) hc0 (nm_chk hc0 t) (nm_tid hc0 t) (nm_face hc0 t) nb1 nb2
  refine P10.rzC p1010 P1010s (ss := ss10) ⟨s16_ok, s23_ok, s26_ok, s33_ok, s42_ok, s49_ok, s50_ok, s51_ok, s55_ok, trivial⟩ (by simp) fun Q hQ => ?_
  have hret : ∀ h nx, Q .ret ⟨[(4, vB true)], h, nx⟩ := fun h nx => hQ _ _ (.p (.inl rfl) (by simp) rfl)
  have main : XZ (rZ (spc ss10)) 0 (.seqC (.reg p10_r11 [5, 6]) (.seq (.reg p10_r12 [5, 6, 11, 12]) (.seq (.reg p10_r13 [5, 6, 11, 12, 13, 14]) (.seq (.reg p10_r14 [5, 6, 11, 12, 13, 14, 15, 16]) (.seq (.reg p10_r15 [5, 6, 11, 12, 13, 14, 15, 16, 17, 18]) (.seq (.seq (.reg p10_r16 [5, 6, 111]) (.cond (Operand.tmp 111) (.seq (.reg p10_r17 [4]) .ret) .skip)) (.seq (.reg p10_r18 [5, 6, 12, 19]) (.seq (.reg p10_r19 [5, 12, 14, 19, 20]) (.seq (.reg p10_r20 [4]) .ret))))))))) (st10 L (nmX t L) t L.length L.length) Q := by
    obtain ⟨n, hn⟩ : ∃ n, L.length = n := ⟨_, rfl⟩
    have hnl := nm_len t L
    rw [hn] at hX rest hnl
    rw [hn]
    rcases n with _ | n
    · have hO : nmL t L = [] := List.length_eq_zero_iff.1 hnl
      refine XZ_stepC' ?_ ⟨[(5, .ptr 0 0), (6, .ptr 1 0)], [(0, .cells [.il (lls L) 0 false]), (1, .cells [.il (lls (nmL t L)) 0 false])], 2⟩ (fun N Q_ hN => ?_) ?_ (rest _ Q rfl hret)
      rotate_left
      · simp only [st10, en10]
        delta p10_r11
        simp (disch := omega) [oLt, oLe, oLtN, oLeN, nLt, nLe, nLtN, nLeN, f55]
        exact hN
      · rw [hO]
        exact .trans (b := ⟨[(5, .ptr 0 0), (6, .ptr 1 0)], [(0, .cells [.il (lls L) 0 false]), (1, .cells [.v (.slice none 0 0)])], 2⟩) (.tot [5, 6] (by simp)) (.weak (s' := ⟨[(5, .ptr 0 0), (6, .ptr 1 0)], [(0, .cells [.il (lls L) 0 false]), (1, .cells [.il (lls []) 0 false])], 2⟩) ⟨rfl, .refl, rfl, .refl, trivial⟩ ⟨rfl, WkB.refl, rfl, ⟨rfl, fun i u v hu hv => by
          cases i with
          | zero => cases hu; cases hv; exact .nil
          | succ i => simp at hu⟩, trivial⟩ rfl .refl)
    · have hXt : (nmX t L).take (n + 1) = nmX t L := List.take_of_length_le (by omega)
      have hf55 : f55 [.ref 0 0 (n + 1) 1 none] [(0, .cells (lls (nmX t L)))] 1 = some (.tup [], [(0, .cells (lls (nmL t L)))], 1) := by
        simp only [f55, unlls_lls]
        rw [if_pos ⟨by omega, by omega, by omega⟩]; rfl
      have hf55n : ∀ c b h k, f55 [.il c (n + 1) b] h k = none := fun c b h k => by cases c <;> rfl
      have hlr : (lls (nmL t L)).take (n + 1) = lls (nmL t L) := List.take_of_length_le (by simp; omega)
      refine XZ_stepC' ?_ ⟨[(5, .ptr 0 0), (6, .ptr 1 0)], [(0, .cells [.il (lls L) (n + 1) false]), (1, .cells [.il (lls (nmL t L)) (n + 1) false])], 2⟩ (fun N Q_ hN => ?_) ?_ (rest _ Q rfl hret)
      rotate_left
      · simp only [st10, en10, hXt]
        delta p10_r11
        have hXl : (lls (nmX t L)).length = n + 1 := by simp [hX]
        have hXk : (lls (nmX t L)).take (n + 1) = lls (nmX t L) := List.take_of_length_le (by omega)
        simp (disch := omega) [oLt, oLe, oLtN, oLeN, nLt, nLe, nLtN, nLeN, hf55, hf55n, hXl, hXk]
        exact hN
      · exact .frz 2 (cs := lls (nmL t L)) rfl (by simp) (.tot [5, 6] (by simp [frzS, hlr]))
  delta p1010
  refine XZ_step ?_ (fun N Q_ hN => ?_) ?_
  rotate_left
  · delta p10_r0; simp (disch := omega) [oLt, oLe, oLtN, oLeN, nLt, nLe, nLtN, nLeN, hKt]
    exact hN
  rcases hm0 with hm0 | ⟨hm0, rfl⟩
  · rw [hm0] at hf49
    refine XZ_step ?_ (fun N Q_ hN => ?_) ?_
    rotate_left
    · delta p10_r1; simp (disch := omega) [oLt, oLe, oLtN, oLeN, nLt, nLe, nLtN, nLeN, hf49, hKl, hKt, hKc]
      exact hN
    refine XZ_step ?_ (fun N Q_ hN => ?_) ?_
    rotate_left
    · delta p10_r2; simp (disch := omega) [oLt, oLe, oLtN, oLeN, nLt, nLe, nLtN, nLeN]
      exact hN
    refine XZ_step ?_ (fun N Q_ hN => ?_) ?_
    rotate_left
    · delta p10_r3; simp (disch := omega) [oLt, oLe, oLtN, oLeN, nLt, nLe, nLtN, nLeN]
      exact hN
    refine XZ_seqG (XZ_seqG ?_)
    delta p10_r4
    simp (disch := omega) [oLt, oLe, oLtN, oLeN, nLt, nLe, nLtN, nLeN]
    refine l0_10 (L := L) (X := nmX t L) (t := t) (n := L.length) rfl hP ht2 hne hl16 hX (fun i hi => nmX_get rfl hi) (.tot [5, 6] (by simp [st10, en10])) ?_
    simp only [inBE, thenE, if_true]
    exact main
  · rw [hm0] at hf49
    refine XZ_step ?_ (fun N Q_ hN => ?_) ?_
    rotate_left
    · delta p10_r1; simp (disch := omega) [oLt, oLe, oLtN, oLeN, nLt, nLe, nLtN, nLeN, hf49, hKl, hKt, hKc]
      exact hN
    refine XZ_step ?_ (fun N Q_ hN => ?_) ?_
    rotate_left
    · delta p10_r2; simp (disch := omega) [oLt, oLe, oLtN, oLeN, nLt, nLe, nLtN, nLeN]
      exact hN
    refine XZ_step ?_ (fun N Q_ hN => ?_) ?_
    rotate_left
    · delta p10_r3; simp (disch := omega) [oLt, oLe, oLtN, oLeN, nLt, nLe, nLtN, nLeN]
      exact hN
    refine XZ_seqG (XZ_seqG ?_)
    delta p10_r4
    simp (disch := omega) [oLt, oLe, oLtN, oLeN, nLt, nLe, nLtN, nLeN]
    refine l0_10 (L := []) (X := nmX t []) (t := t) (n := 0) rfl hP ht2 hne hl16 hX (fun i hi => nmX_get rfl hi) (.trans (b := ⟨en10 t 0 0, [(0, .cells [.v (.slice none 0 0)]), (1, .cells [.v (.slice none 0 0)])], 2⟩) (.tot [5, 6] (by simp [en10])) (.weak (s' := ⟨en10 t 0 0, [(0, .cells [.il (lls []) 0 false]), (1, .cells [.v (.slice none 0 0)])], 2⟩) ⟨rfl, .refl, rfl, .refl, rfl, .refl, rfl, .refl, rfl, .refl, rfl, .refl, trivial⟩ ⟨rfl, ⟨rfl, fun i u v hu hv => by
        cases i with
        | zero => cases hu; cases hv; exact .nil
        | succ i => simp at hu⟩, rfl, WkB.refl, trivial⟩ rfl .refl)) ?_
    simp only [inBE, thenE, if_true]
    exact main
end Go.Sx.Ch
