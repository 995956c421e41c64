/- What functions of the library return: slices.Index, slices.Contains of a number in a list. No conditions. -/
import Derived.Test.YtfiebjbhiflfpaaDoorSxJE
import Derived.Test.YtfiebjbhiflfpaaDoorSxJHR0toHS
import Derived.Test.YtfiebjbhiflfpaaDoorSxJCEwtoDF0
import Derived.Test.YtfiebjbhiflfpaaDoorSxPCe
import Derived.Test.YtfiebjbhiflfpaaDoorSxJJNtoJO
import Derived.Test.YtfiebjbhiflfpaaDoorSxJJH0toJR0
import Derived.Test.YtfiebjbhiflfpaaDoorSxJJFtoJG
set_option linter.unusedVariables false
set_option linter.unusedSimpArgs false
set_option maxRecDepth 4000
namespace Go.Sx.Ch
open Go Go.Sx Go.Proofs

set_option maxHeartbeats 2000000
def s91 : Sp := spT 91 [.l, .i] fun (l : List Int) (x : Int) => res (small l) (vI (idxL l x))
@[simp] theorem s91_g : s91.g = 91 := rfl
@[simp] theorem s91_f : s91.f = (spT 91 [.l, .i] fun (l : List Int) (x : Int) => res (small l) (vI (idxL l x))).f := rfl
theorem s91_ok : s91.ok Tryd.prog := by
  apply spT_ok
  simp only [OkT, Ty.all, List.nil_append, List.cons_append]
  intro (l : List Int) u (x : Int)
  apply okT_res; intro hg
  refine P91.rz (ss := []) trivial (by simp) fun Q hQ => ?_
  delta p91 p91_r0 p91_r1
  simp only [small, decide_eq_true_eq] at hg
  simp (disch := omega) [oLt, oLe, oLtN, oLeN, nLt, nLe, nLtN, nLeN]
  refine XZ_for (fun i : Nat => ⟨[(0, .il (ints l) l.length u), (1, vI x), (7, vI l.length), (8, vI i)], [], 0⟩) (fun i => l.length - i) (fun i => i ≤ l.length ∧ idxR x (l.drop i) i = idxL l x) 0 ⟨by simp, by simp [idxL]⟩ (.to [] (by simp)) ?_
  rintro i ⟨hi, hinv⟩ N Q' hN hE
  rcases Nat.lt_or_ge i l.length with h | h
  · have hic : (i : Int) < l.length := by omega
    obtain ⟨y, r, e1, e2, e3, e4, e5⟩ := drop_split h
    rw [e1] at hinv
    simp only [idxR] at hinv
    by_cases hy : y = x
    · rw [if_pos hy] at hinv
      rw [← hinv] at hQ
      subst hy
      delta p91_l0 p91_r2 p91_r3 p91_r4 p91_r5 p91_r6
      simp (disch := omega) [oLt, oLe, oLtN, oLeN, nLt, nLe, nLtN, nLeN, hic, h, e2, e3]
      exact hE _ _ _ .refl (hQ _ _ (.p (.inl rfl) (by simp) rfl))
    · rw [if_neg hy] at hinv
      have hy' : ¬ x = y := fun h => hy h.symm
      delta p91_l0 p91_r2 p91_r3 p91_r4 p91_r5 p91_r6
      simp (disch := omega) [oLt, oLe, oLtN, oLeN, nLt, nLe, nLtN, nLeN, hic, h, e2, e3, hy, hy']
      exact hN _ (i + 1) (by omega) ⟨h, by rw [e4]; simpa using hinv⟩ (.to [] (by simp))
  · obtain rfl : i = l.length := by omega
    have hic : ¬ (l.length : Int) < l.length := by omega
    rw [List.drop_eq_nil_of_le (Nat.le_refl _)] at hinv
    simp only [idxR] at hinv
    rw [← hinv] at hQ
    delta p91_l0 p91_r2 p91_r3 p91_r4 p91_r5 p91_r6
    simp (disch := omega) [oLt, oLe, oLtN, oLeN, nLt, nLe, nLtN, nLeN, hic]
    refine hE _ _ _ .refl ?_
    delta p91_r7
    simp (disch := omega) [oLt, oLe, oLtN, oLeN, nLt, nLe, nLtN, nLeN]
    exact hQ _ _ (.p (.inl rfl) (by simp) rfl)
def s54 : Sp := spT 54 [.l, .i] fun (l : List Int) (x : Int) => res (small l) (vB (decide (0 ≤ idxL l x)))
@[simp] theorem s54_g : s54.g = 54 := rfl
@[simp] theorem s54_f : s54.f = (spT 54 [.l, .i] fun (l : List Int) (x : Int) => res (small l) (vB (decide (0 ≤ idxL l x)))).f := rfl
theorem s54_ok : s54.ok Tryd.prog := by
  apply spT_ok
  simp only [OkT, Ty.all, List.nil_append, List.cons_append]
  intro (l : List Int) u (x : Int)
  apply okT_res; intro hg
  refine P54.rz (ss := [s91]) ⟨s91_ok, trivial⟩ (by simp) fun Q hQ => ?_
  delta p54 p54_r0 p54_r1
  by_cases h : 0 ≤ idxL l x
  · simp (disch := omega) [oLt, oLe, oLtN, oLeN, nLt, nLe, nLtN, nLeN, hg, h]
    exact hQ _ _ (.p (.inl rfl) (by simp [h]) rfl)
  · simp (disch := omega) [oLt, oLe, oLtN, oLeN, nLt, nLe, nLtN, nLeN, hg, h]
    exact hQ _ _ (.p (.inl rfl) (by simp [h]) rfl)
noncomputable abbrev ss9 : List Sp := [s16, s26, s31, s49, s51, s52, s54]
end Go.Sx.Ch
set_option maxRecDepth 4000
namespace Go.Sx.Ch
open Go Go.Sx Go.Proofs

theorem XZ_reg1 {R : Rsv} {k0 : Nat} {ops : List PI} {ks : List Nat} {s : ST} {Q : Exit → ST → Prop} (h : zOps R (goOn Q ks) ops s) : XZ R k0 (.reg ops ks) s Q := h
set_option maxHeartbeats 4000000
theorem l0_9 {n a : Nat} {e f : Int} {l : List Int} {N : List Nat} {b now s v : Nat} {s0 : ST} {Q : Exit → ST → Prop} (hn : N.length = n) (h16 : n ≤ 16) (hN6 : ∀ i, N.getD i 0 < 65536) (hw : now < 65536)
    (hs0 : ChgT 0 s0 ⟨[(4, .il (ints l) l.length false), (5, vI e), (6, vI a), (7, vI f), (8, .il (uws N) N.length false), (9, vI n), (10, vI v), (11, vI b), (12, vU now), (13, vI s), (14, vU 0), (51, vI n), (52, vI b), (62, vI n), (63, vI (0 : Nat))], [], 0⟩)
    (hq : Q (.exit 4) ⟨[(4, .il (ints l) l.length false), (5, vI e), (6, vI a), (7, vI f), (8, .il (uws N) N.length false), (9, vI n), (10, vI v), (11, vI b), (12, vU now), (13, vI s), (14, vU (nxtB N now n)), (51, vI n), (52, vI b)], [], 0⟩) : XZ (rZ (spc ss9)) 0 (.loop p9_l0) s0 Q := by
  refine XZ_for (fun p : Nat => ⟨[(4, .il (ints l) l.length false), (5, vI e), (6, vI a), (7, vI f), (8, .il (uws N) N.length false), (9, vI n), (10, vI v), (11, vI b), (12, vU now), (13, vI s), (14, vU (nxtB N now p)), (51, vI n), (52, vI b), (62, vI n), (63, vI p)], [], 0⟩) (fun p => n - p) (fun p => p ≤ n) 0 (Nat.zero_le _) (by simpa [nxtB] using hs0) ?_
  intro p hp0 N' Q' hN hE
  rcases Nat.lt_or_ge p n with h | h
  · have hpc : (p : Int) < n := by omega
    have fin := fun s' hh => hN s' (p + 1) (by omega) h hh
    simp only [nxtB_succ] at fin
    have hx6 := nxtB_lt hN6 now p
    clear hN hE hq hs0
    obtain ⟨x, hx⟩ : ∃ x, N[p]? = some x := ⟨N[p], List.getElem?_eq_getElem (by omega)⟩
    have hx' := (List.getElem?_eq_some_iff.1 hx).2
    have hxd : N.getD p 0 = x := by rw [List.getD_eq_getElem?_getD, hx]; rfl
    have hxl : x < 65536 := by rw [← hxd]; exact hN6 p
    have hor := fun u v => or32 u v hx6 hxl
    have hpN : p < N.length := by omega
    unfold nxB at fin
    rw [hxd] at fin
    generalize nxtB N now p = w at *
    obtain ⟨c, hc⟩ : ∃ c, w ||| x = c := ⟨_, rfl⟩
    rw [hc] at fin hor
    have hsr := fun u v => shr32 u v hw (show p < 16 by omega)
    have hbit := bit_at now p
    have hy6 : now / 2 ^ p < 65536 := Nat.lt_of_le_of_lt (Nat.div_le_self _ _) hw
    have han := fun u v => and32 u v hy6
    obtain ⟨y, hy⟩ : ∃ y, now / 2 ^ p = y := ⟨_, rfl⟩
    rw [hy] at hsr hbit han
    obtain ⟨z, hz⟩ : ∃ z, y % 2 = z := ⟨_, rfl⟩
    rw [hz] at hbit han
    have hz2 : z < 2 := by rw [← hz]; exact Nat.mod_lt _ (by omega)
    rcases (show z = 0 ∨ z = 1 by omega) with rfl | rfl
    · have hb : ¬ now.testBit p = true := fun h => by have := hbit.2 h; omega
      rw [if_neg hb] at fin
      delta p9_l0 p9_r17 p9_r18 p9_r19 p9_r20 p9_r21
      simp (disch := omega) [oLt, oLe, oLtN, oLeN, nLt, nLe, nLtN, nLeN, hpc, hsr, han]
      exact fin _ (.tot [] (by simp))
    · rw [if_pos (hbit.1 rfl)] at fin
      delta p9_l0 p9_r17 p9_r18 p9_r19 p9_r20 p9_r21
      simp (disch := omega) [oLt, oLe, oLtN, oLeN, nLt, nLe, nLtN, nLeN, hpc, hsr, han, hor, hx, hx', hpN, h, hn]
      exact fin _ (.tot [] (by simp [hn]))
  · obtain rfl : p = n := by omega
    have hpc : ¬ (p : Int) < p := by omega
    clear hN
    delta p9_l0 p9_r17 p9_r18 p9_r19 p9_r20 p9_r21
    simp (disch := omega) [oLt, oLe, oLtN, oLeN, nLt, nLe, nLtN, nLeN, hpc]
    exact hE _ _ _ (.tot [] (by simp)) hq
theorem l1_9 {n a : Nat} {e f : Int} {l : List Int} {N : List Nat} {b v0 : Nat} {s0 : ST} {Q : Exit → ST → Prop} (hn : N.length = n) (h16 : n ≤ 16) (hN6 : ∀ i, N.getD i 0 < 65536) (hb : b < n) (hv0 : v0 ≤ 100)
    (hs0 : ChgT 0 s0 ⟨[(4, .il (ints l) l.length false), (5, vI e), (6, vI a), (7, vI f), (8, .il (uws N) N.length false), (9, vI n), (10, vI v0), (11, vI b), (12, vU (2 ^ b)), (13, vI ((0 : Nat) + 1 : Int)), (51, vI n), (52, vI b)], [], 0⟩)
    (hq : Q (.exit 2) ⟨[(4, .il (ints l) l.length false), (5, vI e), (6, vI a), (7, vI f), (8, .il (uws N) N.length false), (9, vI n), (10, vI (shS N b v0 n)), (51, vI n), (52, vI b)], [], 0⟩) : XZ (rZ (spc ss9)) 0 (.loop p9_l1) s0 Q := by
  refine XZ_for (fun i : Nat => ⟨[(4, .il (ints l) l.length false), (5, vI e), (6, vI a), (7, vI f), (8, .il (uws N) N.length false), (9, vI n), (10, vI (shS N b v0 i)), (11, vI b), (12, vU (nowB N b i)), (13, vI ((i : Int) + 1)), (51, vI n), (52, vI b)], [], 0⟩) (fun i => n - i) (fun i => i ≤ n) 0 (Nat.zero_le _) (by simpa [shS, nowB] using hs0) ?_
  intro i hi N' Q' hN hE
  rcases Nat.lt_or_ge i n with h | h
  · have hic : (i : Int) + 1 ≤ n := by omega
    have hw := nowB_lt hN6 (show b < 16 by omega) i
    have hw1 := nowB_lt hN6 (show b < 16 by omega) (i + 1)
    have e1 : nxtB N (nowB N b i) n = nowB N b (i + 1) := by rw [← hn]; rfl
    have hvl : shS N b v0 i ≤ 100 := Nat.le_trans (shS_spec N b v0 i).2.1 hv0
    have fin : ∀ s', ChgT 0 s' ⟨[(4, .il (ints l) l.length false), (5, vI e), (6, vI a), (7, vI f), (8, .il (uws N) N.length false), (9, vI n), (10, vI (shS N b v0 (i + 1))), (11, vI b), (12, vU (nowB N b (i + 1))), (13, vI ((i : Int) + 1 + 1)), (51, vI n), (52, vI b)], [], 0⟩ → N' s' := fun s' hh => hN s' (i + 1) (by omega) h (by simpa using hh)
    simp only [shS_succ] at fin
    unfold shI at fin
    clear hN hE hq hs0
    delta p9_l1 p9_r14 p9_r15 p9_r16
    simp (disch := omega) [oLt, oLe, oLtN, oLeN, nLt, nLe, nLtN, nLeN, hic]
    refine l0_9 (n := n) (a := a) (e := e) (f := f) (l := l) (N := N) (b := b) (now := nowB N b i) (s := i + 1) (v := shS N b v0 i) hn h16 hN6 hw (.tot [] (by simp)) ?_
    rw [e1]
    simp only [inBE, thenE, if_true]
    generalize nowB N b (i + 1) = now at *
    generalize shS N b v0 i = v at *
    have hsr := fun u v => shr32 u v hw1 (show b < 16 by omega)
    have hbit := bit_at now b
    have hy6 : now / 2 ^ b < 65536 := Nat.lt_of_le_of_lt (Nat.div_le_self _ _) hw1
    have han := fun u v => and32 u v hy6
    obtain ⟨y, hy⟩ : ∃ y, now / 2 ^ b = y := ⟨_, rfl⟩
    rw [hy] at hsr hbit han
    obtain ⟨z, hz⟩ : ∃ z, y % 2 = z := ⟨_, rfl⟩
    rw [hz] at hbit han
    have hz2 : z < 2 := by rw [← hz]; exact Nat.mod_lt _ (by omega)
    have hmod : ((i : Int) + 1) % 2 = (((i + 1) % 2 : Nat) : Int) := by omega
    rcases (show (i + 1) % 2 = 0 ∨ (i + 1) % 2 = 1 by omega) with h2 | h2
    · rw [h2] at hmod
      rw [if_neg (by omega)] at fin
      delta p9_r22 p9_r23 p9_r24 p9_r25
      simp (disch := omega) [oLt, oLe, oLtN, oLeN, nLt, nLe, nLtN, nLeN, hmod]
      exact fin _ (.tot [] (by simp))
    · rw [h2] at hmod
      rcases (show z = 0 ∨ z = 1 by omega) with rfl | rfl
      · have hbt : ¬ now.testBit b = true := fun h => by have := hbit.2 h; omega
        rw [if_neg (fun h => hbt h.2)] at fin
        delta p9_r22 p9_r23 p9_r24 p9_r25
        simp (disch := omega) [oLt, oLe, oLtN, oLeN, nLt, nLe, nLtN, nLeN, hmod, hsr, han]
        exact fin _ (.tot [] (by simp))
      · rw [if_pos ⟨h2, hbit.1 rfl⟩] at fin
        by_cases hlt : i + 1 < v
        · rw [Nat.min_eq_right (by omega)] at fin
          have hltc : (i : Int) + 1 < v := by omega
          have hbig : effBig false [vI v, vI ((i : Int) + 1)] = ret (vI ((i : Int) + 1)) := by simp [effBig, hltc]
          delta p9_r22 p9_r23 p9_r24 p9_r25
          simp (disch := omega) [oLt, oLe, oLtN, oLeN, nLt, nLe, nLtN, nLeN, hmod, hsr, han, hbig]
          exact fin _ (.tot [] (by simp))
        · rw [Nat.min_eq_left (by omega)] at fin
          have hltc : ¬ (i : Int) + 1 < v := by omega
          have hbig : effBig false [vI v, vI ((i : Int) + 1)] = ret (vI v) := by simp [effBig, hltc]
          delta p9_r22 p9_r23 p9_r24 p9_r25
          simp (disch := omega) [oLt, oLe, oLtN, oLeN, nLt, nLe, nLtN, nLeN, hmod, hsr, han, hbig]
          exact fin _ (.tot [] (by simp))
  · obtain rfl : i = n := by omega
    have hic : ¬ (i : Int) + 1 ≤ i := by omega
    clear hN
    delta p9_l1 p9_r14 p9_r15 p9_r16
    simp (disch := omega) [oLt, oLe, oLtN, oLeN, nLt, nLe, nLtN, nLeN, hic]
    exact hE _ _ _ (.tot [] (by simp)) hq
theorem l2_9 {n a : Nat} {e f : Int} {l : List Int} {N : List Nat} {s0 : ST} {Q : Exit → ST → Prop} (hn : N.length = n) (h16 : n ≤ 16) (hN6 : ∀ i, N.getD i 0 < 65536)
    (hs0 : ChgT 0 s0 ⟨[(4, .il (ints l) l.length false), (5, vI e), (6, vI a), (7, vI f), (8, .il (uws N) N.length false), (9, vI n), (10, vI 100), (51, vI n), (52, vI (0 : Nat))], [], 0⟩)
    (hq : Q (.exit 0) ⟨[(4, .il (ints l) l.length false), (5, vI e), (6, vI a), (7, vI f), (8, .il (uws N) N.length false), (9, vI n), (10, vI (shT N n))], [], 0⟩) : XZ (rZ (spc ss9)) 0 (.loop p9_l2) s0 Q := by
  refine XZ_for (fun b : Nat => ⟨[(4, .il (ints l) l.length false), (5, vI e), (6, vI a), (7, vI f), (8, .il (uws N) N.length false), (9, vI n), (10, vI (shT N b)), (51, vI n), (52, vI b)], [], 0⟩) (fun b => n - b) (fun b => b ≤ n) 0 (Nat.zero_le _) (by simpa [shT] using hs0) ?_
  intro b hb N' Q' hN hE
  rcases Nat.lt_or_ge b n with h | h
  · have hbc : (b : Int) < n := by omega
    have hsh := fun u v => shl32 u v (show b < 16 by omega)
    have fin : ∀ s', ChgT 0 s' ⟨[(4, .il (ints l) l.length false), (5, vI e), (6, vI a), (7, vI f), (8, .il (uws N) N.length false), (9, vI n), (10, vI (shT N (b + 1))), (51, vI n), (52, vI ((b : Int) + 1))], [], 0⟩ → N' s' := fun s' hh => hN s' (b + 1) (by omega) h (by simpa using hh)
    rw [shT_succ, hn] at fin
    have hvl := shT_le N b
    clear hN hE hq hs0
    obtain ⟨B, hB⟩ : ∃ B, 2 ^ b = B := ⟨_, rfl⟩
    rw [hB] at hsh
    delta p9_l2 p9_r10 p9_r11 p9_r12 p9_r13
    simp (disch := omega) [oLt, oLe, oLtN, oLeN, nLt, nLe, nLtN, nLeN, hbc, hsh]
    refine l1_9 (n := n) (a := a) (e := e) (f := f) (l := l) (N := N) (b := b) (v0 := shT N b) hn h16 hN6 h hvl (.tot [] (by simp [hB, hn])) ?_
    simp only [inBE, thenE, if_true]
    delta p9_r26
    simp (disch := omega) [oLt, oLe, oLtN, oLeN, nLt, nLe, nLtN, nLeN]
    exact fin _ (.tot [] (by simp [hn]))
  · obtain rfl : b = n := by omega
    have hbc : ¬ (b : Int) < b := by omega
    clear hN
    delta p9_l2 p9_r10 p9_r11 p9_r12 p9_r13
    simp (disch := omega) [oLt, oLe, oLtN, oLeN, nLt, nLe, nLtN, nLeN, hbc]
    exact hE _ _ _ (.tot [] (by simp)) hq
theorem r35_9 {n i p q x y : Nat} {l : List Int} {N : List Nat} {nx : Nat} {Q : Exit → ST → Prop} (hl16 : l.length ≤ 16) (hi : i < l.length) (hp : p < n) (hq : q < n) (hNp : N[p]? = some x) (hpN : p < N.length)
    (hsr : ∀ u v, effPlain2 Tryd.prog (fun u_1 v_1 => do eqGuard .shr 65 u v u_1 v_1; binOp .shr 65 u_1 v_1) (vU x) (vI q) = ret (vU y)) (han : ∀ u v, effPlain2 Tryd.prog (fun u_1 v_1 => do eqGuard .and 65 u v u_1 v_1; binOp .and 65 u_1 v_1) (vU y) (.v (.int .u32 1)) = ret (vU (1 : Nat)))
    (hix : ¬ 0 ≤ idxL (l.take i) p) (h0 : ∃ z : Int, l[0]? = some z ∧ z ≤ p)
    (hK : ∀ nx, Q .normal ⟨[(4, .il (ints l) l.length false), (8, .il (uws N) N.length false), (9, vI n), (130, .il (ints l) l.length false), (131, vI l.length), (132, vI i), (184, .v (.bool false))], [], nx⟩) :
    XZ (rZ (spc ss9)) 0 (.reg p9_r35 [4, 8, 9, 130, 131, 132, 184]) ⟨[(4, .il (ints l) l.length false), (8, .il (uws N) N.length false), (9, vI n), (16, vI i), (17, vI p), (18, vI q), (130, .il (ints l) l.length false), (131, vI l.length), (132, vI i)], [], nx⟩ Q := by
  obtain ⟨z, hz, hzp⟩ := h0
  have hz' := (List.getElem?_eq_some_iff.1 hz).2
  have hNp' := (List.getElem?_eq_some_iff.1 hNp).2
  have hl0 : 0 < l.length := by omega
  have hl0n : ¬ l = [] := fun h => by rw [h] at hl0; simp at hl0
  have hpc0 : ¬ (p : Int) < 0 := by omega
  have hqc0 : ¬ (q : Int) < 0 := by omega
  have hpc : ¬ (n : Int) ≤ p := by omega
  have hqc : ¬ (n : Int) ≤ q := by omega
  have hil : (i : Int) ≤ l.length := by omega
  have hsm : small (l.take i) = true := by simp only [small, decide_eq_true_eq, List.length_take]; omega
  have htl : (l.take i).length = i := by rw [List.length_take]; omega
  have hzc : ¬ (p : Int) < z := by omega
  refine XZ_reg1 ?_
  delta p9_r35
  refine zOps_cut 7 ?_ (fun K_ hK => ?_) ?_
  rotate_left
  · simp only [List.take_succ_cons, List.take_zero]
    simp (disch := omega) [oLt, oLe, oLtN, oLeN, nLt, nLe, nLtN, nLeN, hpc0, hpc]
    exact hK
  simp only [List.drop_succ_cons, List.drop_zero]
  refine zOps_cut 4 ?_ (fun K_ hK => ?_) ?_
  rotate_left
  · simp only [List.take_succ_cons, List.take_zero]
    simp (disch := omega) [oLt, oLe, oLtN, oLeN, nLt, nLe, nLtN, nLeN, hqc0]
    exact hK
  simp only [List.drop_succ_cons, List.drop_zero]
  refine zOps_cut 5 ?_ (fun K_ hK => ?_) ?_
  rotate_left
  · simp only [List.take_succ_cons, List.take_zero]
    simp (disch := omega) [oLt, oLe, oLtN, oLeN, nLt, nLe, nLtN, nLeN, hqc]
    exact hK
  simp only [List.drop_succ_cons, List.drop_zero]
  refine zOps_cut 10 ?_ (fun K_ hK => ?_) ?_
  rotate_left
  · simp only [List.take_succ_cons, List.take_zero]
    simp (disch := omega) [oLt, oLe, oLtN, oLeN, nLt, nLe, nLtN, nLeN, hNp, hNp', hpN, hsr, han]
    exact hK
  simp only [List.drop_succ_cons, List.drop_zero]
  refine zOps_cut 6 ?_ (fun K_ hK => ?_) ?_
  rotate_left
  · simp only [List.take_succ_cons, List.take_zero]
    simp (disch := omega) [oLt, oLe, oLtN, oLeN, nLt, nLe, nLtN, nLeN, hsm, htl, hix, hil]
    exact hK
  simp only [List.drop_succ_cons, List.drop_zero]
  simp (disch := omega) [oLt, oLe, oLtN, oLeN, nLt, nLe, nLtN, nLeN, hz, hz', hzc, hl0, hl0n]
  exact hK _
theorem l3_9 {n : Nat} {l : List Int} {N : List Nat} {s0 : ST} {Q : Exit → ST → Prop} (hl16 : l.length ≤ 16) (hNl : N.length = n) (h16 : n ≤ 16) (hN6 : ∀ i, N.getD i 0 < 65536)
    (H : ∀ i, i < l.length → ∃ p q : Nat, p < n ∧ q < n ∧ l[i]? = some (p : Int) ∧ l[(i + 1) % l.length]? = some (q : Int) ∧ JB N p q = true ∧ ¬ 0 ≤ idxL (l.take i) p ∧ ∃ z : Int, l[0]? = some z ∧ z ≤ p)
    (hs0 : ChgT 0 s0 ⟨[(4, .il (ints l) l.length false), (8, .il (uws N) N.length false), (9, vI n), (130, .il (ints l) l.length false), (131, vI l.length), (132, vI (0 : Nat))], [], 0⟩) (hq : Q (.exit 6) ⟨[], [], 0⟩) : XZ (rZ (spc ss9)) 0 (.loop p9_l3) s0 Q := by
  refine XZ_for (fun i : Nat => ⟨[(4, .il (ints l) l.length false), (8, .il (uws N) N.length false), (9, vI n), (130, .il (ints l) l.length false), (131, vI l.length), (132, vI i)], [], 0⟩) (fun i => l.length - i) (fun i => i ≤ l.length) 0 (Nat.zero_le _) hs0 ?_
  intro i hi N' Q' hN hE
  rcases Nat.lt_or_ge i l.length with h | h
  · have hic : (i : Int) < l.length := by omega
    obtain ⟨p, q, hp, hq1, e1, e2, hJ, hix, h0⟩ := H i h
    have fin : ∀ s', ChgT 0 s' ⟨[(4, .il (ints l) l.length false), (8, .il (uws N) N.length false), (9, vI n), (130, .il (ints l) l.length false), (131, vI l.length), (132, vI ((i : Int) + 1))], [], 0⟩ → N' s' := fun s' hh => hN s' (i + 1) (by omega) h (by simpa using hh)
    clear hN hE hq hs0
    obtain ⟨x, hx⟩ : ∃ x, N[p]? = some x := ⟨N[p], List.getElem?_eq_getElem (by omega)⟩
    have hxd : N.getD p 0 = x := by rw [List.getD_eq_getElem?_getD, hx]; rfl
    have hx6 : x < 65536 := by rw [← hxd]; exact hN6 p
    have hsr := fun u v => shr32 u v hx6 (show q < 16 by omega)
    have hbit := bit_at x q
    have hy6 : x / 2 ^ q < 65536 := Nat.lt_of_le_of_lt (Nat.div_le_self _ _) hx6
    have han := fun u v => and32 u v hy6
    unfold JB at hJ
    rw [hxd] at hJ
    rw [hbit.2 hJ] at han
    have e1' := (List.getElem?_eq_some_iff.1 e1).2
    have e2' := (List.getElem?_eq_some_iff.1 e2).2
    have hlc : ¬ (l.length : Int) = 0 := by omega
    have hl0 : ¬ l.length = 0 := by omega
    have hln : ¬ l = [] := fun h => hl0 (by rw [h]; rfl)
    have hmod : ((i : Int) + 1) % (l.length : Int) = (((i + 1) % l.length : Nat) : Int) := by rw [Int.natCast_emod]; rfl
    have hml : (i + 1) % l.length < l.length := Nat.mod_lt _ (by omega)
    have hmc : (((i + 1) % l.length : Nat) : Int) < l.length := by omega
    generalize (i + 1) % l.length = j at *
    delta p9_l3
    refine XZ_step ?_ (fun N Q_ hN => ?_) ?_
    rotate_left
    · delta p9_r32; simp (disch := omega) [oLt, oLe, oLtN, oLeN, nLt, nLe, nLtN, nLeN, hic]
      exact hN
    refine XZ_step ?_ (fun N Q_ hN => ?_) ?_
    rotate_left
    · simp (disch := omega) [oLt, oLe, oLtN, oLeN, nLt, nLe, nLtN, nLeN]
      exact hN
    refine XZ_seqG (XZ_blockG ?_)
    refine XZ_step ?_ (fun N Q_ hN => ?_) ?_
    rotate_left
    · delta p9_r33; simp (disch := omega) [oLt, oLe, oLtN, oLeN, nLt, nLe, nLtN, nLeN, h, e1, e1']
      exact hN
    refine XZ_step ?_ (fun N Q_ hN => ?_) ?_
    rotate_left
    · delta p9_r34; simp (disch := omega) [oLt, oLe, oLtN, oLeN, nLt, nLe, nLtN, nLeN, e2, e2', hlc, hl0, hln, hmod, hml, hmc]
      exact hN
    refine XZ_seqG ?_
    refine r35_9 hl16 h hp hq1 hx (by omega) hsr han hix h0 fun nx => ?_
    delta p9_r37
    simp (disch := omega) [oLt, oLe, oLtN, oLeN, nLt, nLe, nLtN, nLeN]
    exact fin _ (.tot [] (by simp))
  · obtain rfl : i = l.length := by omega
    have hic : ¬ (l.length : Int) < l.length := by omega
    clear hN
    delta p9_l3 p9_r32 p9_r33 p9_r34 p9_r35 p9_r36 p9_r37
    simp (disch := omega) [oLt, oLe, oLtN, oLeN, nLt, nLe, nLtN, nLeN, hic]
    exact hE _ _ _ (.tot [] (by simp)) hq
end Go.Sx.Ch
set_option maxRecDepth 4000
namespace Go.Sx.Ch
open Go Go.Sx Go.Proofs

noncomputable def p1009 : PCode := (.seq (.reg p9_r0 [1]) (.seqC (.reg p9_r1 [3]) (.seq (.reg p9_r2 [3, 4, 5]) (.seq (.reg p9_r3 [3, 4, 5, 6, 7]) (.seq (.seq (.reg p9_r4 [3, 4, 5, 6, 7, 32]) (.cond (Operand.tmp 32) (.seq (.reg p9_r5 [2]) .ret) .skip)) (.seq (.reg p9_r6 [4, 5, 6, 7, 8]) (.seq (.reg p9_r7 [4, 5, 6, 7, 8, 9]) (.seq (.reg p9_r8 [4, 5, 6, 7, 8, 9, 10]) (.seq (.seq (.reg p9_r9 [4, 5, 6, 7, 8, 9, 10, 51, 52]) (.block 0 (.loop p9_l2))) (.seq (.seq (.reg p9_r27 [4, 5, 6, 7, 8, 9, 10, 95]) (.cond (Operand.tmp 95) (.seq (.reg p9_r28 [2]) .ret) .skip)) (.seq (.seq (.reg p9_r29 [4, 8, 9, 129]) (.cond (Operand.tmp 129) (.seq (.reg p9_r30 [2]) .ret) .skip)) (.seq (.seq (.reg p9_r31 [4, 8, 9, 130, 131, 132]) (.block 6 (.loop p9_l3))) (.seq (.reg p9_r38 [2]) .ret)))))))))))))
theorem P1009s : strip p1009 = p9 := by kernel_rfl
theorem near_JB {L : List (List Int)} (hc : chk L = 0) {p q : Nat} : JB (nearF (tabF L)) p q = true ↔ joinR L p q = true := by
  have hl := nearF_len hc
  constructor
  · intro h
    have hp := JB_lt h
    unfold JB at h
    rw [near_join hc q (by omega)] at h; exact h
  · intro h
    obtain ⟨hp, -, -⟩ := join_sym hc h
    unfold JB
    rw [near_join hc q hp]; exact h
theorem near_sym {L : List (List Int)} (hc : chk L = 0) (hlp : loopR L = false) : Sym (nearF (tabF L)) := by
  obtain ⟨-, -, -, h16, -⟩ := tab_pts hc
  refine ⟨fun p q h => (near_JB hc).2 (join_sym hc ((near_JB hc).1 h)).2.2, fun p => ?_, by rw [nearF_len hc]; exact h16⟩
  cases h : JB (nearF (tabF L)) p p with
  | false => rfl
  | true =>
    have h1 := (near_JB hc).1 h
    have : loopR L = true := List.any_eq_true.2 ⟨p, List.mem_range.2 (join_sym hc h1).1, h1⟩
    rw [hlp] at this; cases this
/-- Two colours, and closed walks of an odd number of lines. -/
theorem few_odd {L : List (List Int)} (hc : chk L = 0) (hlp : loopR L = false) {l : List Int} {k : Nat} (hT : fewT L = some (l, k)) : (∃ a s, OddB (nearF (tabF L)) a s) ↔ 3 ≤ k := by
  obtain ⟨h1, h2, h3⟩ := few_first hT
  have hS := near_sym hc hlp
  constructor
  · rintro ⟨a, s, ho, hw⟩
    apply Classical.byContradiction
    intro hk
    have hJ : ∀ p q, JB (nearF (tabF L)) p q = true → (p < l.length ∧ q < l.length) ∧ l.getD p 0 ≠ l.getD q 0 := fun p q h => by
      have hj := (near_JB hc).1 h
      obtain ⟨hp, hq, hj2⟩ := join_sym hc hj
      have hl := h1.len
      refine ⟨by omega, fun e => ?_⟩
      rcases Nat.lt_trichotomy p q with hlt | rfl | hlt
      · exact h1.fits.ok q p hlt (by omega) ⟨e, hj2⟩
      · have := hS.n p; rw [h] at this; cases this
      · exact h1.fits.ok p q hlt (by omega) ⟨e.symm, hj⟩
    have := col_odd (J := JB (nearF (tabF L))) (c := fun p => l.getD p 0) (fun p q h => by
      obtain ⟨⟨hp, hq⟩, -⟩ := hJ p q h
      have := h1.fits.rng p hp; have := h1.fits.rng q hq
      try dsimp only
      omega) (fun p q h => (hJ p q h).2) hw
    omega
  · intro hk
    apply Classical.byContradiction
    intro hno
    obtain ⟨c, c1, c2⟩ := two_col (J := JB (nearF (tabF L))) hS.s fun a s hw => by
      apply Classical.byContradiction
      intro ho
      exact hno ⟨a, s, by omega, hw⟩
    have hget : ∀ i, i < L.length → ((List.range L.length).map fun p => (c p : Int)).getD i 0 = c i := fun i hi => by
      simp [List.getD_eq_getElem?_getD, hi]
    refine h3 2 (by omega) ((List.range L.length).map fun p => (c p : Int)) ⟨fun i hi => ?_, fun p q hq hp ⟨e, hj⟩ => ?_⟩ (by simp)
    · rw [List.length_map, List.length_range] at hi
      rw [hget i hi]; have := c1 i; omega
    · rw [List.length_map, List.length_range] at hp
      rw [hget p hp, hget q (by omega)] at e
      exact c2 p q ((near_JB hc).2 hj) (by omega)
theorem odd_first {N : List Nat} {P : Nat} (hP : N.length = P) (hS : Sym N) {m : Nat} {r : List Int} (h : Ring (JB N) P m r) (hm : 0 < m) (hf : ∀ x ∈ r, r.getD 0 0 ≤ x) :
    ∀ i, i < r.length → ∃ p q : Nat, p < P ∧ q < P ∧ r[i]? = some (p : Int) ∧ r[(i + 1) % r.length]? = some (q : Int) ∧ JB N p q = true ∧ ¬ 0 ≤ idxL (r.take i) p ∧ ∃ z : Int, r[0]? = some z ∧ z ≤ p := by
  intro i hi
  have hl := h.len
  obtain ⟨p, hp, e1, e1'⟩ := below_get h.bl hi
  obtain ⟨q, hq, e2, e2'⟩ := below_get h.bl (i := (i + 1) % r.length) (Nat.mod_lt _ (by omega))
  refine ⟨p, q, hp, hq, e1, e2, ?_, fun hx => ?_, ?_⟩
  · by_cases hlt : i + 1 < r.length
    · rw [Nat.mod_eq_of_lt hlt] at e2'
      have := h.st i (by omega)
      rw [e1', e2'] at this
      simpa using this
    · rw [show i + 1 = r.length by omega, Nat.mod_self] at e2'
      have := h.cl
      rw [e2', show m - 1 = i by omega, e1'] at this
      exact hS.s _ _ (by simpa using this)
  · have hm2 := idxL_mem.1 hx
    have hnd := h.nd
    rw [← List.take_append_drop i r, List.nodup_append] at hnd
    have hd : (p : Int) ∈ r.drop i := by
      rw [List.drop_eq_getElem_cons hi, (List.getElem?_eq_some_iff.1 e1).2]; exact List.mem_cons_self
    exact hnd.2.2 _ hm2 _ hd rfl
  · have h0 : 0 < r.length := by omega
    refine ⟨r[0], List.getElem?_eq_getElem h0, ?_⟩
    have := hf p (List.mem_of_getElem? e1)
    rw [List.getD_eq_getElem?_getD, List.getElem?_eq_getElem h0, Option.getD_some] at this
    exact this
set_option maxHeartbeats 8000000
theorem odd_rest {L : List (List Int)} (hc : chk L = 0) {s0 : ST} {Q : Exit → ST → Prop} (hs0 : s0 = ⟨[(3, .ptr 0 0)], [(0, .cells [.il (lls L) L.length false])], 1⟩) (hret : ∀ h nx, Q .ret ⟨[(2, vB true)], h, nx⟩) :
    XZ (rZ (spc ss9)) 0 (.seq (.reg p9_r2 [3, 4, 5]) (.seq (.reg p9_r3 [3, 4, 5, 6, 7]) (.seq (.seq (.reg p9_r4 [3, 4, 5, 6, 7, 32]) (.cond (Operand.tmp 32) (.seq (.reg p9_r5 [2]) .ret) .skip)) (.seq (.reg p9_r6 [4, 5, 6, 7, 8]) (.seq (.reg p9_r7 [4, 5, 6, 7, 8, 9]) (.seq (.reg p9_r8 [4, 5, 6, 7, 8, 9, 10]) (.seq (.seq (.reg p9_r9 [4, 5, 6, 7, 8, 9, 10, 51, 52]) (.block 0 (.loop p9_l2))) (.seq (.seq (.reg p9_r27 [4, 5, 6, 7, 8, 9, 10, 95]) (.cond (Operand.tmp 95) (.seq (.reg p9_r28 [2]) .ret) .skip)) (.seq (.seq (.reg p9_r29 [4, 8, 9, 129]) (.cond (Operand.tmp 129) (.seq (.reg p9_r30 [2]) .ret) .skip)) (.seq (.seq (.reg p9_r31 [4, 8, 9, 130, 131, 132]) (.block 6 (.loop p9_l3))) (.seq (.reg p9_r38 [2]) .ret))))))))))) s0 Q := by
  subst hs0
  obtain ⟨-, h16, -, hP, -⟩ := tab_pts hc
  have hs : smM L = true := by simp only [smM, Bool.and_eq_true, decide_eq_true_eq]; omega
  have hgd : gdM L = true := by simp only [gdM, hs, Bool.true_and, decide_eq_true_eq]; exact hc
  have hlo := loop_eq hc
  have hnl := nearF_len hc
  have hov : oddV L = .tup [oddA L, vI (oddE L)] := rfl
  have hN6 : ∀ i, (nearF (tabF L)).getD i 0 < 65536 := by
    obtain ⟨n', P, h34, hn', hP', h0, h33, en, eP, hf⟩ := g80_facts (g80_tab hc)
    exact nearN_lt _ fun e he => by
      rw [en] at he
      obtain ⟨o, a, b, -, -, hb, -, -, -, -, e2⟩ := hf e (by simpa using he)
      rw [e2]; simp; omega
  cases hlp : loopR L with
  | true =>
    have b2 : bestE L = 12 := by unfold bestE; simp [hc, hlp]
    have hbo : bestO L = none := by unfold bestO; rw [b2]; simp
    have b1 : bestN L = 0 := by unfold bestN; rw [hbo]
    have hO : oddO L = none := by unfold oddO; rw [b2]; rfl
    have hA : oddA L = .v (.slice none 0 0) := by unfold oddA; rw [hO]
    have hE : oddE L = 12 := by unfold oddE; rw [b2]; rfl
    rw [hA, hE] at hov
    rw [hlp] at hlo
    refine XZ_step ?_ (fun N Q_ hN => ?_) ?_
    rotate_left
    · delta p9_r2; simp (disch := omega) [oLt, oLe, oLtN, oLeN, nLt, nLe, nLtN, nLeN, hs, hov]
      exact hN
    refine XZ_step ?_ (fun N Q_ hN => ?_) ?_
    rotate_left
    · delta p9_r3; simp (disch := omega) [oLt, oLe, oLtN, oLeN, nLt, nLe, nLtN, nLeN, hs, b1, b2]
      exact hN
    refine XZ_seqG (XZ_seqG ?_)
    delta p9_r4
    simp (disch := omega) [oLt, oLe, oLtN, oLeN, nLt, nLe, nLtN, nLeN, hgd, hlo]
    delta p9_r5
    refine zOps_cut 8 ?_ (fun K_ hK => ?_) ?_
    rotate_left
    · simp only [List.take_succ_cons, List.take_zero]
      simp (disch := omega) [oLt, oLe, oLtN, oLeN, nLt, nLe, nLtN, nLeN]
      exact hK
    simp only [List.drop_succ_cons, List.drop_zero]
    simp (disch := omega) [oLt, oLe, oLtN, oLeN, nLt, nLe, nLtN, nLeN]
    exact hret _ _
  | false =>
    obtain ⟨l, k, hT, b1, b2⟩ := best_few9 hc hlp
    have hS := near_sym hc hlp
    have hO : oddO L = oddT (JB (nearF (tabF L))) L.length 9 3 := oddO_near hc b2
    have hfo := few_odd hc hlp hT
    rw [hlp] at hlo
    generalize hN : nearF (tabF L) = N at *
    have hspec := shT_spec N N.length
    by_cases hle : shT N N.length ≤ N.length
    · obtain ⟨r, hr, hR, h3, hf⟩ := hS.odd_yes hle
      have h3k : 3 ≤ k := by
        refine hfo.1 ?_
        rcases hspec.1 with h1 | ⟨a, -, ho, -⟩
        · omega
        · exact ⟨a, _, ho⟩
      rw [hnl] at hle hr hR h3
      have hO' : oddO L = some r := by rw [hO, hr]
      have hA : oddA L = .il (ints r) r.length false := by unfold oddA; rw [hO']
      have hE : oddE L = 0 := by unfold oddE; rw [if_pos b2, hO']
      rw [hA, hE] at hov
      have hfst := odd_first hnl hS hR (by omega) hf
      have hrl := hR.len
      have hnc : ¬ (L.length : Int) < (shT N L.length : Nat) := by omega
      have hkc : ¬ (k : Int) < 3 := by omega
      refine XZ_step ?_ (fun N Q_ hN => ?_) ?_
      rotate_left
      · delta p9_r2; simp (disch := omega) [oLt, oLe, oLtN, oLeN, nLt, nLe, nLtN, nLeN, hs, hov]
        exact hN
      refine XZ_step ?_ (fun N Q_ hN => ?_) ?_
      rotate_left
      · delta p9_r3; simp (disch := omega) [oLt, oLe, oLtN, oLeN, nLt, nLe, nLtN, nLeN, hs, b1, b2]
        exact hN
      refine XZ_step ?_ (fun N Q_ hN => ?_) ?_
      rotate_left
      · delta p9_r4; simp (disch := omega) [oLt, oLe, oLtN, oLeN, nLt, nLe, nLtN, nLeN, hgd, hlo]
        exact hN
      refine XZ_step ?_ (fun N Q_ hN => ?_) ?_
      rotate_left
      · delta p9_r6; simp (disch := omega) [oLt, oLe, oLtN, oLeN, nLt, nLe, nLtN, nLeN, hgd, hN, hnl]
        exact hN
      refine XZ_step ?_ (fun N Q_ hN => ?_) ?_
      rotate_left
      · delta p9_r7; simp (disch := omega) [oLt, oLe, oLtN, oLeN, nLt, nLe, nLtN, nLeN, hN, hnl]
        exact hN
      refine XZ_step ?_ (fun N Q_ hN => ?_) ?_
      rotate_left
      · delta p9_r8; simp (disch := omega) [oLt, oLe, oLtN, oLeN, nLt, nLe, nLtN, nLeN]
        exact hN
      refine XZ_seqG (XZ_seqG ?_)
      delta p9_r9
      simp (disch := omega) [oLt, oLe, oLtN, oLeN, nLt, nLe, nLtN, nLeN]
      refine l2_9 (n := L.length) (a := k) (e := 0) (f := 0) (l := r) (N := N) hnl hP hN6 (.tot [] (by simp [hN, hnl])) ?_
      simp only [inBE, thenE, if_true]
      refine XZ_step ?_ (fun N Q_ hN => ?_) ?_
      rotate_left
      · delta p9_r27; simp (disch := omega) [oLt, oLe, oLtN, oLeN, nLt, nLe, nLtN, nLeN, hnc]
        exact hN
      refine XZ_step ?_ (fun N Q_ hN => ?_) ?_
      rotate_left
      · delta p9_r29; simp (disch := omega) [oLt, oLe, oLtN, oLeN, nLt, nLe, nLtN, nLeN, hkc, hrl]
        exact hN
      refine XZ_seqG (XZ_seqG ?_)
      delta p9_r31
      simp (disch := omega) [oLt, oLe, oLtN, oLeN, nLt, nLe, nLtN, nLeN]
      refine l3_9 (n := L.length) (l := r) (N := N) (by omega) hnl hP hN6 hfst (.tot [] (by simp [hrl])) ?_
      simp only [inBE, thenE, if_true]
      delta p9_r38
      simp (disch := omega) [oLt, oLe, oLtN, oLeN, nLt, nLe, nLtN, nLeN]
      exact hret _ _
    · obtain ⟨hno, hev⟩ := hS.odd_no hle
      have hk2 : k ≤ 2 := by
        apply Classical.byContradiction
        intro hk
        obtain ⟨a, s, ho, hw⟩ := hfo.2 (by omega)
        have := hev a s hw
        omega
      rw [hnl] at hle hno
      have hO' : oddO L = none := by rw [hO, hno]
      have hA : oddA L = .v (.slice none 0 0) := by unfold oddA; rw [hO']
      have hE : oddE L = 13 := by unfold oddE; rw [if_pos b2, hO']
      rw [hA, hE] at hov
      have hgt : (L.length : Int) < (shT N L.length : Nat) := by omega
      have hk2c : (k : Int) ≤ 2 := by omega
      refine XZ_step ?_ (fun N Q_ hN => ?_) ?_
      rotate_left
      · delta p9_r2; simp (disch := omega) [oLt, oLe, oLtN, oLeN, nLt, nLe, nLtN, nLeN, hs, hov]
        exact hN
      refine XZ_step ?_ (fun N Q_ hN => ?_) ?_
      rotate_left
      · delta p9_r3; simp (disch := omega) [oLt, oLe, oLtN, oLeN, nLt, nLe, nLtN, nLeN, hs, b1, b2]
        exact hN
      refine XZ_step ?_ (fun N Q_ hN => ?_) ?_
      rotate_left
      · delta p9_r4; simp (disch := omega) [oLt, oLe, oLtN, oLeN, nLt, nLe, nLtN, nLeN, hgd, hlo]
        exact hN
      refine XZ_step ?_ (fun N Q_ hN => ?_) ?_
      rotate_left
      · delta p9_r6; simp (disch := omega) [oLt, oLe, oLtN, oLeN, nLt, nLe, nLtN, nLeN, hgd, hN, hnl]
        exact hN
      refine XZ_step ?_ (fun N Q_ hN => ?_) ?_
      rotate_left
      · delta p9_r7; simp (disch := omega) [oLt, oLe, oLtN, oLeN, nLt, nLe, nLtN, nLeN, hN, hnl]
        exact hN
      refine XZ_step ?_ (fun N Q_ hN => ?_) ?_
      rotate_left
      · delta p9_r8; simp (disch := omega) [oLt, oLe, oLtN, oLeN, nLt, nLe, nLtN, nLeN]
        exact hN
      refine XZ_seqG (XZ_seqG ?_)
      delta p9_r9
      simp (disch := omega) [oLt, oLe, oLtN, oLeN, nLt, nLe, nLtN, nLeN]
      refine l2_9 (n := L.length) (a := k) (e := 13) (f := 0) (l := []) (N := N) hnl hP hN6 (.trans (b := ⟨[(4, .v (.slice none 0 0)), (5, vI 13), (6, vI k), (7, vI 0), (8, .il (uws N) N.length false), (9, vI L.length), (10, vI 100), (51, vI L.length), (52, vI (0 : Nat))], [], 0⟩) (.tot [] (by simp [hN, hnl])) (.weak (s' := ⟨[(4, .il [] 0 false), (5, vI 13), (6, vI k), (7, vI 0), (8, .il (uws N) N.length false), (9, vI L.length), (10, vI 100), (51, vI L.length), (52, vI (0 : Nat))], [], 0⟩) ⟨rfl, .nil, rfl, .refl, rfl, .refl, rfl, .refl, rfl, .refl, rfl, .refl, rfl, .refl, rfl, .refl, rfl, .refl, trivial⟩ trivial rfl .refl)) ?_
      simp only [inBE, thenE, if_true]
      refine XZ_seqG (XZ_seqG ?_)
      delta p9_r27
      simp (disch := omega) [oLt, oLe, oLtN, oLeN, nLt, nLe, nLtN, nLeN, hgt]
      delta p9_r28
      refine zOps_cut 8 ?_ (fun K_ hK => ?_) ?_
      rotate_left
      · simp only [List.take_succ_cons, List.take_zero]
        simp (disch := omega) [oLt, oLe, oLtN, oLeN, nLt, nLe, nLtN, nLeN, hk2c]
        exact hK
      simp only [List.drop_succ_cons, List.drop_zero]
      refine zOps_cut 8 ?_ (fun K_ hK => ?_) ?_
      rotate_left
      · simp only [List.take_succ_cons, List.take_zero]
        simp (disch := omega) [oLt, oLe, oLtN, oLeN, nLt, nLe, nLtN, nLeN, hk2c]
        exact hK
      simp only [List.drop_succ_cons, List.drop_zero]
      simp (disch := omega) [oLt, oLe, oLtN, oLeN, nLt, nLe, nLtN, nLeN]
      exact hret _ _
theorem XZ_stepC {R : Rsv} {k0 : Nat} {a b : PCode} {s : ST} {Q : Exit → ST → Prop} (s1 s2 : ST) (h1 : ∀ (N : ST → Prop) (Q' : Exit → ST → Prop), N s1 → XZ R k0 a s (thenE N Q')) (hc : ChgT k0 s1 s2) (h2 : XZ R k0 b s2 Q) : XZ R k0 (.seqC a b) s Q := h1 _ _ ⟨s2, hc, h2⟩
theorem odd_runs {s : Int} {O : List Int} {g : Int} (h : gSk s O g 8 = true) :
    Runs Tryd.prog 9 0 [.agg (skA s O g)] (hpF []) (vB true) 0 (hpF []) := by
  have hf49 := f49_at h
  have hOl : O.length = 16 := by
    simp only [gSk, Bool.and_eq_true, decide_eq_true_eq] at h
    exact h.1.1.1.2
  have hc0 := mdL_chk s.toNat O g.toNat 8 (by omega)
  have e6 : (8 : Int).toNat = 8 := rfl
  rw [e6] at hf49
  generalize mdL s.toNat O g.toNat 8 = L0 at *
  have hKl : (skA s O g).length = 18 := by simp [skA, u8s, hOl]
  have hKr : ∀ f, renL f (skA s O g) = skA s O g := fun f => by simp [skA, renL_app]
  have hKc : cloL (skA s O g) = true := by simp [skA]
  have hKt : (skA s O g).take 18 = skA s O g := List.take_of_length_le (by omega)
  generalize skA s O g = K at *
  have hm0 : mdV L0 = .agg [.il (lls L0) L0.length false] ∨ (mdV L0 = .agg [.v (.slice none 0 0)] ∧ L0 = []) := by
    unfold mdV
    by_cases h0 : L0.length = 0
    · exact .inr ⟨by rw [if_pos h0], List.length_eq_zero_iff.1 h0⟩
    · exact .inl (by rw [if_neg h0])
  refine P9.rzC p1009 P1009s (ss := ss9) ⟨s16_ok, s26_ok, s31_ok, s49_ok, s51_ok, s52_ok, s54_ok, trivial⟩ (by simp) fun Q hQ => ?_
  have hret : ∀ h nx, Q .ret ⟨[(2, vB true)], h, nx⟩ := fun h nx => hQ _ _ (.p (.inl rfl) (by simp) rfl)
  delta p1009
  refine XZ_step ?_ (fun N Q_ hN => ?_) ?_
  rotate_left
  · delta p9_r0; simp (disch := omega) [oLt, oLe, oLtN, oLeN, nLt, nLe, nLtN, nLeN, hKt]
    exact hN
  rcases hm0 with hm0 | ⟨hm0, rfl⟩
  · rw [hm0] at hf49
    refine XZ_stepC ?_ ⟨[(3, .ptr 0 0)], [(0, .cells [.il (lls L0) L0.length false])], 1⟩ (fun N Q_ hN => ?_) ?_ (odd_rest hc0 rfl hret)
    rotate_left
    · delta p9_r1
      simp (disch := omega) [oLt, oLe, oLtN, oLeN, nLt, nLe, nLtN, nLeN, hf49, hKl, hKt, hKc]
      exact hN
    · exact .tot [3] (by simp)
  · rw [hm0] at hf49
    refine XZ_stepC ?_ ⟨[(3, .ptr 0 0)], [(0, .cells [.il (lls []) 0 false])], 1⟩ (fun N Q_ hN => ?_) ?_ (odd_rest hc0 rfl hret)
    rotate_left
    · delta p9_r1
      simp (disch := omega) [oLt, oLe, oLtN, oLeN, nLt, nLe, nLtN, nLeN, hf49, hKl, hKt, hKc]
      exact hN
    · exact .trans (b := ⟨[(3, .ptr 0 0)], [(0, .cells [.v (.slice none 0 0)])], 1⟩) (.tot [3] (by simp)) (.weak (s' := ⟨[(3, .ptr 0 0)], [(0, .cells [.il (lls []) 0 false])], 1⟩) ⟨rfl, .refl, trivial⟩ ⟨rfl, ⟨rfl, fun i u v hu hv => by
        cases i with
        | zero => cases hu; cases hv; exact .nil
        | succ i => simp at hu⟩, trivial⟩ rfl .refl)
end Go.Sx.Ch
