/- What functions of the chart layer's own statements return: size, after. No conditions. -/
import Derived.Test.YtfiebjbhiflfpaaDoorSxJCMtoHJ0
import Derived.Test.YtfiebjbhiflfpaaDoorSxJDVtoDV0
import Derived.Test.YtfiebjbhiflfpaaDoorSxPCd
set_option linter.unusedVariables false
set_option linter.unusedSimpArgs false
set_option maxRecDepth 4000
namespace Go.Sx.Ch
open Go Go.Sx Go.Proofs

set_option maxHeartbeats 2000000
def s59 : Sp := spT 59 [.mp] fun (L : List (List Int)) => res (smM L) (vI (total L))
@[simp] theorem s59_g : s59.g = 59 := rfl
@[simp] theorem s59_f : s59.f = (spT 59 [.mp] fun (L : List (List Int)) => res (smM L) (vI (total L))).f := rfl
theorem s59_ok : s59.ok Tryd.prog := by
  apply spT_ok
  simp only [OkT, Ty.all, List.nil_append, List.cons_append]
  intro (L : List (List Int)) u
  apply okT_res; intro hg
  refine P59.rz (ss := []) trivial (by simp) fun Q hQ => ?_
  delta p59 p59_r0 p59_r1 p59_r2
  simp only [smM, Bool.and_eq_true, decide_eq_true_eq] at hg
  obtain ⟨hlen, htot⟩ := hg
  simp (disch := omega) [oLt, oLe, oLtN, oLeN, nLt, nLe, nLtN, nLeN]
  refine XZ_for (fun i : Nat => ⟨[(3, vI (total (L.take i))), (7, .il (lls L) L.length u), (8, vI L.length), (9, vI i)], [], 0⟩) (fun i => L.length - i) (fun i => i ≤ L.length) 0 (by simp) (.to [] (by simp [total])) ?_
  intro i hi N Q' hN hE
  rcases Nat.lt_or_ge i L.length with h | h
  · have hic : (i : Int) < L.length := by omega
    obtain ⟨l, r, -, e2, e3, -, e5⟩ := drop_split h
    have htl : total (L.take (i + 1)) ≤ 10000 := Nat.le_trans (total_take L _) htot
    have hnext : total (L.take (i + 1)) = total (L.take i) + l.length := by rw [List.take_succ_eq_append_getElem h, e3, total_snoc]
    rw [hnext] at htl
    have fin : ∀ s', ChgT 0 s' ⟨[(3, vI ((total (L.take i) + l.length : Nat) : Int)), (7, .il (lls L) L.length u), (8, vI L.length), (9, vI ((i + 1 : Nat) : Int))], [], 0⟩ → N s' := fun s' hh => hN s' (i + 1) (by omega) h (by rw [hnext]; exact hh)
    obtain ⟨z, hz⟩ : ∃ z : Int, ((total (L.take i) : Nat) : Int) = z := ⟨_, rfl⟩
    have hz1 : 0 ≤ z := by omega
    have hz2 : z + l.length ≤ 10000 := by omega
    rw [hz]
    delta p59_l0 p59_r3 p59_r4 p59_r5 p59_r6
    simp (disch := omega) [oLt, oLe, oLtN, oLeN, nLt, nLe, nLtN, nLeN, hic, h, e2, e3]
    exact fin _ (.to [] (by simp [← hz]))
  · obtain rfl : i = L.length := by omega
    have hic : ¬ (L.length : Int) < L.length := by omega
    rw [List.take_length] at *
    delta p59_l0 p59_r3 p59_r4 p59_r5 p59_r6
    simp (disch := omega) [oLt, oLe, oLtN, oLeN, nLt, nLe, nLtN, nLeN, hic]
    refine hE _ _ _ .refl ?_
    delta p59_r7
    simp (disch := omega) [oLt, oLe, oLtN, oLeN, nLt, nLe, nLtN, nLeN]
    exact hQ _ _ (.p (.inl rfl) (by simp) rfl)

/-- What comes after each end, and at which point each is, of a table. -/
def nextT (n : Nat) (C : List Int) : List Int := (C.drop 1).take n
def atT (n : Nat) (C : List Int) : List Int := (C.drop 17).take n
theorem nextT_len {n : Nat} {C : List Int} (h : C.length = 34) (hn : n ≤ 16) : (nextT n C).length = n := by simp [nextT, h]; omega
theorem atT_len {n : Nat} {C : List Int} (h : C.length = 34) (hn : n ≤ 16) : (atT n C).length = n := by simp [atT, h]; omega
theorem nextT_get {n : Nat} {C : List Int} {i : Nat} (hi : i < n) : (nextT n C)[i]? = C[1 + i]? := by simp [nextT, List.getElem?_take, List.getElem?_drop, hi, Nat.add_comm]
theorem atT_get {n : Nat} {C : List Int} {i : Nat} (hi : i < n) : (atT n C)[i]? = C[17 + i]? := by simp [atT, List.getElem?_take, List.getElem?_drop, hi]
theorem nextT_set {n m : Nat} {C : List Int} {v p : Int} (hn : n ≤ 16) (hm : m < n) : nextT n ((C.set (1 + m) v).set (17 + m) p) = (nextT n C).set m v := by
  apply List.ext_getElem?
  intro i
  by_cases hi : i < n
  · rw [nextT_get hi, List.getElem?_set_ne (by omega)]
    by_cases e : m = i
    · subst e
      by_cases hl : 1 + m < C.length
      · rw [List.getElem?_set_self hl, List.getElem?_set_self (by simp [nextT]; omega)]
      · rw [List.getElem?_eq_none (by simp; omega), List.getElem?_eq_none (by simp [nextT]; omega)]
    · rw [List.getElem?_set_ne (by omega), List.getElem?_set_ne e, nextT_get hi]
  · rw [List.getElem?_eq_none (by simp [nextT]; omega), List.getElem?_eq_none (by simp [nextT]; omega)]
theorem atT_set {n m : Nat} {C : List Int} {v p : Int} (hn : n ≤ 16) (hm : m < n) : atT n ((C.set (1 + m) v).set (17 + m) p) = (atT n C).set m p := by
  apply List.ext_getElem?
  intro i
  by_cases hi : i < n
  · rw [atT_get hi]
    by_cases e : m = i
    · subst e
      by_cases hl : 17 + m < C.length
      · rw [List.getElem?_set_self (by simp; omega), List.getElem?_set_self (by simp [atT]; omega)]
      · rw [List.getElem?_eq_none (by simp; omega), List.getElem?_eq_none (by simp [atT]; omega)]
    · rw [List.getElem?_set_ne (by omega), List.getElem?_set_ne (by omega), List.getElem?_set_ne e, atT_get hi]
  · rw [List.getElem?_eq_none (by simp [atT]; omega), List.getElem?_eq_none (by simp [atT]; omega)]
theorem nextT_ends {n : Nat} {C : List Int} {a b : Int} (hn : n ≤ 16) : nextT n ((C.set 0 a).set 33 b) = nextT n C := by
  apply List.ext_getElem?
  intro i
  by_cases hi : i < n
  · rw [nextT_get hi, nextT_get hi, List.getElem?_set_ne (by omega), List.getElem?_set_ne (by omega)]
  · rw [List.getElem?_eq_none (by simp [nextT]; omega), List.getElem?_eq_none (by simp [nextT]; omega)]
theorem atT_ends {n : Nat} {C : List Int} {a b : Int} (hn : n ≤ 16) : atT n ((C.set 0 a).set 33 b) = atT n C := by
  apply List.ext_getElem?
  intro i
  by_cases hi : i < n
  · rw [atT_get hi, atT_get hi, List.getElem?_set_ne (by omega), List.getElem?_set_ne (by omega)]
  · rw [List.getElem?_eq_none (by simp [atT]; omega), List.getElem?_eq_none (by simp [atT]; omega)]
theorem nextT_0 {n : Nat} (hn : n ≤ 16) : nextT n (tabF []) = List.replicate n 0 := by
  show ((List.replicate 34 (0 : Int)).drop 1).take n = _
  rw [List.drop_replicate, List.take_replicate, Nat.min_eq_left (by omega)]
theorem atT_0 {n : Nat} (hn : n ≤ 16) : atT n (tabF []) = List.replicate n 0 := by
  show ((List.replicate 34 (0 : Int)).drop 17).take n = _
  rw [List.drop_replicate, List.take_replicate, Nat.min_eq_left (by omega)]

set_option maxHeartbeats 4000000
def s90 : Sp := spT 90 [.mp] fun (L : List (List Int)) => res (gdM L) (.tup [.il (ints (nextT (total L) (tabF L))) (total L) false, .il (ints (atT (total L) (tabF L))) (total L) false])
@[simp] theorem s90_g : s90.g = 90 := rfl
@[simp] theorem s90_f : s90.f = (spT 90 [.mp] fun (L : List (List Int)) => res (gdM L) (.tup [.il (ints (nextT (total L) (tabF L))) (total L) false, .il (ints (atT (total L) (tabF L))) (total L) false])).f := rfl
theorem s90_ok : s90.ok Tryd.prog := by
  apply spT_ok
  simp only [OkT, Ty.all, List.nil_append, List.cons_append]
  intro (L : List (List Int)) u
  apply okT_res; intro hg
  refine P90.rz (ss := [s59]) ⟨s59_ok, trivial⟩ (by simp) fun Q hQ => ?_
  delta p90 p90_r0 p90_r1 p90_r2 p90_r3
  simp only [gdM, Bool.and_eq_true, decide_eq_true_eq] at hg
  obtain ⟨hsm, hc⟩ := hg
  have hcv := chk_cov hc
  have hne := chk_ne hc
  obtain ⟨h16, -, hev⟩ := chk_zero hc
  obtain ⟨-, -, -, hL16, -⟩ := tab_pts hc
  have hall := hcv.h16
  obtain ⟨n, hn⟩ : ∃ n, total L = n := ⟨_, rfl⟩
  rw [hn] at hQ h16
  have hrng : ∀ l ∈ L, ∀ x ∈ l, 0 ≤ x ∧ x < n := fun l hl x hx => by rw [← hn]; exact hcv.rng x (List.mem_flatten.2 ⟨l, hl, hx⟩)
  have hrep : List.replicate n (AV.v (.int .i64 0)) = ints (List.replicate n 0) := by simp [ints]
  have hn9 : (n : Int) * 9 ≤ 1099511627776 := by omega
  simp (disch := omega) [oLt, oLe, oLtN, oLeN, nLt, nLe, nLtN, nLeN, hsm, hn, hrep, hn9]
  rw [← nextT_0 h16]
  refine XZ_for (fun i : Nat => ⟨[(2, .ref 0 0 n 1 (some n)), (3, .ref 1 0 n 1 (some n)), (16, .il (lls L) L.length u), (17, vI L.length), (18, vI i)], [(0, .cells (ints (nextT n (tabF (L.take i))))), (1, .cells (ints (atT n (tabF (L.take i)))))], 2⟩) (fun i => L.length - i) (fun i => i ≤ L.length) 0 (by simp) (.tot [2, 3] (by simp [nextT_0 h16, atT_0 h16])) ?_
  intro i hi N Q' hN hE
  have hpre : (L.take i).all in16 = true := List.all_eq_true.2 fun l hl => List.all_eq_true.1 hall l (List.mem_of_mem_take hl)
  obtain ⟨f1, -, -, -⟩ := tabF_facts hpre
  have hp33 : (tabF (L.take i)).getD 33 0 = (i : Int) := by
    have hh := pts_eq hpre fun l hl => hne l (List.mem_of_mem_take hl)
    unfold ptsC at hh
    rw [hh]; simp; omega
  rcases Nat.lt_or_ge i L.length with h | h
  · have hic : (i : Int) < L.length := by omega
    obtain ⟨l, r, -, e2, e3, -, e5⟩ := drop_split h
    have hl16 : in16 l = true := List.all_eq_true.1 hall l e5
    have hl0 : l.length ≠ 0 := hne l e5
    have hlr := hrng l e5
    have hls : l.length ≤ 16 := by
      have h1 : total (L.take (i + 1)) ≤ total L := total_take L _
      rw [List.take_succ_eq_append_getElem h, e3, total_snoc] at h1
      omega
    have hnext : tabF (L.take (i + 1)) = tabL (tabF (L.take i)) l := by rw [List.take_succ_eq_append_getElem h, e3, tabF_snoc]
    have fin : ∀ s', ChgT 0 s' ⟨[(2, .ref 0 0 n 1 (some n)), (3, .ref 1 0 n 1 (some n)), (16, .il (lls L) L.length u), (17, vI L.length), (18, vI ((i + 1 : Nat) : Int))], [(0, .cells (ints (nextT n (tabE l (tabF (L.take i)))))), (1, .cells (ints (atT n (tabE l (tabF (L.take i))))))], 2⟩ → N s' := fun s' hh => hN s' (i + 1) (by omega) h (by
      rw [hnext]
      unfold tabL
      rw [if_neg hl0, nextT_ends h16, atT_ends h16]; exact hh)
    clear hN hnext hpre
    generalize tabF (L.take i) = C at *
    delta p90_l1 p90_r4 p90_r5 p90_r6
    simp (disch := omega) [oLt, oLe, oLtN, oLeN, nLt, nLe, nLtN, nLeN, hic, h, e2, e3]
    refine XZ_for (fun k : Nat => ⟨[(2, .ref 0 0 n 1 (some n)), (3, .ref 1 0 n 1 (some n)), (5, vI i), (6, .il (ints l) l.length false), (16, .il (lls L) L.length u), (17, vI L.length), (18, vI i), (23, .il (ints l) l.length false), (24, vI l.length), (25, vI k)], [(0, .cells (ints (nextT n ((List.range k).foldl (tabI l) C)))), (1, .cells (ints (atT n ((List.range k).foldl (tabI l) C))))], 2⟩) (fun k => l.length - k) (fun k => k ≤ l.length) 0 (by simp) (.tot [2, 3] (by simp)) ?_
    intro k hk N2 Q2 hN2 hE2
    have hD : ((List.range k).foldl (tabI l) C).length = 34 := by rw [tabE_len, f1]
    rcases Nat.lt_or_ge k l.length with h1 | h1
    · have hkc : (k : Int) < l.length := by omega
      have hs : (List.range (k + 1)).foldl (tabI l) C = tabI l ((List.range k).foldl (tabI l) C) k := by simp [List.range_succ, List.foldl_append]
      obtain ⟨m, hm, hm1, hm2⟩ := in16_get hl16 h1
      have hm3 : l[k] = (m : Int) := (List.getElem?_eq_some_iff.1 hm1).2
      have hmn : m < n := by have := hlr l[k] (List.getElem_mem h1); rw [hm3] at this; omega
      have hmc : (m : Int) < n := by omega
      have hlc : ¬ (l.length : Int) = 0 := by omega
      have hq : (k + 1) % l.length < l.length := Nat.mod_lt _ (by omega)
      have hmod : ((k : Int) + 1) % (l.length : Int) = (((k + 1) % l.length : Nat) : Int) := by rw [Int.natCast_emod]; rfl
      have h33 := (tabE_keep hl16 (List.range k) C fun j hj => by have := List.mem_range.1 hj; omega).2
      rw [hp33] at h33
      have ht : tabI l ((List.range k).foldl (tabI l) C) k = (((List.range k).foldl (tabI l) C).set (1 + m) (l.getD ((k + 1) % l.length) 0)).set (17 + m) (i : Int) := by
        show (((List.range k).foldl (tabI l) C).set (1 + (l.getD k 0).toNat) (l.getD ((k + 1) % l.length) 0)).set (17 + (l.getD k 0).toNat) (((List.range k).foldl (tabI l) C).getD 33 0) = _
        rw [h33, hm2, Int.toNat_natCast]
      rw [ht] at hs
      clear ht
      generalize (k + 1) % l.length = q at *
      obtain ⟨v, hv⟩ : ∃ v, l[q]? = some v := ⟨l[q], by rw [List.getElem?_eq_getElem hq]⟩
      have hv3 : l[q] = v := (List.getElem?_eq_some_iff.1 hv).2
      rw [List.getD_eq_getElem?_getD, hv, Option.getD_some] at hs
      have xl := nextT_len hD h16
      have yl := atT_len hD h16
      have fin2 : ∀ s', ChgT 0 s' ⟨[(2, .ref 0 0 n 1 (some n)), (3, .ref 1 0 n 1 (some n)), (5, vI i), (6, .il (ints l) l.length false), (16, .il (lls L) L.length u), (17, vI L.length), (18, vI i), (23, .il (ints l) l.length false), (24, vI l.length), (25, vI ((k + 1 : Nat) : Int))], [(0, .cells (ints ((nextT n ((List.range k).foldl (tabI l) C)).set m v))), (1, .cells (ints ((atT n ((List.range k).foldl (tabI l) C)).set m (i : Int))))], 2⟩ → N2 s' := fun s' hh => hN2 s' (k + 1) (by omega) h1 (by rw [hs, nextT_set h16 hmn, atT_set h16 hmn]; exact hh)
      clear hN2 hs hD h33
      generalize nextT n ((List.range k).foldl (tabI l) C) = X at *
      generalize atT n ((List.range k).foldl (tabI l) C) = Y at *
      have sx : splice (ints X) m [vI v] = ints (X.set m v) := by rw [splice_one _ _ _ (by simp [xl]; omega)]; simp [ints, List.map_set]
      have sy : splice (ints Y) m [vI (i : Int)] = ints (Y.set m (i : Int)) := by rw [splice_one _ _ _ (by simp [yl]; omega)]; simp [ints, List.map_set]
      delta p90_l0 p90_r7 p90_r8 p90_r9 p90_r10
      simp (disch := omega) [oLt, oLe, oLtN, oLeN, nLt, nLe, nLtN, nLeN, hkc, h1, hm, hmc, hm1, hm3, hmn, hl0, hlc, hmod, hq, hv, hv3, xl, yl]
      exact fin2 _ (.tot [2, 3] (by simp [sx, sy]))
    · obtain rfl : k = l.length := by omega
      have hkc : ¬ (l.length : Int) < l.length := by omega
      delta p90_l0 p90_r7 p90_r8 p90_r9 p90_r10
      simp (disch := omega) [oLt, oLe, oLtN, oLeN, nLt, nLe, nLtN, nLeN, hkc]
      refine hE2 _ _ _ .refl ?_
      simp only [inBE, thenE, if_true]
      delta p90_r11
      simp (disch := omega) [oLt, oLe, oLtN, oLeN, nLt, nLe, nLtN, nLeN]
      exact fin _ (.tot [2, 3] (by simp [tabE]))
  · obtain rfl : i = L.length := by omega
    have hic : ¬ (L.length : Int) < L.length := by omega
    rw [List.take_length] at *
    have xl := nextT_len f1 h16
    have yl := atT_len f1 h16
    generalize nextT n (tabF L) = X at *
    generalize atT n (tabF L) = Y at *
    delta p90_l1 p90_r4 p90_r5 p90_r6
    simp (disch := omega) [oLt, oLe, oLtN, oLeN, nLt, nLe, nLtN, nLeN, hic]
    refine hE _ _ _ .refl ?_
    delta p90_r12
    have xt : X.take n = X := List.take_of_length_le (by omega)
    have yt : Y.take n = Y := List.take_of_length_le (by omega)
    simp (disch := omega) [oLt, oLe, oLtN, oLeN, nLt, nLe, nLtN, nLeN]
    exact hQ _ _ (.fz [2, 3] _ (.inl rfl) (by simp [xl, yl, xt, yt]; rfl) (by simp [xl, yl]) (by simp))
end Go.Sx.Ch
set_option maxRecDepth 4000
namespace Go.Sx.Ch
open Go Go.Sx Go.Proofs

theorem xor64 (x y : Operand) : ∀ {k : Nat}, k < 16 → effPlain2 Tryd.prog (fun u v => do eqGuard .xor 3 x y u v; binOp .xor 3 u v) (vI k) (.v (.int .i64 1)) = ret (vI (onat k : Nat))
  | 0, _ => rfl | 1, _ => rfl | 2, _ => rfl | 3, _ => rfl | 4, _ => rfl | 5, _ => rfl | 6, _ => rfl | 7, _ => rfl
  | 8, _ => rfl | 9, _ => rfl | 10, _ => rfl | 11, _ => rfl | 12, _ => rfl | 13, _ => rfl | 14, _ => rfl | 15, _ => rfl
  | k + 16, h => by omega

set_option maxHeartbeats 2000000
def s52 : Sp := spT 52 [.mp] fun (L : List (List Int)) => res (gdM L) (.il (uws (nearF (tabF L))) (nearF (tabF L)).length false)
@[simp] theorem s52_g : s52.g = 52 := rfl
@[simp] theorem s52_f : s52.f = (spT 52 [.mp] fun (L : List (List Int)) => res (gdM L) (.il (uws (nearF (tabF L))) (nearF (tabF L)).length false)).f := rfl
theorem s52_ok : s52.ok Tryd.prog := by
  apply spT_ok
  simp only [OkT, Ty.all, List.nil_append, List.cons_append]
  intro (L : List (List Int)) u
  apply okT_res; intro hg
  refine P52.rz (ss := [s90]) ⟨s90_ok, trivial⟩ (by simp) fun Q hQ => ?_
  delta p52 p52_r0 p52_r1 p52_r2 p52_r3
  have hg0 := hg
  simp only [gdM, Bool.and_eq_true, decide_eq_true_eq] at hg
  obtain ⟨hsm, hc⟩ := hg
  obtain ⟨h34, h16, hev, hP, h0, h33, hpt⟩ := tab_pts hc
  have e0 : endsC (tabF L) = total L := by unfold endsC; rw [List.getD_eq_getElem?_getD, h0]; rfl
  have e33 : ptsC (tabF L) = L.length := by unfold ptsC; rw [List.getD_eq_getElem?_getD, h33]; rfl
  have hf : ∀ e : Nat, e < total L → ∃ a b : Nat, a < L.length ∧ b < L.length ∧ onat e < total L ∧ (atT (total L) (tabF L))[e]? = some (a : Int) ∧ (atT (total L) (tabF L))[onat e]? = some (b : Int) ∧ atC (tabF L) e = a ∧ atC (tabF L) (othI e) = b := fun e he => by
    obtain ⟨a, ha, a1, a2, -⟩ := hpt e he
    have ho := onat_lt (n := total L) (by omega) he
    obtain ⟨b, hb, b1, b2, -⟩ := hpt (onat e) ho
    exact ⟨a, b, ha, hb, ho, by rw [atT_get he]; exact a1, by rw [atT_get ho]; exact b1, a2, by rw [oth_onat e (by omega)]; exact b2⟩
  have hyl := atT_len (n := total L) h34 h16
  obtain ⟨C, hC⟩ : ∃ C, tabF L = C := ⟨_, rfl⟩
  rw [hC] at hQ hf hyl e0 e33
  obtain ⟨n, hn⟩ : ∃ n, total L = n := ⟨_, rfl⟩
  rw [hn] at hf hyl e0 h16
  obtain ⟨P, hPe⟩ : ∃ P, L.length = P := ⟨_, rfl⟩
  rw [hPe] at hf e33 hP
  have hr : nearF C = nearN C n := by unfold nearF; rw [e0]; simp
  have hz : nearN C 0 = List.replicate P 0 := by simp [nearN, e33]
  have hlen : ∀ k, (nearN C k).length = P := fun k => by rw [nearN_len, e33]; simp
  have hlt : ∀ k, k ≤ n → ∀ i, (nearN C k).getD i 0 < 65536 := fun k hk => nearN_lt k fun e he => by
    obtain ⟨a, b, -, hb, -, -, -, -, e2⟩ := hf e (by omega)
    rw [e2]; simp; omega
  have hPc : (P : Int) * 5 ≤ 1099511627776 := by omega
  rw [hr] at hQ
  simp (disch := omega) [oLt, oLe, oLtN, oLeN, nLt, nLe, nLtN, nLeN, hg0, hC, hn, hPe, hPc]
  obtain ⟨A, hA⟩ : ∃ A, atT n C = A := ⟨_, rfl⟩
  rw [hA] at hf hyl
  rw [uws_rep, ← hz, hA]
  refine XZ_for (fun k : Nat => ⟨[(4, .il (ints A) n false), (5, .ref 0 0 P 1 (some P)), (17, .il (ints A) n false), (18, vI n), (19, vI k)], [(0, .cells (uws (nearN C k)))], 1⟩) (fun k => n - k) (fun k => k ≤ n) 0 (by simp) (.tot [5] (by simp)) ?_
  intro k hk N Q' hN hE
  rcases Nat.lt_or_ge k n with h | h
  · have hkc : (k : Int) < n := by omega
    have hk16 : k < 16 := by omega
    obtain ⟨a, b, ha, hb, ho, q2, q3, q4, q5⟩ := hf k h
    have q2' := (List.getElem?_eq_some_iff.1 q2).2
    have hxo := fun x y => xor64 x y hk16
    obtain ⟨o, hoe⟩ : ∃ o, onat k = o := ⟨_, rfl⟩
    rw [hoe] at hxo ho q3
    have q3' := (List.getElem?_eq_some_iff.1 q3).2
    have hoc : (o : Int) < n := by omega
    have hac : (a : Int) < P := by omega
    have hl := hlen k
    have hla : a < (nearN C k).length := by omega
    have hnx : nearN C (k + 1) = (nearN C k).set a ((nearN C k).getD a 0 ||| 2 ^ b) := by rw [nearN_succ]; unfold nrI; rw [q4, q5]; simp
    obtain ⟨x, hx⟩ : ∃ x, (nearN C k)[a]? = some x := ⟨(nearN C k)[a], by rw [List.getElem?_eq_getElem]⟩
    have hx' := (List.getElem?_eq_some_iff.1 hx).2
    have hxd : (nearN C k).getD a 0 = x := by rw [List.getD_eq_getElem?_getD, hx]; rfl
    have hx6 : x < 65536 := by rw [← hxd]; exact hlt k hk a
    have hb16 : b < 16 := by omega
    have h2b : 2 ^ b < 2 ^ 16 := Nat.pow_lt_pow_right (by omega) hb16
    rw [hxd] at hnx
    have hsh := fun u v => shl32 u v hb16
    obtain ⟨B, hB⟩ : ∃ B, 2 ^ b = B := ⟨_, rfl⟩
    rw [hB] at hnx h2b hsh
    have hor := fun u v => or32 u v hx6 (show B < 65536 by omega)
    obtain ⟨y, hy⟩ : ∃ y, x ||| B = y := ⟨_, rfl⟩
    rw [hy] at hnx hor
    have fin : ∀ s', ChgT 0 s' ⟨[(4, .il (ints A) n false), (5, .ref 0 0 P 1 (some P)), (17, .il (ints A) n false), (18, vI n), (19, vI ((k + 1 : Nat) : Int))], [(0, .cells (uws ((nearN C k).set a y)))], 1⟩ → N s' := fun s' hh => hN s' (k + 1) (by omega) h (by rw [hnx]; exact hh)
    clear hN hnx hE
    generalize nearN C k = M at *
    delta p52_l0 p52_r4 p52_r5 p52_r6 p52_r7
    simp (disch := omega) [oLt, oLe, oLtN, oLeN, nLt, nLe, nLtN, nLeN, hkc, hk16, q2, q3, q2', q3', hoc, ho, hac, ha, hl, hla, hx, hx', hxo, hsh, hor, hyl, h]
    exact fin _ (.tot [5] (by simp))
  · obtain rfl : k = n := by omega
    have hkc : ¬ (k : Int) < k := by omega
    have hl := hlen k
    rw [hl] at hQ
    generalize nearN C k = M at *
    delta p52_l0 p52_r4 p52_r5 p52_r6 p52_r7
    simp (disch := omega) [oLt, oLe, oLtN, oLeN, nLt, nLe, nLtN, nLeN, hkc]
    refine hE _ _ _ .refl ?_
    delta p52_r8
    have hMt : M.take P = M := List.take_of_length_le (by omega)
    simp (disch := omega) [oLt, oLe, oLtN, oLeN, nLt, nLe, nLtN, nLeN]
    exact hQ _ _ (.fz [2] _ (.inl rfl) (by simp [hl, hMt]; rfl) (by simp [hl]) (by simp))

def s51 : Sp := spT 51 [.mp] fun (L : List (List Int)) => res (gdM L) (vB (loopF (tabF L)))
@[simp] theorem s51_g : s51.g = 51 := rfl
@[simp] theorem s51_f : s51.f = (spT 51 [.mp] fun (L : List (List Int)) => res (gdM L) (vB (loopF (tabF L)))).f := rfl
theorem s51_ok : s51.ok Tryd.prog := by
  apply spT_ok
  simp only [OkT, Ty.all, List.nil_append, List.cons_append]
  intro (L : List (List Int)) u
  apply okT_res; intro hg
  refine P51.rz (ss := [s52]) ⟨s52_ok, trivial⟩ (by simp) fun Q hQ => ?_
  delta p51 p51_r0 p51_r1
  have hg0 := hg
  simp only [gdM, Bool.and_eq_true, decide_eq_true_eq] at hg
  obtain ⟨hsm, hc⟩ := hg
  obtain ⟨C, hC⟩ : ∃ C, tabF L = C := ⟨_, rfl⟩
  have h80 := g80_tab hc
  rw [hC] at hQ h80
  obtain ⟨n, P, h34, hn, hP, h0, h33, en, eP, hf⟩ := g80_facts h80
  have hl : (nearF C).length = P := by unfold nearF; rw [nearN_len, eP]; simp
  have hlt : ∀ i, (nearF C).getD i 0 < 65536 := nearN_lt _ fun e he => by
    rw [en] at he
    obtain ⟨o, a, b, -, -, hb, -, -, -, -, e2⟩ := hf e (by simpa using he)
    rw [e2]; simp; omega
  have hr : loopF C = (List.range (nearF C).length).any fun p => ((nearF C).getD p 0).testBit p := rfl
  rw [hr] at hQ
  obtain ⟨M, hM⟩ : ∃ M, nearF C = M := ⟨_, rfl⟩
  rw [hM] at hQ hl hlt
  simp (disch := omega) [oLt, oLe, oLtN, oLeN, nLt, nLe, nLtN, nLeN, hg0, hC, hM]
  refine XZ_for (fun i : Nat => ⟨[(6, .il (uws M) M.length false), (7, vI M.length), (8, vI i)], [], 0⟩) (fun i => M.length - i) (fun i => i ≤ M.length ∧ ∀ p, p < i → (M.getD p 0).testBit p = false) 0 ⟨by simp, fun p hp => by omega⟩ (.to [] (by simp)) ?_
  rintro i ⟨hi, hinv⟩ N Q' hN hE
  rcases Nat.lt_or_ge i M.length with h | h
  · have hic : (i : Int) < M.length := by omega
    obtain ⟨x, hx⟩ : ∃ x, M[i]? = some x := ⟨M[i], by rw [List.getElem?_eq_getElem h]⟩
    have hx' := (List.getElem?_eq_some_iff.1 hx).2
    have hxd : M.getD i 0 = x := by rw [List.getD_eq_getElem?_getD, hx]; rfl
    have hx6 : x < 65536 := by rw [← hxd]; exact hlt i
    have hsr := fun u v => shr32 u v hx6 (show i < 16 by omega)
    have hbit := bit_at x i
    have hy6 : x / 2 ^ i < 65536 := Nat.lt_of_le_of_lt (Nat.div_le_self _ _) hx6
    have han := fun u v => and32 u v hy6
    obtain ⟨y, hy⟩ : ∃ y, x / 2 ^ i = y := ⟨_, rfl⟩
    rw [hy] at hsr hbit han
    obtain ⟨z, hz⟩ : ∃ z, y % 2 = z := ⟨_, rfl⟩
    rw [hz] at hbit han
    by_cases hz1 : z = 1
    · subst hz1
      have hb := hbit.1 rfl
      delta p51_l0 p51_r2 p51_r3 p51_r4 p51_r5 p51_r6
      simp (disch := omega) [oLt, oLe, oLtN, oLeN, nLt, nLe, nLtN, nLeN, hic, h, hx, hx', hsr, han]
      refine hE _ _ _ .refl (hQ _ _ (.p (.inl rfl) ?_ rfl))
      have : ((List.range M.length).any fun p => (M.getD p 0).testBit p) = true := List.any_eq_true.2 ⟨i, List.mem_range.2 h, by rw [hxd]; exact hb⟩
      rw [this]; simp
    · have hb : x.testBit i = false := by
        cases hh : x.testBit i with
        | false => rfl
        | true => exact absurd (hbit.2 hh) hz1
      have hzc : ¬ (z : Int) = 1 := by omega
      delta p51_l0 p51_r2 p51_r3 p51_r4 p51_r5 p51_r6
      simp (disch := omega) [oLt, oLe, oLtN, oLeN, nLt, nLe, nLtN, nLeN, hic, h, hx, hx', hsr, han, hz1, hzc]
      exact hN _ (i + 1) (by omega) ⟨h, fun p hp => by
        by_cases e : p = i
        · rw [e, hxd]; exact hb
        · exact hinv p (by omega)⟩ (.to [] (by simp))
  · obtain rfl : i = M.length := by omega
    have hic : ¬ (M.length : Int) < M.length := by omega
    delta p51_l0 p51_r2 p51_r3 p51_r4 p51_r5 p51_r6
    simp (disch := omega) [oLt, oLe, oLtN, oLeN, nLt, nLe, nLtN, nLeN, hic]
    refine hE _ _ _ .refl ?_
    delta p51_r7
    simp (disch := omega) [oLt, oLe, oLtN, oLeN, nLt, nLe, nLtN, nLeN]
    refine hQ _ _ (.p (.inl rfl) ?_ rfl)
    have : ((List.range M.length).any fun p => (M.getD p 0).testBit p) = false := List.any_eq_false.2 fun p hp => by rw [hinv p (List.mem_range.1 hp)]; simp
    rw [this]; simp
end Go.Sx.Ch
set_option maxRecDepth 4000
namespace Go.Sx.Ch
open Go Go.Sx Go.Proofs

theorem EndsP_at {k : Nat} {rs : List SRes} {r : AV} {H : HL} {e : Exit} {s : ST} (l : List Nat) (he : e = .ret ∨ e = .normal) (hr : resA s.st rs = some (ren (gT l s.nx) r)) (low : lowTo l k = true) (hle : k ≤ l.length) (nd : dist l = true)
    (hh : heapTo l.length (gT l s.nx) s.heap H) : EndsP k rs r l.length H e s := by
  have := cv_to (l := l) (nx := s.nx) (h := s.heap) (h' := H) low hle nd hh
  exact ⟨by rcases he with rfl | rfl <;> trivial, s, .refl, _, this, hr⟩
/-- One number taken out; the list is written over. -/
def f89 : List AV → HL → Nat → Option (AV × HL × Nat) := fun args h k => match args, h, k with
  | [.ref 0 0 n 1 none, .v (.int .i64 i), .v (.int .i64 j)], [(0, .cells cs)], 1 => match unints cs with
    | some l => if n ≤ l.length ∧ small l = true ∧ 0 ≤ i ∧ i.toNat < n ∧ j = i + 1 then some (.ref 0 0 (n - 1) 1 none, [(0, .cells (ints ((l.take n).eraseIdx i.toNat ++ 0 :: l.drop n)))], 1) else none
    | none => none
  | _, _, _ => none
def s89 : Sp := ⟨89, f89⟩
@[simp] theorem s89_g : s89.g = 89 := rfl
@[simp] theorem s89_f : s89.f = f89 := rfl
set_option maxHeartbeats 2000000 in
theorem s89_ok : s89.ok Tryd.prog := by
  intro args h k r h' k' hh
  simp only [s89_f, f89] at hh
  split at hh
  · split at hh
    · rename_i l hl
      split at hh
      · rename_i hc
        obtain ⟨hnl, hsl, h0, hi, rfl⟩ := hc
        cases hh
        rw [unints_inv hl]
        rename_i i n _ _ _
        obtain ⟨i, rfl⟩ := Int.eq_ofNat_of_zero_le h0
        simp only [Int.toNat_natCast] at hi ⊢
        have hll : l.length ≤ 1000000 := by simpa [small] using hsl
        obtain ⟨A, x, B, Z, rfl, rfl, rfl⟩ : ∃ A x B Z, l = (A ++ x :: B) ++ Z ∧ i = A.length ∧ n = (A ++ x :: B).length := by
          have hi' : i < (l.take n).length := by rw [List.length_take]; omega
          exact ⟨(l.take n).take i, (l.take n)[i], (l.take n).drop (i + 1), l.drop n, by rw [← List.drop_eq_getElem_cons hi', List.take_append_drop, List.take_append_drop], by rw [List.length_take]; omega, by rw [← List.drop_eq_getElem_cons hi', List.take_append_drop, List.length_take]; omega⟩
        have he : (A ++ x :: B).eraseIdx A.length = A ++ B := by
          rw [List.eraseIdx_append_of_length_le (Nat.le_refl _), Nat.sub_self]; rfl
        have hne : ¬ (A.length : Int) = A.length + 1 := by omega
        have hlen : (A ++ x :: B).length = A.length + (B.length + 1) := by simp
        rw [List.take_left, List.drop_left, he, hlen, show A.length + (B.length + 1) - 1 = A.length + B.length by omega]
        rw [List.length_append, hlen] at hll
        clear hl hsl he hi h0 hnl
        simp only [hp_eq]
        rcases B with _ | ⟨y, B⟩
        · have hsp : splice (ints A ++ vI x :: ints Z) A.length [vI 0] = ints A ++ vI 0 :: ints Z := by
            rw [splice_one _ _ _ (by simp)]
            rw [List.set_append_right _ _ (by simp)]
            simp
          have hd1 : List.take 0 (List.drop (A.length + 1) (ints A ++ vI x :: ints Z)) = [] := by simp
          refine P89.rz (ss := []) trivial (by simp) fun Q hQ => ?_
          delta p89 p89_r0 p89_r1 p89_r2 p89_r3 p89_r4 p89_r5 p89_r6 p89_r7
          simp only [ints_app, ints_cons, ints_nil, List.length_nil, Nat.zero_add, Nat.add_zero, List.append_assoc, List.cons_append, List.nil_append]
          simp (disch := omega) [oLt, oLe, oLtN, oLeN, nLt, nLe, nLtN, nLeN, hne, hsp, effClear]
          exact hQ _ _ (EndsP_at [0] (.inl rfl) (by simp) rfl (by simp) rfl (by simp))
        · obtain ⟨z, hz⟩ : ∃ z, (x :: y :: B).drop (B.length + 1) = [z] := by
            have : ((x :: y :: B).drop (B.length + 1)).length = 1 := by simp
            exact List.length_eq_one_iff.1 this
          have hz' : (vI x :: vI y :: ints B).drop (B.length + 1) = [vI z] := by
            have := congrArg ints hz
            simpa [ints, List.map_drop] using this
          have hd : List.take (B.length + 1) (List.drop (A.length + 1) (ints A ++ vI x :: vI y :: (ints B ++ ints Z))) = vI y :: ints B := by
            rw [← List.drop_drop, List.drop_left' (by simp), List.drop_succ_cons, List.drop_zero, List.take_succ_cons, List.take_left' (by simp)]
          have hsp : splice (ints A ++ vI x :: vI y :: (ints B ++ ints Z)) A.length (vI y :: ints B) = ints A ++ vI y :: (ints B ++ vI z :: ints Z) := by
            have e : (vI x :: vI y :: (ints B ++ ints Z)).drop (B.length + 1) = vI z :: ints Z := by
              have e2 : vI x :: vI y :: (ints B ++ ints Z) = (vI x :: vI y :: ints B) ++ ints Z := by simp
              rw [e2, List.drop_append_of_le_length (by simp), hz']; rfl
            unfold splice
            rw [List.take_left' (by simp), ← List.drop_drop, List.drop_left' (by simp), show (vI y :: ints B).length = B.length + 1 by simp, e]
            simp
          have hsp2 : splice (ints A ++ vI y :: (ints B ++ vI z :: ints Z)) (A.length + (B.length + 1)) [vI 0] = ints A ++ vI y :: (ints B ++ vI 0 :: ints Z) := by
            rw [splice_one _ _ _ (by simp)]
            rw [List.set_append_right _ _ (by simp)]
            simp [List.set_append_right]
          have hn1 : A.length + (B.length + 1 + 1) - (A.length + 1) = B.length + 1 := by omega
          have hn2 : A.length + (B.length + 1 + 1) - (A.length + (B.length + 1)) = 1 := by omega
          refine P89.rz (ss := []) trivial (by simp) fun Q hQ => ?_
          delta p89 p89_r0 p89_r1 p89_r2 p89_r3 p89_r4 p89_r5 p89_r6 p89_r7
          simp only [ints_app, ints_cons, List.length_cons, List.append_assoc, List.cons_append, List.nil_append]
          have ht1 : ((A.length : Int) + (B.length + 1)).toNat = A.length + (B.length + 1) := by omega
          have ht2 : ((A.length : Int) + (B.length + 1 + 1)).toNat = A.length + (B.length + 1 + 1) := by omega
          simp (disch := omega) [oLt, oLe, oLtN, oLeN, nLt, nLe, nLtN, nLeN, hne, hd, hsp, hsp2, hn1, hn2, ht1, ht2, effClear]
          exact hQ _ _ (EndsP_at [0] (.inl rfl) (by simp) rfl (by simp) rfl (by simp))
      · cases hh
    · cases hh
  · cases hh
end Go.Sx.Ch
