/- What functions of the chart layer's own statements return: size, after. No conditions. -/
import Derived.Test.YtfiebjbhiflfpaaDoorSxJHHtoHJ0
import Derived.Test.YtfiebjbhiflfpaaDoorSxJKAtoDV0
import Derived.Test.YtfiebjbhiflfpaaDoorSxPCd
set_option linter.unusedVariables false
set_option linter.unusedSimpArgs false
namespace Go.Sx.Ch
open Go Go.Sx Go.Proofs
section
set_option maxRecDepth 4000
set_option maxHeartbeats 2000000
def s59 : Sp := spT 59 [.mp] fun (L : List (List Int)) => res (smM L) (vI (total L))
@[simp] theorem s59_g : s59.g = 59 := rfl
@[simp] theorem s59_f : s59.f = (spT 59 [.mp] fun (L : List (List Int)) => res (smM L) (vI (total L))).f := rfl
theorem s59_ok : s59.ok Tryd.prog := by
  apply spT_ok
  simp only [OkT, Ty.all, List.nil_append, List.cons_append]
  intro (L : List (List Int)) u
  apply okT_res; intro hg
  refine P59.rz (ss := []) trivial (by simp) fun Q hQ => ?_
  delta p59 p59_r0 p59_r1 p59_r2
  simp only [smM, Bool.and_eq_true, decide_eq_true_eq] at hg
  obtain ⟨hlen, htot⟩ := hg
  simp (disch := omega) [oLt, oLe, oLtN, oLeN, nLt, nLe, nLtN, nLeN]
  refine XZ_for (fun i : Nat => ⟨[(3, vI (total (L.take i))), (7, .il (lls L) L.length u), (8, vI L.length), (9, vI i)], [], 0⟩) (fun i => L.length - i) (fun i => i ≤ L.length) 0 (by simp) (.to [] (by simp [total])) ?_
  intro i hi N Q' hN hE
  rcases Nat.lt_or_ge i L.length with h | h
  · have hic : (i : Int) < L.length := by omega
    obtain ⟨l, r, -, e2, e3, -, e5⟩ := drop_split h
    have htl : total (L.take (i + 1)) ≤ 10000 := Nat.le_trans (total_take L _) htot
    have hnext : total (L.take (i + 1)) = total (L.take i) + l.length := by rw [List.take_succ_eq_append_getElem h, e3, total_snoc]
    rw [hnext] at htl
    have fin : ∀ s', ChgT 0 s' ⟨[(3, vI ((total (L.take i) + l.length : Nat) : Int)), (7, .il (lls L) L.length u), (8, vI L.length), (9, vI ((i + 1 : Nat) : Int))], [], 0⟩ → N s' := fun s' hh => hN s' (i + 1) (by omega) h (by rw [hnext]; exact hh)
    obtain ⟨z, hz⟩ : ∃ z : Int, ((total (L.take i) : Nat) : Int) = z := ⟨_, rfl⟩
    have hz1 : 0 ≤ z := by omega
    have hz2 : z + l.length ≤ 10000 := by omega
    rw [hz]
    delta p59_l0 p59_r3 p59_r4 p59_r5 p59_r6
    simp (disch := omega) [oLt, oLe, oLtN, oLeN, nLt, nLe, nLtN, nLeN, hic, h, e2, e3]
    exact fin _ (.to [] (by simp [← hz]))
  · obtain rfl : i = L.length := by omega
    have hic : ¬ (L.length : Int) < L.length := by omega
    rw [List.take_length] at *
    delta p59_l0 p59_r3 p59_r4 p59_r5 p59_r6
    simp (disch := omega) [oLt, oLe, oLtN, oLeN, nLt, nLe, nLtN, nLeN, hic]
    refine hE _ _ _ .refl ?_
    delta p59_r7
    simp (disch := omega) [oLt, oLe, oLtN, oLeN, nLt, nLe, nLtN, nLeN]
    exact hQ _ _ (.p (.inl rfl) (by simp) rfl)
def nextT (n : Nat) (C : List Int) : List Int := (C.drop 1).take n
def atT (n : Nat) (C : List Int) : List Int := (C.drop 17).take n
theorem nextT_len {n : Nat} {C : List Int} (h : C.length = 34) (hn : n ≤ 16) : (nextT n C).length = n := by simp [nextT, h]; omega
theorem atT_len {n : Nat} {C : List Int} (h : C.length = 34) (hn : n ≤ 16) : (atT n C).length = n := by simp [atT, h]; omega
theorem nextT_get {n : Nat} {C : List Int} {i : Nat} (hi : i < n) : (nextT n C)[i]? = C[1 + i]? := by simp [nextT, List.getElem?_take, List.getElem?_drop, hi, Nat.add_comm]
theorem atT_get {n : Nat} {C : List Int} {i : Nat} (hi : i < n) : (atT n C)[i]? = C[17 + i]? := by simp [atT, List.getElem?_take, List.getElem?_drop, hi]
theorem nextT_set {n m : Nat} {C : List Int} {v p : Int} (hn : n ≤ 16) (hm : m < n) : nextT n ((C.set (1 + m) v).set (17 + m) p) = (nextT n C).set m v := by
  apply List.ext_getElem?
  intro i
  by_cases hi : i < n
  · rw [nextT_get hi, List.getElem?_set_ne (by omega)]
    by_cases e : m = i
    · subst e
      by_cases hl : 1 + m < C.length
      · rw [List.getElem?_set_self hl, List.getElem?_set_self (by simp [nextT]; omega)]
      · rw [List.getElem?_eq_none (by simp; omega), List.getElem?_eq_none (by simp [nextT]; omega)]
    · rw [List.getElem?_set_ne (by omega), List.getElem?_set_ne e, nextT_get hi]
  · rw [List.getElem?_eq_none (by simp [nextT]; omega), List.getElem?_eq_none (by simp [nextT]; omega)]
theorem atT_set {n m : Nat} {C : List Int} {v p : Int} (hn : n ≤ 16) (hm : m < n) : atT n ((C.set (1 + m) v).set (17 + m) p) = (atT n C).set m p := by
  apply List.ext_getElem?
  intro i
  by_cases hi : i < n
  · rw [atT_get hi]
    by_cases e : m = i
    · subst e
      by_cases hl : 17 + m < C.length
      · rw [List.getElem?_set_self (by simp; omega), List.getElem?_set_self (by simp [atT]; omega)]
      · rw [List.getElem?_eq_none (by simp; omega), List.getElem?_eq_none (by simp [atT]; omega)]
    · rw [List.getElem?_set_ne (by omega), List.getElem?_set_ne (by omega), List.getElem?_set_ne e, atT_get hi]
  · rw [List.getElem?_eq_none (by simp [atT]; omega), List.getElem?_eq_none (by simp [atT]; omega)]
theorem nextT_ends {n : Nat} {C : List Int} {a b : Int} (hn : n ≤ 16) : nextT n ((C.set 0 a).set 33 b) = nextT n C := by
  apply List.ext_getElem?
  intro i
  by_cases hi : i < n
  · rw [nextT_get hi, nextT_get hi, List.getElem?_set_ne (by omega), List.getElem?_set_ne (by omega)]
  · rw [List.getElem?_eq_none (by simp [nextT]; omega), List.getElem?_eq_none (by simp [nextT]; omega)]
theorem atT_ends {n : Nat} {C : List Int} {a b : Int} (hn : n ≤ 16) : atT n ((C.set 0 a).set 33 b) = atT n C := by
  apply List.ext_getElem?
  intro i
  by_cases hi : i < n
  · rw [atT_get hi, atT_get hi, List.getElem?_set_ne (by omega), List.getElem?_set_ne (by omega)]
  · rw [List.getElem?_eq_none (by simp [atT]; omega), List.getElem?_eq_none (by simp [atT]; omega)]
theorem nextT_0 {n : Nat} (hn : n ≤ 16) : nextT n (tabF []) = List.replicate n 0 := by
  show ((List.replicate 34 (0 : Int)).drop 1).take n = _
  rw [List.drop_replicate, List.take_replicate, Nat.min_eq_left (by omega)]
theorem atT_0 {n : Nat} (hn : n ≤ 16) : atT n (tabF []) = List.replicate n 0 := by
  show ((List.replicate 34 (0 : Int)).drop 17).take n = _
  rw [List.drop_replicate, List.take_replicate, Nat.min_eq_left (by omega)]
set_option maxHeartbeats 4000000
def s90 : Sp := spT 90 [.mp] fun (L : List (List Int)) => res (gdM L) (.tup [.il (ints (nextT (total L) (tabF L))) (total L) false, .il (ints (atT (total L) (tabF L))) (total L) false])
@[simp] theorem s90_g : s90.g = 90 := rfl
@[simp] theorem s90_f : s90.f = (spT 90 [.mp] fun (L : List (List Int)) => res (gdM L) (.tup [.il (ints (nextT (total L) (tabF L))) (total L) false, .il (ints (atT (total L) (tabF L))) (total L) false])).f := rfl
theorem s90_ok : s90.ok Tryd.prog := by
  apply spT_ok
  simp only [OkT, Ty.all, List.nil_append, List.cons_append]
  intro (L : List (List Int)) u
  apply okT_res; intro hg
  refine P90.rz (ss := [s59]) ⟨s59_ok, trivial⟩ (by simp) fun Q hQ => ?_
  delta p90 p90_r0 p90_r1 p90_r2 p90_r3
  simp only [gdM, Bool.and_eq_true, decide_eq_true_eq] at hg
  obtain ⟨hsm, hc⟩ := hg
  have hcv := chk_cov hc
  have hne := chk_ne hc
  obtain ⟨h16, -, hev⟩ := chk_zero hc
  obtain ⟨-, -, -, hL16, -⟩ := tab_pts hc
  have hall := hcv.h16
  obtain ⟨n, hn⟩ : ∃ n, total L = n := ⟨_, rfl⟩
  rw [hn] at hQ h16
  have hrng : ∀ l ∈ L, ∀ x ∈ l, 0 ≤ x ∧ x < n := fun l hl x hx => by rw [← hn]; exact hcv.rng x (List.mem_flatten.2 ⟨l, hl, hx⟩)
  have hrep : List.replicate n (AV.v (.int .i64 0)) = ints (List.replicate n 0) := by simp [ints]
  have hn9 : (n : Int) * 9 ≤ 1099511627776 := by omega
  simp (disch := omega) [oLt, oLe, oLtN, oLeN, nLt, nLe, nLtN, nLeN, hsm, hn, hrep, hn9]
  rw [← nextT_0 h16]
  refine XZ_for (fun i : Nat => ⟨[(2, .ref 0 0 n 1 (some n)), (3, .ref 1 0 n 1 (some n)), (16, .il (lls L) L.length u), (17, vI L.length), (18, vI i)], [(0, .cells (ints (nextT n (tabF (L.take i))))), (1, .cells (ints (atT n (tabF (L.take i)))))], 2⟩) (fun i => L.length - i) (fun i => i ≤ L.length) 0 (by simp) (.tot [2, 3] (by simp [nextT_0 h16, atT_0 h16])) ?_
  intro i hi N Q' hN hE
  have hpre : (L.take i).all in16 = true := List.all_eq_true.2 fun l hl => List.all_eq_true.1 hall l (List.mem_of_mem_take hl)
  obtain ⟨f1, -, -, -⟩ := tabF_facts hpre
  have hp33 : (tabF (L.take i)).getD 33 0 = (i : Int) := by
    have hh := pts_eq hpre fun l hl => hne l (List.mem_of_mem_take hl)
    unfold ptsC at hh
    rw [hh]; simp; omega
  rcases Nat.lt_or_ge i L.length with h | h
  · have hic : (i : Int) < L.length := by omega
    obtain ⟨l, r, -, e2, e3, -, e5⟩ := drop_split h
    have hl16 : in16 l = true := List.all_eq_true.1 hall l e5
    have hl0 : l.length ≠ 0 := hne l e5
    have hlr := hrng l e5
    have hls : l.length ≤ 16 := by
      have h1 : total (L.take (i + 1)) ≤ total L := total_take L _
      rw [List.take_succ_eq_append_getElem h, e3, total_snoc] at h1
      omega
    have hnext : tabF (L.take (i + 1)) = tabL (tabF (L.take i)) l := by rw [List.take_succ_eq_append_getElem h, e3, tabF_snoc]
    have fin : ∀ s', ChgT 0 s' ⟨[(2, .ref 0 0 n 1 (some n)), (3, .ref 1 0 n 1 (some n)), (16, .il (lls L) L.length u), (17, vI L.length), (18, vI ((i + 1 : Nat) : Int))], [(0, .cells (ints (nextT n (tabE l (tabF (L.take i)))))), (1, .cells (ints (atT n (tabE l (tabF (L.take i))))))], 2⟩ → N s' := fun s' hh => hN s' (i + 1) (by omega) h (by
      rw [hnext]
      unfold tabL
      rw [if_neg hl0, nextT_ends h16, atT_ends h16]; exact hh)
    clear hN hnext hpre
    generalize tabF (L.take i) = C at *
    delta p90_l1 p90_r4 p90_r5 p90_r6
    simp (disch := omega) [oLt, oLe, oLtN, oLeN, nLt, nLe, nLtN, nLeN, hic, h, e2, e3]
    refine XZ_for (fun k : Nat => ⟨[(2, .ref 0 0 n 1 (some n)), (3, .ref 1 0 n 1 (some n)), (5, vI i), (6, .il (ints l) l.length false), (16, .il (lls L) L.length u), (17, vI L.length), (18, vI i), (23, .il (ints l) l.length false), (24, vI l.length), (25, vI k)], [(0, .cells (ints (nextT n ((List.range k).foldl (tabI l) C)))), (1, .cells (ints (atT n ((List.range k).foldl (tabI l) C))))], 2⟩) (fun k => l.length - k) (fun k => k ≤ l.length) 0 (by simp) (.tot [2, 3] (by simp)) ?_
    intro k hk N2 Q2 hN2 hE2
    have hD : ((List.range k).foldl (tabI l) C).length = 34 := by rw [tabE_len, f1]
    rcases Nat.lt_or_ge k l.length with h1 | h1
    · have hkc : (k : Int) < l.length := by omega
      have hs : (List.range (k + 1)).foldl (tabI l) C = tabI l ((List.range k).foldl (tabI l) C) k := by simp [List.range_succ, List.foldl_append]
      obtain ⟨m, hm, hm1, hm2⟩ := in16_get hl16 h1
      have hm3 : l[k] = (m : Int) := (List.getElem?_eq_some_iff.1 hm1).2
      have hmn : m < n := by have := hlr l[k] (List.getElem_mem h1); rw [hm3] at this; omega
      have hmc : (m : Int) < n := by omega
      have hlc : ¬ (l.length : Int) = 0 := by omega
      have hq : (k + 1) % l.length < l.length := Nat.mod_lt _ (by omega)
      have hmod : ((k : Int) + 1) % (l.length : Int) = (((k + 1) % l.length : Nat) : Int) := by rw [Int.natCast_emod]; rfl
      have h33 := (tabE_keep hl16 (List.range k) C fun j hj => by have := List.mem_range.1 hj; omega).2
      rw [hp33] at h33
      have ht : tabI l ((List.range k).foldl (tabI l) C) k = (((List.range k).foldl (tabI l) C).set (1 + m) (l.getD ((k + 1) % l.length) 0)).set (17 + m) (i : Int) := by
        show (((List.range k).foldl (tabI l) C).set (1 + (l.getD k 0).toNat) (l.getD ((k + 1) % l.length) 0)).set (17 + (l.getD k 0).toNat) (((List.range k).foldl (tabI l) C).getD 33 0) = _
        rw [h33, hm2, Int.toNat_natCast]
      rw [ht] at hs
      clear ht
      generalize (k + 1) % l.length = q at *
      obtain ⟨v, hv⟩ : ∃ v, l[q]? = some v := ⟨l[q], by rw [List.getElem?_eq_getElem hq]⟩
      have hv3 : l[q] = v := (List.getElem?_eq_some_iff.1 hv).2
      rw [List.getD_eq_getElem?_getD, hv, Option.getD_some] at hs
      have xl := nextT_len hD h16
      have yl := atT_len hD h16
      have fin2 : ∀ s', ChgT 0 s' ⟨[(2, .ref 0 0 n 1 (some n)), (3, .ref 1 0 n 1 (some n)), (5, vI i), (6, .il (ints l) l.length false), (16, .il (lls L) L.length u), (17, vI L.length), (18, vI i), (23, .il (ints l) l.length false), (24, vI l.length), (25, vI ((k + 1 : Nat) : Int))], [(0, .cells (ints ((nextT n ((List.range k).foldl (tabI l) C)).set m v))), (1, .cells (ints ((atT n ((List.range k).foldl (tabI l) C)).set m (i : Int))))], 2⟩ → N2 s' := fun s' hh => hN2 s' (k + 1) (by omega) h1 (by rw [hs, nextT_set h16 hmn, atT_set h16 hmn]; exact hh)
      clear hN2 hs hD h33
      generalize nextT n ((List.range k).foldl (tabI l) C) = X at *
      generalize atT n ((List.range k).foldl (tabI l) C) = Y at *
      have sx : splice (ints X) m [vI v] = ints (X.set m v) := by rw [splice_one _ _ _ (by simp [xl]; omega)]; simp [ints, List.map_set]
      have sy : splice (ints Y) m [vI (i : Int)] = ints (Y.set m (i : Int)) := by rw [splice_one _ _ _ (by simp [yl]; omega)]; simp [ints, List.map_set]
      delta p90_l0 p90_r7 p90_r8 p90_r9 p90_r10
      simp (disch := omega) [oLt, oLe, oLtN, oLeN, nLt, nLe, nLtN, nLeN, hkc, h1, hm, hmc, hm1, hm3, hmn, hl0, hlc, hmod, hq, hv, hv3, xl, yl]
      exact fin2 _ (.tot [2, 3] (by simp [sx, sy]))
    · obtain rfl : k = l.length := by omega
      have hkc : ¬ (l.length : Int) < l.length := by omega
      delta p90_l0 p90_r7 p90_r8 p90_r9 p90_r10
      simp (disch := omega) [oLt, oLe, oLtN, oLeN, nLt, nLe, nLtN, nLeN, hkc]
      refine hE2 _ _ _ .refl ?_
      simp only [inBE, thenE, if_true]
      delta p90_r11
      simp (disch := omega) [oLt, oLe, oLtN, oLeN, nLt, nLe, nLtN, nLeN]
      exact fin _ (.tot [2, 3] (by simp [tabE]))
  · obtain rfl : i = L.length := by omega
    have hic : ¬ (L.length : Int) < L.length := by omega
    rw [List.take_length] at *
    have xl := nextT_len f1 h16
    have yl := atT_len f1 h16
    generalize nextT n (tabF L) = X at *
    generalize atT n (tabF L) = Y at *
    delta p90_l1 p90_r4 p90_r5 p90_r6
    simp (disch := omega) [oLt, oLe, oLtN, oLeN, nLt, nLe, nLtN, nLeN, hic]
    refine hE _ _ _ .refl ?_
    delta p90_r12
    have xt : X.take n = X := List.take_of_length_le (by omega)
    have yt : Y.take n = Y := List.take_of_length_le (by omega)
    simp (disch := omega) [oLt, oLe, oLtN, oLeN, nLt, nLe, nLtN, nLeN]
    exact hQ _ _ (.fz [2, 3] _ (.inl rfl) (by simp [xl, yl, xt, yt]; rfl) (by simp [xl, yl]) (by simp))
end
section
set_option maxRecDepth 4000
theorem xor64 (x y : Operand) : ∀ {k : Nat}, k < 16 → effPlain2 Tryd.prog (fun u v => do eqGuard .xor 3 x y u v; binOp .xor 3 u v) (vI k) (.v (.int .i64 1)) = ret (vI (onat k : Nat))
  | 0, _ => rfl | 1, _ => rfl | 2, _ => rfl | 3, _ => rfl | 4, _ => rfl | 5, _ => rfl | 6, _ => rfl | 7, _ => rfl
  | 8, _ => rfl | 9, _ => rfl | 10, _ => rfl | 11, _ => rfl | 12, _ => rfl | 13, _ => rfl | 14, _ => rfl | 15, _ => rfl
  | k + 16, h => by omega
set_option maxHeartbeats 2000000
end
section
set_option maxRecDepth 4000
theorem EndsP_at {k : Nat} {rs : List SRes} {r : AV} {H : HL} {e : Exit} {s : ST} (l : List Nat) (he : e = .ret ∨ e = .normal) (hr : resA s.st rs = some (ren (gT l s.nx) r)) (low : lowTo l k = true) (hle : k ≤ l.length) (nd : dist l = true)
    (hh : heapTo l.length (gT l s.nx) s.heap H) : EndsP k rs r l.length H e s := by
  have := cv_to (l := l) (nx := s.nx) (h := s.heap) (h' := H) low hle nd hh
  exact ⟨by rcases he with rfl | rfl <;> trivial, s, .refl, _, this, hr⟩
def f89 : List AV → HL → Nat → Option (AV × HL × Nat) := fun args h k => match args, h, k with
  | [.ref 0 0 n 1 none, .v (.int .i64 i), .v (.int .i64 j)], [(0, .cells cs)], 1 => match unints cs with
    | some l => if n ≤ l.length ∧ small l = true ∧ 0 ≤ i ∧ i.toNat < n ∧ j = i + 1 then some (.ref 0 0 (n - 1) 1 none, [(0, .cells (ints ((l.take n).eraseIdx i.toNat ++ 0 :: l.drop n)))], 1) else none
    | none => none
  | _, _, _ => none
def s89 : Sp := ⟨89, f89⟩
@[simp] theorem s89_g : s89.g = 89 := rfl
@[simp] theorem s89_f : s89.f = f89 := rfl
set_option maxHeartbeats 2000000 in
theorem s89_ok : s89.ok Tryd.prog := by
  intro args h k r h' k' hh
  simp only [s89_f, f89] at hh
  split at hh
  · split at hh
    · rename_i l hl
      split at hh
      · rename_i hc
        obtain ⟨hnl, hsl, h0, hi, rfl⟩ := hc
        cases hh
        rw [unints_inv hl]
        rename_i i n _ _ _
        obtain ⟨i, rfl⟩ := Int.eq_ofNat_of_zero_le h0
        simp only [Int.toNat_natCast] at hi ⊢
        have hll : l.length ≤ 1000000 := by simpa [small] using hsl
        obtain ⟨A, x, B, Z, rfl, rfl, rfl⟩ : ∃ A x B Z, l = (A ++ x :: B) ++ Z ∧ i = A.length ∧ n = (A ++ x :: B).length := by
          have hi' : i < (l.take n).length := by rw [List.length_take]; omega
          exact ⟨(l.take n).take i, (l.take n)[i], (l.take n).drop (i + 1), l.drop n, by rw [← List.drop_eq_getElem_cons hi', List.take_append_drop, List.take_append_drop], by rw [List.length_take]; omega, by rw [← List.drop_eq_getElem_cons hi', List.take_append_drop, List.length_take]; omega⟩
        have he : (A ++ x :: B).eraseIdx A.length = A ++ B := by
          rw [List.eraseIdx_append_of_length_le (Nat.le_refl _), Nat.sub_self]; rfl
        have hne : ¬ (A.length : Int) = A.length + 1 := by omega
        have hlen : (A ++ x :: B).length = A.length + (B.length + 1) := by simp
        rw [List.take_left, List.drop_left, he, hlen, show A.length + (B.length + 1) - 1 = A.length + B.length by omega]
        rw [List.length_append, hlen] at hll
        clear hl hsl he hi h0 hnl
        simp only [hp_eq]
        rcases B with _ | ⟨y, B⟩
        · have hsp : splice (ints A ++ vI x :: ints Z) A.length [vI 0] = ints A ++ vI 0 :: ints Z := by
            rw [splice_one _ _ _ (by simp)]
            rw [List.set_append_right _ _ (by simp)]
            simp
          have hd1 : List.take 0 (List.drop (A.length + 1) (ints A ++ vI x :: ints Z)) = [] := by simp
          refine P89.rz (ss := []) trivial (by simp) fun Q hQ => ?_
          delta p89 p89_r0 p89_r1 p89_r2 p89_r3 p89_r4 p89_r5 p89_r6 p89_r7
          simp only [ints_app, ints_cons, ints_nil, List.length_nil, Nat.zero_add, Nat.add_zero, List.append_assoc, List.cons_append, List.nil_append]
          simp (disch := omega) [oLt, oLe, oLtN, oLeN, nLt, nLe, nLtN, nLeN, hne, hsp, effClear]
          exact hQ _ _ (EndsP_at [0] (.inl rfl) (by simp) rfl (by simp) rfl (by simp))
        · obtain ⟨z, hz⟩ : ∃ z, (x :: y :: B).drop (B.length + 1) = [z] := by
            have : ((x :: y :: B).drop (B.length + 1)).length = 1 := by simp
            exact List.length_eq_one_iff.1 this
          have hz' : (vI x :: vI y :: ints B).drop (B.length + 1) = [vI z] := by
            have := congrArg ints hz
            simpa [ints, List.map_drop] using this
          have hd : List.take (B.length + 1) (List.drop (A.length + 1) (ints A ++ vI x :: vI y :: (ints B ++ ints Z))) = vI y :: ints B := by
            rw [← List.drop_drop, List.drop_left' (by simp), List.drop_succ_cons, List.drop_zero, List.take_succ_cons, List.take_left' (by simp)]
          have hsp : splice (ints A ++ vI x :: vI y :: (ints B ++ ints Z)) A.length (vI y :: ints B) = ints A ++ vI y :: (ints B ++ vI z :: ints Z) := by
            have e : (vI x :: vI y :: (ints B ++ ints Z)).drop (B.length + 1) = vI z :: ints Z := by
              have e2 : vI x :: vI y :: (ints B ++ ints Z) = (vI x :: vI y :: ints B) ++ ints Z := by simp
              rw [e2, List.drop_append_of_le_length (by simp), hz']; rfl
            unfold splice
            rw [List.take_left' (by simp), ← List.drop_drop, List.drop_left' (by simp), show (vI y :: ints B).length = B.length + 1 by simp, e]
            simp
          have hsp2 : splice (ints A ++ vI y :: (ints B ++ vI z :: ints Z)) (A.length + (B.length + 1)) [vI 0] = ints A ++ vI y :: (ints B ++ vI 0 :: ints Z) := by
            rw [splice_one _ _ _ (by simp)]
            rw [List.set_append_right _ _ (by simp)]
            simp [List.set_append_right]
          have hn1 : A.length + (B.length + 1 + 1) - (A.length + 1) = B.length + 1 := by omega
          have hn2 : A.length + (B.length + 1 + 1) - (A.length + (B.length + 1)) = 1 := by omega
          refine P89.rz (ss := []) trivial (by simp) fun Q hQ => ?_
          delta p89 p89_r0 p89_r1 p89_r2 p89_r3 p89_r4 p89_r5 p89_r6 p89_r7
          simp only [ints_app, ints_cons, List.length_cons, List.append_assoc, List.cons_append, List.nil_append]
          have ht1 : ((A.length : Int) + (B.length + 1)).toNat = A.length + (B.length + 1) := by omega
          have ht2 : ((A.length : Int) + (B.length + 1 + 1)).toNat = A.length + (B.length + 1 + 1) := by omega
          simp (disch := omega) [oLt, oLe, oLtN, oLeN, nLt, nLe, nLtN, nLeN, hne, hd, hsp, hsp2, hn1, hn2, ht1, ht2, effClear]
          exact hQ _ _ (EndsP_at [0] (.inl rfl) (by simp) rfl (by simp) rfl (by simp))
      · cases hh
    · cases hh
  · cases hh
end
section
set_option maxRecDepth 4000
def u8s (l : List Int) : List AV := l.map fun n => .v (.int .u8 n)
@[simp] theorem u8s_ren (g : Nat → Nat) (l : List Int) : renL g (u8s l) = u8s l := by induction l with | nil => rfl | cons a l ih => simpa [u8s] using ih
@[simp] theorem u8s_clo (l : List Int) : cloL (u8s l) = true := by induction l with | nil => rfl | cons a l ih => simpa [u8s] using ih
@[simp] theorem u8s_flat (l : List Int) : flatL (u8s l) = true := by induction l with | nil => rfl | cons a l ih => simpa [u8s] using ih
@[simp] theorem u8s_fr (id : Nat) (cs : List AV) (l : List Int) : frL id cs (u8s l) = u8s l := by induction l with | nil => rfl | cons a l ih => simpa [u8s] using ih
def skA (s : Int) (O : List Int) (g : Int) : List AV := (.v (.int .u8 s) :: u8s O) ++ [.v (.int .u16 g)]
def iota (n : Nat) : List Int := (List.range n).map fun (i : Nat) => (i : Int)
theorem iota_succ (n : Nat) : iota (n + 1) = iota n ++ [(n : Int)] := by simp [iota, List.range_succ]
@[simp] theorem iota_len (n : Nat) : (iota n).length = n := by simp [iota]
def beg (g i : Nat) : Bool := decide (i = 0 ∨ g / 2 ^ i % 2 = 1)
def mdS (O : List Int) (g n : Nat) : Nat → List Int × List (List Int)
  | 0 => (iota n, [])
  | i + 1 =>
    let st := mdS O g n i
    let k := (O.getD i 0).toNat % st.1.length
    (st.1.eraseIdx k, if beg g i = true then st.2 ++ [[st.1.getD k 0]] else st.2.dropLast ++ [st.2.getLastD [] ++ [st.1.getD k 0]])
theorem mdS_len (O : List Int) (g n : Nat) : ∀ {i : Nat}, i ≤ n → (mdS O g n i).1.length = n - i
  | 0, _ => by simp [mdS]
  | i + 1, h => by
    have ih := mdS_len O g n (i := i) (by omega)
    have hp : 0 < (mdS O g n i).1.length := by omega
    simp only [mdS]
    rw [List.length_eraseIdx_of_lt (Nat.mod_lt _ hp), ih]; omega
theorem mdS_ne (O : List Int) (g n : Nat) : ∀ {i : Nat}, 0 < i → ∃ D c, (mdS O g n i).2 = D ++ [c]
  | i + 1, _ => by
    simp only [mdS]
    split
    · exact ⟨_, _, rfl⟩
    · exact ⟨_, _, rfl⟩
theorem lastD_len {L : List (List Int)} {i : Nat} (h : ∀ l ∈ L, l.length ≤ i) : (L.getLastD []).length ≤ i := by
  rcases List.eq_nil_or_concat L with rfl | ⟨D, c, rfl⟩
  · simp
  · simpa using h c (by simp)
theorem mdS_bd (O : List Int) (g n : Nat) : ∀ i : Nat, (mdS O g n i).2.length ≤ i ∧ ∀ l ∈ (mdS O g n i).2, l.length ≤ i
  | 0 => by simp [mdS]
  | i + 1 => by
    obtain ⟨h1, h2⟩ := mdS_bd O g n i
    have h3 := lastD_len h2
    simp only [mdS]
    split
    · refine ⟨by simp; omega, fun l hl => ?_⟩
      rw [List.mem_append, List.mem_singleton] at hl
      rcases hl with hl | rfl
      · have := h2 l hl; omega
      · simp
    · refine ⟨by simp; omega, fun l hl => ?_⟩
      rw [List.mem_append, List.mem_singleton] at hl
      rcases hl with hl | rfl
      · have := h2 l (List.dropLast_subset _ hl); omega
      · rw [List.length_append, List.length_singleton]; omega
def mdL (s : Nat) (O : List Int) (g most : Nat) : List (List Int) := (mdS O g (2 * (s % (most + 1))) (2 * (s % (most + 1)))).2
def mdV (L : List (List Int)) : AV := .agg [if L.length = 0 then .v (.slice none 0 0) else .il (lls L) L.length false]
def inA' : AV → Int
  | .v (.int _ n) => n
  | _ => 0
def skS (K : List AV) : Int := inA' (K.getD 0 (.v (.bool false)))
def skO (K : List AV) : List Int := ((K.drop 1).take 16).map inA'
def skG (K : List AV) : Int := inA' (K.getD 17 (.v (.bool false)))
theorem skS_of (s : Int) (O : List Int) (g : Int) : skS (skA s O g) = s := rfl
theorem skO_of {s : Int} {O : List Int} {g : Int} (h : O.length = 16) : skO (skA s O g) = O := by
  have h1 : (u8s O).length = 16 := by simp [u8s, h]
  have : ((skA s O g).drop 1).take 16 = u8s O := by
    show (u8s O ++ [AV.v (.int .u16 g)]).take 16 = _
    rw [List.take_left' h1]
  unfold skO
  rw [this]
  simp [u8s, Function.comp_def, inA']
theorem skG_of {s : Int} {O : List Int} {g : Int} (h : O.length = 16) : skG (skA s O g) = g := by
  have h1 : (AV.v (.int .u8 s) :: u8s O).length = 17 := by simp [u8s, h]
  have : (skA s O g).getD 17 (.v (.bool false)) = .v (.int .u16 g) := by
    unfold skA
    rw [List.getD_eq_getElem?_getD, List.getElem?_append_right (by omega), h1]; rfl
  unfold skG
  rw [this]; rfl
def gSk (s : Int) (O : List Int) (g most : Int) : Bool := within 0 s 255 && decide (O.length = 16) && O.all (within 0 · 255) && within 0 g 65535 && within 0 most 8
noncomputable def f49 : List AV → HL → Nat → Option (AV × HL × Nat) := fun args h k => match args, h, k with
  | [.agg K, .v (.int .i64 most)], [], 0 => open Classical in if K = skA (skS K) (skO K) (skG K) ∧ gSk (skS K) (skO K) (skG K) most = true then some (mdV (mdL (skS K).toNat (skO K) (skG K).toNat most.toNat), [], 0) else none
  | _, _, _ => none
theorem f49_at {s : Int} {O : List Int} {g most : Int} (h : gSk s O g most = true) : f49 [.agg (skA s O g), vI most] [] 0 = some (mdV (mdL s.toNat O g.toNat most.toNat), [], 0) := by
  have h1 : O.length = 16 := by
    simp only [gSk, Bool.and_eq_true, decide_eq_true_eq] at h
    exact h.1.1.1.2
  simp only [f49, skS_of, skO_of h1, skG_of h1]
  rw [if_pos ⟨trivial, h⟩]
noncomputable def s49 : Sp := ⟨49, f49⟩
@[simp] theorem s49_g : s49.g = 49 := rfl
@[simp] theorem s49_f : s49.f = f49 := rfl
theorem wrap16 {n : Nat} (h : n < 65536) : IntKind.u16.wrap (n : Int) = n := by
  have : IntKind.u16.bits = 16 := rfl
  have h2 : IntKind.u16.signed = false := rfl
  simp only [IntKind.wrap, this, h2, Bool.false_and, Bool.false_eq_true, if_false]
  omega
abbrev vH (n : Nat) : AV := .v (.int .u16 (n : Int))
theorem and16 (x y : Operand) {a : Nat} (ha : a < 65536) : effPlain2 Tryd.prog (fun u v => do eqGuard .and 58 x y u v; binOp .and 58 u v) (vH a) (.v (.int .u16 1)) = ret (vH (a % 2)) := by
  have e1 : a % 2 ^ IntKind.u16.bits = a := Nat.mod_eq_of_lt (by show a < 65536; omega)
  have e2 : 1 % 2 ^ IntKind.u16.bits = 1 := by decide
  have h2 : a % 2 < 65536 := by omega
  have e3 : IntKind.u16.wrap ((a : Int) % 2) = (a : Int) % 2 := by
    have := wrap16 h2
    simpa using this
  simp [vH, effPlain2, AV.val, eqGuard, binOp, Op.intBits, pureRun, e1, e2, e3, Nat.and_one_is_mod, ofVal, Value.oneCell', ret]
theorem shr16 (x y : Operand) {a p : Nat} (ha : a < 65536) (hp : p < 16) : effPlain2 Tryd.prog (fun u v => do eqGuard .shr 58 x y u v; binOp .shr 58 u v) (vH a) (vI p) = ret (vH (a / 2 ^ p)) := by
  have h0 : ¬ (p : Int) < 0 := by omega
  have h1 : min p 16 = p := by omega
  have h2 : (a : Int).fdiv (2 ^ p) = (a : Int) / 2 ^ p := by
    have e : (2 ^ p : Int) = ((2 ^ p : Nat) : Int) := by simp
    have e2 : (0 : Int) ≤ ((2 ^ p : Nat) : Int) := Int.natCast_nonneg _
    rw [e, Int.fdiv_eq_ediv_of_nonneg _ e2]
  simp [vH, effPlain2, AV.val, eqGuard, binOp, Op.shift, pureRun, h0, IntKind.bits, h1, h2, ofVal, Value.oneCell', ret]
end
section
set_option maxRecDepth 4000
attribute [simp] evCall reach idsB idsL ids inA Go.Sx.inL Go.Sx.inM inB allHp enumH gl renB
@[simp] theorem idsL_app9 : ∀ a b : List AV, idsL (a ++ b) = idsL a ++ idsL b
  | [], b => rfl
  | x :: a, b => by cases x <;> simp [idsL, idsL_app9 a b]
@[simp] theorem inL_app9 (p : Nat → Bool) : ∀ a b : List AV, Go.Sx.inL p (a ++ b) = (Go.Sx.inL p a && Go.Sx.inL p b)
  | [], b => by simp
  | x :: a, b => by rw [List.cons_append, Go.Sx.inL, Go.Sx.inL, inL_app9 p a b, Bool.and_assoc]
@[simp] theorem idsL_ints9 : ∀ l : List Int, idsL (ints l) = []
  | [] => rfl
  | x :: l => by rw [ints_cons, idsL, idsL_ints9 l]
@[simp] theorem inL_ints9 (p : Nat → Bool) : ∀ l : List Int, Go.Sx.inL p (ints l) = true
  | [] => rfl
  | x :: l => by rw [ints_cons, Go.Sx.inL, inL_ints9 p l]; rfl
def md1 (K : List AV) (n : Nat) : Nat → ST
  | 0 => ⟨[(2, .ptr 0 0), (4, .ptr 1 0), (5, vI n), (6, .v (.slice none 0 0)), (19, vI n), (20, vI (0 : Nat))], [(0, .cells K), (1, .cells [.v (.slice none 0 0)])], 2⟩
  | i + 1 => ⟨[(2, .ptr 0 0), (4, .ptr 1 0), (5, vI n), (6, .ref 2 0 (i + 1) 1 none), (19, vI n), (20, vI (i + 1 : Nat))], [(0, .cells K), (1, .cells [.v (.slice none 0 0)]), (2, .cells (ints (iota (i + 1))))], 3⟩
def mdE (n i m : Nat) : List (Nat × AV) := [(2, .ptr 0 0), (4, .ptr 1 0), (6, .ref 2 0 m 1 none), (8, .ptr 3 0), (28, vI n), (29, vI i)]
def mdH (K : List AV) (l : List Int) (i : Nat) (x : AV) : HL := [(0, .cells K), (1, .cells [.v (.slice none 0 0)]), (2, .cells (ints (l ++ List.replicate i 0))), (3, .cells [x])]
def mdN (K : List AV) (n : Nat) (l : List Int) : ST := ⟨mdE n 0 l.length, mdH K l 0 (.v (.slice none 0 0)), 4⟩
def mdC (K : List AV) (n i : Nat) (l : List Int) (L : List (List Int)) : ST := ⟨mdE n i l.length, mdH K l i (.ref 4 0 L.length 1 none) ++ [(4, .cells (lls L))], 5⟩
def mdO (K : List AV) (n i : Nat) (l : List Int) (D : List (List Int)) (c : List Int) : ST := ⟨mdE n i l.length, mdH K l i (.ref 4 0 (D.length + 1) 1 none) ++ [(4, .cells (lls D ++ [.ref 5 0 c.length 1 none])), (5, .cells (ints c))], 6⟩
def md2 (K : List AV) (g n i : Nat) (l : List Int) (L : List (List Int)) : ST :=
  if i = 0 then mdN K n l else if i = n ∨ beg g i = true then mdC K n i l L else mdO K n i l L.dropLast (L.getLastD [])
theorem close_pt {K : List AV} {n i : Nat} {l : List Int} {D : List (List Int)} {c : List Int} (hKr : ∀ f, renL f K = K) (hKf : ∀ id cs, frL id cs K = K) : ChgT 0 (mdO K n i l D c) (mdC K n i l (D ++ [c])) :=
  .frz 5 (cs := ints c) rfl (by simp) (.to [0, 1, 2, 3, 4] (by simp [mdO, mdC, mdE, mdH, hKr, hKf, frzS]))
set_option maxHeartbeats 8000000 in
theorem s49_ok : s49.ok Tryd.prog := by
  intro args h k r h' k' hh
  simp only [s49_f, f49] at hh
  split at hh
  · rename_i K most
    split at hh
    · rename_i hc
      cases hh
      obtain ⟨hK, hg⟩ := hc
      generalize skS K = s at *
      generalize skO K = O at *
      generalize skG K = g at *
      simp only [gSk, Bool.and_eq_true, decide_eq_true_eq, within_iff, List.all_eq_true] at hg
      obtain ⟨⟨⟨⟨hs, hO⟩, hOb⟩, hgb⟩, hm⟩ := hg
      obtain ⟨s, rfl⟩ := Int.eq_ofNat_of_zero_le hs.1
      obtain ⟨g, rfl⟩ := Int.eq_ofNat_of_zero_le hgb.1
      obtain ⟨most, rfl⟩ := Int.eq_ofNat_of_zero_le hm.1
      simp only [Int.toNat_natCast]
      obtain ⟨n, hn⟩ : ∃ n, 2 * (s % (most + 1)) = n := ⟨_, rfl⟩
      have hsm : s % (most + 1) < most + 1 := Nat.mod_lt _ (by omega)
      have hn16 : n ≤ 16 := by omega
      have k0 : K[0]? = some (.v (.int .u8 s)) := by rw [hK]; rfl
      have k17 : K[17]? = some (vH g) := by rw [hK, skA, List.getElem?_append_right (by simp [u8s, hO])]; simp [u8s, hO, vH]
      have kO : ∀ i : Nat, i < 16 → ∃ x : Nat, x ≤ 255 ∧ O.getD i 0 = x ∧ K[1 + i]? = some (.v (.int .u8 x)) := fun i hi => by
        have hb := hOb O[i] (List.getElem_mem (by omega))
        obtain ⟨x, hx⟩ := Int.eq_ofNat_of_zero_le hb.1
        refine ⟨x, by omega, by rw [List.getD_eq_getElem?_getD, List.getElem?_eq_getElem (by omega), hx]; rfl, ?_⟩
        rw [hK, skA, List.getElem?_append_left (by simp [u8s, hO]; omega), Nat.add_comm, List.getElem?_cons_succ, u8s, List.getElem?_map, List.getElem?_eq_getElem (by omega), hx]; rfl
      have hKr : ∀ f, renL f K = K := fun f => by rw [hK]; simp [skA, renL_app]
      have hKf : ∀ id cs, frL id cs K = K := fun id cs => by rw [hK]; simp [skA]
      have hKl : K.length = 18 := by rw [hK]; simp [skA, u8s, hO]
      have hmod : (s : Int) % ((most : Int) + 1) = ((s % (most + 1) : Nat) : Int) := by simp
      have hmne : ¬ (most : Int) + 1 = 0 := by omega
      have hmul : (2 : Int) * ((s % (most + 1) : Nat) : Int) = (n : Int) := by omega
      have hml : mdL s O g most = (mdS O g n n).2 := by unfold mdL; rw [hn]
      rw [hml]
      clear hK hml
      obtain ⟨q, hq⟩ : ∃ q, s % (most + 1) = q := ⟨_, rfl⟩
      rw [hq] at hmod hmul hn
      have hq8 : q ≤ 8 := by omega
      simp only [hp_eq]
      refine P49.rz (ss := [s89]) ⟨s89_ok, trivial⟩ (by simp) fun Q hQ => ?_
      delta p49 p49_r0 p49_r1 p49_r2 p49_r3
      have k17' := (List.getElem?_eq_some_iff.1 k17).2
      have k0' := (List.getElem?_eq_some_iff.1 k0).2
      simp (disch := omega) [oLt, oLe, oLtN, oLeN, nLt, nLe, nLtN, nLeN, k0, k0', hmod, hmne, hmul]
      refine XZ_for (fun i : Nat => md1 K n i) (fun i => n - i) (fun i => i ≤ n) 0 (by simp) (.tot [2, 4] (by simp [md1, hKr])) ?_
      intro i hi N Q' hN hE
      rcases Nat.lt_or_ge i n with h | h
      · have hic : (i : Int) < n := by omega
        have fin : ∀ s', ChgT 0 s' (md1 K n (i + 1)) → N s' := fun s' hh => hN s' (i + 1) (by omega) h hh
        clear hN hE hQ
        rcases i with _ | i
        · simp only [md1] at fin ⊢
          delta p49_l0 p49_r4 p49_r5 p49_r6 p49_r7
          simp (disch := omega) [oLt, oLe, oLtN, oLeN, nLt, nLe, nLtN, nLeN, hic, h]
          exact fin _ (.tot [2, 4, 6] (by simp [hKr, iota]))
        · simp only [md1] at fin ⊢
          delta p49_l0 p49_r4 p49_r5 p49_r6 p49_r7
          simp (disch := omega) [oLt, oLe, oLtN, oLeN, nLt, nLe, nLtN, nLeN, hic, h]
          have htk : (iota (i + 1)).take (i + 1) = iota (i + 1) := List.take_of_length_le (by simp)
          exact fin _ (.tot [2, 4, 6] (by simp [hKr, iota_succ (i + 1), htk]))
      · obtain rfl : i = n := by omega
        have hic : ¬ (i : Int) < i := by omega
        clear hN
        rcases i with _ | i
        · simp only [md1]
          delta p49_l0 p49_r4 p49_r5 p49_r6 p49_r7
          simp (disch := omega) [oLt, oLe, oLtN, oLeN, nLt, nLe, nLtN, nLeN, hic]
          refine hE _ _ _ .refl ?_
          delta p49_r8 p49_r9
          simp (disch := omega) [oLt, oLe, oLtN, oLeN, nLt, nLe, nLtN, nLeN]
          refine XZ_for (fun _ : Nat => ⟨[(2, .ptr 0 0), (4, .ptr 1 0), (6, .v (.slice none 0 0)), (8, .ptr 2 0), (28, vI (0 : Nat)), (29, vI (0 : Nat))], [(0, .cells K), (1, .cells [.v (.slice none 0 0)]), (2, .cells [.v (.slice none 0 0)])], 3⟩) (fun _ => 0) (fun _ => True) 0 trivial (.tot [2, 4, 8] (by simp [hKr])) ?_
          intro j _ N Q2 _ hE2
          delta p49_l1 p49_r10 p49_r11 p49_r12 p49_r13 p49_r14 p49_r15 p49_r16 p49_r17 p49_r18
          simp (disch := omega) [oLt, oLe, oLtN, oLeN, nLt, nLe, nLtN, nLeN]
          refine hE2 _ _ _ .refl ?_
          delta p49_r19
          simp (disch := omega) [oLt, oLe, oLtN, oLeN, nLt, nLe, nLtN, nLeN]
          exact hQ _ _ (.p (.inl rfl) (by simp [Eff.exec, hpF, mdV, mdS]; rfl) (by simp [mdV, mdS]))
        · simp only [md1]
          delta p49_l0 p49_r4 p49_r5 p49_r6 p49_r7
          simp (disch := omega) [oLt, oLe, oLtN, oLeN, nLt, nLe, nLtN, nLeN, hic]
          refine hE _ _ _ .refl ?_
          delta p49_r8 p49_r9
          simp (disch := omega) [oLt, oLe, oLtN, oLeN, nLt, nLe, nLtN, nLeN]
          have hcast : (i : Int) + 1 = ((i + 1 : Nat) : Int) := by simp
          rw [hcast]
          clear hcast hE hic h hi
          have hn0 : ¬ i + 1 = 0 := by omega
          generalize i + 1 = n at *
          refine XZ_for (fun j : Nat => md2 K g n j (mdS O g n j).1 (mdS O g n j).2) (fun j => n - j) (fun j => j ≤ n) 0 (by simp) (.tot [2, 4, 6, 8] (by simp [md2, mdN, mdE, mdH, hKr, mdS])) ?_
          intro j hj N Q2 hN hE2
          have hl := mdS_len O g n hj
          rcases Nat.lt_or_ge j n with h | h
          · obtain ⟨x, hx1, hx2, hx3⟩ := kO j (by omega)
            have hx3' := (List.getElem?_eq_some_iff.1 hx3).2
            have hjc : (j : Int) < n := by omega
            have hj16 : j < 16 := by omega
            have hj16c : (j : Int) < 16 := by omega
            have hnext : mdS O g n (j + 1) = ((mdS O g n j).1.eraseIdx (x % (mdS O g n j).1.length), if beg g j = true then (mdS O g n j).2 ++ [[(mdS O g n j).1.getD (x % (mdS O g n j).1.length) 0]] else (mdS O g n j).2.dropLast ++ [(mdS O g n j).2.getLastD [] ++ [(mdS O g n j).1.getD (x % (mdS O g n j).1.length) 0]]) := by
              simp only [mdS, hx2, Int.toNat_natCast]
            have finO : ∀ D c, (mdS O g n (j + 1)).2 = D ++ [c] → ∀ s', ChgT 0 s' (mdO K n (j + 1) (mdS O g n (j + 1)).1 D c) → N s' := fun D c he s' hh => by
              refine hN s' (j + 1) (by omega) h ?_
              unfold md2
              rw [if_neg (by omega), he]
              split
              · exact hh.trans (close_pt hKr hKf)
              · simpa using hh
            rw [hnext] at finO
            clear hN hE2 hQ hnext
            have hLne := fun h0 : 0 < j => mdS_ne O g n h0
            have hbd := mdS_bd O g n j
            have hL0 : j = 0 → (mdS O g n j).2 = [] := fun e => by rw [e]; rfl
            generalize (mdS O g n j).1 = l at *
            generalize (mdS O g n j).2 = L at *
            have hlp : 0 < l.length := by omega
            obtain ⟨k, hk⟩ : ∃ k, x % l.length = k := ⟨_, rfl⟩
            have hkl : k < l.length := by rw [← hk]; exact Nat.mod_lt _ hlp
            rw [hk] at finO
            obtain ⟨y, hy⟩ : ∃ y, l[k]? = some y := ⟨l[k], List.getElem?_eq_getElem hkl⟩
            have hy' := (List.getElem?_eq_some_iff.1 hy).2
            have hyd : l.getD k 0 = y := by rw [List.getD_eq_getElem?_getD, hy]; rfl
            rw [hyd] at finO
            have hmodl : (x : Int) % (l.length : Int) = (k : Int) := by rw [← hk]; simp
            have hlne : ¬ (l.length : Int) = 0 := by omega
            have hlnil : ¬ l = [] := fun e => by rw [e] at hlp; simp at hlp
            have hkc : (k : Int) < l.length := by omega
            have hl16 : l.length ≤ 16 := by omega
            have hf89 : f89 [.ref 0 0 l.length 1 none, vI k, vI ((k : Int) + 1)] [(0, .cells (ints (l ++ List.replicate j 0)))] 1 = some (.ref 0 0 (l.length - 1) 1 none, [(0, .cells (ints (l.eraseIdx k ++ List.replicate (j + 1) 0)))], 1) := by
              have hu : unints (ints (l ++ List.replicate j 0)) = some (l ++ List.replicate j 0) := by simp
              have hs2 : small (l ++ List.replicate j 0) = true := by simp [small]; omega
              simp only [f89, hu]
              rw [if_pos ⟨by simp, hs2, by omega, by simpa using hkl, trivial⟩]
              simp [List.replicate_succ]
            have hf89n : ∀ a b c x y h k, f89 [.il a b c, x, y] h k = none := fun _ _ _ _ _ _ _ => rfl
            have hel : (l.eraseIdx k).length = l.length - 1 := List.length_eraseIdx_of_lt hkl
            have hge : (l ++ List.replicate j 0)[k]? = some y := by rw [List.getElem?_append_left hkl]; exact hy
            have hgx : g / 2 ^ j < 65536 := Nat.lt_of_le_of_lt (Nat.div_le_self _ _) (by omega)
            have hsr := fun u v => shr16 u v (show g < 65536 by omega) hj16
            have han := fun u v => and16 u v hgx
            have hbeg : beg g j = decide (j = 0 ∨ g / 2 ^ j % 2 = 1) := rfl
            obtain ⟨w, hw⟩ : ∃ w, g / 2 ^ j = w := ⟨_, rfl⟩
            rw [hw] at hsr han hbeg
            obtain ⟨z, hz⟩ : ∃ z, w % 2 = z := ⟨_, rfl⟩
            rw [hz] at han hbeg
            clear hw hz hgx
            obtain ⟨M, hM⟩ : ∃ M, l ++ List.replicate j 0 = M := ⟨_, rfl⟩
            obtain ⟨M', hM'⟩ : ∃ M', l.eraseIdx k ++ List.replicate (j + 1) 0 = M' := ⟨_, rfl⟩
            have hkM : k < M.length := by rw [← hM]; simp; omega
            have hlM : l.length ≤ M.length := by rw [← hM]; simp
            rw [hM] at hge
            have hge' := (List.getElem?_eq_some_iff.1 hge).2
            rw [hM, hM'] at hf89
            by_cases hj0 : j = 0
            · subst hj0
              obtain rfl : L = [] := hL0 rfl
              have fin := finO [] [y] (by simp [hbeg])
              simp only [mdO, mdE, mdH, hM', hel] at fin
              simp only [md2, mdN, if_true, mdE, mdH, hM]
              clear finO hLne hL0
              delta p49_l1 p49_r10 p49_r11 p49_r12 p49_r13 p49_r14 p49_r15 p49_r16 p49_r17 p49_r18
              simp (disch := omega) [oLt, oLe, oLtN, oLeN, nLt, nLe, nLtN, nLeN, hjc, hj16, hj16c, hx3, hx3', hmodl, hlne, hlnil, hkc, hkl, hkM, hlM, hge, hge', hf89, hf89n, hl16]
              exact fin _ (.to [0, 1, 2, 3, 23, 44] (by simp [hKr]))
            · have hj0c : ¬ (j : Int) = 0 := by omega
              have hjn : ¬ j = n := by omega
              by_cases hz1 : z = 1
              · have fin := finO L [y] (by simp [hbeg, hz1])
                have hLl : L.length ≤ 16 := by have := hbd.1; omega
                simp only [mdO, mdE, mdH, hM', hel] at fin
                simp only [md2, mdC, if_neg hj0, hbeg, hz1, or_true, decide_true, if_true, mdE, mdH, hM]
                clear finO hLne hL0 hbd
                subst hz1
                obtain ⟨W, hW⟩ : ∃ W, lls L = W := ⟨_, rfl⟩
                have hWl : W.length = L.length := by rw [← hW]; simp [lls]
                have hWr : ∀ f, renL f W = W := fun f => by rw [← hW]; simp
                rw [hW] at fin ⊢
                generalize L.length = p at *
                have w1 : W.take p = W := List.take_of_length_le (by omega)
                have w2 : ∀ x : AV, (W ++ [x])[p]? = some x := fun x => by rw [List.getElem?_append_right (by omega), hWl]; simp
                have w3 : ∀ x y : AV, splice (W ++ [x]) p [y] = W ++ [y] := fun x y => by rw [splice_one _ _ _ (by simp; omega), List.set_append_right _ _ (by omega), hWl]; simp
                have w4 : ∀ x : AV, (W ++ [x]).length = p + 1 := fun x => by simp [hWl]
                delta p49_l1 p49_r10 p49_r11 p49_r12 p49_r13 p49_r14 p49_r15 p49_r16 p49_r17 p49_r18
                simp (disch := omega) [oLt, oLe, oLtN, oLeN, nLt, nLe, nLtN, nLeN, hjc, hj16, hj16c, hj0, hj0c, hx3, hx3', hmodl, hlne, hlnil, hkc, hkl, hkM, hlM, hge, hge', hf89, hf89n, hl16, hsr, han, k17, k17', hLl, w1, w2, w3, w4, hWl]
                exact fin _ (.to [0, 1, 2, 3, 30, 51] (by simp [hKr, hWr]))
              · obtain ⟨D, c, rfl⟩ := hLne (by omega)
                have fin := finO D (c ++ [y]) (by simp [hbeg, hz1, hj0])
                have hDl : D.length ≤ 16 := by have := hbd.1; simp at this; omega
                have hcl : c.length ≤ 16 := by have := hbd.2 c (by simp); omega
                have hzc : ¬ (z : Int) = 1 := by omega
                have hnb : ¬ (j = n ∨ beg g j = true) := by simp [hbeg, hz1, hj0, hjn]
                simp only [mdO, mdE, mdH, hM', hel, List.length_append, List.length_singleton] at fin
                simp only [md2, if_neg hj0, if_neg hnb]
                simp only [mdO, mdE, mdH, hM, List.dropLast_concat, List.getLastD_concat]
                clear finO hLne hL0 hbd hnb
                obtain ⟨W, hW⟩ : ∃ W, lls D = W := ⟨_, rfl⟩
                have hWl : W.length = D.length := by rw [← hW]; simp [lls]
                have hWr : ∀ f, renL f W = W := fun f => by rw [← hW]; simp
                rw [hW] at fin ⊢
                generalize D.length = p at *
                have w2 : ∀ x : AV, (W ++ [x])[p]? = some x := fun x => by rw [List.getElem?_append_right (by omega), hWl]; simp
                have w3 : ∀ x y : AV, splice (W ++ [x]) p [y] = W ++ [y] := fun x y => by rw [splice_one _ _ _ (by simp; omega), List.set_append_right _ _ (by omega), hWl]; simp
                have w4 : ∀ x : AV, (W ++ [x]).length = p + 1 := fun x => by simp [hWl]
                have hct : c.take c.length = c := List.take_length
                delta p49_l1 p49_r10 p49_r11 p49_r12 p49_r13 p49_r14 p49_r15 p49_r16 p49_r17 p49_r18
                simp (disch := omega) [oLt, oLe, oLtN, oLeN, nLt, nLe, nLtN, nLeN, hjc, hj16, hj16c, hj0, hj0c, hx3, hx3', hmodl, hlne, hlnil, hkc, hkl, hkM, hlM, hge, hge', hf89, hf89n, hl16, hsr, han, k17, k17', hDl, hcl, w2, w3, w4, hWl, hz1, hzc, hct]
                exact fin _ (.to [0, 1, 2, 3, 4, 46] (by simp [hKr, hWr]))
          · obtain rfl : j = n := by omega
            have hjc : ¬ (j : Int) < j := by omega
            have hL : ¬ (mdS O g j j).2.length = 0 := by
              obtain ⟨D, c, e⟩ := mdS_ne O g j (i := j) (by omega)
              rw [e]; simp
            clear hN
            generalize (mdS O g j j).2 = L at *
            generalize (mdS O g j j).1 = l at *
            simp only [md2, if_neg hn0, mdC, true_or, if_true, mdE, mdH]
            delta p49_l1 p49_r10 p49_r11 p49_r12 p49_r13 p49_r14 p49_r15 p49_r16 p49_r17 p49_r18
            simp (disch := omega) [oLt, oLe, oLtN, oLeN, nLt, nLe, nLtN, nLeN, hjc]
            refine hE2 _ _ _ .refl ?_
            delta p49_r19
            simp (disch := omega) [oLt, oLe, oLtN, oLeN, nLt, nLe, nLtN, nLeN]
            have ht : (lls L).take L.length = lls L := List.take_of_length_le (by simp [lls])
            refine hQ _ _ (.chg (.frz 4 (cs := lls L) rfl (by simp) .refl) (.p (.inl rfl) ?_ (by simp [mdV, hL])))
            first | (simp [Eff.exec, hpF, frzS, mdV, hL, ht]; done) | (simp [Eff.exec, hpF, frzS, mdV, hL, ht]; rfl)
    · cases hh
  · cases hh
end
section
theorem scanL_ok {n : Int} : ∀ (l seen : List Int), (∀ e ∈ l, 0 ≤ e ∧ e < n) → l.Nodup → (∀ e ∈ l, e ∉ seen) → scanL n seen l = 0
  | [], _, _, _, _ => rfl
  | x :: l, seen, h, hd, hs => by
    have h0 := h x List.mem_cons_self
    obtain ⟨d1, d2⟩ := List.nodup_cons.1 hd
    simp only [scanL]
    rw [if_neg (by omega), if_neg (hs x List.mem_cons_self)]
    refine scanL_ok l _ (fun e he => h e (List.mem_cons_of_mem _ he)) d2 fun e he hm => ?_
    rw [List.mem_append, List.mem_singleton] at hm
    rcases hm with hm | rfl
    · exact hs e (List.mem_cons_of_mem _ he) hm
    · exact d1 he
theorem scanM_ok {n : Int} : ∀ (L : List (List Int)) (seen : List Int), (∀ l ∈ L, l.length ≠ 0) → (∀ e ∈ L.flatten, 0 ≤ e ∧ e < n) → L.flatten.Nodup → (∀ e ∈ L.flatten, e ∉ seen) → scanM n seen L = 0
  | [], _, _, _, _, _ => rfl
  | l :: L, seen, h0, h, hd, hs => by
    rw [List.flatten_cons] at h hd hs
    obtain ⟨d1, d2, d3⟩ := List.nodup_append.1 hd
    simp only [scanM]
    rw [if_neg (h0 l List.mem_cons_self), if_pos (scanL_ok l seen (fun e he => h e (List.mem_append_left _ he)) d1 fun e he => hs e (List.mem_append_left _ he))]
    refine scanM_ok L _ (fun l hl => h0 l (List.mem_cons_of_mem _ hl)) (fun e he => h e (List.mem_append_right _ he)) d2 fun e he hm => ?_
    rw [List.mem_append] at hm
    rcases hm with hm | hm
    · exact hs e (List.mem_append_right _ he) hm
    · exact d3 e hm e he rfl
theorem Cov.chk {L : List (List Int)} {n : Nat} (h : Cov L n) (h0 : ∀ l ∈ L, l.length ≠ 0) (hev : n % 2 = 0) : chk L = 0 := by
  have hle := h.le
  unfold Go.Sx.Ch.chk
  rw [h.len, if_neg (by omega), if_pos (scanM_ok L [] h0 (fun e he => h.rng e he) h.nd fun e _ hm => by cases hm), if_neg (by omega)]
end
section
set_option maxRecDepth 4000
/-! ### As many classes -/
open Classical in
theorem cls_inj {n P : Nat} {R S : Nat → Nat → Prop} (T : Nat → Nat → Prop) (h : ∀ p, p < n → Low R p → ∃ q, q < P ∧ Low S q ∧ T p q)
    (hi : ∀ p p' q, p < n → p' < n → q < P → Low R p → Low R p' → T p q → T p' q → p = p') : cls n R ≤ cls P S := by
  have hf : ∀ p, ∃ q, p < n → Low R p → q < P ∧ Low S q ∧ T p q := fun p => by
    by_cases c : p < n ∧ Low R p
    · obtain ⟨q, hq⟩ := h p c.1 c.2; exact ⟨q, fun _ _ => hq⟩
    · exact ⟨0, fun h1 h2 => absurd ⟨h1, h2⟩ c⟩
  obtain ⟨f, hf⟩ := Classical.axiomOfChoice hf
  unfold cls
  rw [← List.length_map (f := f)]
  refine List.Nodup.length_le_of_subset ?_ fun x hx => ?_
  · rw [List.nodup_iff_pairwise_ne, List.pairwise_map]
    have hp : ((List.range n).filter fun p => decide (Low R p)).Pairwise (· < ·) := List.Pairwise.filter _ List.pairwise_lt_range
    refine hp.imp_of_mem fun {x y} hx hy hxy he => ?_
    obtain ⟨x1, x2⟩ := List.mem_filter.1 hx
    obtain ⟨y1, y2⟩ := List.mem_filter.1 hy
    rw [List.mem_range] at x1 y1
    rw [decide_eq_true_eq] at x2 y2
    have a := (hf x x1 x2).2.2
    have b := (hf y y1 y2).2.2
    rw [← he] at b
    have := hi x y _ x1 y1 (hf x x1 x2).1 x2 y2 a b
    omega
  · obtain ⟨m, hm, rfl⟩ := List.mem_map.1 hx
    obtain ⟨m1, m2⟩ := List.mem_filter.1 hm
    rw [List.mem_range] at m1
    rw [decide_eq_true_eq] at m2
    obtain ⟨q1, q2, -⟩ := hf m m1 m2
    exact List.mem_filter.2 ⟨List.mem_range.2 q1, by rw [decide_eq_true_eq]; exact q2⟩
theorem cls_pull {n P : Nat} {S : Nat → Nat → Prop} {f : Nat → Nat} (e : Eqv P S) (hf : ∀ m, m < n → f m < P) (hs : ∀ p, p < P → ∃ m, m < n ∧ f m = p) : cls n (fun x y => S (f x) (f y)) = cls P S := by
  apply Nat.le_antisymm
  · refine cls_inj (fun p q => S q (f p)) (fun p hp hl => ?_) fun p p' q hp hp' hq hl hl' h1 h2 => ?_
    · have l1 := hf p hp
      obtain ⟨q, q1, q2, q3⟩ := ex_min (p := fun q => S q (f p)) (f p) (e.refl _ l1)
      exact ⟨q, by omega, fun r hr hs => q3 r hr (e.trans r q (f p) (by omega) (by omega) l1 hs q2), q2⟩
    · have l1 := hf p hp
      have l2 := hf p' hp'
      have s1 : S (f p) (f p') := e.trans _ q _ l1 hq l2 (e.symm _ _ hq l1 h1) h2
      rcases Nat.lt_trichotomy p p' with h | h | h
      · exact absurd s1 (hl' p h)
      · exact h
      · exact absurd (e.symm _ _ l1 l2 s1) (hl p' h)
  · refine cls_inj (fun q p => S (f p) q) (fun q hq hl => ?_) fun q q' p hq hq' hp hl hl' h1 h2 => ?_
    · obtain ⟨m0, m1, m2⟩ := hs q hq
      obtain ⟨m, a1, a2, a3⟩ := ex_min (p := fun m => S (f m) q) m0 (by rw [m2]; exact e.refl _ hq)
      exact ⟨m, by omega, fun r hr hs => a3 r hr (e.trans _ (f m) _ (hf r (by omega)) (hf m (by omega)) hq hs a2), a2⟩
    · have l1 := hf p hp
      have s1 : S q q' := e.trans _ (f p) _ hq l1 hq' (e.symm _ _ l1 hq h1) h2
      rcases Nat.lt_trichotomy q q' with h | h | h
      · exact absurd s1 (hl' q h)
      · exact h
      · exact absurd (e.symm _ _ hq hq' s1) (hl q' h)
/-! ### What is connected, by ends -/
inductive Con (s : Nat → Nat) (n : Nat) (x : Nat) : Nat → Prop
  | refl : Con s n x x
  | st {y : Nat} (h : Con s n x y) (hy : y < n) : Con s n x (s y)
  | ot {y : Nat} (h : Con s n x y) (hy : y < n) : Con s n x (onat y)
theorem Con.trans {s n x y z} (a : Con s n x y) (b : Con s n y z) : Con s n x z := by
  induction b with
  | refl => exact a
  | st h hy ih => exact .st ih hy
  | ot h hy ih => exact .ot ih hy
theorem Con.lead {s n x y} (h : Stp s n) (hx : x < n) (l : Lead s x y) : Con s n x y :=
  lead_in h (Q := fun x y => Con s n x y) (fun _ _ => .refl) (fun _ _ _ _ _ _ u v => u.trans v) (fun x hx => .st .refl hx) hx l
theorem onat_onat (m : Nat) : onat (onat m) = m := by
  unfold onat; split <;> split <;> omega
theorem Con.mono {s t : Nat → Nat} {n : Nat} (h : ∀ y, y < n → Con t n y (s y)) {x y : Nat} (c : Con s n x y) : Con t n x y := by
  induction c with
  | refl => exact .refl
  | st h1 hy ih => exact ih.trans (h _ hy)
  | ot h1 hy ih => exact .ot ih hy
def stpM (L : List (List Int)) (m : Nat) : Nat := natS (afterC (tabF L)) m
theorem rch_con {L : List (List Int)} {n : Nat} (g : Good L n) {x y : Nat} (hx : x < n) (hy : y < n) : Rch (Go.Sx.Ch.atN L) n (Go.Sx.Ch.atN L x) (Go.Sx.Ch.atN L y) ↔ Con (stpM L) n x y := by
  have hst : Stp (stpM L) n := g.cov.prm.stp
  have ho : ∀ m, m < n → onK n m = onat m := fun m hm => by unfold onK onat; rw [if_pos (by omega)]
  constructor
  · intro h
    have key : ∀ q, Rch (Go.Sx.Ch.atN L) n (Go.Sx.Ch.atN L x) q → ∀ y, y < n → Go.Sx.Ch.atN L y = q → Con (stpM L) n x y := by
      intro q hq
      induction hq with
      | refl => intro y hy e; exact Con.lead hst hx ((g.cov.lead_at g.ne hx hy).2 e.symm)
      | @step m h hm ih =>
        intro y hy e
        have c := ih m hm rfl
        rw [ho m hm] at e
        have hom := onat_lt g.ev hm
        exact (Con.ot c hm).trans (Con.lead hst hom ((g.cov.lead_at g.ne hom hy).2 e.symm))
    exact key _ h y hy rfl
  · intro h
    clear hy
    have key : y < n ∧ Rch (Go.Sx.Ch.atN L) n (Go.Sx.Ch.atN L x) (Go.Sx.Ch.atN L y) := by
      induction h with
      | refl => exact ⟨hx, .refl⟩
      | st h1 hy ih => exact ⟨hst.rng _ hy, by unfold stpM; rw [g.cov.same_at g.ne hy]; exact ih.2⟩
      | ot h1 hy ih => exact ⟨onat_lt g.ev hy, by rw [← ho _ hy]; exact .step ih.2 hy⟩
    exact key.2
theorem part_con {L : List (List Int)} (hc : chk L = 0) : partN L = cls (total L) (Con (stpM L) (total L)) := by
  have g := chk_good hc
  have hat : ∀ m, m < total L → Go.Sx.Ch.atN L m < L.length := fun m hm => (g.atN hm).1
  have ok := lab_ok (at' := Go.Sx.Ch.atN L) g.p16 hat (total L / 2) (by omega)
  unfold partN
  rw [← ok.cnt]
  congr 1
  have hon : ∀ p, p < L.length → ∃ m, m < total L ∧ Go.Sx.Ch.atN L m = p := fun p hp => by
    have hl := g.ne L[p] (List.getElem_mem hp)
    have hmem : (L[p])[0]'(by omega) ∈ L[p] := List.getElem_mem _
    have hr := g.cov.rng _ (List.mem_flatten.2 ⟨L[p], List.getElem_mem hp, hmem⟩)
    obtain ⟨m, hm⟩ := Int.eq_ofNat_of_zero_le hr.1
    rw [hm] at hmem hr
    exact ⟨m, by omega, by unfold Go.Sx.Ch.atN; rw [(g.cov.at g.ne (List.getElem?_eq_getElem hp) hmem).2]; simp⟩
  rw [← cls_pull (n := total L) (f := Go.Sx.Ch.atN L) Lab.eqv hat hon]
  refine cls_congr fun p q hp hq => ?_
  rw [← rch_con g hp hq]
  have ap := hat p hp
  have aq := hat q hq
  constructor
  · intro h; exact lab_rch g.p16 g.ev hat _ (by omega) _ _ ap aq h
  · intro h; exact rch_lab g.p16 g.ev hat h
theorem part_same {L M : List (List Int)} (hL : chk L = 0) (hM : chk M = 0) (ht : total M = total L) (h1 : ∀ y, y < total L → Con (stpM M) (total L) y (stpM L y)) (h2 : ∀ y, y < total L → Con (stpM L) (total L) y (stpM M y)) : partR M = partR L := by
  have a := part_con hL
  have b := part_con hM
  rw [part_eq hL] at a
  rw [part_eq hM, ht] at b
  have : cls (total L) (Con (stpM M) (total L)) = cls (total L) (Con (stpM L) (total L)) := cls_congr fun p q _ _ => ⟨Con.mono h2, Con.mono h1⟩
  omega
/-! ### A map that a step makes -/
theorem cyc_ne {σ : Int → Int} {n : Nat} (h : okS σ n = true) : ∀ k, k ≤ n → ∀ l ∈ (cycN σ k).2, l.length ≠ 0
  | 0, _, l, hl => by simp [cycN] at hl
  | k + 1, hk, l, hl => by
    rw [cycN_succ] at hl
    unfold cycS at hl
    split at hl
    · exact cyc_ne h k (by omega) l hl
    · rw [List.mem_append, List.mem_singleton] at hl
      rcases hl with hl | rfl
      · exact cyc_ne h k (by omega) l hl
      · obtain ⟨-, r, hr⟩ := (okS_iff.1 h).2 k (by omega)
        rw [hr, Option.getD_some]
        have := (orb_len hr).2
        exact fun e => this (List.length_eq_zero_iff.1 e)
theorem cyc_map {σ : Int → Int} {n : Nat} (h : Prm σ n) (hn : n ≤ 16) (hev : n % 2 = 0) : chk (cyc σ n) = 0 ∧ total (cyc σ n) = n ∧ Cov (cyc σ n) n ∧ ∀ m : Nat, m < n → afterC (tabF (cyc σ n)) m = σ m := by
  have e : cyc σ n = (facN σ n).2 := (cyc_fac h hn n (Nat.le_refl _)).1
  obtain ⟨hc, ha⟩ := fac_cov h hn
  rw [← e] at hc ha
  exact ⟨hc.chk (fun l hl => cyc_ne (h.ok hn) n (Nat.le_refl _) l hl) hev, hc.len, hc, ha⟩
theorem cyc_cong {σ τ : Int → Int} {n : Nat} (h : Prm σ n) (e : ∀ m : Nat, m < n → τ m = σ m) : cyc τ n = cyc σ n := by
  unfold cyc
  rw [cycN_cong2 h e n (Nat.le_refl _)]
theorem tid_len {L : List (List Int)} (hc : chk L = 0) : (tidL L).length = L.length := by
  have hds := (chk_cov hc).dst (chk_ne hc)
  have hlM := tdM_len L
  rw [← tdW_eq hc]
  unfold tdW
  rw [(srtOn_ok hds (by omega)).1.len, hlM]
/-! ### The dual -/
theorem face_map {L : List (List Int)} (hc : chk L = 0) : chk (faceL L) = 0 ∧ total (faceL L) = total L ∧ (∀ m : Nat, m < total L → afterC (tabF (faceL L)) m = alongC (tabF L) m) := by
  obtain ⟨-, h16, hev, -, -⟩ := tab_pts hc
  have h := (chk_cov hc).along hev
  unfold faceL
  rw [if_pos hc]
  obtain ⟨a, b, -, c⟩ := cyc_map h h16 hev
  exact ⟨a, b, c⟩
end
end Go.Sx.Ch
