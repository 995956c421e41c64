/- What functions of the chart layer return: cycles. No conditions. -/
import Derived.Test.YtfiebjbhiflfpaaDoorSxJCD84toCD69
import Derived.Test.YtfiebjbhiflfpaaDoorSxJCAtoCD
set_option linter.unusedVariables false
set_option linter.unusedSimpArgs false
namespace Go.Sx.Ch
open Go Go.Sx Go.Proofs

/-- Where a step leads. -/
def stepOf : AV → Option (Int → Int)
  | .fn (.func g) [.agg c] [] => match unints c with
    | some T => if t34 T then (if g = 71 then some (afterC T) else if g = 84 then some (alongC T) else none) else none
    | none => none
  | .fn (.func g) [] [.elt c 0] => match unints c with
    | some T => if T.length = 16 then (if g = 69 then some (backC T) else none) else none
    | none => none
  | _ => none
@[simp] theorem stepOf_71 (T : List Int) : stepOf (.fn (.func 71) [.agg (ints T)] []) = if t34 T then some (afterC T) else none := by simp [stepOf]
@[simp] theorem stepOf_84 (T : List Int) : stepOf (.fn (.func 84) [.agg (ints T)] []) = if t34 T then some (alongC T) else none := by simp [stepOf]
@[simp] theorem stepOf_69 (T : List Int) : stepOf (.fn (.func 69) [] [.elt (ints T) 0]) = if T.length = 16 then some (backC T) else none := by simp [stepOf]
theorem stepOf_inv {f : AV} {σ : Int → Int} (h : stepOf f = some σ) : (∃ T, t34 T = true ∧ f = .fn (.func 71) [.agg (ints T)] [] ∧ σ = afterC T) ∨ (∃ T, t34 T = true ∧ f = .fn (.func 84) [.agg (ints T)] [] ∧ σ = alongC T) ∨
    ∃ T : List Int, T.length = 16 ∧ f = .fn (.func 69) [] [.elt (ints T) 0] ∧ σ = backC T := by
  unfold stepOf at h
  split at h
  · split at h
    · rename_i T hT
      split at h
      · rename_i ht
        split at h
        · rename_i hg; cases h; exact .inl ⟨T, ht, by rw [hg, unints_inv hT], rfl⟩
        · split at h
          · rename_i hg; cases h; exact .inr (.inl ⟨T, ht, by rw [hg, unints_inv hT], rfl⟩)
          · cases h
      · cases h
    · cases h
  · split at h
    · rename_i T hT
      split at h
      · rename_i ht
        split at h
        · rename_i hg; cases h; exact .inr (.inr ⟨T, ht, by rw [hg, unints_inv hT], rfl⟩)
        · cases h
      · cases h
    · cases h
  · cases h
/-- The number of ends of a table. -/
def cycF (C : List Int) (f : AV) : Out3 := match stepOf f with
  | some σ => res (t34 C && decide (0 ≤ endsC C) && okS σ (endsC C).toNat) (.il (lls (cyc σ (endsC C).toNat)) (cyc σ (endsC C).toNat).length false)
  | none => none
def s68 : Sp := spT 68 [.tb, .av] cycF
@[simp] theorem s68_g : s68.g = 68 := rfl
@[simp] theorem s68_f : s68.f = (spT 68 [.tb, .av] cycF).f := rfl
theorem s68_ok : s68.ok Tryd.prog := by
  apply spT_ok
  simp only [OkT, Ty.all, List.nil_append, List.cons_append]
  intro (C : List Int) (f : AV) r h' k' hh
  unfold cycF at hh
  split at hh
  · rename_i σ hs
    obtain ⟨hg, rfl, rfl, rfl⟩ := res_inv hh
    simp only [Bool.and_eq_true, decide_eq_true_eq] at hg
    obtain ⟨⟨h34, h0⟩, hok⟩ := hg
    have hn : C.getD 0 0 = ((endsC C).toNat : Int) := by show endsC C = _; omega
    rcases stepOf_inv hs with ⟨T, hT, rfl, rfl⟩ | ⟨T, hT, rfl, rfl⟩ | ⟨T, hT, rfl, rfl⟩
    · simpa only [hp_eq] using cyc71_runs h34 hT hn hok
    · simpa only [hp_eq] using cyc84_runs h34 hT hn hok
    · simpa only [hp_eq] using cyc69_runs h34 hT hn hok
  · cases hh
end Go.Sx.Ch
namespace Go.Sx.Ch
open Go Go.Sx Go.Proofs

def Z34 : List Int := List.replicate 34 0
/-- One end of a list goes into the table. -/
def tabI (l : List Int) (C : List Int) (k : Nat) : List Int :=
  (C.set (1 + (l.getD k 0).toNat) (l.getD ((k + 1) % l.length) 0)).set (17 + (l.getD k 0).toNat) (C.getD 33 0)
def tabE (l C : List Int) : List Int := (List.range l.length).foldl (tabI l) C
/-- One list goes into the table. -/
def tabL (C : List Int) (l : List Int) : List Int :=
  if l.length = 0 then C else ((tabE l C).set 0 ((tabE l C).getD 0 0 + l.length)).set 33 ((tabE l C).getD 33 0 + 1)
def tabF (L : List (List Int)) : List Int := L.foldl tabL Z34
def total (L : List (List Int)) : Nat := (L.map List.length).sum
def in16 (l : List Int) : Bool := l.all (within 0 · 15)
theorem in16_get {l : List Int} (h : in16 l = true) {k : Nat} (hk : k < l.length) : ∃ m : Nat, m < 16 ∧ l[k]? = some (m : Int) ∧ l.getD k 0 = m := by
  have h1 := within_iff.1 (List.all_eq_true.1 h l[k] (List.getElem_mem hk))
  obtain ⟨m, hm⟩ := Int.eq_ofNat_of_zero_le h1.1
  exact ⟨m, by omega, by rw [List.getElem?_eq_getElem hk, hm], by rw [List.getD_eq_getElem?_getD, List.getElem?_eq_getElem hk, hm]; rfl⟩
theorem tabI_len (l C : List Int) (k : Nat) : (tabI l C k).length = C.length := by simp [tabI]
theorem tabE_len (l : List Int) : ∀ (ks : List Nat) (C : List Int), (ks.foldl (tabI l) C).length = C.length
  | [], C => rfl
  | k :: ks, C => by simp only [List.foldl_cons]; rw [tabE_len l ks, tabI_len]
theorem getD_set_ne {C : List Int} {i j : Nat} {v d : Int} (h : i ≠ j) : (C.set i v).getD j d = C.getD j d := by
  simp [List.getD_eq_getElem?_getD, List.getElem?_set, h]
theorem getD_set_eq {C : List Int} {i : Nat} {v d : Int} (h : i < C.length) : (C.set i v).getD i d = v := by
  simp [List.getD_eq_getElem?_getD, List.getElem?_set, h]
theorem tabI_keep {l C : List Int} {k : Nat} (h : in16 l = true) (hk : k < l.length) : (tabI l C k).getD 0 0 = C.getD 0 0 ∧ (tabI l C k).getD 33 0 = C.getD 33 0 := by
  obtain ⟨m, hm, -, h2⟩ := in16_get h hk
  simp only [tabI, h2, Int.toNat_natCast]
  constructor <;> (rw [getD_set_ne (by omega), getD_set_ne (by omega)])
theorem tabE_keep {l : List Int} (h : in16 l = true) : ∀ (ks : List Nat) (C : List Int), (∀ k ∈ ks, k < l.length) → (ks.foldl (tabI l) C).getD 0 0 = C.getD 0 0 ∧ (ks.foldl (tabI l) C).getD 33 0 = C.getD 33 0
  | [], C, _ => ⟨rfl, rfl⟩
  | k :: ks, C, hk => by
    simp only [List.foldl_cons]
    obtain ⟨h1, h2⟩ := tabE_keep h ks (tabI l C k) (fun j hj => hk j (List.mem_cons_of_mem _ hj))
    obtain ⟨h3, h4⟩ := tabI_keep (C := C) h (hk k List.mem_cons_self)
    exact ⟨h1.trans h3, h2.trans h4⟩
theorem tabL_facts {l C : List Int} (h : in16 l = true) (hC : C.length = 34) : (tabL C l).length = 34 ∧ (tabL C l).getD 0 0 = C.getD 0 0 + l.length ∧ (tabL C l).getD 33 0 = C.getD 33 0 + (if l.length = 0 then 0 else 1) := by
  unfold tabL
  by_cases h0 : l.length = 0
  · rw [if_pos h0, if_pos h0]; exact ⟨hC, by omega, by omega⟩
  · rw [if_neg h0, if_neg h0]
    obtain ⟨h1, h2⟩ := tabE_keep h (List.range l.length) C (fun k hk => List.mem_range.1 hk)
    have hl : (tabE l C).length = 34 := by unfold tabE; rw [tabE_len, hC]
    refine ⟨by simp [hl], ?_, ?_⟩
    · rw [getD_set_ne (by omega), getD_set_eq (by omega)]; unfold tabE; rw [h1]
    · rw [getD_set_eq (by simp [hl])]; unfold tabE; rw [h2]
def g70 (L : List (List Int)) : Bool := L.all in16 && decide (total L ≤ 10000) && decide (L.length ≤ 10000)
theorem total_take (L : List (List Int)) (i : Nat) : total (L.take i) ≤ total L := by
  induction L generalizing i with
  | nil => simp
  | cons l L ih =>
    cases i with
    | zero => simp [total]
    | succ i =>
      have := ih i
      simp only [total, List.take_succ_cons, List.map_cons, List.sum_cons] at this ⊢
      omega
theorem tabF_snoc (L : List (List Int)) (l : List Int) : tabF (L ++ [l]) = tabL (tabF L) l := by simp [tabF, List.foldl_append]
theorem total_snoc (L : List (List Int)) (l : List Int) : total (L ++ [l]) = total L + l.length := by simp [total]
theorem tabF_facts {L : List (List Int)} (h : L.all in16 = true) : (tabF L).length = 34 ∧ (tabF L).getD 0 0 = total L ∧ 0 ≤ (tabF L).getD 33 0 ∧ (tabF L).getD 33 0 ≤ L.length := by
  have key : ∀ (L M : List (List Int)), M.all in16 = true → ((tabF L).length = 34 ∧ (tabF L).getD 0 0 = total L ∧ 0 ≤ (tabF L).getD 33 0 ∧ (tabF L).getD 33 0 ≤ L.length) →
      ((tabF (L ++ M)).length = 34 ∧ (tabF (L ++ M)).getD 0 0 = total (L ++ M) ∧ 0 ≤ (tabF (L ++ M)).getD 33 0 ∧ (tabF (L ++ M)).getD 33 0 ≤ (L ++ M).length) := by
    intro L M
    induction M generalizing L with
    | nil => intro _ h; simpa using h
    | cons l M ih =>
      intro hM ⟨h1, h2, h3, h4⟩
      simp only [List.all_cons, Bool.and_eq_true] at hM
      have e : L ++ l :: M = (L ++ [l]) ++ M := by simp
      rw [e]
      refine ih _ hM.2 ?_
      obtain ⟨q1, q2, q3⟩ := tabL_facts hM.1 h1
      rw [tabF_snoc, total_snoc]
      refine ⟨q1, by rw [q2, h2]; omega, ?_, ?_⟩
      · rw [q3]; split <;> omega
      · rw [q3]; simp only [List.length_append, List.length_cons, List.length_nil]; split <;> omega
  simpa using key [] L h ⟨rfl, rfl, by decide, by decide⟩
end Go.Sx.Ch
set_option maxRecDepth 4000
namespace Go.Sx.Ch
open Go Go.Sx Go.Proofs

theorem splice_all {cs ys : List AV} (h : ys.length = cs.length) : splice cs 0 ys = ys := by simp [splice, h]
set_option maxHeartbeats 2000000
def s70 : Sp := spT 70 [.ll] fun (L : List (List Int)) => res (g70 L) (.agg (ints (tabF L)))
@[simp] theorem s70_g : s70.g = 70 := rfl
@[simp] theorem s70_f : s70.f = (spT 70 [.ll] fun (L : List (List Int)) => res (g70 L) (.agg (ints (tabF L)))).f := rfl
theorem s70_ok : s70.ok Tryd.prog := by
  apply spT_ok
  simp only [OkT, Ty.all, List.nil_append, List.cons_append]
  intro (L : List (List Int)) u
  apply okT_res; intro hg
  refine P70.rz (ss := []) trivial (by simp) fun Q hQ => ?_
  delta p70 p70_r0 p70_r1 p70_r2
  simp only [g70, Bool.and_eq_true, decide_eq_true_eq] at hg
  obtain ⟨⟨h16, htot⟩, hlen⟩ := hg
  simp (disch := omega) [oLt, oLe, oLtN, oLeN, nLt, nLe, nLtN, nLeN]
  refine XZ_for (fun i : Nat => ⟨[(2, .ptr 0 0), (3, .ptr 1 0), (8, .il (lls L) L.length u), (9, vI L.length), (10, vI i)], [(0, .cells (ints Z34)), (1, .cells (ints (tabF (L.take i))))], 2⟩) (fun i => L.length - i) (fun i => i ≤ L.length) 0 (by simp) (.tot [2, 3] (by simp [tabF, Z34])) ?_
  intro i hi N Q' hN hE
  have hpre : (L.take i).all in16 = true := List.all_eq_true.2 fun l hl => List.all_eq_true.1 h16 l (List.mem_of_mem_take hl)
  obtain ⟨f1, f2, f3, f4⟩ := tabF_facts hpre
  rcases Nat.lt_or_ge i L.length with h | h
  · have hic : (i : Int) < L.length := by omega
    obtain ⟨l, r, -, e2, e3, -, e5⟩ := drop_split h
    have hl16 : in16 l = true := List.all_eq_true.1 h16 l e5
    have hnext : tabF (L.take (i + 1)) = tabL (tabF (L.take i)) l := by rw [List.take_succ_eq_append_getElem h, e3, tabF_snoc]
    have htl : total (L.take (i + 1)) ≤ 10000 := Nat.le_trans (total_take L _) htot
    rw [List.take_succ_eq_append_getElem h, e3, total_snoc] at htl
    have fin : ∀ s', ChgT 0 s' ⟨[(2, .ptr 0 0), (3, .ptr 1 0), (8, .il (lls L) L.length u), (9, vI L.length), (10, vI ((i + 1 : Nat) : Int))], [(0, .cells (ints Z34)), (1, .cells (ints (tabL (tabF (L.take i)) l)))], 2⟩ → N s' := fun s' hh => hN s' (i + 1) (by omega) h (by rw [hnext]; exact hh)
    have f4' : (tabF (L.take i)).getD 33 0 ≤ 10000 := by simp only [List.length_take] at f4; omega
    clear hN hnext hpre
    generalize tabF (L.take i) = C at *
    by_cases hl0 : l.length = 0
    · have hlc : (l.length : Int) = 0 := by omega
      simp only [tabL, hl0, if_true] at fin
      delta p70_l1 p70_r3 p70_r4 p70_r5 p70_r6
      simp (disch := omega) [oLt, oLe, oLtN, oLeN, nLt, nLe, nLtN, nLeN, hic, h, e2, e3, hl0, hlc]
      delta p70_r12 p70_r13 p70_r14
      simp (disch := omega) [oLt, oLe, oLtN, oLeN, nLt, nLe, nLtN, nLeN]
      exact fin _ (.tot [2, 3] (by simp))
    · have hlc : ¬ (l.length : Int) = 0 := by omega
      delta p70_l1 p70_r3 p70_r4 p70_r5 p70_r6
      simp (disch := omega) [oLt, oLe, oLtN, oLeN, nLt, nLe, nLtN, nLeN, hic, h, e2, e3, hl0, hlc]
      refine XZ_for (fun k : Nat => ⟨[(2, .ptr 0 0), (3, .ptr 1 0), (5, .il (ints l) l.length false), (8, .il (lls L) L.length u), (9, vI L.length), (10, vI i), (17, .il (ints l) l.length false), (18, vI l.length), (19, vI k)], [(0, .cells (ints Z34)), (1, .cells (ints ((List.range k).foldl (tabI l) C)))], 2⟩) (fun k => l.length - k) (fun k => k ≤ l.length) 0 (by simp) (.tot [2, 3] (by simp)) ?_
      intro k hk N2 Q2 hN2 hE2
      have hD : ((List.range k).foldl (tabI l) C).length = 34 := by rw [tabE_len, f1]
      rcases Nat.lt_or_ge k l.length with h1 | h1
      · have hkc : (k : Int) < l.length := by omega
        have hs : (List.range (k + 1)).foldl (tabI l) C = tabI l ((List.range k).foldl (tabI l) C) k := by simp [List.range_succ, List.foldl_append]
        obtain ⟨m, hm, hm1, hm2⟩ := in16_get hl16 h1
        have hm3 : l[k] = (m : Int) := (List.getElem?_eq_some_iff.1 hm1).2
        have hmc : (m : Int) < 16 := by omega
        have hq : (k + 1) % l.length < l.length := Nat.mod_lt _ (by omega)
        have hmod : ((k : Int) + 1) % (l.length : Int) = (((k + 1) % l.length : Nat) : Int) := by rw [Int.natCast_emod]; rfl
        have ht : tabI l ((List.range k).foldl (tabI l) C) k = (((List.range k).foldl (tabI l) C).set (1 + m) (l.getD ((k + 1) % l.length) 0)).set (17 + m) (((List.range k).foldl (tabI l) C).getD 33 0) := by unfold tabI; rw [hm2, Int.toNat_natCast]
        rw [ht] at hs
        clear ht
        generalize (k + 1) % l.length = q at *
        obtain ⟨v, hv⟩ : ∃ v, l[q]? = some v := ⟨l[q], by rw [List.getElem?_eq_getElem hq]⟩
        have hv3 : l[q] = v := (List.getElem?_eq_some_iff.1 hv).2
        rw [List.getD_eq_getElem?_getD, hv, Option.getD_some] at hs
        have fin2 : ∀ s', ChgT 0 s' ⟨[(2, .ptr 0 0), (3, .ptr 1 0), (5, .il (ints l) l.length false), (8, .il (lls L) L.length u), (9, vI L.length), (10, vI i), (17, .il (ints l) l.length false), (18, vI l.length), (19, vI ((k + 1 : Nat) : Int))], [(0, .cells (ints Z34)), (1, .cells (ints ((((List.range k).foldl (tabI l) C).set (1 + m) v).set (17 + m) (((List.range k).foldl (tabI l) C).getD 33 0))))], 2⟩ → N2 s' := fun s' hh => hN2 s' (k + 1) (by omega) h1 (by rw [hs]; exact hh)
        clear hN2 hs
        generalize (List.range k).foldl (tabI l) C = D at *
        have hp : D.getD 33 0 = D[33] := by simp [List.getD_eq_getElem?_getD, hD]
        rw [hp] at fin2
        have hsp2 : splice (ints (D.set (1 + m) v)) (17 + m) [vI D[33]] = ints ((D.set (1 + m) v).set (17 + m) D[33]) := by rw [splice_one _ _ _ (by simp [hD]; omega)]; simp [ints, List.map_set]
        delta p70_l0 p70_r7 p70_r8 p70_r9 p70_r10 p70_r11
        simp (disch := omega) [oLt, oLe, oLtN, oLeN, nLt, nLe, nLtN, nLeN, hkc, h1, hm, hmc, hm1, hm3, hl0, hlc, hmod, hq, hv, hv3, hD]
        exact fin2 _ (.tot [2, 3] (by simp [hsp2]))
      · obtain rfl : k = l.length := by omega
        have hkc : ¬ (l.length : Int) < l.length := by omega
        delta p70_l0 p70_r7 p70_r8 p70_r9 p70_r10 p70_r11
        simp (disch := omega) [oLt, oLe, oLtN, oLeN, nLt, nLe, nLtN, nLeN, hkc]
        refine hE2 _ _ _ .refl ?_
        simp only [inBE, thenE, if_true]
        have hE3 : (List.range l.length).foldl (tabI l) C = tabE l C := rfl
        rw [hE3] at hD ⊢
        obtain ⟨g1, g2⟩ := tabE_keep hl16 (List.range l.length) C (fun k hk => List.mem_range.1 hk)
        rw [hE3] at g1 g2
        unfold tabL at fin
        rw [if_neg hl0] at fin
        generalize tabE l C = D at *
        have p0 : D.getD 0 0 = D[0] := by simp [List.getD_eq_getElem?_getD, hD]
        have p33 : D.getD 33 0 = D[33] := by simp [List.getD_eq_getElem?_getD, hD]
        rw [p0, p33] at fin
        rw [p0, f2] at g1
        rw [p33] at g2
        have b33 : D[33] ≤ 10000 := by rw [g2]; exact f4'
        have b33' : 0 ≤ D[33] := by rw [g2]; exact f3
        have b0 : D[0] + l.length ≤ 10000 := by rw [g1]; omega
        have b0' : 0 ≤ D[0] := by rw [g1]; omega
        delta p70_r12 p70_r13 p70_r14
        simp (disch := omega) [oLt, oLe, oLtN, oLeN, nLt, nLe, nLtN, nLeN, hD]
        have hsp3 : ∀ x y : Int, splice (ints (D.set 0 x)) 33 [vI y] = ints ((D.set 0 x).set 33 y) := fun x y => by rw [splice_one _ _ _ (by simp [hD])]; simp [ints, List.map_set]
        exact fin _ (.tot [2, 3] (by simp [hsp3]))
  · obtain rfl : i = L.length := by omega
    have hic : ¬ (L.length : Int) < L.length := by omega
    rw [List.take_length] at *
    delta p70_l1 p70_r3 p70_r4 p70_r5 p70_r6
    simp (disch := omega) [oLt, oLe, oLtN, oLeN, nLt, nLe, nLtN, nLeN, hic]
    refine hE _ _ _ .refl ?_
    delta p70_r15
    have hz : Z34.length = 34 := rfl
    have ht : List.take 34 (tabF L) = tabF L := List.take_of_length_le (by omega)
    have hsp : splice (ints Z34) 0 (ints (tabF L)) = ints (tabF L) := splice_all (by simp [f1, hz])
    simp (disch := omega) [oLt, oLe, oLtN, oLeN, nLt, nLe, nLtN, nLeN, f1, hz, ht, hsp]
    exact hQ _ _ (.p (.inl rfl) (by simp [f1, Eff.exec, hpF, ht]) (by simp))
end Go.Sx.Ch
namespace Go.Sx.Ch
open Go Go.Sx Go.Proofs

/-- The error of a list, the ends that were met before it known. -/
def scanL (n : Int) : List Int → List Int → Int
  | _, [] => 0
  | seen, e :: l => if e < 0 ∨ n ≤ e then 2 else if e ∈ seen then 6 else scanL n (seen ++ [e]) l
def scanM (n : Int) : List Int → List (List Int) → Int
  | _, [] => 0
  | seen, l :: L => if l.length = 0 then 4 else if scanL n seen l = 0 then scanM n (seen ++ l) L else scanL n seen l
/-- The error of a map. -/
def chk (L : List (List Int)) : Int :=
  if 16 < total L then 3 else if scanM (total L) [] L = 0 then (if total L % 2 = 1 then 5 else 0) else scanM (total L) [] L
def openV (L : List (List Int)) : AV := .tup [.agg (ints (if chk L = 0 then tabF L else Z34)), vI (chk L)]
def smM (L : List (List Int)) : Bool := decide (L.length ≤ 10000) && decide (total L ≤ 10000)
/-- Which ends were met. -/
def metL (seen : List Int) : List Bool := (List.range 16).map fun (i : Nat) => decide ((i : Int) ∈ seen)
theorem metL_len (seen : List Int) : (metL seen).length = 16 := by simp [metL]
theorem metL_nil : metL [] = List.replicate 16 false := by simp only [metL, List.not_mem_nil, decide_false]; rfl
theorem metL_get (seen : List Int) {m : Nat} (h : m < 16) : (metL seen)[m]? = some (decide ((m : Int) ∈ seen)) := by simp [metL, h]
theorem metL_snoc (seen : List Int) {m : Nat} (h : m < 16) : metL (seen ++ [(m : Int)]) = (metL seen).set m true := by
  apply List.ext_getElem?
  intro i
  by_cases hi : i < 16
  · rw [metL_get _ hi, List.getElem?_set]
    by_cases e : m = i
    · subst e; simp [metL_len, h]
    · rw [if_neg e, metL_get _ hi]
      have : ¬ (i : Int) = m := by omega
      simp [this]
  · rw [List.getElem?_eq_none (by rw [metL_len]; omega), List.getElem?_eq_none (by simp [metL_len]; omega)]
theorem scanL_in {n : Int} : ∀ {seen l : List Int}, scanL n seen l = 0 → ∀ e ∈ l, 0 ≤ e ∧ e < n
  | seen, [], _, e, he => by cases he
  | seen, x :: l, h, e, he => by
    simp only [scanL] at h
    split at h
    · cases h
    · rename_i h1
      split at h
      · cases h
      · rcases List.mem_cons.1 he with rfl | he
        · omega
        · exact scanL_in h e he
theorem scanM_in {n : Int} : ∀ {seen : List Int} {L : List (List Int)}, scanM n seen L = 0 → ∀ l ∈ L, l.length ≠ 0 ∧ ∀ e ∈ l, 0 ≤ e ∧ e < n
  | seen, [], _, l, hl => by cases hl
  | seen, x :: L, h, l, hl => by
    simp only [scanM] at h
    split at h
    · cases h
    · rename_i h1
      split at h
      · rename_i h2
        rcases List.mem_cons.1 hl with rfl | hl
        · exact ⟨h1, scanL_in h2⟩
        · exact scanM_in h l hl
      · rename_i h2; exact absurd h h2
theorem chk_zero {L : List (List Int)} (h : chk L = 0) : total L ≤ 16 ∧ scanM (total L) [] L = 0 ∧ total L % 2 = 0 := by
  unfold chk at h
  split at h
  · cases h
  · split at h
    · rename_i h1
      split at h
      · cases h
      · exact ⟨by omega, h1, by omega⟩
    · rename_i h1; exact absurd h h1
theorem chk_g70 {L : List (List Int)} (h : chk L = 0) (hs : smM L = true) : g70 L = true := by
  obtain ⟨h1, h2, -⟩ := chk_zero h
  simp only [smM, Bool.and_eq_true, decide_eq_true_eq] at hs
  simp only [g70, Bool.and_eq_true, decide_eq_true_eq, List.all_eq_true]
  refine ⟨⟨fun l hl => List.all_eq_true.2 fun e he => ?_, hs.2⟩, hs.1⟩
  have := (scanM_in h2 l hl).2 e he
  exact within_iff.2 ⟨this.1, by omega⟩
end Go.Sx.Ch
