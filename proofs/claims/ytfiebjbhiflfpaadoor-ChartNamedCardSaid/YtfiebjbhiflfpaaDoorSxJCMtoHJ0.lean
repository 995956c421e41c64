/- What functions of the chart layer return: opened. No conditions. -/
import Derived.Test.YtfiebjbhiflfpaaDoorSxJCItoCL
set_option linter.unusedVariables false
set_option linter.unusedSimpArgs false
set_option maxRecDepth 4000
namespace Go.Sx.Ch
open Go Go.Sx Go.Proofs

theorem zl : [AV.v (Value.int IntKind.i64 0), AV.v (Value.int IntKind.i64 0), AV.v (Value.int IntKind.i64 0), AV.v (Value.int IntKind.i64 0), AV.v (Value.int IntKind.i64 0), AV.v (Value.int IntKind.i64 0), AV.v (Value.int IntKind.i64 0), AV.v (Value.int IntKind.i64 0), AV.v (Value.int IntKind.i64 0), AV.v (Value.int IntKind.i64 0), AV.v (Value.int IntKind.i64 0), AV.v (Value.int IntKind.i64 0), AV.v (Value.int IntKind.i64 0), AV.v (Value.int IntKind.i64 0), AV.v (Value.int IntKind.i64 0), AV.v (Value.int IntKind.i64 0), AV.v (Value.int IntKind.i64 0), AV.v (Value.int IntKind.i64 0), AV.v (Value.int IntKind.i64 0), AV.v (Value.int IntKind.i64 0), AV.v (Value.int IntKind.i64 0), AV.v (Value.int IntKind.i64 0), AV.v (Value.int IntKind.i64 0), AV.v (Value.int IntKind.i64 0), AV.v (Value.int IntKind.i64 0), AV.v (Value.int IntKind.i64 0), AV.v (Value.int IntKind.i64 0), AV.v (Value.int IntKind.i64 0), AV.v (Value.int IntKind.i64 0), AV.v (Value.int IntKind.i64 0), AV.v (Value.int IntKind.i64 0), AV.v (Value.int IntKind.i64 0), AV.v (Value.int IntKind.i64 0), AV.v (Value.int IntKind.i64 0)] = ints Z34 := rfl
theorem z34_len : Z34.length = 34 := rfl
theorem z34_take : Z34.take 34 = Z34 := rfl
theorem zz : splice (ints Z34) 0 (ints Z34) = ints Z34 := splice_all rfl
theorem fl : [AV.v (Value.bool false), AV.v (Value.bool false), AV.v (Value.bool false), AV.v (Value.bool false), AV.v (Value.bool false), AV.v (Value.bool false), AV.v (Value.bool false), AV.v (Value.bool false), AV.v (Value.bool false), AV.v (Value.bool false), AV.v (Value.bool false), AV.v (Value.bool false), AV.v (Value.bool false), AV.v (Value.bool false), AV.v (Value.bool false), AV.v (Value.bool false)] = bls (metL []) := by rw [metL_nil]; rfl
set_option maxHeartbeats 4000000
def s67 : Sp := spT 67 [.mp] fun (L : List (List Int)) => res (smM L) (openV L)
@[simp] theorem s67_g : s67.g = 67 := rfl
@[simp] theorem s67_f : s67.f = (spT 67 [.mp] fun (L : List (List Int)) => res (smM L) (openV L)).f := rfl
theorem s67_ok : s67.ok Tryd.prog := by
  apply spT_ok
  simp only [OkT, Ty.all, List.nil_append, List.cons_append]
  intro (L : List (List Int)) u
  apply okT_res; intro hg
  refine P67.rz (ss := [s70]) ⟨s70_ok, trivial⟩ (by simp) fun Q hQ => ?_
  delta p67 p67_r0 p67_r1 p67_r2
  have hg0 := hg
  simp only [smM, Bool.and_eq_true, decide_eq_true_eq] at hg
  obtain ⟨hlen, htot⟩ := hg
  simp (disch := omega) [oLt, oLe, oLtN, oLeN, nLt, nLe, nLtN, nLeN, zl]
  refine XZ_for (fun i : Nat => ⟨[(1, .ptr 0 0), (2, .ptr 1 0), (4, vI (total (L.take i))), (13, .il (lls L) L.length u), (14, vI L.length), (15, vI i)], [(0, .cells [.il (lls L) L.length u]), (1, .cells (ints Z34))], 2⟩) (fun i => L.length - i) (fun i => i ≤ L.length) 0 (by simp) (.tot [1, 2] (by simp [total])) ?_
  intro i hi N Q' hN hE
  rcases Nat.lt_or_ge i L.length with h | h
  · have hic : (i : Int) < L.length := by omega
    obtain ⟨l, r, -, e2, e3, -, e5⟩ := drop_split h
    have htl : total (L.take (i + 1)) ≤ 10000 := Nat.le_trans (total_take L _) htot
    have hnext : total (L.take (i + 1)) = total (L.take i) + l.length := by rw [List.take_succ_eq_append_getElem h, e3, total_snoc]
    rw [hnext] at htl
    have fin : ∀ s', ChgT 0 s' ⟨[(1, .ptr 0 0), (2, .ptr 1 0), (4, vI ((total (L.take i) + l.length : Nat) : Int)), (13, .il (lls L) L.length u), (14, vI L.length), (15, vI ((i + 1 : Nat) : Int))], [(0, .cells [.il (lls L) L.length u]), (1, .cells (ints Z34))], 2⟩ → N s' := fun s' hh => hN s' (i + 1) (by omega) h (by rw [hnext]; exact hh)
    obtain ⟨z, hz⟩ : ∃ z : Int, ((total (L.take i) : Nat) : Int) = z := ⟨_, rfl⟩
    have hz1 : 0 ≤ z := by omega
    have hz2 : z + l.length ≤ 10000 := by omega
    rw [hz]
    delta p67_l0 p67_r3 p67_r4 p67_r5 p67_r6
    simp (disch := omega) [oLt, oLe, oLtN, oLeN, nLt, nLe, nLtN, nLeN, hic, h, e2, e3]
    exact fin _ (.tot [1, 2] (by simp [← hz]))
  · obtain rfl : i = L.length := by omega
    have hic : ¬ (L.length : Int) < L.length := by omega
    rw [List.take_length] at *
    delta p67_l0 p67_r3 p67_r4 p67_r5 p67_r6
    simp (disch := omega) [oLt, oLe, oLtN, oLeN, nLt, nLe, nLtN, nLeN, hic]
    refine hE _ _ _ .refl ?_
    by_cases hmany : 16 < total L
    · have hm : (16 : Int) < total L := by omega
      delta p67_r7 p67_r8 p67_r9 p67_r10
      simp (disch := omega) [oLt, oLe, oLtN, oLeN, nLt, nLe, nLtN, nLeN, hm, zl, zz, z34_len]
      exact hQ _ _ (.p (.inl rfl) (by simp [openV, chk, hmany, Eff.exec, z34_len, z34_take]) (by simp [openV, chk, hmany]))
    · have herr : ∀ (c : Int), scanM (total L) [] L = c → c ≠ 0 → openV L = .tup [.agg (ints Z34), vI c] := fun c h1 h2 => by
        have : chk L = c := by unfold chk; rw [if_neg hmany, if_neg (by rw [h1]; exact h2), h1]
        unfold openV; rw [this, if_neg h2]
      have hok : scanM (total L) [] L = 0 → chk L = if total L % 2 = 1 then 5 else 0 := fun h1 => by unfold chk; rw [if_neg hmany, if_pos h1]
      obtain ⟨z, hz⟩ : ∃ z : Int, ((total L : Nat) : Int) = z := ⟨_, rfl⟩
      have hz0 : 0 ≤ z := by omega
      have hz1 : z ≤ 16 := by omega
      have hm : ¬ (16 : Int) < z := by omega
      rw [hz] at herr hok ⊢
      delta p67_r7 p67_r8 p67_r9 p67_r10
      simp (disch := omega) [oLt, oLe, oLtN, oLeN, nLt, nLe, nLtN, nLeN, hm, fl]
      refine XZ_for (fun i : Nat => ⟨[(1, .ptr 0 0), (2, .ptr 1 0), (4, vI z), (7, .ptr 2 0), (28, .il (lls L) L.length u), (29, vI L.length), (30, vI i)], [(0, .cells [.il (lls L) L.length u]), (1, .cells (ints Z34)), (2, .cells (bls (metL (L.take i).flatten)))], 3⟩) (fun i => L.length - i)
        (fun i => i ≤ L.length ∧ scanM z (L.take i).flatten (L.drop i) = scanM z [] L) 0 ⟨by simp, by simp⟩ (.tot [1, 2, 7] (by simp)) ?_
      clear hN hE hi N Q'
      rintro i ⟨hi, hinv⟩ N Q' hN hE
      rcases Nat.lt_or_ge i L.length with h | h
      · have hic : (i : Int) < L.length := by omega
        obtain ⟨l, r, e1, e2, e3, e4, e5⟩ := drop_split h
        have hlb : l.length ≤ 10000 := by
          have := Nat.le_trans (total_take L (i + 1)) htot
          rw [List.take_succ_eq_append_getElem h, e3, total_snoc] at this
          omega
        have hfl : (L.take (i + 1)).flatten = (L.take i).flatten ++ l := by rw [List.take_succ_eq_append_getElem h, e3]; simp
        rw [e1] at hinv
        simp only [scanM] at hinv
        have fin : scanL z (L.take i).flatten l = 0 → l.length ≠ 0 → ∀ s', ChgT 0 s' ⟨[(1, .ptr 0 0), (2, .ptr 1 0), (4, vI z), (7, .ptr 2 0), (28, .il (lls L) L.length u), (29, vI L.length), (30, vI ((i + 1 : Nat) : Int))], [(0, .cells [.il (lls L) L.length u]), (1, .cells (ints Z34)), (2, .cells (bls (metL ((L.take i).flatten ++ l))))], 3⟩ → N s' := fun h1 h2 s' hh =>
          hN s' (i + 1) (by omega) ⟨h, by rw [hfl, e4]; rw [if_neg h2, if_pos h1] at hinv; exact hinv⟩ (by rw [hfl]; exact hh)
        clear hN hfl
        generalize (L.take i).flatten = S at *
        by_cases hl0 : l.length = 0
        · have hlc : (l.length : Int) = 0 := by omega
          rw [if_pos hl0] at hinv
          have hv := herr 4 hinv.symm (by decide)
          delta p67_l2 p67_r11 p67_r12 p67_r13 p67_r14 p67_r15
          simp (disch := omega) [oLt, oLe, oLtN, oLeN, nLt, nLe, nLtN, nLeN, hic, h, e2, e3, hl0, hlc, zl, zz, z34_len]
          exact hE _ _ _ .refl (hQ _ _ (.p (.inl rfl) (by simp [hv, Eff.exec, z34_len, z34_take]) (by simp [hv])))
        · have hlc : ¬ (l.length : Int) = 0 := by omega
          rw [if_neg hl0] at hinv
          delta p67_l2 p67_r11 p67_r12 p67_r13 p67_r14 p67_r15
          simp (disch := omega) [oLt, oLe, oLtN, oLeN, nLt, nLe, nLtN, nLeN, hic, h, e2, e3, hl0, hlc]
          refine XZ_for (fun k : Nat => ⟨[(1, .ptr 0 0), (2, .ptr 1 0), (4, vI z), (7, .ptr 2 0), (28, .il (lls L) L.length u), (29, vI L.length), (30, vI i), (38, .il (ints l) l.length false), (39, vI l.length), (40, vI k)], [(0, .cells [.il (lls L) L.length u]), (1, .cells (ints Z34)), (2, .cells (bls (metL (S ++ l.take k))))], 3⟩) (fun k => l.length - k)
            (fun k => k ≤ l.length ∧ scanL z (S ++ l.take k) (l.drop k) = scanL z S l) 0 ⟨by simp, by simp⟩ (.tot [1, 2, 7] (by simp)) ?_
          rintro k ⟨hk, hkinv⟩ N2 Q2 hN2 hE2
          have hbad : ∀ c : Int, c ≠ 0 → scanL z (S ++ l.take k) (l.drop k) = c → openV L = .tup [.agg (ints Z34), vI c] := fun c h1 h2 => by
            refine herr c ?_ h1
            rw [← hinv, if_neg (by rw [← hkinv, h2]; exact h1), ← hkinv, h2]
          rcases Nat.lt_or_ge k l.length with h1 | h1
          · have hkc : (k : Int) < l.length := by omega
            obtain ⟨e, q, y1, y2, y3, y4, y5⟩ := drop_split h1
            have htk : l.take (k + 1) = l.take k ++ [e] := by rw [List.take_succ_eq_append_getElem h1, y3]
            rw [y1] at hkinv hbad
            simp only [scanL] at hkinv hbad
            by_cases hlo : e < 0
            · have hv := hbad 2 (by decide) (if_pos (.inl hlo))
              delta p67_l1 p67_r16 p67_r17 p67_r18 p67_r19 p67_r20 p67_r21 p67_r22 p67_r23
              simp (disch := omega) [oLt, oLe, oLtN, oLeN, nLt, nLe, nLtN, nLeN, hkc, h1, y2, y3, hlo, zl, zz, z34_len]
              exact hE2 _ _ _ .refl (hE _ _ _ .refl (hQ _ _ (.p (.inl rfl) (by simp [hv, Eff.exec, z34_len, z34_take]) (by simp [hv]))))
            · by_cases hhi : z ≤ e
              · have hv := hbad 2 (by decide) (if_pos (.inr hhi))
                delta p67_l1 p67_r16 p67_r17 p67_r18 p67_r19 p67_r20 p67_r21 p67_r22 p67_r23
                simp (disch := omega) [oLt, oLe, oLtN, oLeN, nLt, nLe, nLtN, nLeN, hkc, h1, y2, y3, hlo, hhi, zl, zz, z34_len]
                exact hE2 _ _ _ .refl (hE _ _ _ .refl (hQ _ _ (.p (.inl rfl) (by simp [hv, Eff.exec, z34_len, z34_take]) (by simp [hv]))))
              · have hno : ¬ (e < 0 ∨ z ≤ e) := by omega
                obtain ⟨m, rfl⟩ := Int.eq_ofNat_of_zero_le (show 0 ≤ e by omega)
                have hm16 : m < 16 := by omega
                have hmc : (m : Int) < 16 := by omega
                have hml := metL_len (S ++ l.take k)
                have hmg := metL_get (S ++ l.take k) hm16
                have hmg' := (List.getElem?_eq_some_iff.1 hmg).2
                rw [if_neg hno] at hkinv hbad
                by_cases hmem : (m : Int) ∈ S ++ l.take k
                · have hv := hbad 6 (by decide) (if_pos hmem)
                  simp only [hmem, decide_true] at hmg hmg'
                  generalize metL (S ++ l.take k) = M at *
                  delta p67_l1 p67_r16 p67_r17 p67_r18 p67_r19 p67_r20 p67_r21 p67_r22 p67_r23
                  simp (disch := omega) [oLt, oLe, oLtN, oLeN, nLt, nLe, nLtN, nLeN, hkc, h1, y2, y3, hlo, hhi, hm16, hmc, hml, hmg, hmg', zl, zz, z34_len]
                  exact hE2 _ _ _ .refl (hE _ _ _ .refl (hQ _ _ (.p (.inl rfl) (by simp [hv, Eff.exec, z34_len, z34_take]) (by simp [hv]))))
                · rw [if_neg hmem] at hkinv
                  simp only [hmem, decide_false] at hmg hmg'
                  have hset : metL (S ++ l.take (k + 1)) = (metL (S ++ l.take k)).set m true := by rw [htk, ← List.append_assoc, metL_snoc _ hm16]
                  have fin2 : ∀ s', ChgT 0 s' ⟨[(1, .ptr 0 0), (2, .ptr 1 0), (4, vI z), (7, .ptr 2 0), (28, .il (lls L) L.length u), (29, vI L.length), (30, vI i), (38, .il (ints l) l.length false), (39, vI l.length), (40, vI ((k + 1 : Nat) : Int))], [(0, .cells [.il (lls L) L.length u]), (1, .cells (ints Z34)), (2, .cells (bls ((metL (S ++ l.take k)).set m true)))], 3⟩ → N2 s' := fun s' hh =>
                    hN2 s' (k + 1) (by omega) ⟨h1, by rw [htk, ← List.append_assoc, y4]; exact hkinv⟩ (by rw [hset]; exact hh)
                  clear hN2 hset hbad
                  generalize metL (S ++ l.take k) = M at *
                  delta p67_l1 p67_r16 p67_r17 p67_r18 p67_r19 p67_r20 p67_r21 p67_r22 p67_r23
                  simp (disch := omega) [oLt, oLe, oLtN, oLeN, nLt, nLe, nLtN, nLeN, hkc, h1, y2, y3, hlo, hhi, hm16, hmc, hml, hmg, hmg']
                  exact fin2 _ (.tot [1, 2, 7] (by simp))
          · obtain rfl : k = l.length := by omega
            have hkc : ¬ (l.length : Int) < l.length := by omega
            rw [List.drop_eq_nil_of_le (Nat.le_refl _), List.take_length] at hkinv
            simp only [scanL] at hkinv
            rw [List.take_length]
            delta p67_l1 p67_r16 p67_r17 p67_r18 p67_r19 p67_r20 p67_r21 p67_r22 p67_r23
            simp (disch := omega) [oLt, oLe, oLtN, oLeN, nLt, nLe, nLtN, nLeN, hkc]
            refine hE2 _ _ _ .refl ?_
            simp only [inBE, thenE, if_true]
            delta p67_r24
            simp (disch := omega) [oLt, oLe, oLtN, oLeN, nLt, nLe, nLtN, nLeN]
            exact fin hkinv.symm hl0 _ (.tot [1, 2, 7] (by simp))
      · obtain rfl : i = L.length := by omega
        have hic : ¬ (L.length : Int) < L.length := by omega
        rw [List.drop_eq_nil_of_le (Nat.le_refl _)] at hinv
        simp only [scanM] at hinv
        have hc := hok hinv.symm
        delta p67_l2 p67_r11 p67_r12 p67_r13 p67_r14 p67_r15
        simp (disch := omega) [oLt, oLe, oLtN, oLeN, nLt, nLe, nLtN, nLeN, hic]
        refine hE _ _ _ .refl ?_
        by_cases hodd : total L % 2 = 1
        · have hzo : z % 2 = 1 := by omega
          rw [if_pos hodd] at hc
          have hv : openV L = .tup [.agg (ints Z34), vI 5] := by unfold openV; rw [hc]; rfl
          delta p67_r25 p67_r26 p67_r27
          simp (disch := omega) [oLt, oLe, oLtN, oLeN, nLt, nLe, nLtN, nLeN, hzo, zl, zz, z34_len]
          exact hQ _ _ (.p (.inl rfl) (by simp [hv, Eff.exec, z34_len, z34_take]) (by simp [hv]))
        · have hzo : ¬ z % 2 = 1 := by omega
          rw [if_neg hodd] at hc
          have hv : openV L = .tup [.agg (ints (tabF L)), vI 0] := by unfold openV; rw [hc]; rfl
          have hg70 := chk_g70 hc hg0
          have htl := (tabF_facts (by simp only [g70, Bool.and_eq_true] at hg70; exact hg70.1.1)).1
          have hsp : splice (ints Z34) 0 (ints (tabF L)) = ints (tabF L) := splice_all (by simp [htl, z34_len])
          delta p67_r25 p67_r26 p67_r27
          have htt : (tabF L).take 34 = tabF L := List.take_of_length_le (by omega)
          simp (disch := omega) [oLt, oLe, oLtN, oLeN, nLt, nLe, nLtN, nLeN, hzo, hg70, hsp, htl, z34_len]
          exact hQ _ _ (.p (.inl rfl) (by simp [hv, Eff.exec, htl, htt]) (by simp [hv]))
end Go.Sx.Ch
namespace Go.Sx.Ch
open Go Go.Sx Go.Proofs

/-- The map is right. -/
def gdM (L : List (List Int)) : Bool := smM L && decide (chk L = 0)
end Go.Sx.Ch
