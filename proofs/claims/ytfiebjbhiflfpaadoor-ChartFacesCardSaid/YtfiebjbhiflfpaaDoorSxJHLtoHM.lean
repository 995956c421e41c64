/- What functions of the chart layer and its document return: Check, Faces, Parts, Genus, Tidy. No conditions. -/
import Derived.Test.YtfiebjbhiflfpaaDoorSxJHJtoHK
import Derived.Test.YtfiebjbhiflfpaaDoorSxDF
import Derived.Test.YtfiebjbhiflfpaaDoorSxDQ0
import Derived.Test.YtfiebjbhiflfpaaDoorSxPCc
set_option linter.unusedVariables false
set_option linter.unusedSimpArgs false
set_option maxRecDepth 4000
namespace Go.Sx.Ch
open Go Go.Sx Go.Proofs

set_option maxHeartbeats 4000000
/-- How many of the first so many points have no smaller one that can be reached. -/
def partRk (L : List (List Int)) (k : Nat) : Nat := ((List.range k).filter fun p => decide (hd (rchd L p) = p)).length
theorem partRk_succ (L : List (List Int)) (k : Nat) : partRk L (k + 1) = if hd (rchd L k) = k then partRk L k + 1 else partRk L k := by
  unfold partRk
  rw [List.range_succ, List.filter_append, List.length_append]
  by_cases h : hd (rchd L k) = k
  · rw [if_pos h]; simp [h]
  · rw [if_neg h]; simp [h]
theorem partRk_le (L : List (List Int)) : ∀ k, partRk L k ≤ k
  | 0 => by simp [partRk]
  | k + 1 => by
    rw [partRk_succ]
    have := partRk_le L k
    split <;> omega
def s88 : Sp := spT 88 [.mp] fun (L : List (List Int)) => res (gdM L) (vI (partR L))
@[simp] theorem s88_g : s88.g = 88 := rfl
@[simp] theorem s88_f : s88.f = (spT 88 [.mp] fun (L : List (List Int)) => res (gdM L) (vI (partR L))).f := rfl
theorem s88_ok : s88.ok Tryd.prog := by
  apply spT_ok
  simp only [OkT, Ty.all, List.nil_append, List.cons_append]
  intro (L : List (List Int)) u
  apply okT_res; intro hg
  refine P88.rz (ss := [s96, s103]) ⟨s96_ok, s103_ok, trivial⟩ (by simp) fun Q hQ => ?_
  delta p88 p88_r0 p88_r1 p88_r2
  have hg' := hg
  simp only [gdM, Bool.and_eq_true, decide_eq_true_eq] at hg'
  obtain ⟨hs, hc⟩ := hg'
  have g := chk_good hc
  have h16 := g.p16
  have hr : partR L = partRk L L.length := rfl
  rw [hr] at hQ
  simp (disch := omega) [oLt, oLe, oLtN, oLeN, nLt, nLe, nLtN, nLeN]
  refine XZ_for (fun k : Nat => ⟨[(1, .ptr 0 0), (3, vI (partRk L k)), (4, vI k)], [(0, .cells [.il (lls L) L.length u])], 1⟩) (fun k => L.length - k) (fun k => k ≤ L.length) 0 (Nat.zero_le _) (.tot [1] (by simp [partRk])) ?_
  intro k hk N Q' hN hE
  have hle := partRk_le L k
  rcases Nat.lt_or_ge k L.length with h | h
  · have hkc : (k : Int) < L.length := by omega
    have hsu := partRk_succ L k
    have hpos := rchd_ne g h
    have hsm := rchd_small g h
    have hsm2 : small (rchd L k) = true := by simp only [small, decide_eq_true_eq]; omega
    have hp0 : ¬ (rchd L k).length = 0 := by omega
    obtain ⟨hh, -, -⟩ := hd_facts hpos
    have hfl := leastF_len (rchd L k)
    have hfp : 0 < (leastF (rchd L k)).length := by omega
    have hfc : (0 : Int) < (leastF (rchd L k)).length := by omega
    have fin : ∀ s', ChgT 0 s' ⟨[(1, .ptr 0 0), (3, vI (partRk L (k + 1))), (4, vI ((k + 1 : Nat) : Int))], [(0, .cells [.il (lls L) L.length u])], 1⟩ → N s' := fun s' hh => hN s' (k + 1) (by omega) h hh
    rw [hsu] at fin
    clear hN hsu hE
    generalize hR : rchd L k = R at *
    generalize hF : leastF R = F at *
    generalize hD : hd R = D at *
    have hh' := (List.getElem?_eq_some_iff.1 hh).2
    have hRe : ¬ R = [] := fun e => by rw [e] at hpos; simp at hpos
    generalize partRk L k = c at *
    by_cases hDk : D = k
    · rw [if_pos hDk] at fin
      delta p88_l0 p88_r3 p88_r4 p88_r5 p88_r6
      simp (disch := omega) [oLt, oLe, oLtN, oLeN, nLt, nLe, nLtN, nLeN, hkc, hg, h, hR, hF, hsm2, hp0, hRe, hfp, hfc, hh, hh', hDk]
      exact fin _ (.tot [1] (by simp))
    · rw [if_neg hDk] at fin
      delta p88_l0 p88_r3 p88_r4 p88_r5 p88_r6
      simp (disch := omega) [oLt, oLe, oLtN, oLeN, nLt, nLe, nLtN, nLeN, hkc, hg, h, hR, hF, hsm2, hp0, hRe, hfp, hfc, hh, hh', hDk]
      exact fin _ (.tot [1] (by simp))
  · obtain rfl : k = L.length := by omega
    have hkc : ¬ (L.length : Int) < L.length := by omega
    generalize partRk L L.length = c at *
    delta p88_l0 p88_r3 p88_r4 p88_r5 p88_r6
    simp (disch := omega) [oLt, oLe, oLtN, oLeN, nLt, nLe, nLtN, nLeN, hkc]
    refine hE _ _ _ .refl ?_
    delta p88_r7
    simp (disch := omega) [oLt, oLe, oLtN, oLeN, nLt, nLe, nLtN, nLeN]
    exact hQ _ _ (.p (.inl rfl) (by simp) rfl)
def partV (L : List (List Int)) : Int := if chk L = 0 then (partR L : Int) else 0
theorem partC_eq {L : List (List Int)} (hc : chk L = 0) : partC (tabF L) = partR L ∧ g85 (tabF L) = true := by
  obtain ⟨h34, h16, hev, hl, h0, h33, hp⟩ := tab_pts hc
  have e0 : endsC (tabF L) = total L := by unfold endsC; rw [List.getD_eq_getElem?_getD, h0]; rfl
  have e33 : ptsC (tabF L) = L.length := by unfold ptsC; rw [List.getD_eq_getElem?_getD, h33]; rfl
  refine ⟨?_, ?_⟩
  · rw [← part_eq hc]
    unfold partC partN
    rw [e0, e33, Int.toNat_natCast, Int.toNat_natCast, labN_congr (g := atN L)]
    intro m hm
    obtain ⟨k, -, -, k2, k3⟩ := hp m (by omega)
    unfold atn atN
    rw [k2, k3]
  · simp only [g85, Bool.and_eq_true, decide_eq_true_eq]
    exact ⟨g80_tab hc, by rw [e0]; omega⟩
def s46 : Sp := spT 46 [.mp] fun (L : List (List Int)) => res (smM L) (.tup [vI (partV L), vI (chk L)])
@[simp] theorem s46_g : s46.g = 46 := rfl
@[simp] theorem s46_f : s46.f = (spT 46 [.mp] fun (L : List (List Int)) => res (smM L) (.tup [vI (partV L), vI (chk L)])).f := rfl
theorem s46_ok : s46.ok Tryd.prog := by
  apply spT_ok
  simp only [OkT, Ty.all, List.nil_append, List.cons_append]
  intro (L : List (List Int)) u
  apply okT_res; intro hs
  refine P46.rz (ss := [s67, s85]) ⟨s67_ok, s85_ok, trivial⟩ (by simp) fun Q hQ => ?_
  delta p46 p46_r0 p46_r1 p46_r2 p46_r3 p46_r4
  by_cases hc : chk L = 0
  · obtain ⟨h34, he⟩ := tab_ends hc hs
    have ht : (tabF L).take 34 = tabF L := List.take_of_length_le (by omega)
    have hv : openV L = .tup [.agg (ints (tabF L)), vI 0] := by unfold openV; rw [hc]; rfl
    have hsp : splice (ints Z34) 0 (ints (tabF L)) = ints (tabF L) := splice_all (by simp [h34, z34_len])
    obtain ⟨hp, hg⟩ := partC_eq hc
    have hr : partV L = partR L := by unfold partV; rw [if_pos hc]
    rw [hr, hc] at hQ
    generalize tabF L = C at *
    generalize partR L = p at *
    simp (disch := omega) [oLt, oLe, oLtN, oLeN, nLt, nLe, nLtN, nLeN, hs, hv, zl, hsp, h34, z34_len, ht, hg, hp]
    exact hQ _ _ (.p (.inl rfl) (by simp) rfl)
  · have hv : openV L = .tup [.agg (ints Z34), vI (chk L)] := by unfold openV; rw [if_neg hc]
    have hr : partV L = 0 := by unfold partV; rw [if_neg hc]
    rw [hr] at hQ
    generalize chk L = c at *
    simp (disch := omega) [oLt, oLe, oLtN, oLeN, nLt, nLe, nLtN, nLeN, hs, hv, zl, zz, z34_len, hc]
    exact hQ _ _ (.p (.inl rfl) (by simp) rfl)
def s47 : Sp := spT 47 [.mp] fun (L : List (List Int)) => res (smM L) (.tup [vI (partV L), vI (chk L)])
@[simp] theorem s47_g : s47.g = 47 := rfl
@[simp] theorem s47_f : s47.f = (spT 47 [.mp] fun (L : List (List Int)) => res (smM L) (.tup [vI (partV L), vI (chk L)])).f := rfl
theorem s47_ok : s47.ok Tryd.prog := by
  apply spT_ok
  simp only [OkT, Ty.all, List.nil_append, List.cons_append]
  intro (L : List (List Int)) u
  apply okT_res; intro hs
  refine P47.rz (ss := [s45, s88]) ⟨s45_ok, s88_ok, trivial⟩ (by simp) fun Q hQ => ?_
  delta p47 p47_r0 p47_r1 p47_r2 p47_r3 p47_r4
  by_cases hc : chk L = 0
  · have hg : gdM L = true := by simp only [gdM, Bool.and_eq_true, decide_eq_true_eq]; exact ⟨hs, hc⟩
    have hr : partV L = partR L := by unfold partV; rw [if_pos hc]
    rw [hr, hc] at hQ
    generalize hpe : partR L = p at *
    simp (disch := omega) [oLt, oLe, oLtN, oLeN, nLt, nLe, nLtN, nLeN, hs, hc, hg, hpe]
    exact hQ _ _ (.p (.inl rfl) (by simp) rfl)
  · have hr : partV L = 0 := by unfold partV; rw [if_neg hc]
    rw [hr] at hQ
    generalize hce : chk L = c at *
    simp (disch := omega) [oLt, oLe, oLtN, oLeN, nLt, nLe, nLtN, nLeN, hs, hce, hc]
    exact hQ _ _ (.p (.inl rfl) (by simp) rfl)
def genV (L : List (List Int)) : Int := if chk L = 0 then genN L else 0
theorem partR_le (L : List (List Int)) : partR L ≤ L.length := partRk_le L L.length
def s37 : Sp := spT 37 [.mp] fun (L : List (List Int)) => res (smM L) (.tup [vI (genV L), vI (chk L)])
@[simp] theorem s37_g : s37.g = 37 := rfl
@[simp] theorem s37_f : s37.f = (spT 37 [.mp] fun (L : List (List Int)) => res (smM L) (.tup [vI (genV L), vI (chk L)])).f := rfl
theorem s37_ok : s37.ok Tryd.prog := by
  apply spT_ok
  simp only [OkT, Ty.all, List.nil_append, List.cons_append]
  intro (L : List (List Int)) u
  apply okT_res; intro hs
  refine P37.rz (ss := [s67, s68, s85]) ⟨s67_ok, s68_ok, s85_ok, trivial⟩ (by simp) fun Q hQ => ?_
  delta p37 p37_r0 p37_r1 p37_r2 p37_r3 p37_r4
  by_cases hc : chk L = 0
  · obtain ⟨h34, h16, hev, hl, h0, h33, -⟩ := tab_pts hc
    have h0' := (List.getElem?_eq_some_iff.1 h0).2
    have h33' := (List.getElem?_eq_some_iff.1 h33).2
    have ht : (tabF L).take 34 = tabF L := List.take_of_length_le (by omega)
    have hv : openV L = .tup [.agg (ints (tabF L)), vI 0] := by unfold openV; rw [hc]; rfl
    have hsp : splice (ints Z34) 0 (ints (tabF L)) = ints (tabF L) := splice_all (by simp [h34, z34_len])
    obtain ⟨hp, hg⟩ := partC_eq hc
    have hpl := partR_le L
    have hok : okS (alongC (tabF L)) (total L) = true := by
      have := g33_ok hs
      simp only [g33, Bool.and_eq_true, Bool.or_eq_true, decide_eq_true_eq] at this
      exact this.2.resolve_left (fun h => h hc)
    have hen : endsC (tabF L) = ((total L : Nat) : Int) := by unfold endsC; rw [List.getD_eq_getElem?_getD, h0]; rfl
    have hT : t34 (tabF L) = true := by simp [t34, h34]
    have hF : cyc (alongC (tabF L)) (total L) = faceL L := by unfold faceL; rw [if_pos hc]
    have hFl : (faceL L).length ≤ 16 := by
      rw [← hF]
      have := (cycN_len (alongC (tabF L)) (total L)).2
      unfold cyc; omega
    have hcy : cycF (tabF L) (.fn (.func 84) [.agg (ints (tabF L))] []) = res true (.il (lls (faceL L)) (faceL L).length false) := by
      unfold cycF; simp only [stepOf_84, hT, if_true, hen, Int.toNat_natCast, hok, hF, Bool.and_true, Bool.true_and]
      rw [decide_eq_true (by omega)]
    have hgen := genus_eq hc
    have hr : genV L = genN L := by unfold genV; rw [if_pos hc]
    obtain ⟨g', hg'⟩ := euler_map hc
    have hpe' := part_eq hc
    obtain ⟨t, htt⟩ : ∃ t : Int, (L.length : Int) - (total L / 2 : Nat) + (faceL L).length = 2 * t := ⟨partN L - g', by omega⟩
    have htd : ((L.length : Int) - (total L : Int) / 2 + (faceL L).length).tdiv 2 = t := by
      have e : (L.length : Int) - (total L : Int) / 2 + (faceL L).length = 2 * t := by omega
      rw [e, Int.mul_tdiv_cancel_left _ (by decide)]
    have ht1 : -50 ≤ t ∧ t ≤ 50 := by omega
    rw [hr, hc, ← hgen, htt, Int.mul_tdiv_cancel_left _ (by decide), part_eq hc] at hQ
    clear hgen hg' htt hpe'
    generalize faceL L = F at *
    generalize tabF L = C at *
    generalize partR L = p at *
    generalize total L = n at *
    simp (disch := omega) [oLt, oLe, oLtN, oLeN, nLt, nLe, nLtN, nLeN, hs, hv, zl, hsp, h34, z34_len, ht, hg, hp, h0, h0', h33, h33', hcy, effMkfn, htd]
    exact hQ _ _ (.p (.inl rfl) (by simp) rfl)
  · have hv : openV L = .tup [.agg (ints Z34), vI (chk L)] := by unfold openV; rw [if_neg hc]
    have hr : genV L = 0 := by unfold genV; rw [if_neg hc]
    rw [hr] at hQ
    generalize chk L = c at *
    simp (disch := omega) [oLt, oLe, oLtN, oLeN, nLt, nLe, nLtN, nLeN, hs, hv, zl, zz, z34_len, hc]
    exact hQ _ _ (.p (.inl rfl) (by simp) rfl)
end Go.Sx.Ch
set_option maxRecDepth 4000
namespace Go.Sx.Ch
open Go Go.Sx Go.Proofs

set_option maxHeartbeats 4000000
def mpB (l : List (List Int)) : AV := .agg [.il (lls l) l.length false]
def tidL (L : List (List Int)) : List (List Int) := if chk L = 0 then cyc (afterC (tabF L)) (total L) else []
def tidV (L : List (List Int)) : AV := .tup [if chk L = 0 then mpB (tidL L) else nilA, vI (chk L)]
def s42 : Sp := spT 42 [.mp] fun (L : List (List Int)) => res (smM L) (tidV L)
@[simp] theorem s42_g : s42.g = 42 := rfl
@[simp] theorem s42_f : s42.f = (spT 42 [.mp] fun (L : List (List Int)) => res (smM L) (tidV L)).f := rfl
theorem s42_ok : s42.ok Tryd.prog := by
  apply spT_ok
  simp only [OkT, Ty.all, List.nil_append, List.cons_append]
  intro (L : List (List Int)) u
  apply okT_res; intro hs
  refine P42.rz (ss := [s67, s68]) ⟨s67_ok, s68_ok, trivial⟩ (by simp) fun Q hQ => ?_
  delta p42 p42_r0 p42_r1 p42_r2 p42_r3 p42_r4
  by_cases hc : chk L = 0
  · obtain ⟨h34, he⟩ := tab_ends hc hs
    obtain ⟨h16, -, -⟩ := chk_zero hc
    have hok : okS (afterC (tabF L)) (total L) = true := (chk_cov hc).prm.ok h16
    have hT : t34 (tabF L) = true := by simp [t34, h34]
    have hen : endsC (tabF L) = ((total L : Nat) : Int) := he
    have ht : (tabF L).take 34 = tabF L := List.take_of_length_le (by omega)
    have hv : openV L = .tup [.agg (ints (tabF L)), vI 0] := by unfold openV; rw [hc]; rfl
    have hsp : splice (ints Z34) 0 (ints (tabF L)) = ints (tabF L) := splice_all (by simp [h34, z34_len])
    have hF : cyc (afterC (tabF L)) (total L) = tidL L := by unfold tidL; rw [if_pos hc]
    have hr : tidV L = .tup [.agg [.il (lls (tidL L)) (tidL L).length false], vI 0] := by unfold tidV; rw [hc, if_pos rfl]; rfl
    have hcy : cycF (tabF L) (.fn (.func 71) [.agg (ints (tabF L))] []) = res true (.il (lls (tidL L)) (tidL L).length false) := by
      unfold cycF; simp only [stepOf_71, hT, if_true, hen, Int.toNat_natCast, hok, hF, Bool.and_true, Bool.true_and]
      rw [decide_eq_true (by omega)]
    generalize tidL L = F at *
    generalize tabF L = C at *
    rw [hr] at hQ
    simp (disch := omega) [oLt, oLe, oLtN, oLeN, nLt, nLe, nLtN, nLeN, hs, hv, zl, hsp, h34, z34_len, ht, hcy, effMkfn]
    exact hQ _ _ (.p (.inl rfl) (by simp [Eff.exec]) (by simp))
  · have hv : openV L = .tup [.agg (ints Z34), vI (chk L)] := by unfold openV; rw [if_neg hc]
    have hr : tidV L = .tup [.agg [.v (.slice none 0 0)], vI (chk L)] := by unfold tidV; rw [if_neg hc]; rfl
    rw [hr] at hQ
    generalize chk L = c at *
    simp (disch := omega) [oLt, oLe, oLtN, oLeN, nLt, nLe, nLtN, nLeN, hs, hv, zl, zz, z34_len, hc]
    exact hQ _ _ (.p (.inl rfl) (by simp [Eff.exec]) (by simp))
def tidR (L : List (List Int)) : AV := .tup [if chk L = 0 then mpB (tidyF L (total L)) else nilA, vI (chk L)]
def s43 : Sp := spT 43 [.mp] fun (L : List (List Int)) => res (smM L) (tidR L)
@[simp] theorem s43_g : s43.g = 43 := rfl
@[simp] theorem s43_f : s43.f = (spT 43 [.mp] fun (L : List (List Int)) => res (smM L) (tidR L)).f := rfl
theorem s43_ok : s43.ok Tryd.prog := by
  apply spT_ok
  simp only [OkT, Ty.all, List.nil_append, List.cons_append]
  intro (L : List (List Int)) u
  apply okT_res; intro hs
  refine P43.rz (ss := [s45, s64, s66]) ⟨s45_ok, s64_ok, s66_ok, trivial⟩ (by simp) fun Q hQ => ?_
  delta p43 p43_r0 p43_r1 p43_r2 p43_r3 p43_r4
  by_cases hc : chk L = 0
  · obtain ⟨h16, -, -⟩ := chk_zero hc
    have h64 : g64 L (total L) = true := by
      simp only [g64, Bool.and_eq_true, within_iff]
      exact ⟨hs, by omega, by omega⟩
    have hr : tidR L = .tup [.agg [.il (lls (tidyF L (total L))) (tidyF L (total L)).length false], vI 0] := by unfold tidR; rw [hc, if_pos rfl]; rfl
    have ht : ((total L : Nat) : Int).toNat = total L := Int.toNat_natCast _
    rw [hr] at hQ
    simp (disch := omega) [oLt, oLe, oLtN, oLeN, nLt, nLe, nLtN, nLeN, hs, hc, h64, ht]
    exact hQ _ _ (.p (.inl rfl) (by simp [Eff.exec]) (by simp))
  · have hr : tidR L = .tup [.agg [.v (.slice none 0 0)], vI (chk L)] := by unfold tidR; rw [if_neg hc]; rfl
    obtain ⟨c, hcc⟩ : ∃ c, chk L = c := ⟨_, rfl⟩
    rw [hr, hcc] at hQ
    rw [hcc] at hc
    simp (disch := omega) [oLt, oLe, oLtN, oLeN, nLt, nLe, nLtN, nLeN, hs, hcc, hc]
    exact hQ _ _ (.p (.inl rfl) (by simp [Eff.exec]) (by simp))
def facW (L : List (List Int)) : AV := .tup [if chk L = 0 then .il (lls (faceL L)) (faceL L).length false else .v (.slice none 0 0), vI (chk L)]
def s44 : Sp := spT 44 [.mp] fun (L : List (List Int)) => res (smM L) (facW L)
@[simp] theorem s44_g : s44.g = 44 := rfl
@[simp] theorem s44_f : s44.f = (spT 44 [.mp] fun (L : List (List Int)) => res (smM L) (facW L)).f := rfl
theorem s44_ok : s44.ok Tryd.prog := by
  apply spT_ok
  simp only [OkT, Ty.all, List.nil_append, List.cons_append]
  intro (L : List (List Int)) u
  apply okT_res; intro hs
  refine P44.rz (ss := [s45, s65]) ⟨s45_ok, s65_ok, trivial⟩ (by simp) fun Q hQ => ?_
  delta p44 p44_r0 p44_r1 p44_r2 p44_r3 p44_r4
  by_cases hc : chk L = 0
  · have h65 := g65_ok hs hc
    have hf := faceR_eq hc
    have hr : facW L = .tup [.il (lls (faceL L)) (faceL L).length false, vI 0] := by unfold facW; rw [if_pos hc, hc]
    rw [hr] at hQ
    generalize faceL L = F at *
    simp (disch := omega) [oLt, oLe, oLtN, oLeN, nLt, nLe, nLtN, nLeN, hs, hc, h65, hf]
    exact hQ _ _ (.p (.inl rfl) (by simp) (by simp))
  · have hr : facW L = .tup [.v (.slice none 0 0), vI (chk L)] := by unfold facW; rw [if_neg hc]
    rw [hr] at hQ
    generalize hce : chk L = c at *
    simp (disch := omega) [oLt, oLe, oLtN, oLeN, nLt, nLe, nLtN, nLeN, hs, hce, hc]
    exact hQ _ _ (.p (.inl rfl) (by simp) rfl)
theorem openV_or (L : List (List Int)) : ∃ C : List Int, C.length = 34 ∧ openV L = .tup [.agg (ints C), vI (chk L)] := by
  unfold openV
  by_cases hc : chk L = 0
  · obtain ⟨h34, -⟩ := tab_pts hc
    exact ⟨tabF L, h34, by rw [if_pos hc]⟩
  · exact ⟨Z34, z34_len, by rw [if_neg hc]⟩
def s40 : Sp := spT 40 [.mp] fun (L : List (List Int)) => res (smM L) (vI (chk L))
@[simp] theorem s40_g : s40.g = 40 := rfl
@[simp] theorem s40_f : s40.f = (spT 40 [.mp] fun (L : List (List Int)) => res (smM L) (vI (chk L))).f := rfl
theorem s40_ok : s40.ok Tryd.prog := by
  apply spT_ok
  simp only [OkT, Ty.all, List.nil_append, List.cons_append]
  intro (L : List (List Int)) u
  apply okT_res; intro hs
  refine P40.rz (ss := [s67]) ⟨s67_ok, trivial⟩ (by simp) fun Q hQ => ?_
  delta p40 p40_r0 p40_r1 p40_r2
  obtain ⟨C, h34, hv⟩ := openV_or L
  have hsp : splice (ints Z34) 0 (ints C) = ints C := splice_all (by simp [h34, z34_len])
  generalize chk L = c at *
  simp (disch := omega) [oLt, oLe, oLtN, oLeN, nLt, nLe, nLtN, nLeN, hs, hv, zl, hsp, h34, z34_len]
  exact hQ _ _ (.p (.inl rfl) (by simp) rfl)
def s48 : Sp := spT 48 [.mp] fun (L : List (List Int)) => res (smM L) (.tup [vI (genV L), vI (chk L)])
@[simp] theorem s48_g : s48.g = 48 := rfl
@[simp] theorem s48_f : s48.f = (spT 48 [.mp] fun (L : List (List Int)) => res (smM L) (.tup [vI (genV L), vI (chk L)])).f := rfl
theorem s48_ok : s48.ok Tryd.prog := by
  apply spT_ok
  simp only [OkT, Ty.all, List.nil_append, List.cons_append]
  intro (L : List (List Int)) u
  apply okT_res; intro hs
  refine P48.rz (ss := [s45, s65, s66, s88]) ⟨s45_ok, s65_ok, s66_ok, s88_ok, trivial⟩ (by simp) fun Q hQ => ?_
  delta p48 p48_r0 p48_r1 p48_r2 p48_r3 p48_r4
  by_cases hc : chk L = 0
  · have hg : gdM L = true := by simp only [gdM, Bool.and_eq_true, decide_eq_true_eq]; exact ⟨hs, hc⟩
    have h65 := g65_ok hs hc
    have hf := faceR_eq hc
    obtain ⟨-, h16, hev, hl, -⟩ := tab_pts hc
    have hpl := partR_le L
    obtain ⟨g, hg'⟩ := euler_map hc
    rw [part_eq hc] at hg'
    have hgen : genN L = g := by
      unfold genN
      have e2 : 2 * (partR L : Int) + (total L / 2 : Nat) - L.length - (faceL L).length = 2 * (g : Int) := by omega
      rw [e2, Int.mul_tdiv_cancel_left _ (by decide)]
    have hr : genV L = g := by unfold genV; rw [if_pos hc, hgen]
    have hFl : (faceL L).length ≤ 16 := by
      unfold faceL
      rw [if_pos hc]
      have := (cycN_len (alongC (tabF L)) (total L)).2
      unfold cyc; omega
    rw [hr, hc] at hQ
    have htd : (2 * (partR L : Int) + (total L : Int) / 2 - L.length - (faceL L).length).tdiv 2 = g := by
      have e2 : 2 * (partR L : Int) + (total L : Int) / 2 - L.length - (faceL L).length = 2 * (g : Int) := by omega
      rw [e2, Int.mul_tdiv_cancel_left _ (by decide)]
    have hgb : g ≤ 100 := by omega
    have e3 : 2 * (partR L : Int) + (total L : Int) / 2 - L.length - (faceL L).length = 2 * (g : Int) := by omega
    generalize hpe : partR L = p at *
    generalize hFe : faceL L = F at *
    generalize hne : total L = n at *
    simp (disch := omega) [oLt, oLe, oLtN, oLeN, nLt, nLe, nLtN, nLeN, hs, hc, hg, hpe, h65, hf, hne, htd]
    exact hQ _ _ (.p (.inl rfl) (by simp; omega) rfl)
  · have hr : genV L = 0 := by unfold genV; rw [if_neg hc]
    rw [hr] at hQ
    generalize hce : chk L = c at *
    simp (disch := omega) [oLt, oLe, oLtN, oLeN, nLt, nLe, nLtN, nLeN, hs, hce, hc]
    exact hQ _ _ (.p (.inl rfl) (by simp) rfl)
end Go.Sx.Ch
