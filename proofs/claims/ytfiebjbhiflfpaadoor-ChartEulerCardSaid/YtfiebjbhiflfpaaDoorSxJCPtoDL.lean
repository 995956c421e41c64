/- What functions of the chart layer's document return: ends, in, index, point, at. No conditions. -/
import Derived.Test.YtfiebjbhiflfpaaDoorSxJCAtoDJ
import Derived.Test.YtfiebjbhiflfpaaDoorSxPCb
section
set_option linter.unusedVariables false
set_option linter.unusedSimpArgs false
set_option maxRecDepth 4000
namespace Go.Sx.Ch
open Go Go.Sx Go.Proofs
set_option maxHeartbeats 2000000
/-- The place of a number in a list, from i on; or -1. -/
def idxR (x : Int) : List Int → Int → Int
  | [], _ => -1
  | y :: r, i => if y = x then i else idxR x r (i + 1)
def idxL (l : List Int) (x : Int) : Int := idxR x l 0
/-- The point at which an end is, from point i on; or -1. -/
def ptR (x : Int) : List (List Int) → Int → Int
  | [], _ => -1
  | l :: L, i => if 0 ≤ idxL l x then i else ptR x L (i + 1)
theorem total_mem : ∀ {L : List (List Int)} {l : List Int}, l ∈ L → l.length ≤ total L
  | x :: L, l, h => by
    simp only [total, List.map_cons, List.sum_cons]
    rcases List.mem_cons.1 h with rfl | h
    · omega
    · have := total_mem h
      simp only [total] at this; omega
theorem smM_small {L : List (List Int)} (h : smM L = true) {l : List Int} (hl : l ∈ L) : small l = true := by
  simp only [smM, Bool.and_eq_true, decide_eq_true_eq] at h
  have := total_mem hl
  simp only [small, decide_eq_true_eq]; omega
end Go.Sx.Ch
end
section
set_option linter.unusedVariables false
set_option linter.unusedSimpArgs false
set_option maxRecDepth 4000
namespace Go.Sx.Ch
open Go Go.Sx Go.Proofs
theorem idxR_at {x : Int} : ∀ {l : List Int} {i : Nat}, 0 ≤ idxR x l i → ∃ k, k < l.length ∧ idxR x l i = ((i + k : Nat) : Int) ∧ l[k]? = some x
  | [], i, h => by simp [idxR] at h
  | y :: r, i, h => by
    simp only [idxR] at h ⊢
    split at h
    · rename_i e; rw [if_pos e]; exact ⟨0, by simp, by simp, by simp [e]⟩
    · rename_i e
      rw [if_neg e]
      have h' : 0 ≤ idxR x r ((i + 1 : Nat) : Int) := by simpa using h
      obtain ⟨k, h1, h2, h3⟩ := idxR_at h'
      refine ⟨k + 1, by simp; omega, ?_, by simpa using h3⟩
      have e2 : (((i + 1 : Nat) : Int)) = (i : Int) + 1 := by omega
      rw [e2] at h2
      rw [h2]; omega
theorem idxL_at {l : List Int} {x : Int} (h : 0 ≤ idxL l x) : ∃ k : Nat, k < l.length ∧ idxL l x = k ∧ l[k]? = some x := by
  obtain ⟨k, h1, h2, h3⟩ := idxR_at (i := 0) (by simpa [idxL] using h)
  exact ⟨k, h1, by simpa [idxL] using h2, h3⟩
theorem ptR_at {x : Int} : ∀ {L : List (List Int)} {i : Nat}, 0 ≤ ptR x L i → ∃ k l, L[k]? = some l ∧ ptR x L i = ((i + k : Nat) : Int) ∧ 0 ≤ idxL l x
  | [], i, h => by simp [ptR] at h
  | l :: L, i, h => by
    simp only [ptR] at h ⊢
    split at h
    · rename_i e; rw [if_pos e]; exact ⟨0, l, by simp, by simp, e⟩
    · rename_i e
      rw [if_neg e]
      have h' : 0 ≤ ptR x L ((i + 1 : Nat) : Int) := by simpa using h
      obtain ⟨k, l', h1, h2, h3⟩ := ptR_at h'
      refine ⟨k + 1, l', by simpa using h1, ?_, h3⟩
      have e2 : (((i + 1 : Nat) : Int)) = (i : Int) + 1 := by omega
      rw [e2] at h2
      rw [h2]; omega
def ptL (L : List (List Int)) (x : Int) : Int := ptR x L 0
theorem ptL_at {L : List (List Int)} {x : Int} (h : 0 ≤ ptL L x) : ∃ (k : Nat) (l : List Int), L[k]? = some l ∧ ptL L x = k ∧ 0 ≤ idxL l x := by
  obtain ⟨k, l, h1, h2, h3⟩ := ptR_at (i := 0) (by simpa [ptL] using h)
  exact ⟨k, l, h1, by simpa [ptL] using h2, h3⟩
set_option maxHeartbeats 2000000
def otherI (e : Int) : Int := if e % 2 = 0 then e + 1 else e - 1
/-- The end that comes after another one, found by looking. -/
def afterR (L : List (List Int)) (e : Int) : Int := (L.getD (ptL L e).toNat []).getD ((idxL (L.getD (ptL L e).toNat []) e + 1) % ((L.getD (ptL L e).toNat []).length : Int)).toNat 0
end Go.Sx.Ch
end
section
set_option linter.unusedVariables false
set_option linter.unusedSimpArgs false
namespace Go.Sx.Ch
open Go Go.Sx Go.Proofs
def onat (m : Nat) : Nat := if m % 2 = 0 then m + 1 else m - 1
theorem oth_onat : ∀ m : Nat, m < 16 → othI (m : Int) = (onat m : Int) := by decide
theorem other_onat (m : Nat) : otherI (m : Int) = (onat m : Int) := by
  unfold otherI onat
  split <;> split <;> omega
theorem onat_lt {n m : Nat} (hn : n % 2 = 0) (hm : m < n) : onat m < n := by
  unfold onat; split <;> omega
theorem onat_inj {a b : Nat} (h : onat a = onat b) : a = b := by
  unfold onat at h; split at h <;> split at h <;> omega
end Go.Sx.Ch
end
section
set_option linter.unusedVariables false
set_option linter.unusedSimpArgs false
set_option maxRecDepth 4000
namespace Go.Sx.Ch
open Go Go.Sx Go.Proofs
theorem zl : [AV.v (Value.int IntKind.i64 0), AV.v (Value.int IntKind.i64 0), AV.v (Value.int IntKind.i64 0), AV.v (Value.int IntKind.i64 0), AV.v (Value.int IntKind.i64 0), AV.v (Value.int IntKind.i64 0), AV.v (Value.int IntKind.i64 0), AV.v (Value.int IntKind.i64 0), AV.v (Value.int IntKind.i64 0), AV.v (Value.int IntKind.i64 0), AV.v (Value.int IntKind.i64 0), AV.v (Value.int IntKind.i64 0), AV.v (Value.int IntKind.i64 0), AV.v (Value.int IntKind.i64 0), AV.v (Value.int IntKind.i64 0), AV.v (Value.int IntKind.i64 0), AV.v (Value.int IntKind.i64 0), AV.v (Value.int IntKind.i64 0), AV.v (Value.int IntKind.i64 0), AV.v (Value.int IntKind.i64 0), AV.v (Value.int IntKind.i64 0), AV.v (Value.int IntKind.i64 0), AV.v (Value.int IntKind.i64 0), AV.v (Value.int IntKind.i64 0), AV.v (Value.int IntKind.i64 0), AV.v (Value.int IntKind.i64 0), AV.v (Value.int IntKind.i64 0), AV.v (Value.int IntKind.i64 0), AV.v (Value.int IntKind.i64 0), AV.v (Value.int IntKind.i64 0), AV.v (Value.int IntKind.i64 0), AV.v (Value.int IntKind.i64 0), AV.v (Value.int IntKind.i64 0), AV.v (Value.int IntKind.i64 0)] = ints Z34 := rfl
theorem z34_len : Z34.length = 34 := rfl
theorem z34_take : Z34.take 34 = Z34 := rfl
theorem zz : splice (ints Z34) 0 (ints Z34) = ints Z34 := splice_all rfl
theorem fl : [AV.v (Value.bool false), AV.v (Value.bool false), AV.v (Value.bool false), AV.v (Value.bool false), AV.v (Value.bool false), AV.v (Value.bool false), AV.v (Value.bool false), AV.v (Value.bool false), AV.v (Value.bool false), AV.v (Value.bool false), AV.v (Value.bool false), AV.v (Value.bool false), AV.v (Value.bool false), AV.v (Value.bool false), AV.v (Value.bool false), AV.v (Value.bool false)] = bls (metL []) := by rw [metL_nil]; rfl
set_option maxHeartbeats 4000000
def s67 : Sp := spT 67 [.mp] fun (L : List (List Int)) => res (smM L) (openV L)
@[simp] theorem s67_g : s67.g = 67 := rfl
@[simp] theorem s67_f : s67.f = (spT 67 [.mp] fun (L : List (List Int)) => res (smM L) (openV L)).f := rfl
theorem s67_ok : s67.ok Tryd.prog := by
  apply spT_ok
  simp only [OkT, Ty.all, List.nil_append, List.cons_append]
  intro (L : List (List Int)) u
  apply okT_res; intro hg
  refine P67.rz (ss := [s70]) ⟨s70_ok, trivial⟩ (by simp) fun Q hQ => ?_
  delta p67 p67_r0 p67_r1 p67_r2
  have hg0 := hg
  simp only [smM, Bool.and_eq_true, decide_eq_true_eq] at hg
  obtain ⟨hlen, htot⟩ := hg
  simp (disch := omega) [oLt, oLe, oLtN, oLeN, nLt, nLe, nLtN, nLeN, zl]
  refine XZ_for (fun i : Nat => ⟨[(1, .ptr 0 0), (2, .ptr 1 0), (4, vI (total (L.take i))), (13, .il (lls L) L.length u), (14, vI L.length), (15, vI i)], [(0, .cells [.il (lls L) L.length u]), (1, .cells (ints Z34))], 2⟩) (fun i => L.length - i) (fun i => i ≤ L.length) 0 (by simp) (.tot [1, 2] (by simp [total])) ?_
  intro i hi N Q' hN hE
  rcases Nat.lt_or_ge i L.length with h | h
  · have hic : (i : Int) < L.length := by omega
    obtain ⟨l, r, -, e2, e3, -, e5⟩ := drop_split h
    have htl : total (L.take (i + 1)) ≤ 10000 := Nat.le_trans (total_take L _) htot
    have hnext : total (L.take (i + 1)) = total (L.take i) + l.length := by rw [List.take_succ_eq_append_getElem h, e3, total_snoc]
    rw [hnext] at htl
    have fin : ∀ s', ChgT 0 s' ⟨[(1, .ptr 0 0), (2, .ptr 1 0), (4, vI ((total (L.take i) + l.length : Nat) : Int)), (13, .il (lls L) L.length u), (14, vI L.length), (15, vI ((i + 1 : Nat) : Int))], [(0, .cells [.il (lls L) L.length u]), (1, .cells (ints Z34))], 2⟩ → N s' := fun s' hh => hN s' (i + 1) (by omega) h (by rw [hnext]; exact hh)
    obtain ⟨z, hz⟩ : ∃ z : Int, ((total (L.take i) : Nat) : Int) = z := ⟨_, rfl⟩
    have hz1 : 0 ≤ z := by omega
    have hz2 : z + l.length ≤ 10000 := by omega
    rw [hz]
    delta p67_l0 p67_r3 p67_r4 p67_r5 p67_r6
    simp (disch := omega) [oLt, oLe, oLtN, oLeN, nLt, nLe, nLtN, nLeN, hic, h, e2, e3]
    exact fin _ (.tot [1, 2] (by simp [← hz]))
  · obtain rfl : i = L.length := by omega
    have hic : ¬ (L.length : Int) < L.length := by omega
    rw [List.take_length] at *
    delta p67_l0 p67_r3 p67_r4 p67_r5 p67_r6
    simp (disch := omega) [oLt, oLe, oLtN, oLeN, nLt, nLe, nLtN, nLeN, hic]
    refine hE _ _ _ .refl ?_
    by_cases hmany : 16 < total L
    · have hm : (16 : Int) < total L := by omega
      delta p67_r7 p67_r8 p67_r9 p67_r10
      simp (disch := omega) [oLt, oLe, oLtN, oLeN, nLt, nLe, nLtN, nLeN, hm, zl, zz, z34_len]
      exact hQ _ _ (.p (.inl rfl) (by simp [openV, chk, hmany, Eff.exec, z34_len, z34_take]) (by simp [openV, chk, hmany]))
    · have herr : ∀ (c : Int), scanM (total L) [] L = c → c ≠ 0 → openV L = .tup [.agg (ints Z34), vI c] := fun c h1 h2 => by
        have : chk L = c := by unfold chk; rw [if_neg hmany, if_neg (by rw [h1]; exact h2), h1]
        unfold openV; rw [this, if_neg h2]
      have hok : scanM (total L) [] L = 0 → chk L = if total L % 2 = 1 then 5 else 0 := fun h1 => by unfold chk; rw [if_neg hmany, if_pos h1]
      obtain ⟨z, hz⟩ : ∃ z : Int, ((total L : Nat) : Int) = z := ⟨_, rfl⟩
      have hz0 : 0 ≤ z := by omega
      have hz1 : z ≤ 16 := by omega
      have hm : ¬ (16 : Int) < z := by omega
      rw [hz] at herr hok ⊢
      delta p67_r7 p67_r8 p67_r9 p67_r10
      simp (disch := omega) [oLt, oLe, oLtN, oLeN, nLt, nLe, nLtN, nLeN, hm, fl]
      refine XZ_for (fun i : Nat => ⟨[(1, .ptr 0 0), (2, .ptr 1 0), (4, vI z), (7, .ptr 2 0), (28, .il (lls L) L.length u), (29, vI L.length), (30, vI i)], [(0, .cells [.il (lls L) L.length u]), (1, .cells (ints Z34)), (2, .cells (bls (metL (L.take i).flatten)))], 3⟩) (fun i => L.length - i)
        (fun i => i ≤ L.length ∧ scanM z (L.take i).flatten (L.drop i) = scanM z [] L) 0 ⟨by simp, by simp⟩ (.tot [1, 2, 7] (by simp)) ?_
      clear hN hE hi N Q'
      rintro i ⟨hi, hinv⟩ N Q' hN hE
      rcases Nat.lt_or_ge i L.length with h | h
      · have hic : (i : Int) < L.length := by omega
        obtain ⟨l, r, e1, e2, e3, e4, e5⟩ := drop_split h
        have hlb : l.length ≤ 10000 := by
          have := Nat.le_trans (total_take L (i + 1)) htot
          rw [List.take_succ_eq_append_getElem h, e3, total_snoc] at this
          omega
        have hfl : (L.take (i + 1)).flatten = (L.take i).flatten ++ l := by rw [List.take_succ_eq_append_getElem h, e3]; simp
        rw [e1] at hinv
        simp only [scanM] at hinv
        have fin : scanL z (L.take i).flatten l = 0 → l.length ≠ 0 → ∀ s', ChgT 0 s' ⟨[(1, .ptr 0 0), (2, .ptr 1 0), (4, vI z), (7, .ptr 2 0), (28, .il (lls L) L.length u), (29, vI L.length), (30, vI ((i + 1 : Nat) : Int))], [(0, .cells [.il (lls L) L.length u]), (1, .cells (ints Z34)), (2, .cells (bls (metL ((L.take i).flatten ++ l))))], 3⟩ → N s' := fun h1 h2 s' hh =>
          hN s' (i + 1) (by omega) ⟨h, by rw [hfl, e4]; rw [if_neg h2, if_pos h1] at hinv; exact hinv⟩ (by rw [hfl]; exact hh)
        clear hN hfl
        generalize (L.take i).flatten = S at *
        by_cases hl0 : l.length = 0
        · have hlc : (l.length : Int) = 0 := by omega
          rw [if_pos hl0] at hinv
          have hv := herr 4 hinv.symm (by decide)
          delta p67_l2 p67_r11 p67_r12 p67_r13 p67_r14 p67_r15
          simp (disch := omega) [oLt, oLe, oLtN, oLeN, nLt, nLe, nLtN, nLeN, hic, h, e2, e3, hl0, hlc, zl, zz, z34_len]
          exact hE _ _ _ .refl (hQ _ _ (.p (.inl rfl) (by simp [hv, Eff.exec, z34_len, z34_take]) (by simp [hv])))
        · have hlc : ¬ (l.length : Int) = 0 := by omega
          rw [if_neg hl0] at hinv
          delta p67_l2 p67_r11 p67_r12 p67_r13 p67_r14 p67_r15
          simp (disch := omega) [oLt, oLe, oLtN, oLeN, nLt, nLe, nLtN, nLeN, hic, h, e2, e3, hl0, hlc]
          refine XZ_for (fun k : Nat => ⟨[(1, .ptr 0 0), (2, .ptr 1 0), (4, vI z), (7, .ptr 2 0), (28, .il (lls L) L.length u), (29, vI L.length), (30, vI i), (38, .il (ints l) l.length false), (39, vI l.length), (40, vI k)], [(0, .cells [.il (lls L) L.length u]), (1, .cells (ints Z34)), (2, .cells (bls (metL (S ++ l.take k))))], 3⟩) (fun k => l.length - k)
            (fun k => k ≤ l.length ∧ scanL z (S ++ l.take k) (l.drop k) = scanL z S l) 0 ⟨by simp, by simp⟩ (.tot [1, 2, 7] (by simp)) ?_
          rintro k ⟨hk, hkinv⟩ N2 Q2 hN2 hE2
          have hbad : ∀ c : Int, c ≠ 0 → scanL z (S ++ l.take k) (l.drop k) = c → openV L = .tup [.agg (ints Z34), vI c] := fun c h1 h2 => by
            refine herr c ?_ h1
            rw [← hinv, if_neg (by rw [← hkinv, h2]; exact h1), ← hkinv, h2]
          rcases Nat.lt_or_ge k l.length with h1 | h1
          · have hkc : (k : Int) < l.length := by omega
            obtain ⟨e, q, y1, y2, y3, y4, y5⟩ := drop_split h1
            have htk : l.take (k + 1) = l.take k ++ [e] := by rw [List.take_succ_eq_append_getElem h1, y3]
            rw [y1] at hkinv hbad
            simp only [scanL] at hkinv hbad
            by_cases hlo : e < 0
            · have hv := hbad 2 (by decide) (if_pos (.inl hlo))
              delta p67_l1 p67_r16 p67_r17 p67_r18 p67_r19 p67_r20 p67_r21 p67_r22 p67_r23
              simp (disch := omega) [oLt, oLe, oLtN, oLeN, nLt, nLe, nLtN, nLeN, hkc, h1, y2, y3, hlo, zl, zz, z34_len]
              exact hE2 _ _ _ .refl (hE _ _ _ .refl (hQ _ _ (.p (.inl rfl) (by simp [hv, Eff.exec, z34_len, z34_take]) (by simp [hv]))))
            · by_cases hhi : z ≤ e
              · have hv := hbad 2 (by decide) (if_pos (.inr hhi))
                delta p67_l1 p67_r16 p67_r17 p67_r18 p67_r19 p67_r20 p67_r21 p67_r22 p67_r23
                simp (disch := omega) [oLt, oLe, oLtN, oLeN, nLt, nLe, nLtN, nLeN, hkc, h1, y2, y3, hlo, hhi, zl, zz, z34_len]
                exact hE2 _ _ _ .refl (hE _ _ _ .refl (hQ _ _ (.p (.inl rfl) (by simp [hv, Eff.exec, z34_len, z34_take]) (by simp [hv]))))
              · have hno : ¬ (e < 0 ∨ z ≤ e) := by omega
                obtain ⟨m, rfl⟩ := Int.eq_ofNat_of_zero_le (show 0 ≤ e by omega)
                have hm16 : m < 16 := by omega
                have hmc : (m : Int) < 16 := by omega
                have hml := metL_len (S ++ l.take k)
                have hmg := metL_get (S ++ l.take k) hm16
                have hmg' := (List.getElem?_eq_some_iff.1 hmg).2
                rw [if_neg hno] at hkinv hbad
                by_cases hmem : (m : Int) ∈ S ++ l.take k
                · have hv := hbad 6 (by decide) (if_pos hmem)
                  simp only [hmem, decide_true] at hmg hmg'
                  generalize metL (S ++ l.take k) = M at *
                  delta p67_l1 p67_r16 p67_r17 p67_r18 p67_r19 p67_r20 p67_r21 p67_r22 p67_r23
                  simp (disch := omega) [oLt, oLe, oLtN, oLeN, nLt, nLe, nLtN, nLeN, hkc, h1, y2, y3, hlo, hhi, hm16, hmc, hml, hmg, hmg', zl, zz, z34_len]
                  exact hE2 _ _ _ .refl (hE _ _ _ .refl (hQ _ _ (.p (.inl rfl) (by simp [hv, Eff.exec, z34_len, z34_take]) (by simp [hv]))))
                · rw [if_neg hmem] at hkinv
                  simp only [hmem, decide_false] at hmg hmg'
                  have hset : metL (S ++ l.take (k + 1)) = (metL (S ++ l.take k)).set m true := by rw [htk, ← List.append_assoc, metL_snoc _ hm16]
                  have fin2 : ∀ s', ChgT 0 s' ⟨[(1, .ptr 0 0), (2, .ptr 1 0), (4, vI z), (7, .ptr 2 0), (28, .il (lls L) L.length u), (29, vI L.length), (30, vI i), (38, .il (ints l) l.length false), (39, vI l.length), (40, vI ((k + 1 : Nat) : Int))], [(0, .cells [.il (lls L) L.length u]), (1, .cells (ints Z34)), (2, .cells (bls ((metL (S ++ l.take k)).set m true)))], 3⟩ → N2 s' := fun s' hh =>
                    hN2 s' (k + 1) (by omega) ⟨h1, by rw [htk, ← List.append_assoc, y4]; exact hkinv⟩ (by rw [hset]; exact hh)
                  clear hN2 hset hbad
                  generalize metL (S ++ l.take k) = M at *
                  delta p67_l1 p67_r16 p67_r17 p67_r18 p67_r19 p67_r20 p67_r21 p67_r22 p67_r23
                  simp (disch := omega) [oLt, oLe, oLtN, oLeN, nLt, nLe, nLtN, nLeN, hkc, h1, y2, y3, hlo, hhi, hm16, hmc, hml, hmg, hmg']
                  exact fin2 _ (.tot [1, 2, 7] (by simp))
          · obtain rfl : k = l.length := by omega
            have hkc : ¬ (l.length : Int) < l.length := by omega
            rw [List.drop_eq_nil_of_le (Nat.le_refl _), List.take_length] at hkinv
            simp only [scanL] at hkinv
            rw [List.take_length]
            delta p67_l1 p67_r16 p67_r17 p67_r18 p67_r19 p67_r20 p67_r21 p67_r22 p67_r23
            simp (disch := omega) [oLt, oLe, oLtN, oLeN, nLt, nLe, nLtN, nLeN, hkc]
            refine hE2 _ _ _ .refl ?_
            simp only [inBE, thenE, if_true]
            delta p67_r24
            simp (disch := omega) [oLt, oLe, oLtN, oLeN, nLt, nLe, nLtN, nLeN]
            exact fin hkinv.symm hl0 _ (.tot [1, 2, 7] (by simp))
      · obtain rfl : i = L.length := by omega
        have hic : ¬ (L.length : Int) < L.length := by omega
        rw [List.drop_eq_nil_of_le (Nat.le_refl _)] at hinv
        simp only [scanM] at hinv
        have hc := hok hinv.symm
        delta p67_l2 p67_r11 p67_r12 p67_r13 p67_r14 p67_r15
        simp (disch := omega) [oLt, oLe, oLtN, oLeN, nLt, nLe, nLtN, nLeN, hic]
        refine hE _ _ _ .refl ?_
        by_cases hodd : total L % 2 = 1
        · have hzo : z % 2 = 1 := by omega
          rw [if_pos hodd] at hc
          have hv : openV L = .tup [.agg (ints Z34), vI 5] := by unfold openV; rw [hc]; rfl
          delta p67_r25 p67_r26 p67_r27
          simp (disch := omega) [oLt, oLe, oLtN, oLeN, nLt, nLe, nLtN, nLeN, hzo, zl, zz, z34_len]
          exact hQ _ _ (.p (.inl rfl) (by simp [hv, Eff.exec, z34_len, z34_take]) (by simp [hv]))
        · have hzo : ¬ z % 2 = 1 := by omega
          rw [if_neg hodd] at hc
          have hv : openV L = .tup [.agg (ints (tabF L)), vI 0] := by unfold openV; rw [hc]; rfl
          have hg70 := chk_g70 hc hg0
          have htl := (tabF_facts (by simp only [g70, Bool.and_eq_true] at hg70; exact hg70.1.1)).1
          have hsp : splice (ints Z34) 0 (ints (tabF L)) = ints (tabF L) := splice_all (by simp [htl, z34_len])
          delta p67_r25 p67_r26 p67_r27
          have htt : (tabF L).take 34 = tabF L := List.take_of_length_le (by omega)
          simp (disch := omega) [oLt, oLe, oLtN, oLeN, nLt, nLe, nLtN, nLeN, hzo, hg70, hsp, htl, z34_len]
          exact hQ _ _ (.p (.inl rfl) (by simp [hv, Eff.exec, htl, htt]) (by simp [hv]))
end Go.Sx.Ch
end
section
set_option linter.unusedVariables false
set_option linter.unusedSimpArgs false
set_option maxRecDepth 4000
namespace Go.Sx.Ch
open Go Go.Sx Go.Proofs
/-- The states of the walk: behind so many ends. -/
def st68 (F : AV) (n k : Nat) (M : List Bool) (out : List (List Int)) : ST :=
  ⟨[(1, F), (5, fA 1 out), (6, .ptr 0 0), (11, vI n), (12, vI k)], (0, .cells (bls M)) :: fH 1 out, 1 + fN out⟩
/-- Within a list. -/
def in68 (F : AV) (n k : Nat) (M : List Bool) (out : List (List Int)) (e : Int) (acc : List Int) : ST :=
  ⟨[(1, F), (5, fA 1 out), (6, .ptr 0 0), (7, vI k), (8, gA (1 + fN out) acc), (9, vI e), (11, vI n), (12, vI k)], (0, .cells (bls M)) :: (fH 1 out ++ gH (1 + fN out) acc), 1 + fN out + gN acc⟩
set_option maxHeartbeats 2000000 in
theorem in68_ok {T : List Int} {n k : Nat} {out : List (List Int)} {L : List Int} {M' : List Bool} {s0 : ST} {Q : Exit → ST → Prop} (hT : t34 T = true) (hn : n ≤ 16) (hs : ∀ k : Nat, k < n → 0 ≤ afterC T k ∧ afterC T k ≤ n - 1) (hk : k < n) (ho : out.length ≤ 16)
    {M : List Bool} (hM : M.length = 16) (hL : orb (afterC T) k 16 k = some L) (hM' : setM M L = M') (hs0 : ChgT 0 s0 (in68 (.fn (.func 71) [.agg (ints T)] []) n k M out k []))
    (hQ : Q (.exit 1000001) (st68 (.fn (.func 71) [.agg (ints T)] []) n k M' (out ++ [L]))) : XZ (rZ (spc [s71])) 0 (.loop p68_l0) s0 Q := by
  refine XZ_for (fun p : Nat × Int × List Int × List Bool => in68 (.fn (.func 71) [.agg (ints T)] []) n k p.2.2.2 out p.2.1 p.2.2.1) (fun p => p.1)
    (fun p => 0 ≤ p.2.1 ∧ p.2.1 ≤ n - 1 ∧ p.2.2.2.length = 16 ∧ p.2.2.1.length + p.1 ≤ 16 ∧ ∃ r, orb (afterC T) k p.1 p.2.1 = some r ∧ p.2.2.1 ++ r = L ∧ setM p.2.2.2 r = M') (16, k, [], M) ⟨by simp, by simp only; omega, hM, by simp, L, hL, by simp, hM'⟩ hs0 ?_
  rintro ⟨f, e, acc, M1⟩ ⟨h0, h1, h2, h3, r, hr, hacc, hset⟩ N Q' hN hE
  simp only at h0 h1 h2 h3 hr hacc hset ⊢
  cases f with
  | zero => cases hr
  | succ f =>
    obtain ⟨m, rfl⟩ := Int.eq_ofNat_of_zero_le h0
    have hm : m < n := by omega
    have hm16 : m < 16 := by omega
    have hmc : (m : Int) < 16 := by omega
    have hw : within 0 (m : Int) 15 = true := within_iff.2 ⟨by omega, by omega⟩
    have hv := hs m hm
    simp only [orb] at hr
    obtain ⟨v, hve⟩ : ∃ v, afterC T m = v := ⟨_, rfl⟩
    rw [hve] at hr hv
    by_cases hvk : v = k
    · rw [if_pos hvk] at hr
      cases hr
      have hvk' : ¬ v ≠ k := fun h => h hvk
      subst hacc
      rw [setM_cons, Int.toNat_natCast] at hset
      simp only [setM, List.foldl_nil] at hset
      subst hset
      rcases out with _ | ⟨o, orr⟩
      · rcases acc with _ | ⟨a, ar⟩
        · simp only [in68, fA, fH, fN, gA, gH, gN]
          delta p68_l0 p68_r9 p68_r10 p68_r11 p68_r12 p68_r13
          simp (disch := omega) [oLt, oLe, oLtN, oLeN, nLt, nLe, nLtN, nLeN, hm, hm16, hmc, hw, hT, hve, hvk, h2]
          exact hE _ _ _ (.frz 7 (by simp; rfl) (by simp) (.tot [6, 5] (by simp [st68, fA, fH, fN]))) hQ
        · simp only [List.length_cons] at h3
          simp only [in68, fA, fH, fN, gA, gH, gN]
          delta p68_l0 p68_r9 p68_r10 p68_r11 p68_r12 p68_r13
          simp (disch := omega) [oLt, oLe, oLtN, oLeN, nLt, nLe, nLtN, nLeN, hm, hm16, hmc, hw, hT, hve, hvk, h2]
          exact hE _ _ _ (.frz 8 (by simp; rfl) (by simp) (.tot [6, 5] (by simp [st68, fA, fH, fN]))) hQ
      · rcases acc with _ | ⟨a, ar⟩
        · simp only [List.length_cons] at ho
          simp only [in68, fA, fH, fN, gA, gH, gN]
          delta p68_l0 p68_r9 p68_r10 p68_r11 p68_r12 p68_r13
          simp (disch := omega) [oLt, oLe, oLtN, oLeN, nLt, nLe, nLtN, nLeN, hm, hm16, hmc, hw, hT, hve, hvk, h2, ho]
          exact hE _ _ _ (.frz 8 (by simp; rfl) (by simp) (.tot [6, 5] (by simp [st68, fA, fH, fN]))) hQ
        · simp only [List.length_cons] at ho h3
          simp only [in68, fA, fH, fN, gA, gH, gN]
          delta p68_l0 p68_r9 p68_r10 p68_r11 p68_r12 p68_r13
          simp (disch := omega) [oLt, oLe, oLtN, oLeN, nLt, nLe, nLtN, nLeN, hm, hm16, hmc, hw, hT, hve, hvk, h2, ho]
          exact hE _ _ _ (.frz 9 (by simp; rfl) (by simp) (.tot [6, 5] (by simp [st68, fA, fH, fN]))) hQ
    · rw [if_neg hvk] at hr
      obtain ⟨r', hr', rfl⟩ : ∃ r', orb (afterC T) k f v = some r' ∧ r = (m : Int) :: r' := by
        obtain ⟨r', h, e⟩ := Option.map_eq_some_iff.1 hr; exact ⟨r', h, e.symm⟩
      rw [setM_cons, Int.toNat_natCast] at hset
      have fin : ∀ s', ChgT 0 s' (in68 (.fn (.func 71) [.agg (ints T)] []) n k (M1.set m true) out v (acc ++ [(m : Int)])) → N s' := fun s' hh =>
        hN s' (f, v, acc ++ [(m : Int)], M1.set m true) (Nat.lt_succ_self f) ⟨hv.1, hv.2, by simp [h2], by simp; omega, r', hr', by simp [hacc], hset⟩ hh
      clear hN
      rcases out with _ | ⟨o, orr⟩
      · rcases acc with _ | ⟨a, ar⟩
        · simp only [in68, fA, fH, fN, gA, gH, gN]
          delta p68_l0 p68_r9 p68_r10 p68_r11 p68_r12 p68_r13
          simp (disch := omega) [oLt, oLe, oLtN, oLeN, nLt, nLe, nLtN, nLeN, hm, hm16, hmc, hw, hT, hve, hvk, h2]
          exact fin _ (.tot [6, 8] (by simp [in68, fA, fH, fN, gA, gH, gN]))
        · simp only [List.length_cons] at h3
          simp only [in68, fA, fH, fN, gA, gH, gN]
          delta p68_l0 p68_r9 p68_r10 p68_r11 p68_r12 p68_r13
          simp (disch := omega) [oLt, oLe, oLtN, oLeN, nLt, nLe, nLtN, nLeN, hm, hm16, hmc, hw, hT, hve, hvk, h2]
          exact fin _ (.tot [6, 8] (by simp [in68, fA, fH, fN, gA, gH, gN]))
      · simp only [List.length_cons] at ho
        rcases acc with _ | ⟨a, ar⟩
        · simp only [in68, fA, fH, fN, gA, gH, gN]
          delta p68_l0 p68_r9 p68_r10 p68_r11 p68_r12 p68_r13
          simp (disch := omega) [oLt, oLe, oLtN, oLeN, nLt, nLe, nLtN, nLeN, hm, hm16, hmc, hw, hT, hve, hvk, h2]
          exact fin _ (.tot [6, 5, 8] (by simp [in68, fA, fH, fN, gA, gH, gN]))
        · simp only [List.length_cons] at h3
          simp only [in68, fA, fH, fN, gA, gH, gN]
          delta p68_l0 p68_r9 p68_r10 p68_r11 p68_r12 p68_r13
          simp (disch := omega) [oLt, oLe, oLtN, oLeN, nLt, nLe, nLtN, nLeN, hm, hm16, hmc, hw, hT, hve, hvk, h2]
          exact fin _ (.tot [6, 5, 8] (by simp [in68, fA, fH, fN, gA, gH, gN]))
end Go.Sx.Ch
end
section
set_option linter.unusedVariables false
set_option linter.unusedSimpArgs false
set_option maxRecDepth 4000
namespace Go.Sx.Ch
open Go Go.Sx Go.Proofs
set_option maxHeartbeats 2000000 in
theorem cyc71_runs {C T : List Int} {n : Nat} (hC : t34 C = true) (hT : t34 T = true) (hn : C.getD 0 0 = n) (hg : okS (afterC T) n = true) :
    Runs Tryd.prog 68 0 [.agg (ints C), .fn (.func 71) [.agg (ints T)] []] (hpF []) (.il (lls (cyc (afterC T) n)) (cyc (afterC T) n).length false) 0 (hpF []) := by
  obtain ⟨h16, hs⟩ := okS_iff.1 hg
  have h34 : C.length = 34 := by simpa [t34] using hC
  have h0 : C[0]? = some (n : Int) := by
    rw [List.getElem?_eq_getElem (by omega)]
    simpa [List.getD_eq_getElem?_getD, h34] using hn
  have h0' : C[0] = (n : Int) := (List.getElem?_eq_some_iff.1 h0).2
  refine P68.rz (ss := [s71]) ⟨s71_ok, trivial⟩ (by simp) fun Q hQ => ?_
  delta p68 p68_r0 p68_r1 p68_r2 p68_r3
  simp (disch := omega) [oLt, oLe, oLtN, oLeN, nLt, nLe, nLtN, nLeN, h0, h0', h34]
  refine XZ_for (fun k : Nat => st68 (.fn (.func 71) [.agg (ints T)] []) n k (cycN (afterC T) k).1 (cycN (afterC T) k).2) (fun k => n - k) (fun k => k ≤ n) 0 (by simp) (.tot [6] (by simp [st68, cycN, fA, fH, fN])) ?_
  intro k hk N Q' hN hE
  obtain ⟨hMl, hol⟩ := cycN_len (afterC T) k
  rcases Nat.lt_or_ge k n with h | h
  · have hkc : (k : Int) < n := by omega
    have hk16 : (k : Int) < 16 := by omega
    have hk16' : k < 16 := by omega
    obtain ⟨-, L, hL⟩ := hs k h
    have hnext := cycN_succ (afterC T) k
    obtain ⟨b, hb⟩ : ∃ b, (cycN (afterC T) k).1[k]? = some b := ⟨(cycN (afterC T) k).1[k], by rw [List.getElem?_eq_getElem]⟩
    have hb' : (cycN (afterC T) k).1.getD k false = b := by simp [List.getD_eq_getElem?_getD, hb]
    unfold cycS at hnext
    rw [hb', hL] at hnext
    generalize hM : (cycN (afterC T) k).1 = M at *
    generalize ho : (cycN (afterC T) k).2 = out at *
    have hbe : M[k] = b := (List.getElem?_eq_some_iff.1 hb).2
    cases b with
    | true =>
      rw [if_pos rfl] at hnext
      have fin : ∀ s', ChgT 0 s' (st68 (.fn (.func 71) [.agg (ints T)] []) n ((k + 1 : Nat)) M out) → N s' := fun s' hh => hN s' (k + 1) (by omega) h (by rw [hnext, hM, ho]; exact hh)
      rcases out with _ | ⟨o, orr⟩
      · simp only [st68, fA, fH, fN]
        delta p68_l1 p68_r4 p68_r5 p68_r6 p68_r7 p68_r8
        simp (disch := omega) [oLt, oLe, oLtN, oLeN, nLt, nLe, nLtN, nLeN, hkc, hk16, hk16', hb, hbe, hMl]
        delta p68_r14
        simp (disch := omega) [oLt, oLe, oLtN, oLeN, nLt, nLe, nLtN, nLeN]
        exact fin _ (.tot [6] (by simp [st68, fA, fH, fN]))
      · simp only [st68, fA, fH, fN]
        delta p68_l1 p68_r4 p68_r5 p68_r6 p68_r7 p68_r8
        simp (disch := omega) [oLt, oLe, oLtN, oLeN, nLt, nLe, nLtN, nLeN, hkc, hk16, hk16', hb, hbe, hMl]
        delta p68_r14
        simp (disch := omega) [oLt, oLe, oLtN, oLeN, nLt, nLe, nLtN, nLeN]
        exact fin _ (.tot [6, 5] (by simp [st68, fA, fH, fN]))
    | false =>
      rw [if_neg (by simp)] at hnext
      simp only [Option.getD_some] at hnext
      have fin : ∀ s', ChgT 0 s' (st68 (.fn (.func 71) [.agg (ints T)] []) n ((k + 1 : Nat)) (setM M L) (out ++ [L])) → N s' := fun s' hh => hN s' (k + 1) (by omega) h (by rw [hnext]; exact hh)
      rcases out with _ | ⟨o, orr⟩
      · simp only [st68, fA, fH, fN]
        delta p68_l1 p68_r4 p68_r5 p68_r6 p68_r7 p68_r8
        simp (disch := omega) [oLt, oLe, oLtN, oLeN, nLt, nLe, nLtN, nLeN, hkc, hk16, hk16', hb, hbe, hMl]
        refine in68_ok (out := []) hT h16 (fun k hk => (hs k hk).1) h (by simp) hMl hL rfl (.tot [6] (by simp [in68, fA, fH, fN, gA, gH, gN])) ?_
        simp only [inBE, thenE, if_true, st68, fA, fH, fN, List.nil_append]
        delta p68_r14
        simp (disch := omega) [oLt, oLe, oLtN, oLeN, nLt, nLe, nLtN, nLeN]
        exact fin _ (.tot [6, 5] (by simp [st68, fA, fH, fN]))
      · simp only [st68, fA, fH, fN]
        delta p68_l1 p68_r4 p68_r5 p68_r6 p68_r7 p68_r8
        simp (disch := omega) [oLt, oLe, oLtN, oLeN, nLt, nLe, nLtN, nLeN, hkc, hk16, hk16', hb, hbe, hMl]
        refine in68_ok (out := o :: orr) hT h16 (fun k hk => (hs k hk).1) h (by simp at hol ⊢; omega) hMl hL rfl (.tot [6, 5] (by simp [in68, fA, fH, fN, gA, gH, gN])) ?_
        simp only [inBE, thenE, if_true, st68, fA, fH, fN, List.cons_append]
        delta p68_r14
        simp (disch := omega) [oLt, oLe, oLtN, oLeN, nLt, nLe, nLtN, nLeN]
        exact fin _ (.tot [6, 5] (by simp [st68, fA, fH, fN]))
  · have hkc : ¬ (k : Int) < n := by omega
    obtain rfl : k = n := by omega
    have hcyc : (cycN (afterC T) k).2 = cyc (afterC T) k := rfl
    generalize (cycN (afterC T) k).1 = M at *
    rw [hcyc]
    clear hcyc
    generalize cyc (afterC T) k = out at *
    rcases out with _ | ⟨o, orr⟩
    · simp only [st68, fA, fH, fN]
      delta p68_l1 p68_r4 p68_r5 p68_r6 p68_r7 p68_r8
      simp (disch := omega) [oLt, oLe, oLtN, oLeN, nLt, nLe, nLtN, nLeN, hkc]
      refine hE _ _ _ .refl ?_
      delta p68_r15
      simp (disch := omega) [oLt, oLe, oLtN, oLeN, nLt, nLe, nLtN, nLeN]
      exact hQ _ _ (.fz [4] _ (.inl rfl) (by simp; rfl) (by simp) (by simp))
    · simp only [st68, fA, fH, fN]
      delta p68_l1 p68_r4 p68_r5 p68_r6 p68_r7 p68_r8
      simp (disch := omega) [oLt, oLe, oLtN, oLeN, nLt, nLe, nLtN, nLeN, hkc]
      refine hE _ _ _ .refl ?_
      delta p68_r15
      simp (disch := omega) [oLt, oLe, oLtN, oLeN, nLt, nLe, nLtN, nLeN]
      exact hQ _ _ (.fz [4] _ (.inl rfl) (by simp; rfl) (by simp) (by simp))
end Go.Sx.Ch
end
section
set_option linter.unusedVariables false
set_option linter.unusedSimpArgs false
set_option maxRecDepth 4000
namespace Go.Sx.Ch
open Go Go.Sx Go.Proofs
set_option maxHeartbeats 2000000 in
theorem in68_ok84 {T : List Int} {n k : Nat} {out : List (List Int)} {L : List Int} {M' : List Bool} {s0 : ST} {Q : Exit → ST → Prop} (hT : t34 T = true) (hn : n ≤ 16) (hs : ∀ k : Nat, k < n → 0 ≤ alongC T k ∧ alongC T k ≤ n - 1) (hk : k < n) (ho : out.length ≤ 16)
    {M : List Bool} (hM : M.length = 16) (hL : orb (alongC T) k 16 k = some L) (hM' : setM M L = M') (hs0 : ChgT 0 s0 (in68 (.fn (.func 84) [.agg (ints T)] []) n k M out k []))
    (hQ : Q (.exit 1000001) (st68 (.fn (.func 84) [.agg (ints T)] []) n k M' (out ++ [L]))) : XZ (rZ (spc [s84])) 0 (.loop p68_l0) s0 Q := by
  refine XZ_for (fun p : Nat × Int × List Int × List Bool => in68 (.fn (.func 84) [.agg (ints T)] []) n k p.2.2.2 out p.2.1 p.2.2.1) (fun p => p.1)
    (fun p => 0 ≤ p.2.1 ∧ p.2.1 ≤ n - 1 ∧ p.2.2.2.length = 16 ∧ p.2.2.1.length + p.1 ≤ 16 ∧ ∃ r, orb (alongC T) k p.1 p.2.1 = some r ∧ p.2.2.1 ++ r = L ∧ setM p.2.2.2 r = M') (16, k, [], M) ⟨by simp, by simp only; omega, hM, by simp, L, hL, by simp, hM'⟩ hs0 ?_
  rintro ⟨f, e, acc, M1⟩ ⟨h0, h1, h2, h3, r, hr, hacc, hset⟩ N Q' hN hE
  simp only at h0 h1 h2 h3 hr hacc hset ⊢
  cases f with
  | zero => cases hr
  | succ f =>
    obtain ⟨m, rfl⟩ := Int.eq_ofNat_of_zero_le h0
    have hm : m < n := by omega
    have hm16 : m < 16 := by omega
    have hmc : (m : Int) < 16 := by omega
    have hw : within 0 (m : Int) 15 = true := within_iff.2 ⟨by omega, by omega⟩
    have hv := hs m hm
    simp only [orb] at hr
    obtain ⟨v, hve⟩ : ∃ v, alongC T m = v := ⟨_, rfl⟩
    have hve2 := hve
    simp only [alongC] at hve2
    rw [hve] at hr hv
    by_cases hvk : v = k
    · rw [if_pos hvk] at hr
      cases hr
      have hvk' : ¬ v ≠ k := fun h => h hvk
      subst hacc
      rw [setM_cons, Int.toNat_natCast] at hset
      simp only [setM, List.foldl_nil] at hset
      subst hset
      rcases out with _ | ⟨o, orr⟩
      · rcases acc with _ | ⟨a, ar⟩
        · simp only [in68, fA, fH, fN, gA, gH, gN]
          delta p68_l0 p68_r9 p68_r10 p68_r11 p68_r12 p68_r13
          simp (disch := omega) [oLt, oLe, oLtN, oLeN, nLt, nLe, nLtN, nLeN, hm, hm16, hmc, hw, hT, hve2, hvk, h2]
          exact hE _ _ _ (.frz 7 (by simp; rfl) (by simp) (.tot [6, 5] (by simp [st68, fA, fH, fN]))) hQ
        · simp only [List.length_cons] at h3
          simp only [in68, fA, fH, fN, gA, gH, gN]
          delta p68_l0 p68_r9 p68_r10 p68_r11 p68_r12 p68_r13
          simp (disch := omega) [oLt, oLe, oLtN, oLeN, nLt, nLe, nLtN, nLeN, hm, hm16, hmc, hw, hT, hve2, hvk, h2]
          exact hE _ _ _ (.frz 8 (by simp; rfl) (by simp) (.tot [6, 5] (by simp [st68, fA, fH, fN]))) hQ
      · rcases acc with _ | ⟨a, ar⟩
        · simp only [List.length_cons] at ho
          simp only [in68, fA, fH, fN, gA, gH, gN]
          delta p68_l0 p68_r9 p68_r10 p68_r11 p68_r12 p68_r13
          simp (disch := omega) [oLt, oLe, oLtN, oLeN, nLt, nLe, nLtN, nLeN, hm, hm16, hmc, hw, hT, hve2, hvk, h2, ho]
          exact hE _ _ _ (.frz 8 (by simp; rfl) (by simp) (.tot [6, 5] (by simp [st68, fA, fH, fN]))) hQ
        · simp only [List.length_cons] at ho h3
          simp only [in68, fA, fH, fN, gA, gH, gN]
          delta p68_l0 p68_r9 p68_r10 p68_r11 p68_r12 p68_r13
          simp (disch := omega) [oLt, oLe, oLtN, oLeN, nLt, nLe, nLtN, nLeN, hm, hm16, hmc, hw, hT, hve2, hvk, h2, ho]
          exact hE _ _ _ (.frz 9 (by simp; rfl) (by simp) (.tot [6, 5] (by simp [st68, fA, fH, fN]))) hQ
    · rw [if_neg hvk] at hr
      obtain ⟨r', hr', rfl⟩ : ∃ r', orb (alongC T) k f v = some r' ∧ r = (m : Int) :: r' := by
        obtain ⟨r', h, e⟩ := Option.map_eq_some_iff.1 hr; exact ⟨r', h, e.symm⟩
      rw [setM_cons, Int.toNat_natCast] at hset
      have fin : ∀ s', ChgT 0 s' (in68 (.fn (.func 84) [.agg (ints T)] []) n k (M1.set m true) out v (acc ++ [(m : Int)])) → N s' := fun s' hh =>
        hN s' (f, v, acc ++ [(m : Int)], M1.set m true) (Nat.lt_succ_self f) ⟨hv.1, hv.2, by simp [h2], by simp; omega, r', hr', by simp [hacc], hset⟩ hh
      clear hN
      rcases out with _ | ⟨o, orr⟩
      · rcases acc with _ | ⟨a, ar⟩
        · simp only [in68, fA, fH, fN, gA, gH, gN]
          delta p68_l0 p68_r9 p68_r10 p68_r11 p68_r12 p68_r13
          simp (disch := omega) [oLt, oLe, oLtN, oLeN, nLt, nLe, nLtN, nLeN, hm, hm16, hmc, hw, hT, hve2, hvk, h2]
          exact fin _ (.tot [6, 8] (by simp [in68, fA, fH, fN, gA, gH, gN]))
        · simp only [List.length_cons] at h3
          simp only [in68, fA, fH, fN, gA, gH, gN]
          delta p68_l0 p68_r9 p68_r10 p68_r11 p68_r12 p68_r13
          simp (disch := omega) [oLt, oLe, oLtN, oLeN, nLt, nLe, nLtN, nLeN, hm, hm16, hmc, hw, hT, hve2, hvk, h2]
          exact fin _ (.tot [6, 8] (by simp [in68, fA, fH, fN, gA, gH, gN]))
      · simp only [List.length_cons] at ho
        rcases acc with _ | ⟨a, ar⟩
        · simp only [in68, fA, fH, fN, gA, gH, gN]
          delta p68_l0 p68_r9 p68_r10 p68_r11 p68_r12 p68_r13
          simp (disch := omega) [oLt, oLe, oLtN, oLeN, nLt, nLe, nLtN, nLeN, hm, hm16, hmc, hw, hT, hve2, hvk, h2]
          exact fin _ (.tot [6, 5, 8] (by simp [in68, fA, fH, fN, gA, gH, gN]))
        · simp only [List.length_cons] at h3
          simp only [in68, fA, fH, fN, gA, gH, gN]
          delta p68_l0 p68_r9 p68_r10 p68_r11 p68_r12 p68_r13
          simp (disch := omega) [oLt, oLe, oLtN, oLeN, nLt, nLe, nLtN, nLeN, hm, hm16, hmc, hw, hT, hve2, hvk, h2]
          exact fin _ (.tot [6, 5, 8] (by simp [in68, fA, fH, fN, gA, gH, gN]))
set_option maxHeartbeats 2000000 in
theorem cyc84_runs {C T : List Int} {n : Nat} (hC : t34 C = true) (hT : t34 T = true) (hn : C.getD 0 0 = n) (hg : okS (alongC T) n = true) :
    Runs Tryd.prog 68 0 [.agg (ints C), .fn (.func 84) [.agg (ints T)] []] (hpF []) (.il (lls (cyc (alongC T) n)) (cyc (alongC T) n).length false) 0 (hpF []) := by
  obtain ⟨h16, hs⟩ := okS_iff.1 hg
  have h34 : C.length = 34 := by simpa [t34] using hC
  have h0 : C[0]? = some (n : Int) := by
    rw [List.getElem?_eq_getElem (by omega)]
    simpa [List.getD_eq_getElem?_getD, h34] using hn
  have h0' : C[0] = (n : Int) := (List.getElem?_eq_some_iff.1 h0).2
  refine P68.rz (ss := [s84]) ⟨s84_ok, trivial⟩ (by simp) fun Q hQ => ?_
  delta p68 p68_r0 p68_r1 p68_r2 p68_r3
  simp (disch := omega) [oLt, oLe, oLtN, oLeN, nLt, nLe, nLtN, nLeN, h0, h0', h34]
  refine XZ_for (fun k : Nat => st68 (.fn (.func 84) [.agg (ints T)] []) n k (cycN (alongC T) k).1 (cycN (alongC T) k).2) (fun k => n - k) (fun k => k ≤ n) 0 (by simp) (.tot [6] (by simp [st68, cycN, fA, fH, fN])) ?_
  intro k hk N Q' hN hE
  obtain ⟨hMl, hol⟩ := cycN_len (alongC T) k
  rcases Nat.lt_or_ge k n with h | h
  · have hkc : (k : Int) < n := by omega
    have hk16 : (k : Int) < 16 := by omega
    have hk16' : k < 16 := by omega
    obtain ⟨-, L, hL⟩ := hs k h
    have hnext := cycN_succ (alongC T) k
    obtain ⟨b, hb⟩ : ∃ b, (cycN (alongC T) k).1[k]? = some b := ⟨(cycN (alongC T) k).1[k], by rw [List.getElem?_eq_getElem]⟩
    have hb' : (cycN (alongC T) k).1.getD k false = b := by simp [List.getD_eq_getElem?_getD, hb]
    unfold cycS at hnext
    rw [hb', hL] at hnext
    generalize hM : (cycN (alongC T) k).1 = M at *
    generalize ho : (cycN (alongC T) k).2 = out at *
    have hbe : M[k] = b := (List.getElem?_eq_some_iff.1 hb).2
    cases b with
    | true =>
      rw [if_pos rfl] at hnext
      have fin : ∀ s', ChgT 0 s' (st68 (.fn (.func 84) [.agg (ints T)] []) n ((k + 1 : Nat)) M out) → N s' := fun s' hh => hN s' (k + 1) (by omega) h (by rw [hnext, hM, ho]; exact hh)
      rcases out with _ | ⟨o, orr⟩
      · simp only [st68, fA, fH, fN]
        delta p68_l1 p68_r4 p68_r5 p68_r6 p68_r7 p68_r8
        simp (disch := omega) [oLt, oLe, oLtN, oLeN, nLt, nLe, nLtN, nLeN, hkc, hk16, hk16', hb, hbe, hMl]
        delta p68_r14
        simp (disch := omega) [oLt, oLe, oLtN, oLeN, nLt, nLe, nLtN, nLeN]
        exact fin _ (.tot [6] (by simp [st68, fA, fH, fN]))
      · simp only [st68, fA, fH, fN]
        delta p68_l1 p68_r4 p68_r5 p68_r6 p68_r7 p68_r8
        simp (disch := omega) [oLt, oLe, oLtN, oLeN, nLt, nLe, nLtN, nLeN, hkc, hk16, hk16', hb, hbe, hMl]
        delta p68_r14
        simp (disch := omega) [oLt, oLe, oLtN, oLeN, nLt, nLe, nLtN, nLeN]
        exact fin _ (.tot [6, 5] (by simp [st68, fA, fH, fN]))
    | false =>
      rw [if_neg (by simp)] at hnext
      simp only [Option.getD_some] at hnext
      have fin : ∀ s', ChgT 0 s' (st68 (.fn (.func 84) [.agg (ints T)] []) n ((k + 1 : Nat)) (setM M L) (out ++ [L])) → N s' := fun s' hh => hN s' (k + 1) (by omega) h (by rw [hnext]; exact hh)
      rcases out with _ | ⟨o, orr⟩
      · simp only [st68, fA, fH, fN]
        delta p68_l1 p68_r4 p68_r5 p68_r6 p68_r7 p68_r8
        simp (disch := omega) [oLt, oLe, oLtN, oLeN, nLt, nLe, nLtN, nLeN, hkc, hk16, hk16', hb, hbe, hMl]
        refine in68_ok84 (out := []) hT h16 (fun k hk => (hs k hk).1) h (by simp) hMl hL rfl (.tot [6] (by simp [in68, fA, fH, fN, gA, gH, gN])) ?_
        simp only [inBE, thenE, if_true, st68, fA, fH, fN, List.nil_append]
        delta p68_r14
        simp (disch := omega) [oLt, oLe, oLtN, oLeN, nLt, nLe, nLtN, nLeN]
        exact fin _ (.tot [6, 5] (by simp [st68, fA, fH, fN]))
      · simp only [st68, fA, fH, fN]
        delta p68_l1 p68_r4 p68_r5 p68_r6 p68_r7 p68_r8
        simp (disch := omega) [oLt, oLe, oLtN, oLeN, nLt, nLe, nLtN, nLeN, hkc, hk16, hk16', hb, hbe, hMl]
        refine in68_ok84 (out := o :: orr) hT h16 (fun k hk => (hs k hk).1) h (by simp at hol ⊢; omega) hMl hL rfl (.tot [6, 5] (by simp [in68, fA, fH, fN, gA, gH, gN])) ?_
        simp only [inBE, thenE, if_true, st68, fA, fH, fN, List.cons_append]
        delta p68_r14
        simp (disch := omega) [oLt, oLe, oLtN, oLeN, nLt, nLe, nLtN, nLeN]
        exact fin _ (.tot [6, 5] (by simp [st68, fA, fH, fN]))
  · have hkc : ¬ (k : Int) < n := by omega
    obtain rfl : k = n := by omega
    have hcyc : (cycN (alongC T) k).2 = cyc (alongC T) k := rfl
    generalize (cycN (alongC T) k).1 = M at *
    rw [hcyc]
    clear hcyc
    generalize cyc (alongC T) k = out at *
    rcases out with _ | ⟨o, orr⟩
    · simp only [st68, fA, fH, fN]
      delta p68_l1 p68_r4 p68_r5 p68_r6 p68_r7 p68_r8
      simp (disch := omega) [oLt, oLe, oLtN, oLeN, nLt, nLe, nLtN, nLeN, hkc]
      refine hE _ _ _ .refl ?_
      delta p68_r15
      simp (disch := omega) [oLt, oLe, oLtN, oLeN, nLt, nLe, nLtN, nLeN]
      exact hQ _ _ (.fz [4] _ (.inl rfl) (by simp; rfl) (by simp) (by simp))
    · simp only [st68, fA, fH, fN]
      delta p68_l1 p68_r4 p68_r5 p68_r6 p68_r7 p68_r8
      simp (disch := omega) [oLt, oLe, oLtN, oLeN, nLt, nLe, nLtN, nLeN, hkc]
      refine hE _ _ _ .refl ?_
      delta p68_r15
      simp (disch := omega) [oLt, oLe, oLtN, oLeN, nLt, nLe, nLtN, nLeN]
      exact hQ _ _ (.fz [4] _ (.inl rfl) (by simp; rfl) (by simp) (by simp))
end Go.Sx.Ch
end
section
set_option linter.unusedVariables false
set_option linter.unusedSimpArgs false
set_option maxRecDepth 4000
namespace Go.Sx.Ch
open Go Go.Sx Go.Proofs
set_option maxHeartbeats 2000000 in
theorem in68_ok69 {T : List Int} {n k : Nat} {out : List (List Int)} {L : List Int} {M' : List Bool} {s0 : ST} {Q : Exit → ST → Prop} (hT : T.length = 16) (hn : n ≤ 16) (hs : ∀ k : Nat, k < n → 0 ≤ backC T k ∧ backC T k ≤ n - 1) (hk : k < n) (ho : out.length ≤ 16)
    {M : List Bool} (hM : M.length = 16) (hL : orb (backC T) k 16 k = some L) (hM' : setM M L = M') (hs0 : ChgT 0 s0 (in68 (.fn (.func 69) [] [.elt (ints T) 0]) n k M out k []))
    (hQ : Q (.exit 1000001) (st68 (.fn (.func 69) [] [.elt (ints T) 0]) n k M' (out ++ [L]))) : XZ (rZ (spc [s69])) 0 (.loop p68_l0) s0 Q := by
  refine XZ_for (fun p : Nat × Int × List Int × List Bool => in68 (.fn (.func 69) [] [.elt (ints T) 0]) n k p.2.2.2 out p.2.1 p.2.2.1) (fun p => p.1)
    (fun p => 0 ≤ p.2.1 ∧ p.2.1 ≤ n - 1 ∧ p.2.2.2.length = 16 ∧ p.2.2.1.length + p.1 ≤ 16 ∧ ∃ r, orb (backC T) k p.1 p.2.1 = some r ∧ p.2.2.1 ++ r = L ∧ setM p.2.2.2 r = M') (16, k, [], M) ⟨by simp, by simp only; omega, hM, by simp, L, hL, by simp, hM'⟩ hs0 ?_
  rintro ⟨f, e, acc, M1⟩ ⟨h0, h1, h2, h3, r, hr, hacc, hset⟩ N Q' hN hE
  simp only at h0 h1 h2 h3 hr hacc hset ⊢
  cases f with
  | zero => cases hr
  | succ f =>
    obtain ⟨m, rfl⟩ := Int.eq_ofNat_of_zero_le h0
    have hm : m < n := by omega
    have hm16 : m < 16 := by omega
    have hmc : (m : Int) < 16 := by omega
    have hw : within 0 (m : Int) 15 = true := within_iff.2 ⟨by omega, by omega⟩
    have hv := hs m hm
    simp only [orb] at hr
    obtain ⟨v, hve⟩ : ∃ v, backC T m = v := ⟨_, rfl⟩
    have hve2 : T[m]? = some v := by rw [← hve]; simp [backC, List.getD_eq_getElem?_getD, hT, hm16]
    have hve3 : T[m] = v := (List.getElem?_eq_some_iff.1 hve2).2
    rw [hve] at hr hv
    by_cases hvk : v = k
    · rw [if_pos hvk] at hr
      cases hr
      have hvk' : ¬ v ≠ k := fun h => h hvk
      subst hacc
      rw [setM_cons, Int.toNat_natCast] at hset
      simp only [setM, List.foldl_nil] at hset
      subst hset
      rcases out with _ | ⟨o, orr⟩
      · rcases acc with _ | ⟨a, ar⟩
        · simp only [in68, fA, fH, fN, gA, gH, gN]
          delta p68_l0 p68_r9 p68_r10 p68_r11 p68_r12 p68_r13
          simp (disch := omega) [oLt, oLe, oLtN, oLeN, nLt, nLe, nLtN, nLeN, hm, hm16, hmc, hw, hT, hve2, hve3, hvk, h2]
          exact hE _ _ _ (.frz 7 (by simp; rfl) (by simp) (.tot [6, 5] (by simp [st68, fA, fH, fN]))) hQ
        · simp only [List.length_cons] at h3
          simp only [in68, fA, fH, fN, gA, gH, gN]
          delta p68_l0 p68_r9 p68_r10 p68_r11 p68_r12 p68_r13
          simp (disch := omega) [oLt, oLe, oLtN, oLeN, nLt, nLe, nLtN, nLeN, hm, hm16, hmc, hw, hT, hve2, hve3, hvk, h2]
          exact hE _ _ _ (.frz 8 (by simp; rfl) (by simp) (.tot [6, 5] (by simp [st68, fA, fH, fN]))) hQ
      · rcases acc with _ | ⟨a, ar⟩
        · simp only [List.length_cons] at ho
          simp only [in68, fA, fH, fN, gA, gH, gN]
          delta p68_l0 p68_r9 p68_r10 p68_r11 p68_r12 p68_r13
          simp (disch := omega) [oLt, oLe, oLtN, oLeN, nLt, nLe, nLtN, nLeN, hm, hm16, hmc, hw, hT, hve2, hve3, hvk, h2, ho]
          exact hE _ _ _ (.frz 8 (by simp; rfl) (by simp) (.tot [6, 5] (by simp [st68, fA, fH, fN]))) hQ
        · simp only [List.length_cons] at ho h3
          simp only [in68, fA, fH, fN, gA, gH, gN]
          delta p68_l0 p68_r9 p68_r10 p68_r11 p68_r12 p68_r13
          simp (disch := omega) [oLt, oLe, oLtN, oLeN, nLt, nLe, nLtN, nLeN, hm, hm16, hmc, hw, hT, hve2, hve3, hvk, h2, ho]
          exact hE _ _ _ (.frz 9 (by simp; rfl) (by simp) (.tot [6, 5] (by simp [st68, fA, fH, fN]))) hQ
    · rw [if_neg hvk] at hr
      obtain ⟨r', hr', rfl⟩ : ∃ r', orb (backC T) k f v = some r' ∧ r = (m : Int) :: r' := by
        obtain ⟨r', h, e⟩ := Option.map_eq_some_iff.1 hr; exact ⟨r', h, e.symm⟩
      rw [setM_cons, Int.toNat_natCast] at hset
      have fin : ∀ s', ChgT 0 s' (in68 (.fn (.func 69) [] [.elt (ints T) 0]) n k (M1.set m true) out v (acc ++ [(m : Int)])) → N s' := fun s' hh =>
        hN s' (f, v, acc ++ [(m : Int)], M1.set m true) (Nat.lt_succ_self f) ⟨hv.1, hv.2, by simp [h2], by simp; omega, r', hr', by simp [hacc], hset⟩ hh
      clear hN
      rcases out with _ | ⟨o, orr⟩
      · rcases acc with _ | ⟨a, ar⟩
        · simp only [in68, fA, fH, fN, gA, gH, gN]
          delta p68_l0 p68_r9 p68_r10 p68_r11 p68_r12 p68_r13
          simp (disch := omega) [oLt, oLe, oLtN, oLeN, nLt, nLe, nLtN, nLeN, hm, hm16, hmc, hw, hT, hve2, hve3, hvk, h2]
          exact fin _ (.tot [6, 8] (by simp [in68, fA, fH, fN, gA, gH, gN]))
        · simp only [List.length_cons] at h3
          simp only [in68, fA, fH, fN, gA, gH, gN]
          delta p68_l0 p68_r9 p68_r10 p68_r11 p68_r12 p68_r13
          simp (disch := omega) [oLt, oLe, oLtN, oLeN, nLt, nLe, nLtN, nLeN, hm, hm16, hmc, hw, hT, hve2, hve3, hvk, h2]
          exact fin _ (.tot [6, 8] (by simp [in68, fA, fH, fN, gA, gH, gN]))
      · simp only [List.length_cons] at ho
        rcases acc with _ | ⟨a, ar⟩
        · simp only [in68, fA, fH, fN, gA, gH, gN]
          delta p68_l0 p68_r9 p68_r10 p68_r11 p68_r12 p68_r13
          simp (disch := omega) [oLt, oLe, oLtN, oLeN, nLt, nLe, nLtN, nLeN, hm, hm16, hmc, hw, hT, hve2, hve3, hvk, h2]
          exact fin _ (.tot [6, 5, 8] (by simp [in68, fA, fH, fN, gA, gH, gN]))
        · simp only [List.length_cons] at h3
          simp only [in68, fA, fH, fN, gA, gH, gN]
          delta p68_l0 p68_r9 p68_r10 p68_r11 p68_r12 p68_r13
          simp (disch := omega) [oLt, oLe, oLtN, oLeN, nLt, nLe, nLtN, nLeN, hm, hm16, hmc, hw, hT, hve2, hve3, hvk, h2]
          exact fin _ (.tot [6, 5, 8] (by simp [in68, fA, fH, fN, gA, gH, gN]))
set_option maxHeartbeats 2000000 in
theorem cyc69_runs {C T : List Int} {n : Nat} (hC : t34 C = true) (hT : T.length = 16) (hn : C.getD 0 0 = n) (hg : okS (backC T) n = true) :
    Runs Tryd.prog 68 0 [.agg (ints C), .fn (.func 69) [] [.elt (ints T) 0]] (hpF []) (.il (lls (cyc (backC T) n)) (cyc (backC T) n).length false) 0 (hpF []) := by
  obtain ⟨h16, hs⟩ := okS_iff.1 hg
  have h34 : C.length = 34 := by simpa [t34] using hC
  have h0 : C[0]? = some (n : Int) := by
    rw [List.getElem?_eq_getElem (by omega)]
    simpa [List.getD_eq_getElem?_getD, h34] using hn
  have h0' : C[0] = (n : Int) := (List.getElem?_eq_some_iff.1 h0).2
  refine P68.rz (ss := [s69]) ⟨s69_ok, trivial⟩ (by simp) fun Q hQ => ?_
  delta p68 p68_r0 p68_r1 p68_r2 p68_r3
  simp (disch := omega) [oLt, oLe, oLtN, oLeN, nLt, nLe, nLtN, nLeN, h0, h0', h34]
  refine XZ_for (fun k : Nat => st68 (.fn (.func 69) [] [.elt (ints T) 0]) n k (cycN (backC T) k).1 (cycN (backC T) k).2) (fun k => n - k) (fun k => k ≤ n) 0 (by simp) (.tot [6] (by simp [st68, cycN, fA, fH, fN])) ?_
  intro k hk N Q' hN hE
  obtain ⟨hMl, hol⟩ := cycN_len (backC T) k
  rcases Nat.lt_or_ge k n with h | h
  · have hkc : (k : Int) < n := by omega
    have hk16 : (k : Int) < 16 := by omega
    have hk16' : k < 16 := by omega
    obtain ⟨-, L, hL⟩ := hs k h
    have hnext := cycN_succ (backC T) k
    obtain ⟨b, hb⟩ : ∃ b, (cycN (backC T) k).1[k]? = some b := ⟨(cycN (backC T) k).1[k], by rw [List.getElem?_eq_getElem]⟩
    have hb' : (cycN (backC T) k).1.getD k false = b := by simp [List.getD_eq_getElem?_getD, hb]
    unfold cycS at hnext
    rw [hb', hL] at hnext
    generalize hM : (cycN (backC T) k).1 = M at *
    generalize ho : (cycN (backC T) k).2 = out at *
    have hbe : M[k] = b := (List.getElem?_eq_some_iff.1 hb).2
    cases b with
    | true =>
      rw [if_pos rfl] at hnext
      have fin : ∀ s', ChgT 0 s' (st68 (.fn (.func 69) [] [.elt (ints T) 0]) n ((k + 1 : Nat)) M out) → N s' := fun s' hh => hN s' (k + 1) (by omega) h (by rw [hnext, hM, ho]; exact hh)
      rcases out with _ | ⟨o, orr⟩
      · simp only [st68, fA, fH, fN]
        delta p68_l1 p68_r4 p68_r5 p68_r6 p68_r7 p68_r8
        simp (disch := omega) [oLt, oLe, oLtN, oLeN, nLt, nLe, nLtN, nLeN, hkc, hk16, hk16', hb, hbe, hMl]
        delta p68_r14
        simp (disch := omega) [oLt, oLe, oLtN, oLeN, nLt, nLe, nLtN, nLeN]
        exact fin _ (.tot [6] (by simp [st68, fA, fH, fN]))
      · simp only [st68, fA, fH, fN]
        delta p68_l1 p68_r4 p68_r5 p68_r6 p68_r7 p68_r8
        simp (disch := omega) [oLt, oLe, oLtN, oLeN, nLt, nLe, nLtN, nLeN, hkc, hk16, hk16', hb, hbe, hMl]
        delta p68_r14
        simp (disch := omega) [oLt, oLe, oLtN, oLeN, nLt, nLe, nLtN, nLeN]
        exact fin _ (.tot [6, 5] (by simp [st68, fA, fH, fN]))
    | false =>
      rw [if_neg (by simp)] at hnext
      simp only [Option.getD_some] at hnext
      have fin : ∀ s', ChgT 0 s' (st68 (.fn (.func 69) [] [.elt (ints T) 0]) n ((k + 1 : Nat)) (setM M L) (out ++ [L])) → N s' := fun s' hh => hN s' (k + 1) (by omega) h (by rw [hnext]; exact hh)
      rcases out with _ | ⟨o, orr⟩
      · simp only [st68, fA, fH, fN]
        delta p68_l1 p68_r4 p68_r5 p68_r6 p68_r7 p68_r8
        simp (disch := omega) [oLt, oLe, oLtN, oLeN, nLt, nLe, nLtN, nLeN, hkc, hk16, hk16', hb, hbe, hMl]
        refine in68_ok69 (out := []) hT h16 (fun k hk => (hs k hk).1) h (by simp) hMl hL rfl (.tot [6] (by simp [in68, fA, fH, fN, gA, gH, gN])) ?_
        simp only [inBE, thenE, if_true, st68, fA, fH, fN, List.nil_append]
        delta p68_r14
        simp (disch := omega) [oLt, oLe, oLtN, oLeN, nLt, nLe, nLtN, nLeN]
        exact fin _ (.tot [6, 5] (by simp [st68, fA, fH, fN]))
      · simp only [st68, fA, fH, fN]
        delta p68_l1 p68_r4 p68_r5 p68_r6 p68_r7 p68_r8
        simp (disch := omega) [oLt, oLe, oLtN, oLeN, nLt, nLe, nLtN, nLeN, hkc, hk16, hk16', hb, hbe, hMl]
        refine in68_ok69 (out := o :: orr) hT h16 (fun k hk => (hs k hk).1) h (by simp at hol ⊢; omega) hMl hL rfl (.tot [6, 5] (by simp [in68, fA, fH, fN, gA, gH, gN])) ?_
        simp only [inBE, thenE, if_true, st68, fA, fH, fN, List.cons_append]
        delta p68_r14
        simp (disch := omega) [oLt, oLe, oLtN, oLeN, nLt, nLe, nLtN, nLeN]
        exact fin _ (.tot [6, 5] (by simp [st68, fA, fH, fN]))
  · have hkc : ¬ (k : Int) < n := by omega
    obtain rfl : k = n := by omega
    have hcyc : (cycN (backC T) k).2 = cyc (backC T) k := rfl
    generalize (cycN (backC T) k).1 = M at *
    rw [hcyc]
    clear hcyc
    generalize cyc (backC T) k = out at *
    rcases out with _ | ⟨o, orr⟩
    · simp only [st68, fA, fH, fN]
      delta p68_l1 p68_r4 p68_r5 p68_r6 p68_r7 p68_r8
      simp (disch := omega) [oLt, oLe, oLtN, oLeN, nLt, nLe, nLtN, nLeN, hkc]
      refine hE _ _ _ .refl ?_
      delta p68_r15
      simp (disch := omega) [oLt, oLe, oLtN, oLeN, nLt, nLe, nLtN, nLeN]
      exact hQ _ _ (.fz [4] _ (.inl rfl) (by simp; rfl) (by simp) (by simp))
    · simp only [st68, fA, fH, fN]
      delta p68_l1 p68_r4 p68_r5 p68_r6 p68_r7 p68_r8
      simp (disch := omega) [oLt, oLe, oLtN, oLeN, nLt, nLe, nLtN, nLeN, hkc]
      refine hE _ _ _ .refl ?_
      delta p68_r15
      simp (disch := omega) [oLt, oLe, oLtN, oLeN, nLt, nLe, nLtN, nLeN]
      exact hQ _ _ (.fz [4] _ (.inl rfl) (by simp; rfl) (by simp) (by simp))
end Go.Sx.Ch
end
section
set_option linter.unusedVariables false
set_option linter.unusedSimpArgs false
namespace Go.Sx.Ch
open Go Go.Sx Go.Proofs
/-- Where a step leads. -/
def stepOf : AV → Option (Int → Int)
  | .fn (.func g) [.agg c] [] => match unints c with
    | some T => if t34 T then (if g = 71 then some (afterC T) else if g = 84 then some (alongC T) else none) else none
    | none => none
  | .fn (.func g) [] [.elt c 0] => match unints c with
    | some T => if T.length = 16 then (if g = 69 then some (backC T) else none) else none
    | none => none
  | _ => none
@[simp] theorem stepOf_71 (T : List Int) : stepOf (.fn (.func 71) [.agg (ints T)] []) = if t34 T then some (afterC T) else none := by simp [stepOf]
@[simp] theorem stepOf_84 (T : List Int) : stepOf (.fn (.func 84) [.agg (ints T)] []) = if t34 T then some (alongC T) else none := by simp [stepOf]
@[simp] theorem stepOf_69 (T : List Int) : stepOf (.fn (.func 69) [] [.elt (ints T) 0]) = if T.length = 16 then some (backC T) else none := by simp [stepOf]
theorem stepOf_inv {f : AV} {σ : Int → Int} (h : stepOf f = some σ) : (∃ T, t34 T = true ∧ f = .fn (.func 71) [.agg (ints T)] [] ∧ σ = afterC T) ∨ (∃ T, t34 T = true ∧ f = .fn (.func 84) [.agg (ints T)] [] ∧ σ = alongC T) ∨
    ∃ T : List Int, T.length = 16 ∧ f = .fn (.func 69) [] [.elt (ints T) 0] ∧ σ = backC T := by
  unfold stepOf at h
  split at h
  · split at h
    · rename_i T hT
      split at h
      · rename_i ht
        split at h
        · rename_i hg; cases h; exact .inl ⟨T, ht, by rw [hg, unints_inv hT], rfl⟩
        · split at h
          · rename_i hg; cases h; exact .inr (.inl ⟨T, ht, by rw [hg, unints_inv hT], rfl⟩)
          · cases h
      · cases h
    · cases h
  · split at h
    · rename_i T hT
      split at h
      · rename_i ht
        split at h
        · rename_i hg; cases h; exact .inr (.inr ⟨T, ht, by rw [hg, unints_inv hT], rfl⟩)
        · cases h
      · cases h
    · cases h
  · cases h
/-- The number of ends of a table. -/
def cycF (C : List Int) (f : AV) : Out3 := match stepOf f with
  | some σ => res (t34 C && decide (0 ≤ endsC C) && okS σ (endsC C).toNat) (.il (lls (cyc σ (endsC C).toNat)) (cyc σ (endsC C).toNat).length false)
  | none => none
def s68 : Sp := spT 68 [.tb, .av] cycF
@[simp] theorem s68_g : s68.g = 68 := rfl
@[simp] theorem s68_f : s68.f = (spT 68 [.tb, .av] cycF).f := rfl
theorem s68_ok : s68.ok Tryd.prog := by
  apply spT_ok
  simp only [OkT, Ty.all, List.nil_append, List.cons_append]
  intro (C : List Int) (f : AV) r h' k' hh
  unfold cycF at hh
  split at hh
  · rename_i σ hs
    obtain ⟨hg, rfl, rfl, rfl⟩ := res_inv hh
    simp only [Bool.and_eq_true, decide_eq_true_eq] at hg
    obtain ⟨⟨h34, h0⟩, hok⟩ := hg
    have hn : C.getD 0 0 = ((endsC C).toNat : Int) := by show endsC C = _; omega
    rcases stepOf_inv hs with ⟨T, hT, rfl, rfl⟩ | ⟨T, hT, rfl, rfl⟩ | ⟨T, hT, rfl, rfl⟩
    · simpa only [hp_eq] using cyc71_runs h34 hT hn hok
    · simpa only [hp_eq] using cyc84_runs h34 hT hn hok
    · simpa only [hp_eq] using cyc69_runs h34 hT hn hok
  · cases hh
end Go.Sx.Ch
end
section
set_option linter.unusedVariables false
set_option linter.unusedSimpArgs false
set_option maxRecDepth 4000
namespace Go.Sx.Ch
open Go Go.Sx Go.Proofs
theorem tab_ends {L : List (List Int)} (h : chk L = 0) (hs : smM L = true) : (tabF L).length = 34 ∧ endsC (tabF L) = total L := by
  have hg := chk_g70 h hs
  simp only [g70, Bool.and_eq_true] at hg
  obtain ⟨h1, h2, -⟩ := tabF_facts hg.1.1
  exact ⟨h1, h2⟩
def nilA : AV := .agg [.v (.slice none 0 0)]
def faceL (L : List (List Int)) : List (List Int) := if chk L = 0 then cyc (alongC (tabF L)) (total L) else []
def facV (L : List (List Int)) : AV := .tup [.il (lls (faceL L)) (faceL L).length false, vI (chk L)]
def g33 (L : List (List Int)) : Bool := smM L && (decide (¬ chk L = 0) || okS (alongC (tabF L)) (total L))
set_option maxHeartbeats 2000000
def s33 : Sp := spT 33 [.mp] fun (L : List (List Int)) => res (g33 L) (facV L)
@[simp] theorem s33_g : s33.g = 33 := rfl
@[simp] theorem s33_f : s33.f = (spT 33 [.mp] fun (L : List (List Int)) => res (g33 L) (facV L)).f := rfl
theorem s33_ok : s33.ok Tryd.prog := by
  apply spT_ok
  simp only [OkT, Ty.all, List.nil_append, List.cons_append]
  intro (L : List (List Int)) u
  apply okT_res; intro hg
  refine P33.rz (ss := [s67, s68]) ⟨s67_ok, s68_ok, trivial⟩ (by simp) fun Q hQ => ?_
  delta p33 p33_r0 p33_r1 p33_r2 p33_r3 p33_r4
  simp only [g33, Bool.and_eq_true, Bool.or_eq_true, decide_eq_true_eq] at hg
  obtain ⟨hs, hg⟩ := hg
  by_cases hc : chk L = 0
  · obtain ⟨h34, he⟩ := tab_ends hc hs
    have hok : okS (alongC (tabF L)) (total L) = true := hg.resolve_left (fun h => h hc)
    have hT : t34 (tabF L) = true := by simp [t34, h34]
    have hen : endsC (tabF L) = ((total L : Nat) : Int) := he
    have ht : (tabF L).take 34 = tabF L := List.take_of_length_le (by omega)
    have hv : openV L = .tup [.agg (ints (tabF L)), vI 0] := by unfold openV; rw [hc]; rfl
    have hsp : splice (ints Z34) 0 (ints (tabF L)) = ints (tabF L) := splice_all (by simp [h34, z34_len])
    have hF : cyc (alongC (tabF L)) (total L) = faceL L := by unfold faceL; rw [if_pos hc]
    have hr : facV L = .tup [.il (lls (faceL L)) (faceL L).length false, vI 0] := by unfold facV; rw [hc]
    have hcy : cycF (tabF L) (.fn (.func 84) [.agg (ints (tabF L))] []) = res true (.il (lls (faceL L)) (faceL L).length false) := by
      unfold cycF; simp only [stepOf_84, hT, if_true, hen, Int.toNat_natCast, hok, hF, Bool.and_true, Bool.true_and]
      rw [decide_eq_true (by omega)]
    generalize faceL L = F at *
    generalize tabF L = C at *
    rw [hr] at hQ
    simp (disch := omega) [oLt, oLe, oLtN, oLeN, nLt, nLe, nLtN, nLeN, hs, hv, zl, hsp, h34, z34_len, ht, hcy, effMkfn]
    exact hQ _ _ (.fz [2, 3] _ (.inl rfl) (by simp; rfl) (by simp) (by simp))
  · have hv : openV L = .tup [.agg (ints Z34), vI (chk L)] := by unfold openV; rw [if_neg hc]
    have hr : facV L = .tup [.il [] 0 false, vI (chk L)] := by unfold facV faceL; rw [if_neg hc]; rfl
    rw [hr] at hQ
    generalize chk L = c at *
    simp (disch := omega) [oLt, oLe, oLtN, oLeN, nLt, nLe, nLtN, nLeN, hs, hv, zl, zz, z34_len, hc]
    exact hQ _ _ (.fz [2, 3] _ (.inl rfl) (by simp; rfl) (by simp) (by simp))
end Go.Sx.Ch
end
section
set_option linter.unusedVariables false
set_option linter.unusedSimpArgs false
namespace Go.Sx.Ch
open Go Go.Sx Go.Proofs
theorem Prm.congr {σ τ : Int → Int} {n : Nat} (h : Prm σ n) (e : ∀ m : Nat, m < n → τ m = σ m) : Prm τ n :=
  ⟨fun k hk => by rw [e k hk]; exact h.rng k hk, fun i j hi hj hh => h.inj i j hi hj (by rw [← e i hi, ← e j hj]; exact hh)⟩
theorem Cov.along {G n} (h : Cov G n) (hn : n % 2 = 0) : Prm (alongC (tabF G)) n := by
  have e : ∀ m : Nat, m < n → alongC (tabF G) m = afterC (tabF G) (onat m : Int) := fun m hm => by
    have := h.le
    unfold alongC; rw [oth_onat m (by omega)]
  refine ⟨fun k hk => ?_, fun i j hi hj hh => ?_⟩
  · rw [e k hk]; exact h.prm.rng _ (onat_lt hn hk)
  · rw [e i hi, e j hj] at hh
    exact onat_inj (h.prm.inj _ _ (onat_lt hn hi) (onat_lt hn hj) hh)
theorem g33_ok {L : List (List Int)} (hs : smM L = true) : g33 L = true := by
  simp only [g33, Bool.and_eq_true, Bool.or_eq_true, decide_eq_true_eq]
  refine ⟨hs, ?_⟩
  by_cases hc : chk L = 0
  · obtain ⟨h16, -, hev⟩ := chk_zero hc
    exact .inr (((chk_cov hc).along hev).ok h16)
  · exact .inl hc
end Go.Sx.Ch
end
section
set_option linter.unusedVariables false
set_option linter.unusedSimpArgs false
set_option maxRecDepth 4000
namespace Go.Sx.Ch
open Go Go.Sx Go.Proofs
theorem idxR_mem {x : Int} : ∀ {l : List Int} {i : Int}, 0 ≤ i → (0 ≤ idxR x l i ↔ x ∈ l)
  | [], i, h => by simp [idxR]
  | y :: r, i, h => by
    simp only [idxR]
    split
    · rename_i e; simp [e, h]
    · rename_i e
      have e' : ¬ x = y := fun h => e h.symm
      rw [idxR_mem (show 0 ≤ i + 1 by omega)]; simp [e']
theorem idxL_mem {l : List Int} {x : Int} : 0 ≤ idxL l x ↔ x ∈ l := idxR_mem (by decide)
theorem ptR_mem {x : Int} : ∀ {L : List (List Int)} {i : Int}, 0 ≤ i → (0 ≤ ptR x L i ↔ x ∈ L.flatten)
  | [], i, h => by simp [ptR]
  | l :: L, i, h => by
    simp only [ptR, List.flatten_cons, List.mem_append]
    split
    · rename_i e; simp [h, idxL_mem.1 e]
    · rename_i e
      rw [ptR_mem (show 0 ≤ i + 1 by omega)]
      have : ¬ x ∈ l := fun h => e (idxL_mem.2 h)
      simp [this]
end Go.Sx.Ch
end
section
set_option linter.unusedVariables false
set_option linter.unusedSimpArgs false
set_option maxRecDepth 4000
namespace Go.Sx.Ch
open Go Go.Sx Go.Proofs
def bstI (l : List Int) (b i : Nat) : Nat := if l.getD i 0 < l.getD b 0 then i else b
/-- Where the smallest number of the first so many stands. -/
def bstN (l : List Int) (n : Nat) : Nat := (List.range n).foldl (bstI l) 0
theorem bstN_succ (l : List Int) (n : Nat) : bstN l (n + 1) = bstI l (bstN l n) n := by simp [bstN, List.range_succ, List.foldl_append]
theorem bstN_lt (l : List Int) (n : Nat) : bstN l (n + 1) ≤ n := by
  induction n with
  | zero => rw [bstN_succ]; unfold bstI; split <;> simp [bstN]
  | succ n ih => rw [bstN_succ]; unfold bstI; split <;> omega
def leastF (l : List Int) : List Int := l.drop (bstN l l.length) ++ l.take (bstN l l.length)
set_option maxHeartbeats 2000000
end Go.Sx.Ch
end
section
set_option linter.unusedVariables false
set_option linter.unusedSimpArgs false
set_option maxRecDepth 4000
namespace Go.Sx.Ch
open Go Go.Sx Go.Proofs
theorem bstN_le (l : List Int) : bstN l l.length ≤ l.length := by
  cases h : l.length with
  | zero => simp [bstN]
  | succ m => have := bstN_lt l m; omega
theorem leastF_len (l : List Int) : (leastF l).length = l.length := by
  have := bstN_le l
  simp [leastF]; omega
/-- One list, where it begins with e when it is told from its smallest number on. -/
def tidI (e : Nat) (acc : List (List Int)) (l : List Int) : List (List Int) := if ¬ l.length = 0 ∧ (leastF l).getD 0 0 = e then acc ++ [leastF l] else acc
def tidE (G : List (List Int)) (acc : List (List Int)) (e : Nat) : List (List Int) := G.foldl (tidI e) acc
def tidyF (G : List (List Int)) (n : Nat) : List (List Int) := (List.range n).foldl (tidE G) []
theorem tidyF_succ (G : List (List Int)) (n : Nat) : tidyF G (n + 1) = tidE G (tidyF G n) n := by simp [tidyF, List.range_succ, List.foldl_append]
set_option maxHeartbeats 1000000
end Go.Sx.Ch
end
section
set_option linter.unusedVariables false
set_option linter.unusedSimpArgs false
set_option maxRecDepth 4000
namespace Go.Sx.Ch
open Go Go.Sx Go.Proofs
def facS (σ : Int → Int) (s : List Int × List (List Int)) (k : Nat) : List Int × List (List Int) :=
  if (k : Int) ∈ s.1 then s else (s.1 ++ (orb σ k 16 k).getD [], s.2 ++ [(orb σ k 16 k).getD []])
def facN (σ : Int → Int) (n : Nat) : List Int × List (List Int) := (List.range n).foldl (facS σ) ([], [])
theorem facN_succ (σ : Int → Int) (n : Nat) : facN σ (n + 1) = facS σ (facN σ n) n := by simp [facN, List.range_succ, List.foldl_append]
set_option maxHeartbeats 1000000
end Go.Sx.Ch
end
section
set_option linter.unusedVariables false
set_option linter.unusedSimpArgs false
namespace Go.Sx.Ch
open Go Go.Sx Go.Proofs
theorem Cov.ptL {G n} (h : Cov G n) {m : Nat} (hm : m < n) : 0 ≤ Go.Sx.Ch.ptL G m := (ptR_mem (by decide)).2 (h.cover hm)
theorem Cov.look {G n} (h : Cov G n) {m : Nat} (hm : m < n) : afterR G m = afterC (tabF G) m := by
  obtain ⟨k, l, h1, h2, h3⟩ := ptL_at (h.ptL hm)
  obtain ⟨j, j1, j2, j3⟩ := idxL_at h3
  have hl := List.mem_of_getElem? h1
  have e : G.getD (Go.Sx.Ch.ptL G m).toNat [] = l := by rw [h2, Int.toNat_natCast, List.getD_eq_getElem?_getD, h1]; rfl
  have hmod : (((j : Int) + 1) % (l.length : Int)).toNat = (j + 1) % l.length := by
    have : ((j : Int) + 1) % (l.length : Int) = (((j + 1) % l.length : Nat) : Int) := by rw [Int.natCast_emod]; rfl
    rw [this, Int.toNat_natCast]
  rw [h.after hl j1 j3]
  unfold afterR
  rw [e, j2, hmod]
end Go.Sx.Ch
end
section
set_option linter.unusedVariables false
set_option linter.unusedSimpArgs false
namespace Go.Sx.Ch
open Go Go.Sx Go.Proofs
theorem orb_in {σ : Int → Int} {n : Nat} (h : Prm σ n) {a : Int} : ∀ {f m : Nat} {l : List Int}, m < n → orb σ a f m = some l → ∀ x ∈ l, 0 ≤ x ∧ x < n
  | 0, m, l, _, hl => by cases hl
  | f + 1, m, l, hm, hl => by
    simp only [orb] at hl
    split at hl
    · cases hl
      intro x hx
      simp at hx; omega
    · obtain ⟨r, hr, rfl⟩ := Option.map_eq_some_iff.1 hl
      obtain ⟨h0, h1⟩ := h.rng m hm
      obtain ⟨q, hq⟩ := Int.eq_ofNat_of_zero_le h0
      rw [hq] at hr
      intro x hx
      rcases List.mem_cons.1 hx with rfl | hx
      · omega
      · exact orb_in h (by omega) hr x hx
theorem setM_get {m : Nat} : ∀ {l : List Int} {M : List Bool} {b : Bool}, (∀ x ∈ l, 0 ≤ x) → M[m]? = some b → (setM M l)[m]? = some (b || decide ((m : Int) ∈ l))
  | [], M, b, _, h => by simpa [setM] using h
  | x :: l, M, b, hx, h => by
    rw [setM_cons]
    have hm := (List.getElem?_eq_some_iff.1 h).1
    have h0 := hx x List.mem_cons_self
    have h1 : (M.set x.toNat true)[m]? = some (b || decide ((m : Int) = x)) := by
      rw [List.getElem?_set]
      by_cases e : x.toNat = m
      · have : (m : Int) = x := by omega
        simp [e, hm, this]
      · have : ¬ (m : Int) = x := by omega
        rw [if_neg e, h]; simp [this]
    rw [setM_get (fun y hy => hx y (List.mem_cons_of_mem _ hy)) h1]
    simp [Bool.or_assoc]
theorem cyc_fac {σ : Int → Int} {n : Nat} (h : Prm σ n) (hn : n ≤ 16) : ∀ k, k ≤ n → (cycN σ k).2 = (facN σ k).2 ∧ ∀ m : Nat, m < 16 → (cycN σ k).1[m]? = some (decide ((m : Int) ∈ (facN σ k).1))
  | 0, _ => ⟨rfl, fun m hm => by rw [show (cycN σ 0).1 = List.replicate 16 false from rfl, List.getElem?_replicate, if_pos hm]; simp [facN]⟩
  | k + 1, hk => by
    obtain ⟨h1, h2⟩ := cyc_fac h hn k (by omega)
    rw [cycN_succ, facN_succ]
    have hb : (cycN σ k).1.getD k false = decide ((k : Int) ∈ (facN σ k).1) := by rw [List.getD_eq_getElem?_getD, h2 k (by omega)]; rfl
    unfold cycS facS
    rw [hb]
    by_cases hmem : (k : Int) ∈ (facN σ k).1
    · rw [if_pos (by simp [hmem]), if_pos hmem]; exact ⟨h1, h2⟩
    · rw [if_neg (by simp [hmem]), if_neg hmem]
      obtain ⟨-, l, hl⟩ := (okS_iff.1 (h.ok hn)).2 k (by omega)
      rw [hl, Option.getD_some]
      refine ⟨by simp only [h1], fun m hm => ?_⟩
      simp only
      rw [setM_get (fun x hx => (orb_in h (by omega) hl x hx).1) (h2 m hm)]
      simp
end Go.Sx.Ch
end
