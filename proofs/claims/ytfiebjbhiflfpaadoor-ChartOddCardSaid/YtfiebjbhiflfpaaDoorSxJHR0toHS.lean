/- What Odd returns. No conditions. -/
import Derived.Test.YtfiebjbhiflfpaaDoorSxJDYtoDZ
import Derived.Test.YtfiebjbhiflfpaaDoorSxJHOtoHP
import Derived.Test.YtfiebjbhiflfpaaDoorSxHP4
set_option linter.unusedVariables false
namespace Go.Sx.Ch
open Go Go.Sx Go.Proofs

def oddO (L : List (List Int)) : Option (List Int) := if bestE L = 0 then oddT (JR L) L.length 9 3 else none
def oddA (L : List (List Int)) : AV := match oddO L with
  | some l => .il (ints l) l.length false
  | none => .v (.slice none 0 0)
def oddE (L : List (List Int)) : Int := if bestE L = 0 then (match oddO L with
  | some _ => 0
  | none => 13) else bestE L
def oddV (L : List (List Int)) : AV := .tup [oddA L, vI (oddE L)]
end Go.Sx.Ch
set_option linter.unusedSimpArgs false
set_option maxRecDepth 4000
namespace Go.Sx.Ch
open Go Go.Sx Go.Proofs

set_option maxHeartbeats 4000000
theorem oddO_near {L : List (List Int)} (hc : chk L = 0) (he : bestE L = 0) : oddO L = oddT (JN (nearF (tabF L))) L.length 9 3 := by
  unfold oddO
  rw [if_pos he]
  exact oddT_congr (fun p q hp hq => (near_join hc q hp).symm) 9 3 (by decide)
/-- The states of the loop. -/
def stO1 (N : List Nat) (C : List Int) (many : Nat) (x : AV) : ST :=
  ⟨[(4, .ptr 0 0), (7, .ptr 1 0), (8, .ptr 2 0), (9, .ptr 3 0)], [(0, .cells (ints C)), (1, .cells [x]), (2, .cells [vI many]), (3, .cells [.fn (.func 81) [] [.ptr 2 0, .ptr 1 0, .ptr 4 0, .ptr 0 0, .ptr 3 0]]), (4, .cells [.il (uws N) N.length false])], 5⟩
theorem stO1_any {N : List Nat} {C : List Int} {many : Nat} {x : AV} : ChgT 0 (stO1 N C many x) (stO1 N C many .any) :=
  .weak (s' := stO1 N C many .any) ⟨rfl, .refl, rfl, .refl, rfl, .refl, rfl, .refl, trivial⟩ ⟨rfl, .refl, rfl, ⟨rfl, fun i u v hu hv => by
    cases i with
    | zero => cases hu; cases hv; exact .any
    | succ i => simp at hu⟩, rfl, .refl, rfl, .refl, rfl, .refl, trivial⟩ rfl .refl
@[simp] theorem uws_ids : ∀ l : List Nat, idsL (uws l) = []
  | [] => rfl
  | x :: l => by rw [uws_cons, idsL, uws_ids l]
def s31 : Sp := spT 31 [.mp] fun (L : List (List Int)) => res (smM L) (oddV L)
@[simp] theorem s31_g : s31.g = 31 := rfl
@[simp] theorem s31_f : s31.f = (spT 31 [.mp] fun (L : List (List Int)) => res (smM L) (oddV L)).f := rfl
theorem s31_ok : s31.ok Tryd.prog := by
  apply spT_ok
  simp only [OkT, Ty.all, List.nil_append, List.cons_append]
  intro (L : List (List Int)) u
  apply okT_res; intro hs
  refine P31.rz (ss := [s67, s79, s80, s81t 17 (nearF (tabF L)) (tabF L)]) ⟨s67_ok, s79_ok, s80_ok, s81t_ok 16, trivial⟩ (by simp) fun Q hQ => ?_
  delta p31 p31_r0 p31_r1 p31_r2 p31_r3 p31_r4 p31_r5 p31_r6 p31_r7 p31_r8 p31_r9 p31_r10
  by_cases hc : chk L = 0
  · obtain ⟨h34, h16, hev, hl, h0, h33, hp⟩ := tab_pts hc
    have h33' := (List.getElem?_eq_some_iff.1 h33).2
    have ht : (tabF L).take 34 = tabF L := List.take_of_length_le (by omega)
    have hv : openV L = .tup [.agg (ints (tabF L)), vI 0] := by unfold openV; rw [hc]; rfl
    have hsp : splice (ints Z34) 0 (ints (tabF L)) = ints (tabF L) := splice_all (by simp [h34, z34_len])
    have hg := g80_tab hc
    have hlo := loop_eq hc
    have hnl := nearF_len hc
    cases hlp : loopR L with
    | true =>
      have hE : bestE L = 12 := by unfold bestE; simp [hc, hlp]
      have hr : oddV L = .tup [.v (.slice none 0 0), vI 12] := by unfold oddV oddA oddE oddO; rw [hE]; rfl
      rw [hr] at hQ
      generalize tabF L = C at *
      simp (disch := omega) [oLt, oLe, oLtN, oLeN, nLt, nLe, nLtN, nLeN, hs, hv, zl, zz, hsp, h34, z34_len, ht, hg, hlo, hlp]
      exact hQ _ _ (.p (.inl rfl) (by simp) rfl)
    | false =>
      have hE : bestE L = 0 := by unfold bestE; simp [hc, hlp]
      have hO := oddO_near hc hE
      generalize tabF L = C at *
      obtain ⟨N, hN⟩ : ∃ N, nearF C = N := ⟨_, rfl⟩
      rw [hN] at hO hnl
      simp (disch := omega) [oLt, oLe, oLtN, oLeN, nLt, nLe, nLtN, nLeN, hs, hv, zl, zz, hsp, h34, z34_len, ht, hg, hlo, hlp, hN, effMkfn]
      refine XZ_for (fun q : Nat × Nat => stO1 N C q.2 .any) (fun q => q.1) (fun q => oddT (JN N) L.length q.1 q.2 = oddO L ∧ q.2 + 2 * q.1 = 21 ∧ 3 ≤ q.2) (9, 3) ⟨hO.symm, rfl, by decide⟩ (.trans (.to (s' := stO1 N C 3 (.v (.slice none 0 0))) [7, 18, 19, 21, 16] (by simp [stO1])) stO1_any) ?_
      rintro ⟨f, many⟩ ⟨hinv, hf, h3⟩ N1 Q1 hN1 hE2
      simp only at hinv hf h3 hN1 ⊢
      have r5' : List.range 5 = [0, 1, 2, 3, 4] := rfl
      by_cases hm : many ≤ L.length
      · have hmc : (many : Int) ≤ L.length := by omega
        obtain ⟨f, rfl⟩ : ∃ k, f = k + 1 := ⟨f - 1, by omega⟩
        simp only [oddT] at hinv
        rw [if_pos hm] at hinv
        have hgd : GdR 17 N C many [] 0 := ⟨hg, hN, by omega, by omega, (fun x hx => by cases hx), by simp, by simp; omega, rfl⟩
        cases hr : ringR (JN N) L.length many 17 [] with
        | some l =>
          have hr' : ringR (JN N) N.length many 17 [] = some l := by rw [hnl]; exact hr
          rw [hr] at hinv
          simp only at hinv
          have hv : oddV L = .tup [.il (ints l) l.length false, vI 0] := by unfold oddV oddA oddE; rw [← hinv, if_pos hE]
          rw [hv] at hQ
          unfold stO1
          delta p31_l0 p31_r11 p31_r12 p31_r13 p31_r14
          simp (disch := omega) [oLt, oLe, oLtN, oLeN, nLt, nLe, nLtN, nLeN, hmc, h34, h33, h33', hgd, hr', resR, hpR, putA, r5']
          exact hE2 _ _ _ .refl (hQ _ _ (.p (.inl rfl) (by simp) (by simp)))
        | none =>
          have hr' : ringR (JN N) N.length many 17 [] = none := by rw [hnl]; exact hr
          rw [hr] at hinv
          simp only at hinv
          unfold stO1 at *
          delta p31_l0 p31_r11 p31_r12 p31_r13 p31_r14
          simp (disch := omega) [oLt, oLe, oLtN, oLeN, nLt, nLe, nLtN, nLeN, hmc, h34, h33, h33', hgd, hr', resR, hpR, putA, r5']
          exact hN1 _ (f, many + 2) (by simp only; omega) ⟨hinv, by omega, by omega⟩ (.to [0, 1, 2, 3, 4] (by simp))
      · have hmc : ¬ (many : Int) ≤ L.length := by omega
        have hno : oddO L = none := by
          rw [← hinv]
          cases f with
          | zero => rfl
          | succ f => simp only [oddT]; rw [if_neg hm]
        have hv : oddV L = .tup [.v (.slice none 0 0), vI 13] := by unfold oddV oddA oddE; rw [hno, if_pos hE]
        rw [hv] at hQ
        unfold stO1
        delta p31_l0 p31_r11 p31_r12 p31_r13 p31_r14
        simp (disch := omega) [oLt, oLe, oLtN, oLeN, nLt, nLe, nLtN, nLeN, hmc, h34, h33, h33']
        refine hE2 _ _ _ .refl ?_
        delta p31_r15
        simp (disch := omega) [oLt, oLe, oLtN, oLeN, nLt, nLe, nLtN, nLeN]
        exact hQ _ _ (.p (.inl rfl) (by simp) rfl)
  · have hE : bestE L = chk L := by unfold bestE; simp [hc]
    have hv : openV L = .tup [.agg (ints Z34), vI (chk L)] := by unfold openV; rw [if_neg hc]
    have hr : oddV L = .tup [.v (.slice none 0 0), vI (chk L)] := by unfold oddV oddA oddE oddO; rw [hE, if_neg hc, if_neg hc]
    rw [hr] at hQ
    generalize chk L = c at *
    simp (disch := omega) [oLt, oLe, oLtN, oLeN, nLt, nLe, nLtN, nLeN, hs, hv, zl, zz, z34_len, hc]
    exact hQ _ _ (.p (.inl rfl) (by simp) rfl)
end Go.Sx.Ch
