/- The law WalkCan returns true. No conditions. -/
import Derived.Test.YtmakepdccccmaaaSxQC
import Derived.Test.YtmakepdccccmaaaSxEw
set_option linter.unusedVariables false
set_option linter.unusedSimpArgs false
set_option maxRecDepth 4000
namespace Go.Sx.Wk
open Go Go.Sx Go.Proofs

def s16 : Sp := spT 16 [] (res true (vB true))
@[simp] theorem s16_g : s16.g = 16 := rfl
@[simp] theorem s16_f : s16.f = (spT 16 [] (res true (vB true))).f := rfl
theorem s16_ok : s16.ok Try.prog := by
  apply spT_ok
  simp only [OkT]
  intro r h' k' hh
  obtain ⟨_, rfl, rfl, rfl⟩ := res_inv hh
  exact k28_ok
theorem weight_tup (t : List Int) : ∃ a b e, weightF t = .tup [vI a, vI b, vI e] := by unfold weightF; split <;> exact ⟨_, _, _, rfl⟩
theorem can_tup (t : List Int) : ∃ a e, canF t = .tup [vB a, vI e] := by unfold canF; split <;> exact ⟨_, _, rfl⟩
theorem long_tup (t : List Int) : ∃ a e, longF t = .tup [vI a, vI e] := by
  unfold longF; split
  · split <;> exact ⟨_, _, rfl⟩
  · exact ⟨_, _, rfl⟩
/-- One part of the code, and the state behind it. -/
theorem XZ_step {R : Rsv} {k0 : Nat} {a b : PCode} {s : ST} {Q : Exit → ST → Prop} (s1 : ST) (h1 : ∀ (N : ST → Prop) (Q' : Exit → ST → Prop), N s1 → XZ R k0 a s (thenE N Q')) (h2 : XZ R k0 b s1 Q) : XZ R k0 (.seq a b) s Q := h1 _ _ h2
theorem zOps_app {R : Rsv} {K : ST → Prop} : ∀ {a b : List PI} {s : ST}, zOps R (zOps R K b) a s → zOps R K (a ++ b) s
  | [], b, s, h => h
  | i :: a, b, s, h => by
    simp only [List.cons_append, zOps] at h ⊢
    split
    · rename_i hg
      simp only [hg] at h
      split
      · rename_i ft s' h1; simp only [h1] at h; exact zOps_app h
      · rename_i h1; simp only [h1] at h
    · rename_i t want hg
      simp only [hg] at h
      split
      · rename_i c hc
        simp only [hc] at h
        refine ⟨fun hh => ?_, fun hh => zOps_app (h.2 hh)⟩
        have := h.1 hh
        split
        · rename_i ft s' h1; simp only [h1] at this; exact zOps_app this
        · rename_i h1; simp only [h1] at this
      · rename_i hc; simp only [hc] at h
theorem zOps_mono {R : Rsv} {K K' : ST → Prop} (hK : ∀ s, K s → K' s) : ∀ {is : List PI} {s : ST}, zOps R K is s → zOps R K' is s
  | [], s, h => hK s h
  | i :: is, s, h => by
    simp only [zOps] at h ⊢
    split
    · rename_i hg
      simp only [hg] at h
      split
      · rename_i ft s' h1; simp only [h1] at h; exact zOps_mono hK h
      · rename_i h1; simp only [h1] at h
    · rename_i t want hg
      simp only [hg] at h
      split
      · rename_i c hc
        simp only [hc] at h
        refine ⟨fun hh => ?_, fun hh => zOps_mono hK (h.2 hh)⟩
        have := h.1 hh
        split
        · rename_i ft s' h1; simp only [h1] at this; exact zOps_mono hK this
        · rename_i h1; simp only [h1] at this
      · rename_i hc; simp only [hc] at h
/-- A part of a region, and the state behind it. -/
theorem zOps_cut {R : Rsv} {K : ST → Prop} {is : List PI} {s : ST} (n : Nat) (s1 : ST) (h1 : ∀ K' : ST → Prop, K' s1 → zOps R K' (is.take n) s) (h2 : zOps R K (is.drop n) s1) : zOps R K is s := by
  have := zOps_app (h1 _ h2)
  rwa [List.take_append_drop] at this
/-- A region, and the state behind it. -/
theorem XZ_regS {R : Rsv} {k0 : Nat} {ops : List PI} {ks : List Nat} {b : PCode} {s : ST} {Q : Exit → ST → Prop} (s1 : ST) (h1 : ∀ K : ST → Prop, K s1 → zOps R (fun s' => K (s'.keepF ks)) ops s) (h2 : XZ R k0 b s1 Q) : XZ R k0 (.seq (.reg ops ks) b) s Q := h1 _ h2
theorem XZ_regG {R : Rsv} {k0 : Nat} {ops : List PI} {ks : List Nat} {b : PCode} {s : ST} {Q : Exit → ST → Prop} (h : zOps R (goOn (thenE (fun s' => XZ R k0 b s' Q) Q) ks) ops s) : XZ R k0 (.seq (.reg ops ks) b) s Q := h
theorem walkCan_runs (t : List Int) (u : Bool) : Runs Try.prog 3 0 [.il (ints t) t.length u] (hpF []) (vB true) 0 (hpF []) := by
  refine P3.rz (ss := [s16, s17, s18, s19, s20, s21, s22, s23, s24]) ⟨s16_ok, s17_ok, s18_ok, s19_ok, s20_ok, s21_ok, s22_ok, s23_ok, s24_ok, trivial⟩ (by simp) fun Q hQ => ?_
  by_cases h : 60 < t.length
  · delta p3 p3_r0 p3_r1 p3_r2 p3_r3 p3_r4 p3_r5 p3_r6 p3_r7 p3_r8 p3_r9
    simp (disch := omega) [oLt, oLe, oLtN, oLeN, nLt, nLe, nLtN, nLeN]
    exact hQ _ _ (.p (.inl rfl) (by simp) rfl)
  · have hs : small t = true := by simp [small]; omega
    obtain ⟨a, b, e, h1⟩ := weight_tup t
    obtain ⟨c, g, h2⟩ := can_tup t
    obtain ⟨m, n, h3⟩ := long_tup t
    delta p3
    refine XZ_step ?_ (fun N Q' hN => ?_) ?_
    rotate_left
    · delta p3_r0; simp (disch := omega) [oLt, oLe, oLtN, oLeN, nLt, nLe, nLtN, nLeN]
      exact hN
    refine XZ_step ?_ (fun N Q' hN => ?_) ?_
    rotate_left
    · delta p3_r1; simp (disch := omega) [oLt, oLe, oLtN, oLeN, nLt, nLe, nLtN, nLeN]
      exact hN
    refine XZ_step ?_ (fun N Q' hN => ?_) ?_
    rotate_left
    · delta p3_r3; simp (disch := omega) [oLt, oLe, oLtN, oLeN, nLt, nLe, nLtN, nLeN, hs, h1]
      exact hN
    refine XZ_step ?_ (fun N Q' hN => ?_) ?_
    rotate_left
    · delta p3_r4; simp (disch := omega) [oLt, oLe, oLtN, oLeN, nLt, nLe, nLtN, nLeN, hs, h1]
      exact hN
    refine XZ_step ?_ (fun N Q' hN => ?_) ?_
    rotate_left
    · delta p3_r5; simp (disch := omega) [oLt, oLe, oLtN, oLeN, nLt, nLe, nLtN, nLeN, hs, h2]
      exact hN
    refine XZ_step ?_ (fun N Q' hN => ?_) ?_
    rotate_left
    · delta p3_r6; simp (disch := omega) [oLt, oLe, oLtN, oLeN, nLt, nLe, nLtN, nLeN, hs, h2]
      exact hN
    refine XZ_step ?_ (fun N Q' hN => ?_) ?_
    rotate_left
    · delta p3_r7; simp (disch := omega) [oLt, oLe, oLtN, oLeN, nLt, nLe, nLtN, nLeN, hs, h3]
      exact hN
    refine XZ_step ?_ (fun N Q' hN => ?_) ?_
    rotate_left
    · delta p3_r8; simp (disch := omega) [oLt, oLe, oLtN, oLeN, nLt, nLe, nLtN, nLeN, hs, h3]
      exact hN
    refine XZ_regG ?_
    delta p3_r9
    refine zOps_cut 8 ?_ (fun K' hK => ?_) ?_
    rotate_left
    · simp only [List.take_succ_cons, List.take_zero]
      simp (disch := omega) [oLt, oLe, oLtN, oLeN, nLt, nLe, nLtN, nLeN, hs]
      exact hK
    simp only [List.drop_succ_cons, List.drop_zero]
    refine zOps_cut 8 ?_ (fun K' hK => ?_) ?_
    rotate_left
    · simp only [List.take_succ_cons, List.take_zero]
      simp (disch := omega) [oLt, oLe, oLtN, oLeN, nLt, nLe, nLtN, nLeN, hs]
      exact hK
    simp only [List.drop_succ_cons, List.drop_zero]
    refine zOps_cut 8 ?_ (fun K' hK => ?_) ?_
    rotate_left
    · simp only [List.take_succ_cons, List.take_zero]
      simp (disch := omega) [oLt, oLe, oLtN, oLeN, nLt, nLe, nLtN, nLeN, hs]
      exact hK
    simp only [List.drop_succ_cons, List.drop_zero]
    refine zOps_cut 8 ?_ (fun K' hK => ?_) ?_
    rotate_left
    · simp only [List.take_succ_cons, List.take_zero]
      simp (disch := omega) [oLt, oLe, oLtN, oLeN, nLt, nLe, nLtN, nLeN, hs]
      exact hK
    simp only [List.drop_succ_cons, List.drop_zero]
    refine zOps_cut 8 ?_ (fun K' hK => ?_) ?_
    rotate_left
    · simp only [List.take_succ_cons, List.take_zero]
      simp (disch := omega) [oLt, oLe, oLtN, oLeN, nLt, nLe, nLtN, nLeN, hs]
      exact hK
    simp only [List.drop_succ_cons, List.drop_zero]
    simp (disch := omega) [oLt, oLe, oLtN, oLeN, nLt, nLe, nLtN, nLeN, hs]
    exact hQ _ _ (.p (.inl rfl) (by simp) rfl)
end Go.Sx.Wk
