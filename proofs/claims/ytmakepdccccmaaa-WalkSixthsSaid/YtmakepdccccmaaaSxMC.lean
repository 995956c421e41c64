/- WalkSixths's walk: where none goes on for ever. No conditions. -/
import Derived.Test.YtmakepdccccmaaaSxMA
import Derived.Test.YtmakepdccccmaaaSxMB
import Derived.Test.YtmakepdccccmaaaSxRJ
import Derived.Test.YtmakepdccccmaaaSxJN4toN6
import Derived.Test.YtmakepdccccmaaaSxJPd14toPd72
set_option linter.unusedVariables false
set_option linter.unusedSimpArgs false
set_option maxRecDepth 4000
namespace Go.Sx.Wk
open Go Go.Sx Go.Proofs

theorem wsgn_pos {n : Int} : 0 < wsgn n ↔ 0 < n := by
  unfold wsgn; split <;> split <;> omega
theorem wsgn_zero : wsgn 0 = 0 := by decide
/-- The law's code from the walk on. -/
noncomputable def t14 : PCode := (.seq (.reg p14_r14 [3, 7, 9, 10, 12, 13]) (.seq (.reg p14_r15 [3, 7, 9, 10, 12, 13, 14, 15, 16]) (.seq (.seq (.reg p14_r16 [3, 9, 10, 12, 13, 14, 15, 16, 117]) (.cond (Operand.tmp 117) (.seq (.reg p14_r17 [2]) .ret) .skip)) (.seq (.seq (.reg p14_r18 [3, 12, 14, 15, 175]) (.cond (Operand.tmp 175) (.seq (.reg p14_r19 [2]) .ret) .skip)) (.seq (.seq (.reg p14_r20 [3, 14, 15, 176, 177, 178]) (.block 2 (.loop p14_l1))) (.seq (.reg p14_r31 [3, 15, 20]) (.seq (.reg p14_r32 [2]) .ret)))))))
set_option maxHeartbeats 4000000 in
theorem six_false {T : List Int} {Q : Exit → ST → Prop} {nx : Nat} {n : Int} (hst : small T = true) (hwv : walkV T 60 = .tup [.il [] 0 false, vI 12]) (hlv : loopV T = .tup [.il [] 0 false, .il [] 0 false, vI 12]) (hn : 0 ≤ n)
    (hQ : ∀ s : ST, EndsP 0 [SRes.tmp 2] (vB true) 0 [] .ret s → Q .ret s) : XZ (rZ (spc [s16, s17, s19, s21, s30, s32, s34, s38, s42, s43, s51])) 0 t14 ⟨[(3, .il (ints T) T.length false), (7, vB false), (9, vI n), (10, vI 0), (104, vB false)], [], nx⟩ Q := by
  unfold t14
  refine XZ_step ?_ (fun N Q_ hN => ?_) ?_
  rotate_left
  · delta p14_r14; simp (disch := omega) [oLt, oLe, oLtN, oLeN, nLt, nLe, nLtN, nLeN, hst, hwv]
    exact hN
  refine XZ_step ?_ (fun N Q_ hN => ?_) ?_
  rotate_left
  · delta p14_r15; simp (disch := omega) [oLt, oLe, oLtN, oLeN, nLt, nLe, nLtN, nLeN, hst, hlv]
    exact hN
  delta p14_r16
  simp (disch := omega) [oLt, oLe, oLtN, oLeN, nLt, nLe, nLtN, nLeN]
  delta p14_r17
  refine zOps_cut 10 ?_ (fun K_ hK => ?_) ?_
  rotate_left
  · simp only [List.take_succ_cons, List.take_zero]
    simp (disch := omega) [oLt, oLe, oLtN, oLeN, nLt, nLe, nLtN, nLeN, hn]
    exact hK
  simp only [List.drop_succ_cons, List.drop_zero]
  refine zOps_cut 10 ?_ (fun K_ hK => ?_) ?_
  rotate_left
  · simp only [List.take_succ_cons, List.take_zero]
    simp (disch := omega) [oLt, oLe, oLtN, oLeN, nLt, nLe, nLtN, nLeN, hn]
    exact hK
  simp only [List.drop_succ_cons, List.drop_zero]
  simp (disch := omega) [oLt, oLe, oLtN, oLeN, nLt, nLe, nLtN, nLeN, hn]
  exact hQ _ (.p (.inl rfl) (by simp) rfl)
end Go.Sx.Wk
