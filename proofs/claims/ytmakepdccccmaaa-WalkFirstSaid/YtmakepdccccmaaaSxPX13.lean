/- The code of a function where changes are allowed between some parts. No conditions. -/
import Derived.Test.YtmakepdccccmaaaSxU
import Derived.Test.YtmakepdccccmaaaSxJPd13toPd75
set_option linter.unusedVariables false
set_option maxRecDepth 100000
namespace Go.Sx.Wk
open Go Go.Sx Go.Proofs

noncomputable def p1013_l0 : PCode := (.seq (.reg p13_r15 [5, 7, 11, 12, 71, 72, 73, 87, 88, 89]) (.seq (.cond (Operand.tmp 89) .skip (.exit 2)) (.seq (.block 3 (.seq (.reg p13_r16 [5, 7, 11, 12, 13, 71, 72, 73, 87, 88]) (.seqC (.reg p13_r17 [5, 7, 11, 12, 13, 14, 71, 72, 73, 87, 88]) (.seq (.reg p13_r18 [5, 7, 11, 12, 13, 14, 15, 16, 71, 72, 73, 87, 88]) (.seq (.seq (.reg p13_r19 [5, 7, 11, 12, 13, 14, 15, 16, 71, 72, 73, 87, 88, 107]) (.cond (Operand.tmp 107) (.seq (.seq (.reg p13_r20 [5, 7, 11, 12, 71, 72, 73, 87, 88, 112]) (.cond (Operand.tmp 112) (.seq (.reg p13_r21 [4]) .ret) .skip)) (.exit 3)) .skip)) (.seq (.reg p13_r22 [5, 7, 11, 12, 13, 14, 15, 16, 17, 18, 71, 72, 73, 87, 88]) (.seq (.reg p13_r23 [5, 7, 11, 12, 13, 15, 16, 17, 18, 19, 71, 72, 73, 87, 88]) (.seq (.reg p13_r24 [5, 7, 11, 12, 71, 72, 73, 87, 88, 142]) (.cond (Operand.tmp 142) (.seq (.reg p13_r25 [4]) .ret) .skip))))))))) (.reg p13_r26 [5, 7, 11, 12, 71, 72, 73, 87, 88]))))
noncomputable def p1013_l1 : PCode := (.seq (.reg p13_r10 [5, 7, 71, 72, 73, 74]) (.seq (.cond (Operand.tmp 74) .skip (.exit 0)) (.seq (.block 1 (.seq (.reg p13_r11 [5, 7, 11, 12, 71, 72, 73]) (.seq (.seq (.reg p13_r12 [5, 7, 11, 12, 71, 72, 73, 85]) (.cond (Operand.tmp 85) (.seq (.reg p13_r13 [4]) .ret) .skip)) (.seq (.reg p13_r14 [5, 7, 11, 12, 71, 72, 73, 87, 88]) (.block 2 (.loop p1013_l0)))))) (.reg p13_r27 [5, 7, 71, 72, 73]))))
noncomputable def p1013 : PCode := (.seq (.reg p13_r0 [1, 2]) (.seq (.reg p13_r1 [1, 5]) (.seq (.reg p13_r2 [5, 6]) (.seq (.reg p13_r3 [5, 6, 7, 8]) (.seq (.seq (.reg p13_r4 [5, 6, 7, 8, 33]) (.cond (Operand.tmp 33) (.seq (.reg p13_r5 [7, 8, 9, 10]) (.seq (.reg p13_r6 [4]) .ret)) .skip)) (.seq (.seq (.reg p13_r7 [5, 7, 70]) (.cond (Operand.tmp 70) (.seq (.reg p13_r8 [4]) .ret) .skip)) (.seq (.seq (.reg p13_r9 [5, 7, 71, 72, 73]) (.block 0 (.loop p1013_l1))) (.seq (.reg p13_r28 [4]) .ret))))))))
theorem P1013s : strip p1013 = p13 := by kernel_rfl
end Go.Sx.Wk
