/- The codes of the functions, written by a program (Gen.lean), and that they are the functions'. No conditions. -/
import Derived.Test.YteoiebmbgbgpgaaSxJNtoNq
import Derived.KernelRfl
import Derived.Test.YteoiebmbgbgpgaaProg
import Derived.Test.YteoiebmbgbgpgaaSxO
set_option linter.unusedVariables false
set_option linter.unusedSimpArgs false
namespace Go.Sx.Lk
open Go Go.Sx Go.Proofs
section
set_option maxRecDepth 100000
noncomputable def p15 : PCode := pcOf Try.prog Try.f15 (Try.f15.body.getD .skip) [[], [1, 2], [1, 2, 3, 4], [1, 2, 3, 4, 5, 6], [1, 2, 3, 4, 5, 6, 7, 8], [1, 2, 3, 4, 5, 6, 7, 8, 9, 10], [1, 2, 3, 4, 5, 6, 7, 8, 9, 10, 11, 12, 13, 14], [1, 2, 3, 4, 5, 6, 7, 8, 9, 10, 11, 12, 13, 14, 15, 16], [1, 3, 5, 7, 9, 11, 12, 13, 15, 84], [0], [1, 2, 3, 5, 7, 9, 11, 12, 13, 15, 17], [1, 2, 3, 4, 5, 7, 9, 11, 12, 13, 15, 17, 18], [1, 2, 3, 4, 5, 6, 7, 9, 11, 12, 13, 15, 17, 18, 19], [1, 2, 3, 4, 5, 6, 7, 8, 9, 11, 12, 13, 15, 17, 18, 19, 20], [1, 2, 3, 4, 5, 6, 7, 8, 9, 10, 11, 12, 13, 15, 17, 18, 19, 20], [1, 2, 3, 4, 5, 6, 7, 8, 9, 10, 11, 12, 13, 14, 15, 17, 18, 19, 20], [1, 2, 3, 4, 5, 6, 7, 8, 9, 10, 11, 12, 13, 14, 15, 16, 17, 18, 19, 20], [0]]
theorem P15 : PFn Try.prog 15 ⟨p15, [.tmp 0], 215⟩ := .mk3 Try.f15 (Try.f15.body.getD .skip) [[], [1, 2], [1, 2, 3, 4], [1, 2, 3, 4, 5, 6], [1, 2, 3, 4, 5, 6, 7, 8], [1, 2, 3, 4, 5, 6, 7, 8, 9, 10], [1, 2, 3, 4, 5, 6, 7, 8, 9, 10, 11, 12, 13, 14], [1, 2, 3, 4, 5, 6, 7, 8, 9, 10, 11, 12, 13, 14, 15, 16], [1, 3, 5, 7, 9, 11, 12, 13, 15, 84], [0], [1, 2, 3, 5, 7, 9, 11, 12, 13, 15, 17], [1, 2, 3, 4, 5, 7, 9, 11, 12, 13, 15, 17, 18], [1, 2, 3, 4, 5, 6, 7, 9, 11, 12, 13, 15, 17, 18, 19], [1, 2, 3, 4, 5, 6, 7, 8, 9, 11, 12, 13, 15, 17, 18, 19, 20], [1, 2, 3, 4, 5, 6, 7, 8, 9, 10, 11, 12, 13, 15, 17, 18, 19, 20], [1, 2, 3, 4, 5, 6, 7, 8, 9, 10, 11, 12, 13, 14, 15, 17, 18, 19, 20], [1, 2, 3, 4, 5, 6, 7, 8, 9, 10, 11, 12, 13, 14, 15, 16, 17, 18, 19, 20], [0]] Try.func15 (by kernel_rfl) (by kernel_rfl) (by kernel_rfl) (by kernel_rfl) (by decide)
noncomputable def p16 : PCode := pcOf Try.prog Try.f16 (Try.f16.body.getD .skip) [[0], [0, 4], [0, 4, 8], [2, 3], [2, 3]]
theorem P16 : PFn Try.prog 16 ⟨p16, [.tmp 2, .tmp 3], 12⟩ := .mk3 Try.f16 (Try.f16.body.getD .skip) [[0], [0, 4], [0, 4, 8], [2, 3], [2, 3]] Try.func16 (by kernel_rfl) (by kernel_rfl) (by kernel_rfl) (by kernel_rfl) (by decide)
noncomputable def p18 : PCode := pcOf Try.prog Try.f18 (Try.f18.body.getD .skip) [[0], [0, 4], [0, 4, 9], [2, 3], [0, 5], [5], [2, 3]]
theorem P18 : PFn Try.prog 18 ⟨p18, [.tmp 2, .tmp 3], 15⟩ := .mk3 Try.f18 (Try.f18.body.getD .skip) [[0], [0, 4], [0, 4, 9], [2, 3], [0, 5], [5], [2, 3]] Try.func18 (by kernel_rfl) (by kernel_rfl) (by kernel_rfl) (by kernel_rfl) (by decide)
noncomputable def p20 : PCode := pcOf Try.prog Try.f20 (Try.f20.body.getD .skip) [[0, 1], [0, 1, 6], [0, 1, 6, 16], [4, 5], [0, 1, 7], [0, 1, 7, 8], [0, 1, 7, 8, 9], [0, 1, 7, 8, 9, 20, 21], [0, 1, 7, 8, 9, 20, 21, 22], [0, 1, 7, 8, 9, 10, 20, 21], [0, 1, 7, 8, 9, 20, 21, 26], [0, 1, 7, 8, 9, 20, 21, 26, 27], [0, 1, 7, 8, 9, 20, 21, 31], [4, 5], [0, 1, 7, 8, 9, 20, 21], [0, 1, 7, 8, 9, 20, 21], [0, 1, 7, 8, 9, 20, 21, 38], [0, 1, 7, 8, 9, 11, 12, 20, 21], [0, 1, 7, 8, 9, 11, 20, 21, 45], [4, 5], [0, 1, 7, 8, 9, 11, 20, 21], [0, 1, 7, 8, 9, 20, 21], [4, 5], [0, 1, 7, 8, 9, 20, 21], [8, 56], [4, 5], [4, 5]]
theorem P20 : PFn Try.prog 20 ⟨p20, [.tmp 4, .tmp 5], 58⟩ := .mk3 Try.f20 (Try.f20.body.getD .skip) [[0, 1], [0, 1, 6], [0, 1, 6, 16], [4, 5], [0, 1, 7], [0, 1, 7, 8], [0, 1, 7, 8, 9], [0, 1, 7, 8, 9, 20, 21], [0, 1, 7, 8, 9, 20, 21, 22], [0, 1, 7, 8, 9, 10, 20, 21], [0, 1, 7, 8, 9, 20, 21, 26], [0, 1, 7, 8, 9, 20, 21, 26, 27], [0, 1, 7, 8, 9, 20, 21, 31], [4, 5], [0, 1, 7, 8, 9, 20, 21], [0, 1, 7, 8, 9, 20, 21], [0, 1, 7, 8, 9, 20, 21, 38], [0, 1, 7, 8, 9, 11, 12, 20, 21], [0, 1, 7, 8, 9, 11, 20, 21, 45], [4, 5], [0, 1, 7, 8, 9, 11, 20, 21], [0, 1, 7, 8, 9, 20, 21], [4, 5], [0, 1, 7, 8, 9, 20, 21], [8, 56], [4, 5], [4, 5]] Try.func20 (by kernel_rfl) (by kernel_rfl) (by kernel_rfl) (by kernel_rfl) (by decide)
noncomputable def p22 : PCode := pcOf Try.prog Try.f22 (Try.f22.body.getD .skip) [[0, 1], [0, 1, 10], [4], [0, 1, 5], [0, 1, 5, 14], [0, 1, 5, 25], [4], [0, 1, 5], [4]]
theorem P22 : PFn Try.prog 22 ⟨p22, [.tmp 4], 26⟩ := .mk3 Try.f22 (Try.f22.body.getD .skip) [[0, 1], [0, 1, 10], [4], [0, 1, 5], [0, 1, 5, 14], [0, 1, 5, 25], [4], [0, 1, 5], [4]] Try.func22 (by kernel_rfl) (by kernel_rfl) (by kernel_rfl) (by kernel_rfl) (by decide)
noncomputable def p23 : PCode := pcOf Try.prog Try.f23 (Try.f23.body.getD .skip) [[0], [0, 13], [2], [0, 3], [0, 3, 14, 15, 16], [0, 3, 14, 15, 16, 17], [0, 3, 5, 14, 15, 16], [0, 3, 5, 14, 15, 16, 20], [2], [0, 3, 5, 14, 15, 16, 26], [2], [0, 3, 14, 15, 16], [0, 3, 14, 15, 16], [2]]
theorem P23 : PFn Try.prog 23 ⟨p23, [.tmp 2], 33⟩ := .mk3 Try.f23 (Try.f23.body.getD .skip) [[0], [0, 13], [2], [0, 3], [0, 3, 14, 15, 16], [0, 3, 14, 15, 16, 17], [0, 3, 5, 14, 15, 16], [0, 3, 5, 14, 15, 16, 20], [2], [0, 3, 5, 14, 15, 16, 26], [2], [0, 3, 14, 15, 16], [0, 3, 14, 15, 16], [2]] Try.func23 (by kernel_rfl) (by kernel_rfl) (by kernel_rfl) (by kernel_rfl) (by decide)
noncomputable def p25 : PCode := pcOf Try.prog Try.f25 (Try.f25.body.getD .skip) [[0], [4, 5], [2, 3]]
theorem P25 : PFn Try.prog 25 ⟨p25, [.tmp 2, .tmp 3], 18⟩ := .mk3 Try.f25 (Try.f25.body.getD .skip) [[0], [4, 5], [2, 3]] Try.func25 (by kernel_rfl) (by kernel_rfl) (by kernel_rfl) (by kernel_rfl) (by decide)
noncomputable def p27 : PCode := pcOf Try.prog Try.f27 (Try.f27.body.getD .skip) [[0], [0, 6], [0, 6, 14], [2, 3, 4, 5], [0, 16, 17, 18], [0, 16, 17, 18, 19], [0, 7, 8, 16, 17, 18], [0, 7, 8, 9, 16, 17, 18], [0, 7, 8, 9, 16, 17, 18, 28], [0, 7, 8, 9, 16, 17, 18, 36], [0, 7, 8, 9, 10, 16, 17, 18], [0, 7, 8, 9, 10, 16, 17, 18, 43], [2, 3, 4, 5], [0, 7, 8, 9, 16, 17, 18], [0, 16, 17, 18], [2, 3, 4, 5]]
theorem P27 : PFn Try.prog 27 ⟨p27, [.tmp 2, .tmp 3, .tmp 4, .tmp 5], 50⟩ := .mk3 Try.f27 (Try.f27.body.getD .skip) [[0], [0, 6], [0, 6, 14], [2, 3, 4, 5], [0, 16, 17, 18], [0, 16, 17, 18, 19], [0, 7, 8, 16, 17, 18], [0, 7, 8, 9, 16, 17, 18], [0, 7, 8, 9, 16, 17, 18, 28], [0, 7, 8, 9, 16, 17, 18, 36], [0, 7, 8, 9, 10, 16, 17, 18], [0, 7, 8, 9, 10, 16, 17, 18, 43], [2, 3, 4, 5], [0, 7, 8, 9, 16, 17, 18], [0, 16, 17, 18], [2, 3, 4, 5]] Try.func27 (by kernel_rfl) (by kernel_rfl) (by kernel_rfl) (by kernel_rfl) (by decide)
noncomputable def p29 : PCode := pcOf Try.prog Try.f29 (Try.f29.body.getD .skip) [[0], [0, 4], [0, 4, 8], [2, 3], [2, 3]]
theorem P29 : PFn Try.prog 29 ⟨p29, [.tmp 2, .tmp 3], 12⟩ := .mk3 Try.f29 (Try.f29.body.getD .skip) [[0], [0, 4], [0, 4, 8], [2, 3], [2, 3]] Try.func29 (by kernel_rfl) (by kernel_rfl) (by kernel_rfl) (by kernel_rfl) (by decide)
noncomputable def p31 : PCode := pcOf Try.prog Try.f31 (Try.f31.body.getD .skip) [[0, 1, 2, 3], [0, 1, 2, 3, 9], [0, 1, 2, 3, 9, 10], [0, 1, 2, 3, 9, 10, 15], [8], [0, 1, 2, 3, 19], [8], [0, 1, 2, 3, 36], [8], [45], [8], [8]]
theorem P31 : PFn Try.prog 31 ⟨p31, [.tmp 8], 66⟩ := .mk3 Try.f31 (Try.f31.body.getD .skip) [[0, 1, 2, 3], [0, 1, 2, 3, 9], [0, 1, 2, 3, 9, 10], [0, 1, 2, 3, 9, 10, 15], [8], [0, 1, 2, 3, 19], [8], [0, 1, 2, 3, 36], [8], [45], [8], [8]] Try.func31 (by kernel_rfl) (by kernel_rfl) (by kernel_rfl) (by kernel_rfl) (by decide)
noncomputable def p33 : PCode := pcOf Try.prog Try.f33 (Try.f33.body.getD .skip) [[2, 3], [2, 3, 18], [4, 5], [2, 3, 6], [2, 3, 6, 7], [2, 3, 6, 7, 8], [6, 8], [6], [4, 5]]
theorem P33 : PFn Try.prog 33 ⟨p33, [.tmp 4, .tmp 5], 25⟩ := .mk3 Try.f33 (Try.f33.body.getD .skip) [[2, 3], [2, 3, 18], [4, 5], [2, 3, 6], [2, 3, 6, 7], [2, 3, 6, 7, 8], [6, 8], [6], [4, 5]] Try.func33 (by kernel_rfl) (by kernel_rfl) (by kernel_rfl) (by kernel_rfl) (by decide)
noncomputable def p35 : PCode := pcOf Try.prog Try.f35 (Try.f35.body.getD .skip) [[0], [0, 4], [0, 4, 15], [2, 3], [0, 5], [0, 5, 6], [0, 5, 6, 7], [5, 6, 7, 17, 18, 19], [5, 6, 7, 17, 18, 19, 20], [5, 6, 7, 9, 17, 18, 19], [5, 6, 7, 9, 17, 18, 19, 25], [5, 6, 7, 9, 17, 18, 19], [5, 6, 7, 9, 17, 18, 19], [5, 6, 7, 9, 17, 18, 19], [5, 6, 7, 9, 10, 11, 17, 18, 19], [5, 6, 7, 17, 18, 19, 41], [2, 3], [5, 6, 7, 17, 18, 19], [5, 6, 7, 17, 18, 19], [5, 6, 7, 17, 18, 19], [2, 3]]
theorem P35 : PFn Try.prog 35 ⟨p35, [.tmp 2, .tmp 3], 46⟩ := .mk3 Try.f35 (Try.f35.body.getD .skip) [[0], [0, 4], [0, 4, 15], [2, 3], [0, 5], [0, 5, 6], [0, 5, 6, 7], [5, 6, 7, 17, 18, 19], [5, 6, 7, 17, 18, 19, 20], [5, 6, 7, 9, 17, 18, 19], [5, 6, 7, 9, 17, 18, 19, 25], [5, 6, 7, 9, 17, 18, 19], [5, 6, 7, 9, 17, 18, 19], [5, 6, 7, 9, 17, 18, 19], [5, 6, 7, 9, 10, 11, 17, 18, 19], [5, 6, 7, 17, 18, 19, 41], [2, 3], [5, 6, 7, 17, 18, 19], [5, 6, 7, 17, 18, 19], [5, 6, 7, 17, 18, 19], [2, 3]] Try.func35 (by kernel_rfl) (by kernel_rfl) (by kernel_rfl) (by kernel_rfl) (by decide)
noncomputable def p37 : PCode := pcOf Try.prog Try.f37 (Try.f37.body.getD .skip) [[0], [0, 4], [0, 4, 12], [2, 3], [0, 5], [0, 5, 15, 16, 17], [0, 5, 15, 16, 17, 18], [0, 5, 6, 7, 15, 16, 17], [0, 5, 6, 7, 8, 15, 16, 17], [0, 5, 6, 7, 8, 15, 16, 17, 27], [0, 5, 6, 7, 8, 15, 16, 17, 34], [0, 5, 6, 7, 8, 15, 16, 17], [0, 5, 6, 7, 8, 15, 16, 17], [0, 5, 15, 16, 17], [2, 3]]
theorem P37 : PFn Try.prog 37 ⟨p37, [.tmp 2, .tmp 3], 43⟩ := .mk3 Try.f37 (Try.f37.body.getD .skip) [[0], [0, 4], [0, 4, 12], [2, 3], [0, 5], [0, 5, 15, 16, 17], [0, 5, 15, 16, 17, 18], [0, 5, 6, 7, 15, 16, 17], [0, 5, 6, 7, 8, 15, 16, 17], [0, 5, 6, 7, 8, 15, 16, 17, 27], [0, 5, 6, 7, 8, 15, 16, 17, 34], [0, 5, 6, 7, 8, 15, 16, 17], [0, 5, 6, 7, 8, 15, 16, 17], [0, 5, 15, 16, 17], [2, 3]] Try.func37 (by kernel_rfl) (by kernel_rfl) (by kernel_rfl) (by kernel_rfl) (by decide)
noncomputable def p39 : PCode := pcOf Try.prog Try.f39 (Try.f39.body.getD .skip) [[0], [0, 4], [0, 4, 15], [2, 3], [0, 5], [0, 5, 6], [0, 5, 6, 7], [0, 5, 6, 7, 8], [0, 6, 7, 8], [0, 6, 7, 8, 9], [6, 7, 8, 9, 24, 25, 26], [6, 7, 8, 9, 24, 25, 26, 27], [6, 7, 8, 9, 11, 24, 25, 26], [6, 7, 8, 9, 11, 24, 25, 26, 34], [6, 7, 8, 9, 11, 24, 25, 26], [6, 7, 8, 9, 24, 25, 26], [6, 7, 8, 9, 24, 25, 26], [9, 47], [2, 3], [2, 3]]
theorem P39 : PFn Try.prog 39 ⟨p39, [.tmp 2, .tmp 3], 49⟩ := .mk3 Try.f39 (Try.f39.body.getD .skip) [[0], [0, 4], [0, 4, 15], [2, 3], [0, 5], [0, 5, 6], [0, 5, 6, 7], [0, 5, 6, 7, 8], [0, 6, 7, 8], [0, 6, 7, 8, 9], [6, 7, 8, 9, 24, 25, 26], [6, 7, 8, 9, 24, 25, 26, 27], [6, 7, 8, 9, 11, 24, 25, 26], [6, 7, 8, 9, 11, 24, 25, 26, 34], [6, 7, 8, 9, 11, 24, 25, 26], [6, 7, 8, 9, 24, 25, 26], [6, 7, 8, 9, 24, 25, 26], [9, 47], [2, 3], [2, 3]] Try.func39 (by kernel_rfl) (by kernel_rfl) (by kernel_rfl) (by kernel_rfl) (by decide)
noncomputable def p41 : PCode := pcOf Try.prog Try.f41 (Try.f41.body.getD .skip) [[0, 1], [0, 1, 10], [4], [0, 1, 5], [0, 1, 5, 14], [0, 1, 5, 25], [4], [0, 1, 5], [4]]
theorem P41 : PFn Try.prog 41 ⟨p41, [.tmp 4], 26⟩ := .mk3 Try.f41 (Try.f41.body.getD .skip) [[0, 1], [0, 1, 10], [4], [0, 1, 5], [0, 1, 5, 14], [0, 1, 5, 25], [4], [0, 1, 5], [4]] Try.func41 (by kernel_rfl) (by kernel_rfl) (by kernel_rfl) (by kernel_rfl) (by decide)
noncomputable def p42 : PCode := pcOf Try.prog Try.f42 (Try.f42.body.getD .skip) [[], [0]]
theorem P42 : PFn Try.prog 42 ⟨p42, [.tmp 0], 3⟩ := .mk3 Try.f42 (Try.f42.body.getD .skip) [[], [0]] Try.func42 (by kernel_rfl) (by kernel_rfl) (by kernel_rfl) (by kernel_rfl) (by decide)
noncomputable def p43 : PCode := pcOf Try.prog Try.f43 (Try.f43.body.getD .skip) [[], [0]]
theorem P43 : PFn Try.prog 43 ⟨p43, [.tmp 0], 3⟩ := .mk3 Try.f43 (Try.f43.body.getD .skip) [[], [0]] Try.func43 (by kernel_rfl) (by kernel_rfl) (by kernel_rfl) (by kernel_rfl) (by decide)
noncomputable def p44 : PCode := pcOf Try.prog Try.f44 (Try.f44.body.getD .skip) [[0], [2]]
theorem P44 : PFn Try.prog 44 ⟨p44, [.tmp 2], 4⟩ := .mk3 Try.f44 (Try.f44.body.getD .skip) [[0], [2]] Try.func44 (by kernel_rfl) (by kernel_rfl) (by kernel_rfl) (by kernel_rfl) (by decide)
noncomputable def p52 : PCode := pcOf Try.prog Try.f52 (Try.f52.body.getD .skip) [[0], [0, 3], [0, 3, 8], [0, 3, 20], [2], [0, 3], [2]]
theorem P52 : PFn Try.prog 52 ⟨p52, [.tmp 2], 21⟩ := .mk3 Try.f52 (Try.f52.body.getD .skip) [[0], [0, 3], [0, 3, 8], [0, 3, 20], [2], [0, 3], [2]] Try.func52 (by kernel_rfl) (by kernel_rfl) (by kernel_rfl) (by kernel_rfl) (by decide)
noncomputable def p57 : PCode := pcOf Try.prog Try.f57 (Try.f57.body.getD .skip) [[0], [0, 7], [0], [0, 3], [0, 3, 4], [0, 3, 4, 15], [0, 3, 4], [0, 3, 4], [2]]
theorem P57 : PFn Try.prog 57 ⟨p57, [.tmp 2], 25⟩ := .mk3 Try.f57 (Try.f57.body.getD .skip) [[0], [0, 7], [0], [0, 3], [0, 3, 4], [0, 3, 4, 15], [0, 3, 4], [0, 3, 4], [2]] Try.func57 (by kernel_rfl) (by kernel_rfl) (by kernel_rfl) (by kernel_rfl) (by decide)
noncomputable def p61 : PCode := pcOf Try.prog Try.f61 (Try.f61.body.getD .skip) [[0], [0, 3], [3], [2]]
theorem P61 : PFn Try.prog 61 ⟨p61, [.tmp 2], 8⟩ := .mk3 Try.f61 (Try.f61.body.getD .skip) [[0], [0, 3], [3], [2]] Try.func61 (by kernel_rfl) (by kernel_rfl) (by kernel_rfl) (by kernel_rfl) (by decide)
noncomputable def p63 : PCode := pcOf Try.prog Try.f63 (Try.f63.body.getD .skip) [[0, 3], [0, 3, 4], [0, 3, 4, 5], [0, 3, 4, 5, 9, 10, 11], [0, 3, 4, 5, 9, 10, 11, 12], [0, 3, 4, 5, 7, 9, 10, 11], [0, 3, 4, 5, 7, 9, 10, 11], [0, 3, 4, 5, 7, 9, 10, 11], [0, 3, 4, 5, 9, 10, 11], [0, 3, 4, 5, 9, 10, 11], []]
theorem P63 : PFn Try.prog 63 ⟨p63, [], 28⟩ := .mk3 Try.f63 (Try.f63.body.getD .skip) [[0, 3], [0, 3, 4], [0, 3, 4, 5], [0, 3, 4, 5, 9, 10, 11], [0, 3, 4, 5, 9, 10, 11, 12], [0, 3, 4, 5, 7, 9, 10, 11], [0, 3, 4, 5, 7, 9, 10, 11], [0, 3, 4, 5, 7, 9, 10, 11], [0, 3, 4, 5, 9, 10, 11], [0, 3, 4, 5, 9, 10, 11], []] Try.func63 (by kernel_rfl) (by kernel_rfl) (by kernel_rfl) (by kernel_rfl) (by decide)
noncomputable def p64 : PCode := pcOf Try.prog Try.f64 (Try.f64.body.getD .skip) [[]]
theorem P64 : PFn Try.prog 64 ⟨p64, [], 7⟩ := .mk3 Try.f64 (Try.f64.body.getD .skip) [[]] Try.func64 (by kernel_rfl) (by kernel_rfl) (by kernel_rfl) (by kernel_rfl) (by decide)
noncomputable def p65 : PCode := pcOf Try.prog Try.f65 (Try.f65.body.getD .skip) [[0, 1], [0, 1], [], [4]]
theorem P65 : PFn Try.prog 65 ⟨p65, [.tmp 4], 17⟩ := .mk3 Try.f65 (Try.f65.body.getD .skip) [[0, 1], [0, 1], [], [4]] Try.func65 (by kernel_rfl) (by kernel_rfl) (by kernel_rfl) (by kernel_rfl) (by decide)
noncomputable def p66 : PCode := pcOf Try.prog Try.f66 (Try.f66.body.getD .skip) [[0], [2]]
theorem P66 : PFn Try.prog 66 ⟨p66, [.tmp 2], 14⟩ := .mk3 Try.f66 (Try.f66.body.getD .skip) [[0], [2]] Try.func66 (by kernel_rfl) (by kernel_rfl) (by kernel_rfl) (by kernel_rfl) (by decide)
noncomputable def p67 : PCode := pcOf Try.prog Try.f67 (Try.f67.body.getD .skip) [[]]
theorem P67 : PFn Try.prog 67 ⟨p67, [], 14⟩ := .mk3 Try.f67 (Try.f67.body.getD .skip) [[]] Try.func67 (by kernel_rfl) (by kernel_rfl) (by kernel_rfl) (by kernel_rfl) (by decide)
noncomputable def p68 : PCode := pcOf Try.prog Try.f68 (Try.f68.body.getD .skip) [[0, 2], [0, 2, 9], [2, 3], [2, 3]]
theorem P68 : PFn Try.prog 68 ⟨p68, [.tmp 2, .tmp 3], 23⟩ := .mk3 Try.f68 (Try.f68.body.getD .skip) [[0, 2], [0, 2, 9], [2, 3], [2, 3]] Try.func68 (by kernel_rfl) (by kernel_rfl) (by kernel_rfl) (by kernel_rfl) (by decide)
noncomputable def p69 : PCode := pcOf Try.prog Try.f69 (Try.f69.body.getD .skip) [[]]
theorem P69 : PFn Try.prog 69 ⟨p69, [], 16⟩ := .mk3 Try.f69 (Try.f69.body.getD .skip) [[]] Try.func69 (by kernel_rfl) (by kernel_rfl) (by kernel_rfl) (by kernel_rfl) (by decide)
noncomputable def p70 : PCode := pcOf Try.prog Try.f70 (Try.f70.body.getD .skip) [[0, 1], [4]]
theorem P70 : PFn Try.prog 70 ⟨p70, [.tmp 4], 12⟩ := .mk3 Try.f70 (Try.f70.body.getD .skip) [[0, 1], [4]] Try.func70 (by kernel_rfl) (by kernel_rfl) (by kernel_rfl) (by kernel_rfl) (by decide)
noncomputable def p74 : PCode := pcOf Try.prog Try.f74 (Try.f74.body.getD .skip) [[0, 1], [0, 1, 7, 8], [0, 1, 7, 8, 9], [0, 1, 5, 7, 8], [0, 1, 5, 7, 8, 16], [4], [0, 1, 7, 8], [4]]
theorem P74 : PFn Try.prog 74 ⟨p74, [.tmp 4], 19⟩ := .mk3 Try.f74 (Try.f74.body.getD .skip) [[0, 1], [0, 1, 7, 8], [0, 1, 7, 8, 9], [0, 1, 5, 7, 8], [0, 1, 5, 7, 8, 16], [4], [0, 1, 7, 8], [4]] Try.func74 (by kernel_rfl) (by kernel_rfl) (by kernel_rfl) (by kernel_rfl) (by decide)
noncomputable def p75 : PCode := pcOf Try.prog Try.f75 (Try.f75.body.getD .skip) [[0, 1], [3]]
theorem P75 : PFn Try.prog 75 ⟨p75, [.tmp 3], 7⟩ := .mk3 Try.f75 (Try.f75.body.getD .skip) [[0, 1], [3]] Try.func75 (by kernel_rfl) (by kernel_rfl) (by kernel_rfl) (by kernel_rfl) (by decide)
noncomputable def p76 : PCode := pcOf Try.prog Try.f76 (Try.f76.body.getD .skip) [[0], [0, 3], [0, 3, 6], [0, 3], [0, 3], [2]]
theorem P76 : PFn Try.prog 76 ⟨p76, [.tmp 2], 12⟩ := .mk3 Try.f76 (Try.f76.body.getD .skip) [[0], [0, 3], [0, 3, 6], [0, 3], [0, 3], [2]] Try.func76 (by kernel_rfl) (by kernel_rfl) (by kernel_rfl) (by kernel_rfl) (by decide)
noncomputable def p79 : PCode := pcOf Try.prog Try.f79 (Try.f79.body.getD .skip) [[0, 1, 2, 3, 4, 5, 6, 12], [5, 16], [], [0, 1, 3, 6, 19, 20], [0, 1, 3, 6, 19, 20, 21], [0, 1, 3, 6, 9, 19, 20], [0, 1, 3, 6, 9, 19, 20, 27], [0, 1, 3, 6, 9, 19, 20], [0, 1, 3, 6, 19, 20], [0, 1, 3, 6, 19, 20]]
theorem P79 : PFn Try.prog 79 ⟨p79, [], 41⟩ := .mk3 Try.f79 (Try.f79.body.getD .skip) [[0, 1, 2, 3, 4, 5, 6, 12], [5, 16], [], [0, 1, 3, 6, 19, 20], [0, 1, 3, 6, 19, 20, 21], [0, 1, 3, 6, 9, 19, 20], [0, 1, 3, 6, 9, 19, 20, 27], [0, 1, 3, 6, 9, 19, 20], [0, 1, 3, 6, 19, 20], [0, 1, 3, 6, 19, 20]] Try.func79 (by kernel_rfl) (by kernel_rfl) (by kernel_rfl) (by kernel_rfl) (by decide)
noncomputable def p82 : PCode := pcOf Try.prog Try.f82 (Try.f82.body.getD .skip) [[0], [0, 3], [0, 3, 11, 12, 13], [0, 3, 11, 12, 13, 14], [0, 3, 4, 5, 11, 12, 13], [0, 3, 5, 6, 11, 12, 13], [0, 3, 5, 6, 11, 12, 13, 23], [0, 3, 5, 6, 7, 11, 12, 13], [0, 3, 5, 6, 7, 11, 12, 13, 40], [0, 3, 5, 6, 7, 11, 12, 13], [0, 3, 5, 6, 11, 12, 13], [0, 3, 5, 6, 11, 12, 13], [0, 3, 11, 12, 13], [2]]
theorem P82 : PFn Try.prog 82 ⟨p82, [.tmp 2], 59⟩ := .mk3 Try.f82 (Try.f82.body.getD .skip) [[0], [0, 3], [0, 3, 11, 12, 13], [0, 3, 11, 12, 13, 14], [0, 3, 4, 5, 11, 12, 13], [0, 3, 5, 6, 11, 12, 13], [0, 3, 5, 6, 11, 12, 13, 23], [0, 3, 5, 6, 7, 11, 12, 13], [0, 3, 5, 6, 7, 11, 12, 13, 40], [0, 3, 5, 6, 7, 11, 12, 13], [0, 3, 5, 6, 11, 12, 13], [0, 3, 5, 6, 11, 12, 13], [0, 3, 11, 12, 13], [2]] Try.func82 (by kernel_rfl) (by kernel_rfl) (by kernel_rfl) (by kernel_rfl) (by decide)
noncomputable def p84 : PCode := pcOf Try.prog Try.f84 (Try.f84.body.getD .skip) [[0, 1], [0, 1, 10], [0, 1], [0, 5, 6], [0, 6, 26], [0, 6], [0, 7], [7, 8], [7, 8, 37], [7, 8], [4]]
theorem P84 : PFn Try.prog 84 ⟨p84, [.tmp 4], 48⟩ := .mk3 Try.f84 (Try.f84.body.getD .skip) [[0, 1], [0, 1, 10], [0, 1], [0, 5, 6], [0, 6, 26], [0, 6], [0, 7], [7, 8], [7, 8, 37], [7, 8], [4]] Try.func84 (by kernel_rfl) (by kernel_rfl) (by kernel_rfl) (by kernel_rfl) (by decide)
noncomputable def p85 : PCode := pcOf Try.prog Try.f85 (Try.f85.body.getD .skip) [[0, 1, 2, 3, 4, 5, 13], [], [0, 1, 2, 4, 5], [0, 1, 4, 5, 28, 29], [0, 1, 4, 5, 28, 29, 30], [0, 1, 4, 5, 8, 28, 29], [0, 1, 4, 5, 8, 28, 29, 39], [0, 1, 4, 5, 28, 29], [0, 1, 4, 5, 28, 29]]
theorem P85 : PFn Try.prog 85 ⟨p85, [], 46⟩ := .mk3 Try.f85 (Try.f85.body.getD .skip) [[0, 1, 2, 3, 4, 5, 13], [], [0, 1, 2, 4, 5], [0, 1, 4, 5, 28, 29], [0, 1, 4, 5, 28, 29, 30], [0, 1, 4, 5, 8, 28, 29], [0, 1, 4, 5, 8, 28, 29, 39], [0, 1, 4, 5, 28, 29], [0, 1, 4, 5, 28, 29]] Try.func85 (by kernel_rfl) (by kernel_rfl) (by kernel_rfl) (by kernel_rfl) (by decide)
noncomputable def p91 : PCode := pcOf Try.prog Try.f91 (Try.f91.body.getD .skip) [[0, 1], [4]]
theorem P91 : PFn Try.prog 91 ⟨p91, [.tmp 4], 17⟩ := .mk3 Try.f91 (Try.f91.body.getD .skip) [[0, 1], [4]] Try.func91 (by kernel_rfl) (by kernel_rfl) (by kernel_rfl) (by kernel_rfl) (by decide)
noncomputable def p96 : PCode := pcOf Try.prog Try.f96 (Try.f96.body.getD .skip) [[1, 2, 6], []]
theorem P96 : PFn Try.prog 96 ⟨p96, [], 11⟩ := .mk3 Try.f96 (Try.f96.body.getD .skip) [[1, 2, 6], []] Try.func96 (by kernel_rfl) (by kernel_rfl) (by kernel_rfl) (by kernel_rfl) (by decide)
noncomputable def p97 : PCode := pcOf Try.prog Try.f97 (Try.f97.body.getD .skip) [[0, 1, 2, 4, 5], [0, 1, 2, 4, 15], [0, 1, 2, 4], [0, 1, 2], [0, 1, 2, 4, 5]]
theorem P97 : PFn Try.prog 97 ⟨p97, [], 24⟩ := .mk3 Try.f97 (Try.f97.body.getD .skip) [[0, 1, 2, 4, 5], [0, 1, 2, 4, 15], [0, 1, 2, 4], [0, 1, 2], [0, 1, 2, 4, 5]] Try.func97 (by kernel_rfl) (by kernel_rfl) (by kernel_rfl) (by kernel_rfl) (by decide)
noncomputable def p98 : PCode := pcOf Try.prog Try.f98 (Try.f98.body.getD .skip) [[0, 6], [], [19]]
theorem P98 : PFn Try.prog 98 ⟨p98, [], 20⟩ := .mk3 Try.f98 (Try.f98.body.getD .skip) [[0, 6], [], [19]] Try.func98 (by kernel_rfl) (by kernel_rfl) (by kernel_rfl) (by kernel_rfl) (by decide)
noncomputable def p100 : PCode := pcOf Try.prog Try.f100 (Try.f100.body.getD .skip) [[0, 1], [6, 7], [4, 5], [8, 9], [4, 5]]
theorem P100 : PFn Try.prog 100 ⟨p100, [.tmp 4, .tmp 5], 30⟩ := .mk3 Try.f100 (Try.f100.body.getD .skip) [[0, 1], [6, 7], [4, 5], [8, 9], [4, 5]] Try.func100 (by kernel_rfl) (by kernel_rfl) (by kernel_rfl) (by kernel_rfl) (by decide)
noncomputable def p101 : PCode := pcOf Try.prog Try.f101 (Try.f101.body.getD .skip) [[0], [2]]
theorem P101 : PFn Try.prog 101 ⟨p101, [.tmp 2], 6⟩ := .mk3 Try.f101 (Try.f101.body.getD .skip) [[0], [2]] Try.func101 (by kernel_rfl) (by kernel_rfl) (by kernel_rfl) (by kernel_rfl) (by decide)
noncomputable def p113 : PCode := pcOf Try.prog Try.f113 (Try.f113.body.getD .skip) [[0, 1], [6], [4, 5]]
theorem P113 : PFn Try.prog 113 ⟨p113, [.tmp 4, .tmp 5], 17⟩ := .mk3 Try.f113 (Try.f113.body.getD .skip) [[0, 1], [6], [4, 5]] Try.func113 (by kernel_rfl) (by kernel_rfl) (by kernel_rfl) (by kernel_rfl) (by decide)
noncomputable def p114 : PCode := pcOf Try.prog Try.f114 (Try.f114.body.getD .skip) [[0, 1], [0, 1, 6], [0, 1, 6, 7], [0, 1, 6, 7, 8], [0, 1, 6, 7, 8, 9], [0, 1, 6, 7, 8, 9, 10], [0, 1, 6, 7, 9, 11], [0, 1, 6, 7, 9, 11, 12], [0, 1, 6, 7, 9, 12, 13], [0, 1, 7, 9, 12, 13], [0, 1, 4], [4, 5]]
theorem P114 : PFn Try.prog 114 ⟨p114, [.tmp 4, .tmp 5], 51⟩ := .mk3 Try.f114 (Try.f114.body.getD .skip) [[0, 1], [0, 1, 6], [0, 1, 6, 7], [0, 1, 6, 7, 8], [0, 1, 6, 7, 8, 9], [0, 1, 6, 7, 8, 9, 10], [0, 1, 6, 7, 9, 11], [0, 1, 6, 7, 9, 11, 12], [0, 1, 6, 7, 9, 12, 13], [0, 1, 7, 9, 12, 13], [0, 1, 4], [4, 5]] Try.func114 (by kernel_rfl) (by kernel_rfl) (by kernel_rfl) (by kernel_rfl) (by decide)
end
section
set_option maxRecDepth 100000
noncomputable def p7 : PCode := pcOf Try.prog Try.f7 (Try.f7.body.getD .skip) [[], [1, 2], [1, 2, 3, 4], [1, 2, 3, 4, 5, 6], [1, 2, 3, 4, 5, 6, 7, 8], [1, 2, 3, 4, 5, 6, 7, 8, 9, 10], [1, 2, 3, 4, 5, 6, 7, 8, 9, 10, 11, 12], [108], [0], [110, 111, 112], [110, 111, 112, 113], [13, 14, 110, 111, 112], [14, 15, 16, 110, 111, 112], [110, 111, 112, 128], [0], [110, 111, 112], [2, 17], [2, 4, 17, 18], [2, 4, 6, 17, 18, 19], [2, 4, 6, 8, 17, 18, 19], [2, 4, 6, 8, 10, 17, 18, 19], [2, 4, 6, 8, 10, 12, 17, 18, 19], [2, 4, 6, 8, 10, 12, 17, 18, 19, 21], [2, 4, 6, 8, 10, 12, 17, 18, 19, 21, 25], [0]]
theorem P7 : PFn Try.prog 7 ⟨p7, [.tmp 0], 250⟩ := .mk3 Try.f7 (Try.f7.body.getD .skip) [[], [1, 2], [1, 2, 3, 4], [1, 2, 3, 4, 5, 6], [1, 2, 3, 4, 5, 6, 7, 8], [1, 2, 3, 4, 5, 6, 7, 8, 9, 10], [1, 2, 3, 4, 5, 6, 7, 8, 9, 10, 11, 12], [108], [0], [110, 111, 112], [110, 111, 112, 113], [13, 14, 110, 111, 112], [14, 15, 16, 110, 111, 112], [110, 111, 112, 128], [0], [110, 111, 112], [2, 17], [2, 4, 17, 18], [2, 4, 6, 17, 18, 19], [2, 4, 6, 8, 17, 18, 19], [2, 4, 6, 8, 10, 17, 18, 19], [2, 4, 6, 8, 10, 12, 17, 18, 19], [2, 4, 6, 8, 10, 12, 17, 18, 19, 21], [2, 4, 6, 8, 10, 12, 17, 18, 19, 21, 25], [0]] Try.func7 (by kernel_rfl) (by kernel_rfl) (by kernel_rfl) (by kernel_rfl) (by decide)
end
section
noncomputable def tab : List (Nat × PEnt) := [
  (15, ⟨p15, [SRes.tmp 0], 215⟩),
  (16, ⟨p16, [SRes.tmp 2, SRes.tmp 3], 12⟩),
  (18, ⟨p18, [SRes.tmp 2, SRes.tmp 3], 15⟩),
  (20, ⟨p20, [SRes.tmp 4, SRes.tmp 5], 58⟩),
  (22, ⟨p22, [SRes.tmp 4], 26⟩),
  (23, ⟨p23, [SRes.tmp 2], 33⟩),
  (25, ⟨p25, [SRes.tmp 2, SRes.tmp 3], 18⟩),
  (27, ⟨p27, [SRes.tmp 2, SRes.tmp 3, SRes.tmp 4, SRes.tmp 5], 50⟩),
  (29, ⟨p29, [SRes.tmp 2, SRes.tmp 3], 12⟩),
  (31, ⟨p31, [SRes.tmp 8], 66⟩),
  (33, ⟨p33, [SRes.tmp 4, SRes.tmp 5], 25⟩),
  (35, ⟨p35, [SRes.tmp 2, SRes.tmp 3], 46⟩),
  (37, ⟨p37, [SRes.tmp 2, SRes.tmp 3], 43⟩),
  (39, ⟨p39, [SRes.tmp 2, SRes.tmp 3], 49⟩),
  (41, ⟨p41, [SRes.tmp 4], 26⟩),
  (42, ⟨p42, [SRes.tmp 0], 3⟩),
  (43, ⟨p43, [SRes.tmp 0], 3⟩),
  (44, ⟨p44, [SRes.tmp 2], 4⟩),
  (52, ⟨p52, [SRes.tmp 2], 21⟩),
  (57, ⟨p57, [SRes.tmp 2], 25⟩),
  (61, ⟨p61, [SRes.tmp 2], 8⟩),
  (63, ⟨p63, [], 28⟩),
  (64, ⟨p64, [], 7⟩),
  (65, ⟨p65, [SRes.tmp 4], 17⟩),
  (66, ⟨p66, [SRes.tmp 2], 14⟩),
  (67, ⟨p67, [], 14⟩),
  (68, ⟨p68, [SRes.tmp 2, SRes.tmp 3], 23⟩),
  (69, ⟨p69, [], 16⟩),
  (70, ⟨p70, [SRes.tmp 4], 12⟩),
  (74, ⟨p74, [SRes.tmp 4], 19⟩),
  (75, ⟨p75, [SRes.tmp 3], 7⟩),
  (76, ⟨p76, [SRes.tmp 2], 12⟩),
  (79, ⟨p79, [], 41⟩),
  (82, ⟨p82, [SRes.tmp 2], 59⟩),
  (84, ⟨p84, [SRes.tmp 4], 48⟩),
  (85, ⟨p85, [], 46⟩),
  (91, ⟨p91, [SRes.tmp 4], 17⟩),
  (96, ⟨p96, [], 11⟩),
  (97, ⟨p97, [], 24⟩),
  (98, ⟨p98, [], 20⟩),
  (100, ⟨p100, [SRes.tmp 4, SRes.tmp 5], 30⟩),
  (101, ⟨p101, [SRes.tmp 2], 6⟩),
  (113, ⟨p113, [SRes.tmp 4, SRes.tmp 5], 17⟩),
  (114, ⟨p114, [SRes.tmp 4, SRes.tmp 5], 51⟩),
  (7, ⟨p7, [SRes.tmp 0], 250⟩)]
theorem tab_ok : PTabOk Try.prog tab := ⟨P15, P16, P18, P20, P22, P23, P25, P27, P29, P31, P33, P35, P37, P39, P41, P42, P43, P44, P52, P57, P61, P63, P64, P65, P66, P67, P68, P69, P70, P74, P75, P76, P79, P82, P84, P85, P91, P96, P97, P98, P100, P101, P113, P114, P7, trivial⟩
end
section
set_option maxRecDepth 1000000
def k0 : Known := ⟨16, [.ref 0 0 3 1 (some 3)], [(0, .cells [.v (.int .i64 1), .v (.int .i64 2), .v (.int .i64 0)])], 1, .tup [.ref 1 0 3 1 none, .v (.int .i64 0)], [(0, .cells [.v (.int .i64 1), .v (.int .i64 2), .v (.int .i64 0)]), (1, .cells [.v (.int .i64 1), .v (.int .i64 0), .v (.int .i64 2)])], 2⟩
theorem k0_ok : k0.ok Try.prog := runP_ok tab_ok 200 60 k0.g k0.args k0.h k0.k k0.r k0.h' k0.k' (by kernel_rfl)
def k3 : Known := ⟨25, [.ref 0 0 3 1 (some 3)], [(0, .cells [.v (.int .i64 1), .v (.int .i64 2), .v (.int .i64 0)])], 1, .tup [.v (.bool false), .v (.int .i64 0)], [(0, .cells [.v (.int .i64 1), .v (.int .i64 2), .v (.int .i64 0)])], 1⟩
theorem k3_ok : k3.ok Try.prog := runP_ok tab_ok 200 60 k3.g k3.args k3.h k3.k k3.r k3.h' k3.k' (by kernel_rfl)
def k6 : Known := ⟨29, [.ref 0 0 4 1 (some 4)], [(0, .cells [.v (.int .i64 1), .v (.int .i64 2), .v (.int .i64 3), .v (.int .i64 0)])], 1, .tup [.v (.int .i64 3), .v (.int .i64 0)], [(0, .cells [.v (.int .i64 1), .v (.int .i64 2), .v (.int .i64 3), .v (.int .i64 0)])], 1⟩
theorem k6_ok : k6.ok Try.prog := runP_ok tab_ok 200 60 k6.g k6.args k6.h k6.k k6.r k6.h' k6.k' (by kernel_rfl)
def k9 : Known := ⟨37, [.ref 0 0 3 1 (some 3)], [(0, .cells [.v (.int .i64 1), .v (.int .i64 2), .v (.int .i64 0)])], 1, .tup [.ref 1 0 1 2 none, .v (.int .i64 0)], [(0, .cells [.v (.int .i64 1), .v (.int .i64 2), .v (.int .i64 0)]), (1, .cells [.v (.int .i64 1), .v (.int .i64 2)])], 2⟩
theorem k9_ok : k9.ok Try.prog := runP_ok tab_ok 200 60 k9.g k9.args k9.h k9.k k9.r k9.h' k9.k' (by kernel_rfl)
def k12 : Known := ⟨39, [.ref 0 0 4 1 (some 4)], [(0, .cells [.v (.int .i64 1), .v (.int .i64 2), .v (.int .i64 3), .v (.int .i64 0)])], 1, .tup [.v (.slice none 0 0), .v (.int .i64 12)], [(0, .cells [.v (.int .i64 1), .v (.int .i64 2), .v (.int .i64 3), .v (.int .i64 0)])], 1⟩
theorem k12_ok : k12.ok Try.prog := runP_ok tab_ok 200 60 k12.g k12.args k12.h k12.k k12.r k12.h' k12.k' (by kernel_rfl)
def k15 : Known := ⟨31, [.ref 0 0 3 1 (some 3), .v (.int .i64 0), .v (.int .i64 1), .v (.int .i64 2)], [(0, .cells [.v (.int .i64 2), .v (.int .i64 0), .v (.int .i64 1)])], 1, .v (.int .i64 14), [(0, .cells [.v (.int .i64 2), .v (.int .i64 0), .v (.int .i64 1)])], 1⟩
theorem k15_ok : k15.ok Try.prog := runP_ok tab_ok 200 60 k15.g k15.args k15.h k15.k k15.r k15.h' k15.k' (by kernel_rfl)
end
section
set_option maxRecDepth 1000000
def k200 : Known := ⟨76, [.ref 0 0 4 1 (some 4)], [(0, .cells [.v (.int .i64 0), .v (.int .i64 1), .v (.int .i64 2), .v (.int .i64 3)])], 1, .v (.int .i64 0), [(0, .cells [.v (.int .i64 0), .v (.int .i64 1), .v (.int .i64 2), .v (.int .i64 3)])], 1⟩
theorem k200_ok : k200.ok Try.prog := runP_ok tab_ok 200 60 k200.g k200.args k200.h k200.k k200.r k200.h' k200.k' (by kernel_rfl)
def k203 : Known := ⟨76, [.ref 0 0 4 1 (some 4)], [(0, .cells [.v (.int .i64 0), .v (.int .i64 2), .v (.int .i64 3), .v (.int .i64 1)])], 1, .v (.int .i64 2), [(0, .cells [.v (.int .i64 0), .v (.int .i64 2), .v (.int .i64 3), .v (.int .i64 1)])], 1⟩
theorem k203_ok : k203.ok Try.prog := runP_ok tab_ok 200 60 k203.g k203.args k203.h k203.k k203.r k203.h' k203.k' (by kernel_rfl)
def k206 : Known := ⟨76, [.ref 0 0 4 1 (some 4)], [(0, .cells [.v (.int .i64 1), .v (.int .i64 0), .v (.int .i64 2), .v (.int .i64 3)])], 1, .v (.int .i64 1), [(0, .cells [.v (.int .i64 1), .v (.int .i64 0), .v (.int .i64 2), .v (.int .i64 3)])], 1⟩
theorem k206_ok : k206.ok Try.prog := runP_ok tab_ok 200 60 k206.g k206.args k206.h k206.k k206.r k206.h' k206.k' (by kernel_rfl)
def k209 : Known := ⟨76, [.ref 0 0 4 1 (some 4)], [(0, .cells [.v (.int .i64 1), .v (.int .i64 2), .v (.int .i64 3), .v (.int .i64 0)])], 1, .v (.int .i64 3), [(0, .cells [.v (.int .i64 1), .v (.int .i64 2), .v (.int .i64 3), .v (.int .i64 0)])], 1⟩
theorem k209_ok : k209.ok Try.prog := runP_ok tab_ok 200 60 k209.g k209.args k209.h k209.k k209.r k209.h' k209.k' (by kernel_rfl)
def k212 : Known := ⟨76, [.ref 0 0 4 1 (some 4)], [(0, .cells [.v (.int .i64 2), .v (.int .i64 0), .v (.int .i64 1), .v (.int .i64 3)])], 1, .v (.int .i64 1), [(0, .cells [.v (.int .i64 2), .v (.int .i64 0), .v (.int .i64 1), .v (.int .i64 3)])], 1⟩
theorem k212_ok : k212.ok Try.prog := runP_ok tab_ok 200 60 k212.g k212.args k212.h k212.k k212.r k212.h' k212.k' (by kernel_rfl)
def k215 : Known := ⟨76, [.ref 0 0 4 1 (some 4)], [(0, .cells [.v (.int .i64 2), .v (.int .i64 1), .v (.int .i64 3), .v (.int .i64 0)])], 1, .v (.int .i64 3), [(0, .cells [.v (.int .i64 2), .v (.int .i64 1), .v (.int .i64 3), .v (.int .i64 0)])], 1⟩
theorem k215_ok : k215.ok Try.prog := runP_ok tab_ok 200 60 k215.g k215.args k215.h k215.k k215.r k215.h' k215.k' (by kernel_rfl)
def k218 : Known := ⟨76, [.ref 0 0 4 1 (some 4)], [(0, .cells [.v (.int .i64 3), .v (.int .i64 0), .v (.int .i64 1), .v (.int .i64 2)])], 1, .v (.int .i64 1), [(0, .cells [.v (.int .i64 3), .v (.int .i64 0), .v (.int .i64 1), .v (.int .i64 2)])], 1⟩
theorem k218_ok : k218.ok Try.prog := runP_ok tab_ok 200 60 k218.g k218.args k218.h k218.k k218.r k218.h' k218.k' (by kernel_rfl)
def k221 : Known := ⟨76, [.ref 0 0 4 1 (some 4)], [(0, .cells [.v (.int .i64 3), .v (.int .i64 1), .v (.int .i64 2), .v (.int .i64 0)])], 1, .v (.int .i64 2), [(0, .cells [.v (.int .i64 3), .v (.int .i64 1), .v (.int .i64 2), .v (.int .i64 0)])], 1⟩
theorem k221_ok : k221.ok Try.prog := runP_ok tab_ok 200 60 k221.g k221.args k221.h k221.k k221.r k221.h' k221.k' (by kernel_rfl)
end
section
set_option maxRecDepth 1000000
def k201 : Known := ⟨76, [.ref 0 0 4 1 (some 4)], [(0, .cells [.v (.int .i64 0), .v (.int .i64 1), .v (.int .i64 3), .v (.int .i64 2)])], 1, .v (.int .i64 1), [(0, .cells [.v (.int .i64 0), .v (.int .i64 1), .v (.int .i64 3), .v (.int .i64 2)])], 1⟩
theorem k201_ok : k201.ok Try.prog := runP_ok tab_ok 200 60 k201.g k201.args k201.h k201.k k201.r k201.h' k201.k' (by kernel_rfl)
def k204 : Known := ⟨76, [.ref 0 0 4 1 (some 4)], [(0, .cells [.v (.int .i64 0), .v (.int .i64 3), .v (.int .i64 1), .v (.int .i64 2)])], 1, .v (.int .i64 1), [(0, .cells [.v (.int .i64 0), .v (.int .i64 3), .v (.int .i64 1), .v (.int .i64 2)])], 1⟩
theorem k204_ok : k204.ok Try.prog := runP_ok tab_ok 200 60 k204.g k204.args k204.h k204.k k204.r k204.h' k204.k' (by kernel_rfl)
def k207 : Known := ⟨76, [.ref 0 0 4 1 (some 4)], [(0, .cells [.v (.int .i64 1), .v (.int .i64 0), .v (.int .i64 3), .v (.int .i64 2)])], 1, .v (.int .i64 1), [(0, .cells [.v (.int .i64 1), .v (.int .i64 0), .v (.int .i64 3), .v (.int .i64 2)])], 1⟩
theorem k207_ok : k207.ok Try.prog := runP_ok tab_ok 200 60 k207.g k207.args k207.h k207.k k207.r k207.h' k207.k' (by kernel_rfl)
def k210 : Known := ⟨76, [.ref 0 0 4 1 (some 4)], [(0, .cells [.v (.int .i64 1), .v (.int .i64 3), .v (.int .i64 0), .v (.int .i64 2)])], 1, .v (.int .i64 2), [(0, .cells [.v (.int .i64 1), .v (.int .i64 3), .v (.int .i64 0), .v (.int .i64 2)])], 1⟩
theorem k210_ok : k210.ok Try.prog := runP_ok tab_ok 200 60 k210.g k210.args k210.h k210.k k210.r k210.h' k210.k' (by kernel_rfl)
def k213 : Known := ⟨76, [.ref 0 0 4 1 (some 4)], [(0, .cells [.v (.int .i64 2), .v (.int .i64 0), .v (.int .i64 3), .v (.int .i64 1)])], 1, .v (.int .i64 2), [(0, .cells [.v (.int .i64 2), .v (.int .i64 0), .v (.int .i64 3), .v (.int .i64 1)])], 1⟩
theorem k213_ok : k213.ok Try.prog := runP_ok tab_ok 200 60 k213.g k213.args k213.h k213.k k213.r k213.h' k213.k' (by kernel_rfl)
def k216 : Known := ⟨76, [.ref 0 0 4 1 (some 4)], [(0, .cells [.v (.int .i64 2), .v (.int .i64 3), .v (.int .i64 0), .v (.int .i64 1)])], 1, .v (.int .i64 2), [(0, .cells [.v (.int .i64 2), .v (.int .i64 3), .v (.int .i64 0), .v (.int .i64 1)])], 1⟩
theorem k216_ok : k216.ok Try.prog := runP_ok tab_ok 200 60 k216.g k216.args k216.h k216.k k216.r k216.h' k216.k' (by kernel_rfl)
def k219 : Known := ⟨76, [.ref 0 0 4 1 (some 4)], [(0, .cells [.v (.int .i64 3), .v (.int .i64 0), .v (.int .i64 2), .v (.int .i64 1)])], 1, .v (.int .i64 1), [(0, .cells [.v (.int .i64 3), .v (.int .i64 0), .v (.int .i64 2), .v (.int .i64 1)])], 1⟩
theorem k219_ok : k219.ok Try.prog := runP_ok tab_ok 200 60 k219.g k219.args k219.h k219.k k219.r k219.h' k219.k' (by kernel_rfl)
def k222 : Known := ⟨76, [.ref 0 0 4 1 (some 4)], [(0, .cells [.v (.int .i64 3), .v (.int .i64 2), .v (.int .i64 0), .v (.int .i64 1)])], 1, .v (.int .i64 1), [(0, .cells [.v (.int .i64 3), .v (.int .i64 2), .v (.int .i64 0), .v (.int .i64 1)])], 1⟩
theorem k222_ok : k222.ok Try.prog := runP_ok tab_ok 200 60 k222.g k222.args k222.h k222.k k222.r k222.h' k222.k' (by kernel_rfl)
end
section
set_option maxRecDepth 1000000
def k202 : Known := ⟨76, [.ref 0 0 4 1 (some 4)], [(0, .cells [.v (.int .i64 0), .v (.int .i64 2), .v (.int .i64 1), .v (.int .i64 3)])], 1, .v (.int .i64 1), [(0, .cells [.v (.int .i64 0), .v (.int .i64 2), .v (.int .i64 1), .v (.int .i64 3)])], 1⟩
theorem k202_ok : k202.ok Try.prog := runP_ok tab_ok 200 60 k202.g k202.args k202.h k202.k k202.r k202.h' k202.k' (by kernel_rfl)
def k205 : Known := ⟨76, [.ref 0 0 4 1 (some 4)], [(0, .cells [.v (.int .i64 0), .v (.int .i64 3), .v (.int .i64 2), .v (.int .i64 1)])], 1, .v (.int .i64 1), [(0, .cells [.v (.int .i64 0), .v (.int .i64 3), .v (.int .i64 2), .v (.int .i64 1)])], 1⟩
theorem k205_ok : k205.ok Try.prog := runP_ok tab_ok 200 60 k205.g k205.args k205.h k205.k k205.r k205.h' k205.k' (by kernel_rfl)
def k208 : Known := ⟨76, [.ref 0 0 4 1 (some 4)], [(0, .cells [.v (.int .i64 1), .v (.int .i64 2), .v (.int .i64 0), .v (.int .i64 3)])], 1, .v (.int .i64 2), [(0, .cells [.v (.int .i64 1), .v (.int .i64 2), .v (.int .i64 0), .v (.int .i64 3)])], 1⟩
theorem k208_ok : k208.ok Try.prog := runP_ok tab_ok 200 60 k208.g k208.args k208.h k208.k k208.r k208.h' k208.k' (by kernel_rfl)
def k211 : Known := ⟨76, [.ref 0 0 4 1 (some 4)], [(0, .cells [.v (.int .i64 1), .v (.int .i64 3), .v (.int .i64 2), .v (.int .i64 0)])], 1, .v (.int .i64 2), [(0, .cells [.v (.int .i64 1), .v (.int .i64 3), .v (.int .i64 2), .v (.int .i64 0)])], 1⟩
theorem k211_ok : k211.ok Try.prog := runP_ok tab_ok 200 60 k211.g k211.args k211.h k211.k k211.r k211.h' k211.k' (by kernel_rfl)
def k214 : Known := ⟨76, [.ref 0 0 4 1 (some 4)], [(0, .cells [.v (.int .i64 2), .v (.int .i64 1), .v (.int .i64 0), .v (.int .i64 3)])], 1, .v (.int .i64 1), [(0, .cells [.v (.int .i64 2), .v (.int .i64 1), .v (.int .i64 0), .v (.int .i64 3)])], 1⟩
theorem k214_ok : k214.ok Try.prog := runP_ok tab_ok 200 60 k214.g k214.args k214.h k214.k k214.r k214.h' k214.k' (by kernel_rfl)
def k217 : Known := ⟨76, [.ref 0 0 4 1 (some 4)], [(0, .cells [.v (.int .i64 2), .v (.int .i64 3), .v (.int .i64 1), .v (.int .i64 0)])], 1, .v (.int .i64 2), [(0, .cells [.v (.int .i64 2), .v (.int .i64 3), .v (.int .i64 1), .v (.int .i64 0)])], 1⟩
theorem k217_ok : k217.ok Try.prog := runP_ok tab_ok 200 60 k217.g k217.args k217.h k217.k k217.r k217.h' k217.k' (by kernel_rfl)
def k220 : Known := ⟨76, [.ref 0 0 4 1 (some 4)], [(0, .cells [.v (.int .i64 3), .v (.int .i64 1), .v (.int .i64 0), .v (.int .i64 2)])], 1, .v (.int .i64 1), [(0, .cells [.v (.int .i64 3), .v (.int .i64 1), .v (.int .i64 0), .v (.int .i64 2)])], 1⟩
theorem k220_ok : k220.ok Try.prog := runP_ok tab_ok 200 60 k220.g k220.args k220.h k220.k k220.r k220.h' k220.k' (by kernel_rfl)
def k223 : Known := ⟨76, [.ref 0 0 4 1 (some 4)], [(0, .cells [.v (.int .i64 3), .v (.int .i64 2), .v (.int .i64 1), .v (.int .i64 0)])], 1, .v (.int .i64 1), [(0, .cells [.v (.int .i64 3), .v (.int .i64 2), .v (.int .i64 1), .v (.int .i64 0)])], 1⟩
theorem k223_ok : k223.ok Try.prog := runP_ok tab_ok 200 60 k223.g k223.args k223.h k223.k k223.r k223.h' k223.k' (by kernel_rfl)
end
section
set_option maxRecDepth 1000000
def k1 : Known := ⟨18, [.ref 0 0 3 1 (some 3)], [(0, .cells [.v (.int .i64 2), .v (.int .i64 0), .v (.int .i64 1)])], 1, .tup [.v (.string (⟨#[105, 105, 111, 105, 111, 111]⟩ : ByteArray)), .v (.int .i64 0)], [(0, .cells [.v (.int .i64 2), .v (.int .i64 0), .v (.int .i64 1)])], 1⟩
theorem k1_ok : k1.ok Try.prog := runP_ok tab_ok 200 60 k1.g k1.args k1.h k1.k k1.r k1.h' k1.k' (by kernel_rfl)
def k4 : Known := ⟨25, [.ref 0 0 3 1 (some 3)], [(0, .cells [.v (.int .i64 2), .v (.int .i64 0), .v (.int .i64 1)])], 1, .tup [.v (.bool true), .v (.int .i64 0)], [(0, .cells [.v (.int .i64 2), .v (.int .i64 0), .v (.int .i64 1)])], 1⟩
theorem k4_ok : k4.ok Try.prog := runP_ok tab_ok 200 60 k4.g k4.args k4.h k4.k k4.r k4.h' k4.k' (by kernel_rfl)
def k7 : Known := ⟨33, [.v (.int .i64 4), .v (.int .i64 2)], [], 0, .tup [.v (.int .i64 22), .v (.int .i64 0)], [], 0⟩
theorem k7_ok : k7.ok Try.prog := runQ_ok (known_ok (ms := [k200, k201, k202, k203, k204, k205, k206, k207, k208, k209, k210, k211, k212, k213, k214, k215, k216, k217, k218, k219, k220, k221, k222, k223]) ⟨k200_ok, k201_ok, k202_ok, k203_ok, k204_ok, k205_ok, k206_ok, k207_ok, k208_ok, k209_ok, k210_ok, k211_ok, k212_ok, k213_ok, k214_ok, k215_ok, k216_ok, k217_ok, k218_ok, k219_ok, k220_ok, k221_ok, k222_ok, k223_ok, trivial⟩) tab_ok 200 60 k7.g k7.args k7.h k7.k k7.r k7.h' k7.k' (by kernel_rfl)
def k10 : Known := ⟨39, [.ref 0 0 3 1 (some 3)], [(0, .cells [.v (.int .i64 1), .v (.int .i64 2), .v (.int .i64 0)])], 1, .tup [.ref 1 0 3 1 none, .v (.int .i64 0)], [(0, .cells [.v (.int .i64 1), .v (.int .i64 2), .v (.int .i64 0)]), (1, .cells [.v (.int .i64 0), .v (.int .i64 1), .v (.int .i64 0)])], 2⟩
theorem k10_ok : k10.ok Try.prog := runP_ok tab_ok 200 60 k10.g k10.args k10.h k10.k k10.r k10.h' k10.k' (by kernel_rfl)
def k13 : Known := ⟨20, [.ref 0 0 3 1 (some 3), .v (.string (⟨#[105, 105]⟩ : ByteArray))], [(0, .cells [.v (.int .i64 2), .v (.int .i64 0), .v (.int .i64 1)])], 1, .tup [.v (.slice none 0 0), .v (.int .i64 21)], [(0, .cells [.v (.int .i64 2), .v (.int .i64 0), .v (.int .i64 1)])], 1⟩
theorem k13_ok : k13.ok Try.prog := runP_ok tab_ok 200 60 k13.g k13.args k13.h k13.k k13.r k13.h' k13.k' (by kernel_rfl)
end
section
set_option maxRecDepth 1000000
def k2 : Known := ⟨20, [.ref 0 0 3 1 (some 3), .v (.string (⟨#[105, 105, 105, 111, 111, 111]⟩ : ByteArray))], [(0, .cells [.v (.int .i64 2), .v (.int .i64 0), .v (.int .i64 1)])], 1, .tup [.ref 1 0 3 1 none, .v (.int .i64 0)], [(0, .cells [.v (.int .i64 2), .v (.int .i64 0), .v (.int .i64 1)]), (1, .cells [.v (.int .i64 1), .v (.int .i64 0), .v (.int .i64 2)])], 2⟩
theorem k2_ok : k2.ok Try.prog := runP_ok tab_ok 200 60 k2.g k2.args k2.h k2.k k2.r k2.h' k2.k' (by kernel_rfl)
def k5 : Known := ⟨27, [.ref 0 0 3 1 (some 3)], [(0, .cells [.v (.int .i64 1), .v (.int .i64 2), .v (.int .i64 0)])], 1, .tup [.v (.int .i64 0), .v (.int .i64 1), .v (.int .i64 2), .v (.int .i64 0)], [(0, .cells [.v (.int .i64 1), .v (.int .i64 2), .v (.int .i64 0)])], 1⟩
theorem k5_ok : k5.ok Try.prog := runP_ok tab_ok 200 60 k5.g k5.args k5.h k5.k k5.r k5.h' k5.k' (by kernel_rfl)
def k8 : Known := ⟨35, [.ref 0 0 3 1 (some 3)], [(0, .cells [.v (.int .i64 1), .v (.int .i64 2), .v (.int .i64 0)])], 1, .tup [.v (.string (⟨#[105, 105, 111, 105, 111, 111]⟩ : ByteArray)), .v (.int .i64 0)], [(0, .cells [.v (.int .i64 1), .v (.int .i64 2), .v (.int .i64 0)])], 1⟩
theorem k8_ok : k8.ok Try.prog := runP_ok tab_ok 200 60 k8.g k8.args k8.h k8.k k8.r k8.h' k8.k' (by kernel_rfl)
def k11 : Known := ⟨35, [.ref 0 0 3 1 (some 3)], [(0, .cells [.v (.int .i64 2), .v (.int .i64 0), .v (.int .i64 1)])], 1, .tup [.v (.string (⟨#[]⟩ : ByteArray)), .v (.int .i64 12)], [(0, .cells [.v (.int .i64 2), .v (.int .i64 0), .v (.int .i64 1)])], 1⟩
theorem k11_ok : k11.ok Try.prog := runP_ok tab_ok 200 60 k11.g k11.args k11.h k11.k k11.r k11.h' k11.k' (by kernel_rfl)
def k14 : Known := ⟨31, [.ref 0 0 3 1 (some 3), .v (.int .i64 0), .v (.int .i64 1), .v (.int .i64 2)], [(0, .cells [.v (.int .i64 1), .v (.int .i64 2), .v (.int .i64 0)])], 1, .v (.int .i64 0), [(0, .cells [.v (.int .i64 1), .v (.int .i64 2), .v (.int .i64 0)])], 1⟩
theorem k14_ok : k14.ok Try.prog := runP_ok tab_ok 200 60 k14.g k14.args k14.h k14.k k14.r k14.h' k14.k' (by kernel_rfl)
end
section
set_option maxRecDepth 1000000
def k100 : Known := ⟨15, [], [], 0, .v (.bool true), [], 0⟩
theorem k100_ok : k100.ok Try.prog := runQ_ok (known_ok (ms := [k0, k1, k2, k3, k4, k5, k6, k7, k8, k9, k10, k11, k12, k13, k14, k15]) ⟨k0_ok, k1_ok, k2_ok, k3_ok, k4_ok, k5_ok, k6_ok, k7_ok, k8_ok, k9_ok, k10_ok, k11_ok, k12_ok, k13_ok, k14_ok, k15_ok, trivial⟩) tab_ok 200 60 k100.g k100.args k100.h k100.k k100.r k100.h' k100.k' (by kernel_rfl)
end
section
set_option maxRecDepth 1000000
def k16 : Known := ⟨16, [.ref 0 0 3 1 (some 3)], [(0, .cells [.v (.int .i64 2), .v (.int .i64 0), .v (.int .i64 1)])], 1, .tup [.ref 1 0 3 1 none, .v (.int .i64 0)], [(0, .cells [.v (.int .i64 2), .v (.int .i64 0), .v (.int .i64 1)]), (1, .cells [.v (.int .i64 0), .v (.int .i64 1), .v (.int .i64 2)])], 2⟩
theorem k16_ok : k16.ok Try.prog := runP_ok tab_ok 200 60 k16.g k16.args k16.h k16.k k16.r k16.h' k16.k' (by kernel_rfl)
def k19 : Known := ⟨29, [.ref 0 0 3 1 (some 3)], [(0, .cells [.v (.int .i64 0), .v (.int .i64 1), .v (.int .i64 2)])], 1, .tup [.v (.int .i64 0), .v (.int .i64 0)], [(0, .cells [.v (.int .i64 0), .v (.int .i64 1), .v (.int .i64 2)])], 1⟩
theorem k19_ok : k19.ok Try.prog := runP_ok tab_ok 200 60 k19.g k19.args k19.h k19.k k19.r k19.h' k19.k' (by kernel_rfl)
def k22 : Known := ⟨33, [.v (.int .i64 4), .v (.int .i64 0)], [], 0, .tup [.v (.int .i64 1), .v (.int .i64 0)], [], 0⟩
theorem k22_ok : k22.ok Try.prog := runQ_ok (known_ok (ms := [k200, k201, k202, k203, k204, k205, k206, k207, k208, k209, k210, k211, k212, k213, k214, k215, k216, k217, k218, k219, k220, k221, k222, k223]) ⟨k200_ok, k201_ok, k202_ok, k203_ok, k204_ok, k205_ok, k206_ok, k207_ok, k208_ok, k209_ok, k210_ok, k211_ok, k212_ok, k213_ok, k214_ok, k215_ok, k216_ok, k217_ok, k218_ok, k219_ok, k220_ok, k221_ok, k222_ok, k223_ok, trivial⟩) tab_ok 200 60 k22.g k22.args k22.h k22.k k22.r k22.h' k22.k' (by kernel_rfl)
def k25 : Known := ⟨35, [.ref 0 0 3 1 (some 3)], [(0, .cells [.v (.int .i64 2), .v (.int .i64 1), .v (.int .i64 0)])], 1, .tup [.v (.string (⟨#[105, 105, 105, 111, 111, 111]⟩ : ByteArray)), .v (.int .i64 0)], [(0, .cells [.v (.int .i64 2), .v (.int .i64 1), .v (.int .i64 0)])], 1⟩
theorem k25_ok : k25.ok Try.prog := runP_ok tab_ok 200 60 k25.g k25.args k25.h k25.k k25.r k25.h' k25.k' (by kernel_rfl)
def k28 : Known := ⟨20, [.ref 0 0 3 1 (some 3), .v (.string (⟨#[111]⟩ : ByteArray))], [(0, .cells [.v (.int .i64 2), .v (.int .i64 0), .v (.int .i64 1)])], 1, .tup [.v (.slice none 0 0), .v (.int .i64 4)], [(0, .cells [.v (.int .i64 2), .v (.int .i64 0), .v (.int .i64 1)])], 1⟩
theorem k28_ok : k28.ok Try.prog := runP_ok tab_ok 200 60 k28.g k28.args k28.h k28.k k28.r k28.h' k28.k' (by kernel_rfl)
def k31 : Known := ⟨33, [.v (.int .i64 8), .v (.int .i64 1)], [], 0, .tup [.v (.int .i64 0), .v (.int .i64 1)], [], 0⟩
theorem k31_ok : k31.ok Try.prog := runP_ok tab_ok 200 60 k31.g k31.args k31.h k31.k k31.r k31.h' k31.k' (by kernel_rfl)
def k34 : Known := ⟨31, [.ref 0 0 3 1 (some 3), .v (.int .i64 0), .v (.int .i64 1), .v (.int .i64 3)], [(0, .cells [.v (.int .i64 1), .v (.int .i64 2), .v (.int .i64 0)])], 1, .v (.int .i64 2), [(0, .cells [.v (.int .i64 1), .v (.int .i64 2), .v (.int .i64 0)])], 1⟩
theorem k34_ok : k34.ok Try.prog := runP_ok tab_ok 200 60 k34.g k34.args k34.h k34.k k34.r k34.h' k34.k' (by kernel_rfl)
end
section
set_option maxRecDepth 1000000
def k17 : Known := ⟨18, [.ref 0 0 3 1 (some 3)], [(0, .cells [.v (.int .i64 1), .v (.int .i64 2), .v (.int .i64 0)])], 1, .tup [.v (.string (⟨#[105, 111, 105, 105, 111, 111]⟩ : ByteArray)), .v (.int .i64 0)], [(0, .cells [.v (.int .i64 1), .v (.int .i64 2), .v (.int .i64 0)])], 1⟩
theorem k17_ok : k17.ok Try.prog := runP_ok tab_ok 200 60 k17.g k17.args k17.h k17.k k17.r k17.h' k17.k' (by kernel_rfl)
def k20 : Known := ⟨29, [.ref 0 0 3 1 (some 3)], [(0, .cells [.v (.int .i64 2), .v (.int .i64 0), .v (.int .i64 1)])], 1, .tup [.v (.int .i64 1), .v (.int .i64 0)], [(0, .cells [.v (.int .i64 2), .v (.int .i64 0), .v (.int .i64 1)])], 1⟩
theorem k20_ok : k20.ok Try.prog := runP_ok tab_ok 200 60 k20.g k20.args k20.h k20.k k20.r k20.h' k20.k' (by kernel_rfl)
def k23 : Known := ⟨33, [.v (.int .i64 4), .v (.int .i64 1)], [], 0, .tup [.v (.int .i64 14), .v (.int .i64 0)], [], 0⟩
theorem k23_ok : k23.ok Try.prog := runQ_ok (known_ok (ms := [k200, k201, k202, k203, k204, k205, k206, k207, k208, k209, k210, k211, k212, k213, k214, k215, k216, k217, k218, k219, k220, k221, k222, k223]) ⟨k200_ok, k201_ok, k202_ok, k203_ok, k204_ok, k205_ok, k206_ok, k207_ok, k208_ok, k209_ok, k210_ok, k211_ok, k212_ok, k213_ok, k214_ok, k215_ok, k216_ok, k217_ok, k218_ok, k219_ok, k220_ok, k221_ok, k222_ok, k223_ok, trivial⟩) tab_ok 200 60 k23.g k23.args k23.h k23.k k23.r k23.h' k23.k' (by kernel_rfl)
def k26 : Known := ⟨37, [.ref 0 0 4 1 (some 4)], [(0, .cells [.v (.int .i64 1), .v (.int .i64 2), .v (.int .i64 3), .v (.int .i64 0)])], 1, .tup [.ref 1 0 3 2 none, .v (.int .i64 0)], [(0, .cells [.v (.int .i64 1), .v (.int .i64 2), .v (.int .i64 3), .v (.int .i64 0)]), (1, .cells [.v (.int .i64 1), .v (.int .i64 2), .v (.int .i64 1), .v (.int .i64 3), .v (.int .i64 2), .v (.int .i64 3)])], 2⟩
theorem k26_ok : k26.ok Try.prog := runP_ok tab_ok 200 60 k26.g k26.args k26.h k26.k k26.r k26.h' k26.k' (by kernel_rfl)
def k29 : Known := ⟨20, [.ref 0 0 3 1 (some 3), .v (.string (⟨#[105, 120]⟩ : ByteArray))], [(0, .cells [.v (.int .i64 2), .v (.int .i64 0), .v (.int .i64 1)])], 1, .tup [.v (.slice none 0 0), .v (.int .i64 10)], [(0, .cells [.v (.int .i64 2), .v (.int .i64 0), .v (.int .i64 1)])], 1⟩
theorem k29_ok : k29.ok Try.prog := runP_ok tab_ok 200 60 k29.g k29.args k29.h k29.k k29.r k29.h' k29.k' (by kernel_rfl)
def k32 : Known := ⟨27, [.ref 0 0 3 1 (some 3)], [(0, .cells [.v (.int .i64 2), .v (.int .i64 0), .v (.int .i64 1)])], 1, .tup [.v (.int .i64 0), .v (.int .i64 0), .v (.int .i64 0), .v (.int .i64 13)], [(0, .cells [.v (.int .i64 2), .v (.int .i64 0), .v (.int .i64 1)])], 1⟩
theorem k32_ok : k32.ok Try.prog := runP_ok tab_ok 200 60 k32.g k32.args k32.h k32.k k32.r k32.h' k32.k' (by kernel_rfl)
end
section
set_option maxRecDepth 1000000
def k18 : Known := ⟨20, [.ref 0 0 3 1 (some 3), .v (.string (⟨#[105, 105, 111, 105, 111, 111]⟩ : ByteArray))], [(0, .cells [.v (.int .i64 2), .v (.int .i64 0), .v (.int .i64 1)])], 1, .tup [.ref 1 0 3 1 none, .v (.int .i64 0)], [(0, .cells [.v (.int .i64 2), .v (.int .i64 0), .v (.int .i64 1)]), (1, .cells [.v (.int .i64 0), .v (.int .i64 1), .v (.int .i64 2)])], 2⟩
theorem k18_ok : k18.ok Try.prog := runP_ok tab_ok 200 60 k18.g k18.args k18.h k18.k k18.r k18.h' k18.k' (by kernel_rfl)
def k21 : Known := ⟨29, [.ref 0 0 3 1 (some 3)], [(0, .cells [.v (.int .i64 1), .v (.int .i64 2), .v (.int .i64 0)])], 1, .tup [.v (.int .i64 2), .v (.int .i64 0)], [(0, .cells [.v (.int .i64 1), .v (.int .i64 2), .v (.int .i64 0)])], 1⟩
theorem k21_ok : k21.ok Try.prog := runP_ok tab_ok 200 60 k21.g k21.args k21.h k21.k k21.r k21.h' k21.k' (by kernel_rfl)
def k24 : Known := ⟨33, [.v (.int .i64 4), .v (.int .i64 3)], [], 0, .tup [.v (.int .i64 24), .v (.int .i64 0)], [], 0⟩
theorem k24_ok : k24.ok Try.prog := runQ_ok (known_ok (ms := [k200, k201, k202, k203, k204, k205, k206, k207, k208, k209, k210, k211, k212, k213, k214, k215, k216, k217, k218, k219, k220, k221, k222, k223]) ⟨k200_ok, k201_ok, k202_ok, k203_ok, k204_ok, k205_ok, k206_ok, k207_ok, k208_ok, k209_ok, k210_ok, k211_ok, k212_ok, k213_ok, k214_ok, k215_ok, k216_ok, k217_ok, k218_ok, k219_ok, k220_ok, k221_ok, k222_ok, k223_ok, trivial⟩) tab_ok 200 60 k24.g k24.args k24.h k24.k k24.r k24.h' k24.k' (by kernel_rfl)
def k27 : Known := ⟨39, [.ref 0 0 3 1 (some 3)], [(0, .cells [.v (.int .i64 2), .v (.int .i64 0), .v (.int .i64 1)])], 1, .tup [.ref 1 0 3 1 none, .v (.int .i64 0)], [(0, .cells [.v (.int .i64 2), .v (.int .i64 0), .v (.int .i64 1)]), (1, .cells [.v (.int .i64 0), .v (.int .i64 0), .v (.int .i64 0)])], 2⟩
theorem k27_ok : k27.ok Try.prog := runP_ok tab_ok 200 60 k27.g k27.args k27.h k27.k k27.r k27.h' k27.k' (by kernel_rfl)
def k30 : Known := ⟨20, [.ref 0 0 3 1 (some 3), .v (.string (⟨#[105, 105, 105, 105]⟩ : ByteArray))], [(0, .cells [.v (.int .i64 2), .v (.int .i64 0), .v (.int .i64 1)])], 1, .tup [.v (.slice none 0 0), .v (.int .i64 2)], [(0, .cells [.v (.int .i64 2), .v (.int .i64 0), .v (.int .i64 1)])], 1⟩
theorem k30_ok : k30.ok Try.prog := runP_ok tab_ok 200 60 k30.g k30.args k30.h k30.k k30.r k30.h' k30.k' (by kernel_rfl)
def k33 : Known := ⟨31, [.ref 0 0 3 1 (some 3), .v (.int .i64 0), .v (.int .i64 2), .v (.int .i64 1)], [(0, .cells [.v (.int .i64 1), .v (.int .i64 2), .v (.int .i64 0)])], 1, .v (.int .i64 7), [(0, .cells [.v (.int .i64 1), .v (.int .i64 2), .v (.int .i64 0)])], 1⟩
theorem k33_ok : k33.ok Try.prog := runP_ok tab_ok 200 60 k33.g k33.args k33.h k33.k k33.r k33.h' k33.k' (by kernel_rfl)
end
section
set_option maxRecDepth 1000000
def k101 : Known := ⟨7, [], [], 0, .v (.bool true), [], 0⟩
theorem k101_ok : k101.ok Try.prog := runQ_ok (known_ok (ms := [k100, k0, k1, k2, k3, k4, k5, k6, k7, k8, k9, k10, k11, k12, k13, k14, k15, k16, k17, k18, k19, k20, k21, k22, k23, k24, k25, k26, k27, k28, k29, k30, k31, k32, k33, k34]) ⟨k100_ok, k0_ok, k1_ok, k2_ok, k3_ok, k4_ok, k5_ok, k6_ok, k7_ok, k8_ok, k9_ok, k10_ok, k11_ok, k12_ok, k13_ok, k14_ok, k15_ok, k16_ok, k17_ok, k18_ok, k19_ok, k20_ok, k21_ok, k22_ok, k23_ok, k24_ok, k25_ok, k26_ok, k27_ok, k28_ok, k29_ok, k30_ok, k31_ok, k32_ok, k33_ok, k34_ok, trivial⟩) tab_ok 200 60 k101.g k101.args k101.h k101.k k101.r k101.h' k101.k' (by kernel_rfl)
end
end Go.Sx.Lk
