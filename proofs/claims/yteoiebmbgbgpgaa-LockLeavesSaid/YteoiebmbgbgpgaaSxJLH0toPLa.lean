/- Arguments of rows that are lists of numbers. No conditions. -/
import Derived.Test.YteoiebmbgbgpgaaSxR
import Derived.Test.YteoiebmbgbgpgaaRows
import Derived.WalkKit
import Derived.ProofKit
import Derived.OpenShut
import Derived.ShutString
import Derived.ChangeOld
import Derived.ChangeSlices
import Derived.Below
import Derived.Test.YteoiebmbgbgpgaaSxJNtoNq
import Derived.KernelRfl
import Derived.Test.YteoiebmbgbgpgaaProg
set_option linter.unusedVariables false
set_option linter.unusedSimpArgs false
section
namespace Go.Sx
theorem rep_ints {w : World} {a : Option Addr} {len cap : Nat} {zs : List Int}
    (hn : ∀ x, a = some x → x.spot = none)
    (h : (a = none ∧ len = 0 ∧ cap = 0 ∧ zs = []) ∨ ∃ x, a = some x ∧ len ≤ cap ∧ cap ≤ maxLen ∧ zs.length = cap ∧ (∀ i, i < zs.length → w.cell? (x.add i) = some (.int .i64 (zs.getD i 0))) ∧ ∀ n ∈ zs, (Lit.int .i64 n).wf = true) :
    ∃ l u, Rep (There w) w (fun _ => none) (.il (ints l) l.length u) (.slice a len cap) ∧ ∀ n ∈ l, (Lit.int .i64 n).wf = true := by
  rcases h with ⟨rfl, rfl, rfl, rfl⟩ | ⟨x, rfl, hl, hm, hz, hc, hw⟩
  · exact ⟨[], true, .nil, fun n hn => by simp at hn⟩
  · rcases rep_row (w := w) (a := some x) (len := len) (cap := cap) (zs := zs) (.inr ⟨x, rfl, hl, hm, hz, hc, hw⟩) with ⟨_, _, h1, h2, h3⟩ | ⟨u, h1, h2, h3⟩
    · subst h1 h2
      exact ⟨[], true, by
        obtain ⟨b, off, spot⟩ := x
        cases spot with
        | none => exact rep_empty b off 0 (fun _ => rfl)
        | some s => exact absurd (hn _ rfl) (by simp), fun n hn => by simp at hn⟩
    · exact ⟨zs.take len, u, by rw [h2]; exact h1, h3⟩
end Go.Sx
end
section
namespace Go.Proofs.Yteoiebmbgbgpgaa.lrow
open Go.ChangeShapes Go.WideShapes Go.ChangeAt Go.RowKit
set_option maxRecDepth 100000
theorem own : ownKnob Try.prog.godebug = none := by kernel_rfl
theorem laidOut : laidOutB Try.prog = true := by kernel_rfl
theorem cells3 : Try.prog.cellsOf 3 = 1 := by kernel_rfl
theorem spot22 {w : World} {base : Nat} {a : Addr} {len cap : Nat} (h : Value.okWide Try.prog w .any base 22 (.slice (some a) len cap)) : a.spot = none := by
  simp only [Value.okWide, Try.underlying22, Cell.okWide, Cell.ok] at h
  exact h.2.2.2.1
abbrev IsL (w : World) (l : List Int) (u : Bool) (v : Value) : Prop := Go.Sx.Rep (Go.Sx.There w) w (fun _ => none) (.il (Go.Sx.ints l) l.length u) v
theorem arg22 {H : Type} {enc : TypeId × Value → H} {w : World} {a0 : Option Addr} {len cap fuel : Nat} {x : DataW H × List MemPlace}
    {base : Nat} (hv : Value.okWide Try.prog w .any base 22 (.slice a0 len cap)) (hf : DataW.trod enc Try.prog w 0 (fun _ => true) true fuel 22 (Value.cells (.slice a0 len cap)).toList = some x) :
    ∃ l u, IsL w l u (.slice a0 len cap) ∧ ∀ n ∈ l, (Lit.int .i64 n).wf = true := by
  rcases open_ints Try.underlying22 Try.underlying3 cells3 hf with ⟨hcs, hx⟩ | ⟨a, len', cap', zs, hcs, _, hl, hm, hz, hx, hcell, hwz⟩
  · simp [Value.cells] at hcs
    obtain ⟨rfl, rfl, rfl⟩ := hcs
    exact Go.Sx.rep_ints (w := w) (a := none) (len := 0) (cap := 0) (zs := []) (fun x h => by cases h) (.inl ⟨rfl, rfl, rfl, rfl⟩)
  · simp [Value.cells] at hcs
    obtain ⟨rfl, rfl, rfl⟩ := hcs
    simp only [if_true] at hz
    have hsp : ∀ x, some a = some x → x.spot = none := fun x hx => by
      rw [← Option.some.inj hx]; exact spot22 hv
    exact Go.Sx.rep_ints (w := w) (a := some a) (len := len) (cap := cap) (zs := zs) hsp (.inr ⟨a, rfl, hl, hm, hz, hcell, hwz⟩)
end Go.Proofs.Yteoiebmbgbgpgaa.lrow
end
section
namespace Go.Proofs.Yteoiebmbgbgpgaa.lrow
open Go.ChangeShapes Go.WideShapes Go.ChangeAt Go.RowKit
set_option maxRecDepth 100000
theorem argL {H : Type} {enc : TypeId × Value → H} {W : World} {v : Value} {d : DataW H} {p : List MemPlace} {base : Nat} (hv : Value.okWide Try.prog W .any base 22 v) (h : DataW.Trod enc Try.prog W 0 (fun _ => true) true 22 v d p) :
    ∃ l u, Go.Sx.Rep (Go.Sx.There W) W (fun _ => none) (.il (Go.Sx.ints l) l.length u) v := by
  obtain ⟨a0, len, cap, rfl⟩ := okWide_slice Try.underlying22 hv
  obtain ⟨fuel, hf⟩ := h
  obtain ⟨l, u, h, _⟩ := arg22 hv hf
  exact ⟨l, u, h⟩
end Go.Proofs.Yteoiebmbgbgpgaa.lrow
end
section
set_option maxRecDepth 100000
namespace Go.Sx.Lk
open Go Go.Sx Go.Proofs
noncomputable def p15 : PCode := pcOf Try.prog Try.f15 (Try.f15.body.getD .skip) [[], [1, 2], [1, 2, 3, 4], [1, 2, 3, 4, 5, 6], [1, 2, 3, 4, 5, 6, 7, 8], [1, 2, 3, 4, 5, 6, 7, 8, 9, 10], [1, 2, 3, 4, 5, 6, 7, 8, 9, 10, 11, 12, 13, 14], [1, 2, 3, 4, 5, 6, 7, 8, 9, 10, 11, 12, 13, 14, 15, 16], [1, 3, 5, 7, 9, 11, 12, 13, 15, 84], [0], [1, 2, 3, 5, 7, 9, 11, 12, 13, 15, 17], [1, 2, 3, 4, 5, 7, 9, 11, 12, 13, 15, 17, 18], [1, 2, 3, 4, 5, 6, 7, 9, 11, 12, 13, 15, 17, 18, 19], [1, 2, 3, 4, 5, 6, 7, 8, 9, 11, 12, 13, 15, 17, 18, 19, 20], [1, 2, 3, 4, 5, 6, 7, 8, 9, 10, 11, 12, 13, 15, 17, 18, 19, 20], [1, 2, 3, 4, 5, 6, 7, 8, 9, 10, 11, 12, 13, 14, 15, 17, 18, 19, 20], [1, 2, 3, 4, 5, 6, 7, 8, 9, 10, 11, 12, 13, 14, 15, 16, 17, 18, 19, 20], [0]]
theorem P15 : PFn Try.prog 15 ⟨p15, [.tmp 0], 215⟩ := .mk3 Try.f15 (Try.f15.body.getD .skip) [[], [1, 2], [1, 2, 3, 4], [1, 2, 3, 4, 5, 6], [1, 2, 3, 4, 5, 6, 7, 8], [1, 2, 3, 4, 5, 6, 7, 8, 9, 10], [1, 2, 3, 4, 5, 6, 7, 8, 9, 10, 11, 12, 13, 14], [1, 2, 3, 4, 5, 6, 7, 8, 9, 10, 11, 12, 13, 14, 15, 16], [1, 3, 5, 7, 9, 11, 12, 13, 15, 84], [0], [1, 2, 3, 5, 7, 9, 11, 12, 13, 15, 17], [1, 2, 3, 4, 5, 7, 9, 11, 12, 13, 15, 17, 18], [1, 2, 3, 4, 5, 6, 7, 9, 11, 12, 13, 15, 17, 18, 19], [1, 2, 3, 4, 5, 6, 7, 8, 9, 11, 12, 13, 15, 17, 18, 19, 20], [1, 2, 3, 4, 5, 6, 7, 8, 9, 10, 11, 12, 13, 15, 17, 18, 19, 20], [1, 2, 3, 4, 5, 6, 7, 8, 9, 10, 11, 12, 13, 14, 15, 17, 18, 19, 20], [1, 2, 3, 4, 5, 6, 7, 8, 9, 10, 11, 12, 13, 14, 15, 16, 17, 18, 19, 20], [0]] Try.func15 (by kernel_rfl) (by kernel_rfl) (by kernel_rfl) (by kernel_rfl) (by decide)
noncomputable def p16 : PCode := pcOf Try.prog Try.f16 (Try.f16.body.getD .skip) [[0], [0, 4], [0, 4, 8], [2, 3], [2, 3]]
theorem P16 : PFn Try.prog 16 ⟨p16, [.tmp 2, .tmp 3], 12⟩ := .mk3 Try.f16 (Try.f16.body.getD .skip) [[0], [0, 4], [0, 4, 8], [2, 3], [2, 3]] Try.func16 (by kernel_rfl) (by kernel_rfl) (by kernel_rfl) (by kernel_rfl) (by decide)
noncomputable def p18 : PCode := pcOf Try.prog Try.f18 (Try.f18.body.getD .skip) [[0], [0, 4], [0, 4, 9], [2, 3], [0, 5], [5], [2, 3]]
theorem P18 : PFn Try.prog 18 ⟨p18, [.tmp 2, .tmp 3], 15⟩ := .mk3 Try.f18 (Try.f18.body.getD .skip) [[0], [0, 4], [0, 4, 9], [2, 3], [0, 5], [5], [2, 3]] Try.func18 (by kernel_rfl) (by kernel_rfl) (by kernel_rfl) (by kernel_rfl) (by decide)
noncomputable def p20 : PCode := pcOf Try.prog Try.f20 (Try.f20.body.getD .skip) [[0, 1], [0, 1, 6], [0, 1, 6, 16], [4, 5], [0, 1, 7], [0, 1, 7, 8], [0, 1, 7, 8, 9], [0, 1, 7, 8, 9, 20, 21], [0, 1, 7, 8, 9, 20, 21, 22], [0, 1, 7, 8, 9, 10, 20, 21], [0, 1, 7, 8, 9, 20, 21, 26], [0, 1, 7, 8, 9, 20, 21, 26, 27], [0, 1, 7, 8, 9, 20, 21, 31], [4, 5], [0, 1, 7, 8, 9, 20, 21], [0, 1, 7, 8, 9, 20, 21], [0, 1, 7, 8, 9, 20, 21, 38], [0, 1, 7, 8, 9, 11, 12, 20, 21], [0, 1, 7, 8, 9, 11, 20, 21, 45], [4, 5], [0, 1, 7, 8, 9, 11, 20, 21], [0, 1, 7, 8, 9, 20, 21], [4, 5], [0, 1, 7, 8, 9, 20, 21], [8, 56], [4, 5], [4, 5]]
theorem P20 : PFn Try.prog 20 ⟨p20, [.tmp 4, .tmp 5], 58⟩ := .mk3 Try.f20 (Try.f20.body.getD .skip) [[0, 1], [0, 1, 6], [0, 1, 6, 16], [4, 5], [0, 1, 7], [0, 1, 7, 8], [0, 1, 7, 8, 9], [0, 1, 7, 8, 9, 20, 21], [0, 1, 7, 8, 9, 20, 21, 22], [0, 1, 7, 8, 9, 10, 20, 21], [0, 1, 7, 8, 9, 20, 21, 26], [0, 1, 7, 8, 9, 20, 21, 26, 27], [0, 1, 7, 8, 9, 20, 21, 31], [4, 5], [0, 1, 7, 8, 9, 20, 21], [0, 1, 7, 8, 9, 20, 21], [0, 1, 7, 8, 9, 20, 21, 38], [0, 1, 7, 8, 9, 11, 12, 20, 21], [0, 1, 7, 8, 9, 11, 20, 21, 45], [4, 5], [0, 1, 7, 8, 9, 11, 20, 21], [0, 1, 7, 8, 9, 20, 21], [4, 5], [0, 1, 7, 8, 9, 20, 21], [8, 56], [4, 5], [4, 5]] Try.func20 (by kernel_rfl) (by kernel_rfl) (by kernel_rfl) (by kernel_rfl) (by decide)
noncomputable def p22_r0 : List PI := [
  ⟨none, some 4, [], .eff fun e => ret (.v (.bool false))⟩]
noncomputable def p22_r1 : List PI := [
  ⟨none, some 6, [0], .eff fun e => ret (e 0)⟩,
  ⟨none, some 7, [6], .eff fun e => effLenSl (e 6)⟩,
  ⟨none, some 8, [1], .eff fun e => ret (e 1)⟩,
  ⟨none, some 9, [8], .eff fun e => effLenSl (e 8)⟩,
  ⟨none, some 10, [7, 9], .eff fun e => effIb .neq (e 7) (e 9)⟩]
noncomputable def p22_r2 : List PI := [
  ⟨none, some 4, [], .eff fun e => ret (.v (.bool false))⟩]
noncomputable def p22_r3 : List PI := [
  ⟨none, some 5, [], .eff fun e => ret (.v (.int .i64 0))⟩]
noncomputable def p22_r4 : List PI := [
  ⟨none, some 11, [5], .eff fun e => ret (e 5)⟩,
  ⟨none, some 12, [0], .eff fun e => ret (e 0)⟩,
  ⟨none, some 13, [12], .eff fun e => effLenSl (e 12)⟩,
  ⟨none, some 14, [11, 13], .eff fun e => effIb .lss (e 11) (e 13)⟩]
noncomputable def p22_r5 : List PI := [
  ⟨none, some 17, [0], .eff fun e => ret (e 0)⟩,
  ⟨none, some 18, [5], .eff fun e => ret (e 5)⟩,
  ⟨none, some 19, [17, 18], .eff fun e => effIdx 1 (e 17) (e 18)⟩,
  ⟨none, some 20, [19], .eff fun e => effLoad1 (e 19)⟩,
  ⟨none, some 21, [1], .eff fun e => ret (e 1)⟩,
  ⟨none, some 22, [5], .eff fun e => ret (e 5)⟩,
  ⟨none, some 23, [21, 22], .eff fun e => effIdx 1 (e 21) (e 22)⟩,
  ⟨none, some 24, [23], .eff fun e => effLoad1 (e 23)⟩,
  ⟨none, some 25, [20, 24], .eff fun e => effIb .neq (e 20) (e 24)⟩]
noncomputable def p22_r6 : List PI := [
  ⟨none, some 4, [], .eff fun e => ret (.v (.bool false))⟩]
noncomputable def p22_r7 : List PI := [
  ⟨none, some 15, [5], .eff fun e => ret (e 5)⟩,
  ⟨none, some 16, [15], .eff fun e => effIb .add (e 15) (.v (.int .i64 1))⟩,
  ⟨none, some 5, [16], .eff fun e => ret (e 16)⟩]
noncomputable def p22_l0 : PCode := (.seq (.seq (.reg p22_r4 [0, 1, 5, 14]) (.cond (.tmp 14) .skip (.exit 0))) (.seq (.block 1 (.seq (.draw p22_r5 [[], [], [0, 1], [2, 0, 1], [], [], [4, 5], [6, 4, 5], [3, 7, 2, 0, 1, 6, 4, 5]] [0, 1, 5, 25]) (.cond (.tmp 25) (.seq (.reg p22_r6 [4]) .ret) .skip))) (.reg p22_r7 [0, 1, 5])))
noncomputable def p22_r8 : List PI := [
  ⟨none, some 4, [], .eff fun e => ret (.v (.bool true))⟩]
noncomputable def p22 : PCode := (.seq (.reg p22_r0 [0, 1]) (.seq (.seq (.reg p22_r1 [0, 1, 10]) (.cond (.tmp 10) (.seq (.reg p22_r2 [4]) .ret) .skip)) (.seq (.seq (.reg p22_r3 [0, 1, 5]) (.block 0 (.loop p22_l0))) (.seq (.reg p22_r8 [4]) .ret))))
theorem P22 : PFn Try.prog 22 ⟨p22, [.tmp 4], 26⟩ := .mk2 Try.f22 (Try.f22.body.getD .skip) [[0, 1], [0, 1, 10], [4], [0, 1, 5], [0, 1, 5, 14], [0, 1, 5, 25], [4], [0, 1, 5], [4]] Try.func22 (by kernel_rfl) (by kernel_rfl) (by kernel_rfl) (by kernel_rfl) (by decide)
noncomputable def p23_r0 : List PI := [
  ⟨none, some 2, [], .eff fun e => ret (.v (.int .i64 0))⟩]
noncomputable def p23_r1 : List PI := [
  ⟨none, some 6, [0], .eff fun e => ret (e 0)⟩,
  ⟨none, some 7, [6], .eff fun e => effLenSl (e 6)⟩,
  ⟨none, some 8, [7], .eff fun e => effIb .eql (e 7) (.v (.int .i64 0))⟩,
  ⟨none, some 9, [8], .eff fun e => ret (e 8)⟩,
  ⟨some (9, false), some 10, [0], .eff fun e => ret (e 0)⟩,
  ⟨some (9, false), some 11, [10], .eff fun e => effLenSl (e 10)⟩,
  ⟨some (9, false), some 12, [11], .eff fun e => effIb .gtr (e 11) (.v (.int .i64 7))⟩,
  ⟨none, some 13, [9, 12], .eff fun e => effPick (e 9) (.v (.bool true)) (e 12)⟩]
noncomputable def p23_r2 : List PI := [
  ⟨none, some 2, [], .eff fun e => ret (.v (.int .i64 1))⟩]
noncomputable def p23_r3 : List PI := [
  ⟨none, some 3, [], .eff fun e => effAlloc ([.bool false, .bool false, .bool false, .bool false, .bool false, .bool false, .bool false])⟩]
noncomputable def p23_r4 : List PI := [
  ⟨none, some 14, [0], .eff fun e => ret (e 0)⟩,
  ⟨none, some 15, [14], .eff fun e => effLenSl (e 14)⟩,
  ⟨none, some 16, [], .eff fun e => ret (.v (.int .i64 0))⟩]
noncomputable def p23_r5 : List PI := [
  ⟨none, some 17, [16, 15], .eff fun e => effIb .lss (e 16) (e 15)⟩]
noncomputable def p23_r6 : List PI := [
  ⟨none, some 18, [14, 16], .eff fun e => effIdx 1 (e 14) (e 16)⟩,
  ⟨none, some 19, [18], .eff fun e => effLoad1 (e 18)⟩,
  ⟨none, some 5, [19], .eff fun e => ret (e 19)⟩]
noncomputable def p23_r7 : List PI := [
  ⟨none, some 21, [5], .eff fun e => ret (e 5)⟩,
  ⟨none, some 22, [0], .eff fun e => ret (e 0)⟩,
  ⟨none, some 23, [22], .eff fun e => effLenSl (e 22)⟩,
  ⟨none, some 24, [21, 23], .call 70 ([.tmp 21, .tmp 23])⟩,
  ⟨none, some 25, [24], .eff fun e => effNt (e 24)⟩,
  ⟨none, some 20, [25], .eff fun e => ret (e 25)⟩]
noncomputable def p23_r8 : List PI := [
  ⟨none, some 2, [], .eff fun e => ret (.v (.int .i64 2))⟩]
noncomputable def p23_r9 : List PI := [
  ⟨none, some 27, [5], .eff fun e => ret (e 5)⟩,
  ⟨none, some 28, [3, 27], .eff fun e => effIdxA 7 1 (e 3) (e 27)⟩,
  ⟨none, some 29, [28], .eff fun e => effLoad1 (e 28)⟩,
  ⟨none, some 26, [29], .eff fun e => ret (e 29)⟩]
noncomputable def p23_r10 : List PI := [
  ⟨none, some 2, [], .eff fun e => ret (.v (.int .i64 6))⟩]
noncomputable def p23_r11 : List PI := [
  ⟨none, some 30, [5], .eff fun e => ret (e 5)⟩,
  ⟨none, some 31, [3, 30], .eff fun e => effIdxA 7 1 (e 3) (e 30)⟩,
  ⟨none, none, [31], .eff fun e => effStore 1 (e 31) (.v (.bool true))⟩]
noncomputable def p23_r12 : List PI := [
  ⟨none, some 32, [16], .eff fun e => effIb .add (e 16) (.v (.int .i64 1))⟩,
  ⟨none, some 16, [32], .eff fun e => ret (e 32)⟩]
noncomputable def p23_l0 : PCode := (.seq (.reg p23_r5 [0, 3, 14, 15, 16, 17]) (.seq (.cond (.tmp 17) .skip (.exit 0)) (.seq (.block 1 (.seq (.reg p23_r6 [0, 3, 5, 14, 15, 16]) (.seq (.block 2 (.seq (.reg p23_r7 [0, 3, 5, 14, 15, 16, 20]) (.cond (.tmp 20) (.seq (.reg p23_r8 [2]) .ret) (.seq (.reg p23_r9 [0, 3, 5, 14, 15, 16, 26]) (.cond (.tmp 26) (.seq (.reg p23_r10 [2]) .ret) .skip))))) (.reg p23_r11 [0, 3, 14, 15, 16])))) (.reg p23_r12 [0, 3, 14, 15, 16]))))
noncomputable def p23_r13 : List PI := [
  ⟨none, some 2, [], .eff fun e => ret (.v (.int .i64 0))⟩]
noncomputable def p23 : PCode := (.seq (.reg p23_r0 [0]) (.seq (.seq (.reg p23_r1 [0, 13]) (.cond (.tmp 13) (.seq (.reg p23_r2 [2]) .ret) .skip)) (.seq (.reg p23_r3 [0, 3]) (.seq (.seq (.reg p23_r4 [0, 3, 14, 15, 16]) (.block 0 (.loop p23_l0))) (.seq (.reg p23_r13 [2]) .ret)))))
theorem P23 : PFn Try.prog 23 ⟨p23, [.tmp 2], 33⟩ := .mk2 Try.f23 (Try.f23.body.getD .skip) [[0], [0, 13], [2], [0, 3], [0, 3, 14, 15, 16], [0, 3, 14, 15, 16, 17], [0, 3, 5, 14, 15, 16], [0, 3, 5, 14, 15, 16, 20], [2], [0, 3, 5, 14, 15, 16, 26], [2], [0, 3, 14, 15, 16], [0, 3, 14, 15, 16], [2]] Try.func23 (by kernel_rfl) (by kernel_rfl) (by kernel_rfl) (by kernel_rfl) (by decide)
noncomputable def p25 : PCode := pcOf Try.prog Try.f25 (Try.f25.body.getD .skip) [[0], [4, 5], [2, 3]]
theorem P25 : PFn Try.prog 25 ⟨p25, [.tmp 2, .tmp 3], 18⟩ := .mk3 Try.f25 (Try.f25.body.getD .skip) [[0], [4, 5], [2, 3]] Try.func25 (by kernel_rfl) (by kernel_rfl) (by kernel_rfl) (by kernel_rfl) (by decide)
noncomputable def p27 : PCode := pcOf Try.prog Try.f27 (Try.f27.body.getD .skip) [[0], [0, 6], [0, 6, 14], [2, 3, 4, 5], [0, 16, 17, 18], [0, 16, 17, 18, 19], [0, 7, 8, 16, 17, 18], [0, 7, 8, 9, 16, 17, 18], [0, 7, 8, 9, 16, 17, 18, 28], [0, 7, 8, 9, 16, 17, 18, 36], [0, 7, 8, 9, 10, 16, 17, 18], [0, 7, 8, 9, 10, 16, 17, 18, 43], [2, 3, 4, 5], [0, 7, 8, 9, 16, 17, 18], [0, 16, 17, 18], [2, 3, 4, 5]]
theorem P27 : PFn Try.prog 27 ⟨p27, [.tmp 2, .tmp 3, .tmp 4, .tmp 5], 50⟩ := .mk3 Try.f27 (Try.f27.body.getD .skip) [[0], [0, 6], [0, 6, 14], [2, 3, 4, 5], [0, 16, 17, 18], [0, 16, 17, 18, 19], [0, 7, 8, 16, 17, 18], [0, 7, 8, 9, 16, 17, 18], [0, 7, 8, 9, 16, 17, 18, 28], [0, 7, 8, 9, 16, 17, 18, 36], [0, 7, 8, 9, 10, 16, 17, 18], [0, 7, 8, 9, 10, 16, 17, 18, 43], [2, 3, 4, 5], [0, 7, 8, 9, 16, 17, 18], [0, 16, 17, 18], [2, 3, 4, 5]] Try.func27 (by kernel_rfl) (by kernel_rfl) (by kernel_rfl) (by kernel_rfl) (by decide)
noncomputable def p29 : PCode := pcOf Try.prog Try.f29 (Try.f29.body.getD .skip) [[0], [0, 4], [0, 4, 8], [2, 3], [2, 3]]
theorem P29 : PFn Try.prog 29 ⟨p29, [.tmp 2, .tmp 3], 12⟩ := .mk3 Try.f29 (Try.f29.body.getD .skip) [[0], [0, 4], [0, 4, 8], [2, 3], [2, 3]] Try.func29 (by kernel_rfl) (by kernel_rfl) (by kernel_rfl) (by kernel_rfl) (by decide)
noncomputable def p31 : PCode := pcOf Try.prog Try.f31 (Try.f31.body.getD .skip) [[0, 1, 2, 3], [0, 1, 2, 3, 9], [0, 1, 2, 3, 9, 10], [0, 1, 2, 3, 9, 10, 15], [8], [0, 1, 2, 3, 19], [8], [0, 1, 2, 3, 36], [8], [45], [8], [8]]
theorem P31 : PFn Try.prog 31 ⟨p31, [.tmp 8], 66⟩ := .mk3 Try.f31 (Try.f31.body.getD .skip) [[0, 1, 2, 3], [0, 1, 2, 3, 9], [0, 1, 2, 3, 9, 10], [0, 1, 2, 3, 9, 10, 15], [8], [0, 1, 2, 3, 19], [8], [0, 1, 2, 3, 36], [8], [45], [8], [8]] Try.func31 (by kernel_rfl) (by kernel_rfl) (by kernel_rfl) (by kernel_rfl) (by decide)
noncomputable def p33 : PCode := pcOf Try.prog Try.f33 (Try.f33.body.getD .skip) [[2, 3], [2, 3, 18], [4, 5], [2, 3, 6], [2, 3, 6, 7], [2, 3, 6, 7, 8], [6, 8], [6], [4, 5]]
theorem P33 : PFn Try.prog 33 ⟨p33, [.tmp 4, .tmp 5], 25⟩ := .mk3 Try.f33 (Try.f33.body.getD .skip) [[2, 3], [2, 3, 18], [4, 5], [2, 3, 6], [2, 3, 6, 7], [2, 3, 6, 7, 8], [6, 8], [6], [4, 5]] Try.func33 (by kernel_rfl) (by kernel_rfl) (by kernel_rfl) (by kernel_rfl) (by decide)
noncomputable def p35_r0 : List PI := [
  ⟨none, some 2, [], .eff fun e => ret (.v (Value.string (⟨#[]⟩ : ByteArray)))⟩,
  ⟨none, some 3, [], .eff fun e => ret (.v (.int .i64 0))⟩]
noncomputable def p35_r1 : List PI := [
  ⟨none, some 12, [0], .eff fun e => ret (e 0)⟩,
  ⟨none, some 13, [12], .call 23 ([.tmp 12])⟩,
  ⟨none, some 4, [13], .eff fun e => ret (e 13)⟩]
noncomputable def p35_r2 : List PI := [
  ⟨none, some 14, [4], .eff fun e => ret (e 4)⟩,
  ⟨none, some 15, [14], .eff fun e => effIb .neq (e 14) (.v (.int .i64 0))⟩]
noncomputable def p35_r3 : List PI := [
  ⟨none, some 16, [4], .eff fun e => ret (e 4)⟩,
  ⟨none, some 2, [], .eff fun e => ret (.v (Value.string (⟨#[]⟩ : ByteArray)))⟩,
  ⟨none, some 3, [16], .eff fun e => ret (e 16)⟩]
noncomputable def p35_r4 : List PI := [
  ⟨none, some 5, [], .eff fun e => effAlloc ([.slice none 0 0])⟩]
noncomputable def p35_r5 : List PI := [
  ⟨none, some 6, [], .eff fun e => effAllocB ([Value.pointer none, .slice none 0 0])⟩]
noncomputable def p35_r6 : List PI := [
  ⟨none, some 7, [], .eff fun e => ret (.v (.int .i64 0))⟩]
noncomputable def p35_r7 : List PI := [
  ⟨none, some 17, [0], .eff fun e => ret (e 0)⟩,
  ⟨none, some 18, [17], .eff fun e => effLenSl (e 17)⟩,
  ⟨none, some 19, [], .eff fun e => ret (.v (.int .i64 0))⟩]
noncomputable def p35_r8 : List PI := [
  ⟨none, some 20, [19, 18], .eff fun e => effIb .lss (e 19) (e 18)⟩]
noncomputable def p35_r9 : List PI := [
  ⟨none, some 21, [17, 19], .eff fun e => effIdx 1 (e 17) (e 19)⟩,
  ⟨none, some 22, [21], .eff fun e => effLoad1 (e 21)⟩,
  ⟨none, some 9, [22], .eff fun e => ret (e 22)⟩]
noncomputable def p35_r10 : List PI := [
  ⟨none, some 23, [7], .eff fun e => ret (e 7)⟩,
  ⟨none, some 24, [9], .eff fun e => ret (e 9)⟩,
  ⟨none, some 25, [23, 24], .eff fun e => effIb .leq (e 23) (e 24)⟩]
noncomputable def p35_r11 : List PI := [
  ⟨none, some 28, [7], .eff fun e => ret (e 7)⟩,
  ⟨none, some 29, [5, 28], .call 67 ([.tmp 5, .tmp 28])⟩]
noncomputable def p35_r12 : List PI := [
  ⟨none, some 30, [6], .call 65 ([.tmp 6, .const (.int .u8 105)])⟩]
noncomputable def p35_r13 : List PI := [
  ⟨none, some 26, [7], .eff fun e => ret (e 7)⟩,
  ⟨none, some 27, [26], .eff fun e => effIb .add (e 26) (.v (.int .i64 1))⟩,
  ⟨none, some 7, [27], .eff fun e => ret (e 27)⟩]
noncomputable def p35_l0 : PCode := (.seq (.seq (.reg p35_r10 [5, 6, 7, 9, 17, 18, 19, 25]) (.cond (.tmp 25) .skip (.exit 2))) (.seq (.block 3 (.seq (.reg p35_r11 [5, 6, 7, 9, 17, 18, 19]) (.reg p35_r12 [5, 6, 7, 9, 17, 18, 19]))) (.reg p35_r13 [5, 6, 7, 9, 17, 18, 19])))
noncomputable def p35_r14 : List PI := [
  ⟨none, some 32, [5], .call 68 ([.tmp 5])⟩,
  ⟨none, some 31, [32], .eff fun e => ret (e 32)⟩,
  ⟨none, some 33, [31], .eff fun e => effExt 0 (e 31)⟩,
  ⟨none, some 34, [31], .eff fun e => effExt 1 (e 31)⟩,
  ⟨none, some 10, [33], .eff fun e => ret (e 33)⟩,
  ⟨none, some 11, [34], .eff fun e => ret (e 34)⟩]
noncomputable def p35_r15 : List PI := [
  ⟨none, some 35, [11], .eff fun e => ret (e 11)⟩,
  ⟨none, some 36, [35], .eff fun e => effNt (e 35)⟩,
  ⟨none, some 37, [36], .eff fun e => ret (e 36)⟩,
  ⟨some (37, false), some 38, [10], .eff fun e => ret (e 10)⟩,
  ⟨some (37, false), some 39, [9], .eff fun e => ret (e 9)⟩,
  ⟨some (37, false), some 40, [38, 39], .eff fun e => effIb .neq (e 38) (e 39)⟩,
  ⟨none, some 41, [37, 40], .eff fun e => effPick (e 37) (.v (.bool true)) (e 40)⟩]
noncomputable def p35_r16 : List PI := [
  ⟨none, some 2, [], .eff fun e => ret (.v (Value.string (⟨#[]⟩ : ByteArray)))⟩,
  ⟨none, some 3, [], .eff fun e => ret (.v (.int .i64 12))⟩]
noncomputable def p35_r17 : List PI := [
  ⟨none, some 42, [5], .call 69 ([.tmp 5])⟩]
noncomputable def p35_r18 : List PI := [
  ⟨none, some 43, [6], .call 65 ([.tmp 6, .const (.int .u8 111)])⟩]
noncomputable def p35_r19 : List PI := [
  ⟨none, some 44, [19], .eff fun e => effIb .add (e 19) (.v (.int .i64 1))⟩,
  ⟨none, some 19, [44], .eff fun e => ret (e 44)⟩]
noncomputable def p35_l1 : PCode := (.seq (.reg p35_r8 [5, 6, 7, 17, 18, 19, 20]) (.seq (.cond (.tmp 20) .skip (.exit 0)) (.seq (.block 1 (.seq (.reg p35_r9 [5, 6, 7, 9, 17, 18, 19]) (.seq (.block 2 (.loop p35_l0)) (.seq (.seq (.reg p35_r14 [5, 6, 7, 9, 10, 11, 17, 18, 19]) (.seq (.reg p35_r15 [5, 6, 7, 17, 18, 19, 41]) (.cond (.tmp 41) (.seq (.reg p35_r16 [2, 3]) .ret) .skip))) (.seq (.reg p35_r17 [5, 6, 7, 17, 18, 19]) (.reg p35_r18 [5, 6, 7, 17, 18, 19])))))) (.reg p35_r19 [5, 6, 7, 17, 18, 19]))))
noncomputable def p35_r20 : List PI := [
  ⟨none, some 45, [6], .call 66 ([.tmp 6])⟩,
  ⟨none, some 2, [45], .eff fun e => ret (e 45)⟩,
  ⟨none, some 3, [], .eff fun e => ret (.v (.int .i64 0))⟩]
noncomputable def p35 : PCode := (.seq (.reg p35_r0 [0]) (.seq (.seq (.reg p35_r1 [0, 4]) (.seq (.reg p35_r2 [0, 4, 15]) (.cond (.tmp 15) (.seq (.reg p35_r3 [2, 3]) .ret) .skip))) (.seq (.reg p35_r4 [0, 5]) (.seq (.reg p35_r5 [0, 5, 6]) (.seq (.reg p35_r6 [0, 5, 6, 7]) (.seq (.seq (.reg p35_r7 [5, 6, 7, 17, 18, 19]) (.block 0 (.loop p35_l1))) (.seq (.reg p35_r20 [2, 3]) .ret)))))))
theorem P35 : PFn Try.prog 35 ⟨p35, [.tmp 2, .tmp 3], 46⟩ := .mk2 Try.f35 (Try.f35.body.getD .skip) [[0], [0, 4], [0, 4, 15], [2, 3], [0, 5], [0, 5, 6], [0, 5, 6, 7], [5, 6, 7, 17, 18, 19], [5, 6, 7, 17, 18, 19, 20], [5, 6, 7, 9, 17, 18, 19], [5, 6, 7, 9, 17, 18, 19, 25], [5, 6, 7, 9, 17, 18, 19], [5, 6, 7, 9, 17, 18, 19], [5, 6, 7, 9, 17, 18, 19], [5, 6, 7, 9, 10, 11, 17, 18, 19], [5, 6, 7, 17, 18, 19, 41], [2, 3], [5, 6, 7, 17, 18, 19], [5, 6, 7, 17, 18, 19], [5, 6, 7, 17, 18, 19], [2, 3]] Try.func35 (by kernel_rfl) (by kernel_rfl) (by kernel_rfl) (by kernel_rfl) (by decide)
noncomputable def p37_r0 : List PI := [
  ⟨none, some 2, [], .eff fun e => ret (.v (.slice none 0 0))⟩,
  ⟨none, some 3, [], .eff fun e => ret (.v (.int .i64 0))⟩]
noncomputable def p37_r1 : List PI := [
  ⟨none, some 9, [0], .eff fun e => ret (e 0)⟩,
  ⟨none, some 10, [9], .call 23 ([.tmp 9])⟩,
  ⟨none, some 4, [10], .eff fun e => ret (e 10)⟩]
noncomputable def p37_r2 : List PI := [
  ⟨none, some 11, [4], .eff fun e => ret (e 4)⟩,
  ⟨none, some 12, [11], .eff fun e => effIb .neq (e 11) (.v (.int .i64 0))⟩]
noncomputable def p37_r3 : List PI := [
  ⟨none, some 13, [4], .eff fun e => ret (e 4)⟩,
  ⟨none, some 2, [], .eff fun e => ret (.v (.slice none 0 0))⟩,
  ⟨none, some 3, [13], .eff fun e => ret (e 13)⟩]
noncomputable def p37_r4 : List PI := [
  ⟨none, some 5, [], .eff fun e => ret (.v (.slice none 0 0))⟩]
noncomputable def p37_r5 : List PI := [
  ⟨none, some 14, [0], .eff fun e => ret (e 0)⟩,
  ⟨none, some 15, [14], .call 82 ([.tmp 14])⟩,
  ⟨none, some 16, [15], .eff fun e => effLenSl (e 15)⟩,
  ⟨none, some 17, [], .eff fun e => ret (.v (.int .i64 0))⟩]
noncomputable def p37_r6 : List PI := [
  ⟨none, some 18, [17, 16], .eff fun e => effIb .lss (e 17) (e 16)⟩]
noncomputable def p37_r7 : List PI := [
  ⟨none, some 19, [17], .eff fun e => ret (e 17)⟩,
  ⟨none, some 20, [15, 17], .eff fun e => effIdx 1 (e 15) (e 17)⟩,
  ⟨none, some 21, [20], .eff fun e => effLoad1 (e 20)⟩,
  ⟨none, some 6, [19], .eff fun e => ret (e 19)⟩,
  ⟨none, some 7, [21], .eff fun e => ret (e 21)⟩]
noncomputable def p37_r8 : List PI := [
  ⟨none, some 22, [6], .eff fun e => ret (e 6)⟩,
  ⟨none, some 23, [22], .eff fun e => effIb .add (e 22) (.v (.int .i64 1))⟩,
  ⟨none, some 8, [23], .eff fun e => ret (e 23)⟩]
noncomputable def p37_r9 : List PI := [
  ⟨none, some 24, [8], .eff fun e => ret (e 8)⟩,
  ⟨none, some 25, [0], .eff fun e => ret (e 0)⟩,
  ⟨none, some 26, [25], .eff fun e => effLenSl (e 25)⟩,
  ⟨none, some 27, [24, 26], .eff fun e => effIb .lss (e 24) (e 26)⟩]
noncomputable def p37_r10 : List PI := [
  ⟨none, some 30, [7], .eff fun e => ret (e 7)⟩,
  ⟨none, some 31, [8], .eff fun e => ret (e 8)⟩,
  ⟨none, some 32, [30, 31], .eff fun e => SOp.eff Try.prog (evalA e) (SOp.bin .shr 96 (.tmp 30) (.tmp 31))⟩,
  ⟨none, some 33, [32], .eff fun e => SOp.eff Try.prog (evalA e) (SOp.bin .and 96 (.tmp 32) (.const (.int .u64 1)))⟩,
  ⟨none, some 34, [33], .eff fun e => effIb .eql (e 33) (.v (.int .u64 1))⟩]
noncomputable def p37_r11 : List PI := [
  ⟨none, some 35, [5], .eff fun e => ret (e 5)⟩,
  ⟨none, some 36, [6], .eff fun e => ret (e 6)⟩,
  ⟨none, some 37, [8], .eff fun e => ret (e 8)⟩,
  ⟨none, some 38, [36, 37], .eff fun e => effBuild ([.int .i64 0, .int .i64 0]) [(0, 1, (e 36)), (1, 1, (e 37))]⟩,
  ⟨none, some 39, [38], .eff fun e => effMks 1 2 ([.int .i64 0, .int .i64 0]) [(0, 2, (e 38))]⟩,
  ⟨none, some 40, [35, 39], .eff fun e => effApp 2 16 (e 35) (e 39)⟩,
  ⟨none, some 5, [40], .eff fun e => ret (e 40)⟩]
noncomputable def p37_r12 : List PI := [
  ⟨none, some 28, [8], .eff fun e => ret (e 8)⟩,
  ⟨none, some 29, [28], .eff fun e => effIb .add (e 28) (.v (.int .i64 1))⟩,
  ⟨none, some 8, [29], .eff fun e => ret (e 29)⟩]
noncomputable def p37_l0 : PCode := (.seq (.seq (.reg p37_r9 [0, 5, 6, 7, 8, 15, 16, 17, 27]) (.cond (.tmp 27) .skip (.exit 2))) (.seq (.block 3 (.seq (.reg p37_r10 [0, 5, 6, 7, 8, 15, 16, 17, 34]) (.cond (.tmp 34) (.reg p37_r11 [0, 5, 6, 7, 8, 15, 16, 17]) .skip))) (.reg p37_r12 [0, 5, 6, 7, 8, 15, 16, 17])))
noncomputable def p37_r13 : List PI := [
  ⟨none, some 41, [17], .eff fun e => effIb .add (e 17) (.v (.int .i64 1))⟩,
  ⟨none, some 17, [41], .eff fun e => ret (e 41)⟩]
noncomputable def p37_l1 : PCode := (.seq (.reg p37_r6 [0, 5, 15, 16, 17, 18]) (.seq (.cond (.tmp 18) .skip (.exit 0)) (.seq (.block 1 (.seq (.reg p37_r7 [0, 5, 6, 7, 15, 16, 17]) (.seq (.reg p37_r8 [0, 5, 6, 7, 8, 15, 16, 17]) (.block 2 (.loop p37_l0))))) (.reg p37_r13 [0, 5, 15, 16, 17]))))
noncomputable def p37_r14 : List PI := [
  ⟨none, some 42, [5], .eff fun e => ret (e 5)⟩,
  ⟨none, some 2, [42], .eff fun e => ret (e 42)⟩,
  ⟨none, some 3, [], .eff fun e => ret (.v (.int .i64 0))⟩]
noncomputable def p37 : PCode := (.seq (.reg p37_r0 [0]) (.seq (.seq (.reg p37_r1 [0, 4]) (.seq (.reg p37_r2 [0, 4, 12]) (.cond (.tmp 12) (.seq (.reg p37_r3 [2, 3]) .ret) .skip))) (.seq (.reg p37_r4 [0, 5]) (.seq (.seq (.reg p37_r5 [0, 5, 15, 16, 17]) (.block 0 (.loop p37_l1))) (.seq (.reg p37_r14 [2, 3]) .ret)))))
theorem P37 : PFn Try.prog 37 ⟨p37, [.tmp 2, .tmp 3], 43⟩ := .mk2 Try.f37 (Try.f37.body.getD .skip) [[0], [0, 4], [0, 4, 12], [2, 3], [0, 5], [0, 5, 15, 16, 17], [0, 5, 15, 16, 17, 18], [0, 5, 6, 7, 15, 16, 17], [0, 5, 6, 7, 8, 15, 16, 17], [0, 5, 6, 7, 8, 15, 16, 17, 27], [0, 5, 6, 7, 8, 15, 16, 17, 34], [0, 5, 6, 7, 8, 15, 16, 17], [0, 5, 6, 7, 8, 15, 16, 17], [0, 5, 15, 16, 17], [2, 3]] Try.func37 (by kernel_rfl) (by kernel_rfl) (by kernel_rfl) (by kernel_rfl) (by decide)
noncomputable def p39_r0 : List PI := [
  ⟨none, some 2, [], .eff fun e => ret (.v (.slice none 0 0))⟩,
  ⟨none, some 3, [], .eff fun e => ret (.v (.int .i64 0))⟩]
noncomputable def p39_r1 : List PI := [
  ⟨none, some 12, [0], .eff fun e => ret (e 0)⟩,
  ⟨none, some 13, [12], .call 23 ([.tmp 12])⟩,
  ⟨none, some 4, [13], .eff fun e => ret (e 13)⟩]
noncomputable def p39_r2 : List PI := [
  ⟨none, some 14, [4], .eff fun e => ret (e 4)⟩,
  ⟨none, some 15, [14], .eff fun e => effIb .neq (e 14) (.v (.int .i64 0))⟩]
noncomputable def p39_r3 : List PI := [
  ⟨none, some 16, [4], .eff fun e => ret (e 4)⟩,
  ⟨none, some 2, [], .eff fun e => ret (.v (.slice none 0 0))⟩,
  ⟨none, some 3, [16], .eff fun e => ret (e 16)⟩]
noncomputable def p39_r4 : List PI := [
  ⟨none, some 17, [0], .eff fun e => ret (e 0)⟩,
  ⟨none, some 18, [17], .call 82 ([.tmp 17])⟩,
  ⟨none, some 5, [], .eff fun e => effAlloc ([.slice none 0 0])⟩,
  ⟨none, none, [5, 18], .eff fun e => effStore 1 (e 5) (e 18)⟩]
noncomputable def p39_r5 : List PI := [
  ⟨none, some 19, [], .eff fun e => effMks 1 1 ([.int .i64 0]) [(0, 1, (.v (.int .i64 (-1))))]⟩,
  ⟨none, some 20, [0], .eff fun e => ret (e 0)⟩,
  ⟨none, some 21, [20], .eff fun e => effLenSl (e 20)⟩,
  ⟨none, some 22, [19, 21], .call 84 ([.tmp 19, .tmp 21])⟩,
  ⟨none, some 6, [], .eff fun e => effAlloc ([.slice none 0 0])⟩,
  ⟨none, none, [6, 22], .eff fun e => effStore 1 (e 6) (e 22)⟩]
noncomputable def p39_r6 : List PI := [
  ⟨none, some 7, [], .eff fun e => effAlloc ([.bool false])⟩,
  ⟨none, none, [7], .eff fun e => effStore 1 (e 7) (.v (.bool true))⟩]
noncomputable def p39_r7 : List PI := [
  ⟨none, some 8, [], .eff fun e => effAlloc ([Value.nilFunc])⟩]
noncomputable def p39_r8 : List PI := [
  ⟨none, some 23, [6, 7, 5, 8], .eff fun e => effMkfn (Fn.func 85) [] [(e 6), (e 7), (e 5), (e 8)]⟩,
  ⟨none, none, [8, 23], .eff fun e => effStore 1 (e 8) (e 23)⟩]
noncomputable def p39_r9 : List PI := [
  ⟨none, some 9, [], .eff fun e => ret (.v (.slice none 0 0))⟩]
noncomputable def p39_r10 : List PI := [
  ⟨none, some 24, [0], .eff fun e => ret (e 0)⟩,
  ⟨none, some 25, [24], .eff fun e => effLenSl (e 24)⟩,
  ⟨none, some 26, [], .eff fun e => ret (.v (.int .i64 0))⟩]
noncomputable def p39_r11 : List PI := [
  ⟨none, some 27, [26, 25], .eff fun e => effIb .lss (e 26) (e 25)⟩]
noncomputable def p39_r12 : List PI := [
  ⟨none, some 28, [24, 26], .eff fun e => effIdx 1 (e 24) (e 26)⟩,
  ⟨none, some 29, [28], .eff fun e => effLoad1 (e 28)⟩,
  ⟨none, some 11, [29], .eff fun e => ret (e 29)⟩]
noncomputable def p39_r13 : List PI := [
  ⟨none, some 30, [6], .eff fun e => effLoad1 (e 6)⟩,
  ⟨none, some 31, [11], .eff fun e => ret (e 11)⟩,
  ⟨none, some 32, [30, 31], .eff fun e => effIdx 1 (e 30) (e 31)⟩,
  ⟨none, some 33, [32], .eff fun e => effLoad1 (e 32)⟩,
  ⟨none, some 34, [33], .eff fun e => effIb .lss (e 33) (.v (.int .i64 0))⟩]
noncomputable def p39_r14 : List PI := [
  ⟨none, some 35, [8], .eff fun e => effLoad1 (e 8)⟩,
  ⟨none, some 36, [11], .eff fun e => ret (e 11)⟩,
  ⟨none, some 37, [35, 36], .callv (.tmp 35) ([.tmp 36, .const (.int .i64 0)])⟩]
noncomputable def p39_r15 : List PI := [
  ⟨none, some 38, [9], .eff fun e => ret (e 9)⟩,
  ⟨none, some 39, [6], .eff fun e => effLoad1 (e 6)⟩,
  ⟨none, some 40, [11], .eff fun e => ret (e 11)⟩,
  ⟨none, some 41, [39, 40], .eff fun e => effIdx 1 (e 39) (e 40)⟩,
  ⟨none, some 42, [41], .eff fun e => effLoad1 (e 41)⟩,
  ⟨none, some 43, [42], .eff fun e => effMks 1 1 ([.int .i64 0]) [(0, 1, (e 42))]⟩,
  ⟨none, some 44, [38, 43], .eff fun e => effApp 1 8 (e 38) (e 43)⟩,
  ⟨none, some 9, [44], .eff fun e => ret (e 44)⟩]
noncomputable def p39_r16 : List PI := [
  ⟨none, some 45, [26], .eff fun e => effIb .add (e 26) (.v (.int .i64 1))⟩,
  ⟨none, some 26, [45], .eff fun e => ret (e 45)⟩]
noncomputable def p39_l0 : PCode := (.seq (.reg p39_r11 [6, 7, 8, 9, 24, 25, 26, 27]) (.seq (.cond (.tmp 27) .skip (.exit 0)) (.seq (.block 1 (.seq (.reg p39_r12 [6, 7, 8, 9, 11, 24, 25, 26]) (.seq (.seq (.reg p39_r13 [6, 7, 8, 9, 11, 24, 25, 26, 34]) (.cond (.tmp 34) (.reg p39_r14 [6, 7, 8, 9, 11, 24, 25, 26]) .skip)) (.reg p39_r15 [6, 7, 8, 9, 24, 25, 26])))) (.reg p39_r16 [6, 7, 8, 9, 24, 25, 26]))))
noncomputable def p39_r17 : List PI := [
  ⟨none, some 46, [7], .eff fun e => effLoad1 (e 7)⟩,
  ⟨none, some 47, [46], .eff fun e => effNt (e 46)⟩]
noncomputable def p39_r18 : List PI := [
  ⟨none, some 2, [], .eff fun e => ret (.v (.slice none 0 0))⟩,
  ⟨none, some 3, [], .eff fun e => ret (.v (.int .i64 12))⟩]
noncomputable def p39_r19 : List PI := [
  ⟨none, some 48, [9], .eff fun e => ret (e 9)⟩,
  ⟨none, some 2, [48], .eff fun e => ret (e 48)⟩,
  ⟨none, some 3, [], .eff fun e => ret (.v (.int .i64 0))⟩]
noncomputable def p39 : PCode := (.seq (.reg p39_r0 [0]) (.seq (.seq (.reg p39_r1 [0, 4]) (.seq (.reg p39_r2 [0, 4, 15]) (.cond (.tmp 15) (.seq (.reg p39_r3 [2, 3]) .ret) .skip))) (.seq (.reg p39_r4 [0, 5]) (.seq (.reg p39_r5 [0, 5, 6]) (.seq (.reg p39_r6 [0, 5, 6, 7]) (.seq (.reg p39_r7 [0, 5, 6, 7, 8]) (.seq (.reg p39_r8 [0, 6, 7, 8]) (.seq (.reg p39_r9 [0, 6, 7, 8, 9]) (.seq (.seq (.reg p39_r10 [6, 7, 8, 9, 24, 25, 26]) (.block 0 (.loop p39_l0))) (.seq (.seq (.reg p39_r17 [9, 47]) (.cond (.tmp 47) (.seq (.reg p39_r18 [2, 3]) .ret) .skip)) (.seq (.reg p39_r19 [2, 3]) .ret)))))))))))
theorem P39 : PFn Try.prog 39 ⟨p39, [.tmp 2, .tmp 3], 49⟩ := .mk2 Try.f39 (Try.f39.body.getD .skip) [[0], [0, 4], [0, 4, 15], [2, 3], [0, 5], [0, 5, 6], [0, 5, 6, 7], [0, 5, 6, 7, 8], [0, 6, 7, 8], [0, 6, 7, 8, 9], [6, 7, 8, 9, 24, 25, 26], [6, 7, 8, 9, 24, 25, 26, 27], [6, 7, 8, 9, 11, 24, 25, 26], [6, 7, 8, 9, 11, 24, 25, 26, 34], [6, 7, 8, 9, 11, 24, 25, 26], [6, 7, 8, 9, 24, 25, 26], [6, 7, 8, 9, 24, 25, 26], [9, 47], [2, 3], [2, 3]] Try.func39 (by kernel_rfl) (by kernel_rfl) (by kernel_rfl) (by kernel_rfl) (by decide)
noncomputable def p41_r0 : List PI := [
  ⟨none, some 4, [], .eff fun e => ret (.v (.bool false))⟩]
noncomputable def p41_r1 : List PI := [
  ⟨none, some 6, [0], .eff fun e => ret (e 0)⟩,
  ⟨none, some 7, [6], .eff fun e => effLenSl (e 6)⟩,
  ⟨none, some 8, [1], .eff fun e => ret (e 1)⟩,
  ⟨none, some 9, [8], .eff fun e => effLenSl (e 8)⟩,
  ⟨none, some 10, [7, 9], .eff fun e => effIb .neq (e 7) (e 9)⟩]
noncomputable def p41_r2 : List PI := [
  ⟨none, some 4, [], .eff fun e => ret (.v (.bool false))⟩]
noncomputable def p41_r3 : List PI := [
  ⟨none, some 5, [], .eff fun e => ret (.v (.int .i64 0))⟩]
noncomputable def p41_r4 : List PI := [
  ⟨none, some 11, [5], .eff fun e => ret (e 5)⟩,
  ⟨none, some 12, [0], .eff fun e => ret (e 0)⟩,
  ⟨none, some 13, [12], .eff fun e => effLenSl (e 12)⟩,
  ⟨none, some 14, [11, 13], .eff fun e => effIb .lss (e 11) (e 13)⟩]
noncomputable def p41_r5 : List PI := [
  ⟨none, some 17, [0], .eff fun e => ret (e 0)⟩,
  ⟨none, some 18, [5], .eff fun e => ret (e 5)⟩,
  ⟨none, some 19, [17, 18], .eff fun e => effIdx 2 (e 17) (e 18)⟩,
  ⟨none, some 20, [19], .eff fun e => effLoadN 2 (e 19)⟩,
  ⟨none, some 21, [1], .eff fun e => ret (e 1)⟩,
  ⟨none, some 22, [5], .eff fun e => ret (e 5)⟩,
  ⟨none, some 23, [21, 22], .eff fun e => effIdx 2 (e 21) (e 22)⟩,
  ⟨none, some 24, [23], .eff fun e => effLoadN 2 (e 23)⟩,
  ⟨none, some 25, [20, 24], .eff fun e => effAeq true (KTy.ar 2 .i64) (e 20) (e 24)⟩]
noncomputable def p41_r6 : List PI := [
  ⟨none, some 4, [], .eff fun e => ret (.v (.bool false))⟩]
noncomputable def p41_r7 : List PI := [
  ⟨none, some 15, [5], .eff fun e => ret (e 5)⟩,
  ⟨none, some 16, [15], .eff fun e => effIb .add (e 15) (.v (.int .i64 1))⟩,
  ⟨none, some 5, [16], .eff fun e => ret (e 16)⟩]
noncomputable def p41_l0 : PCode := (.seq (.seq (.reg p41_r4 [0, 1, 5, 14]) (.cond (.tmp 14) .skip (.exit 0))) (.seq (.block 1 (.seq (.draw p41_r5 [[], [], [0, 1], [2, 0, 1], [], [], [4, 5], [6, 4, 5], [3, 7, 2, 0, 1, 6, 4, 5]] [0, 1, 5, 25]) (.cond (.tmp 25) (.seq (.reg p41_r6 [4]) .ret) .skip))) (.reg p41_r7 [0, 1, 5])))
noncomputable def p41_r8 : List PI := [
  ⟨none, some 4, [], .eff fun e => ret (.v (.bool true))⟩]
noncomputable def p41 : PCode := (.seq (.reg p41_r0 [0, 1]) (.seq (.seq (.reg p41_r1 [0, 1, 10]) (.cond (.tmp 10) (.seq (.reg p41_r2 [4]) .ret) .skip)) (.seq (.seq (.reg p41_r3 [0, 1, 5]) (.block 0 (.loop p41_l0))) (.seq (.reg p41_r8 [4]) .ret))))
theorem P41 : PFn Try.prog 41 ⟨p41, [.tmp 4], 26⟩ := .mk2 Try.f41 (Try.f41.body.getD .skip) [[0, 1], [0, 1, 10], [4], [0, 1, 5], [0, 1, 5, 14], [0, 1, 5, 25], [4], [0, 1, 5], [4]] Try.func41 (by kernel_rfl) (by kernel_rfl) (by kernel_rfl) (by kernel_rfl) (by decide)
noncomputable def p42 : PCode := pcOf Try.prog Try.f42 (Try.f42.body.getD .skip) [[], [0]]
theorem P42 : PFn Try.prog 42 ⟨p42, [.tmp 0], 3⟩ := .mk3 Try.f42 (Try.f42.body.getD .skip) [[], [0]] Try.func42 (by kernel_rfl) (by kernel_rfl) (by kernel_rfl) (by kernel_rfl) (by decide)
noncomputable def p43 : PCode := pcOf Try.prog Try.f43 (Try.f43.body.getD .skip) [[], [0]]
theorem P43 : PFn Try.prog 43 ⟨p43, [.tmp 0], 3⟩ := .mk3 Try.f43 (Try.f43.body.getD .skip) [[], [0]] Try.func43 (by kernel_rfl) (by kernel_rfl) (by kernel_rfl) (by kernel_rfl) (by decide)
noncomputable def p44 : PCode := pcOf Try.prog Try.f44 (Try.f44.body.getD .skip) [[0], [2]]
theorem P44 : PFn Try.prog 44 ⟨p44, [.tmp 2], 4⟩ := .mk3 Try.f44 (Try.f44.body.getD .skip) [[0], [2]] Try.func44 (by kernel_rfl) (by kernel_rfl) (by kernel_rfl) (by kernel_rfl) (by decide)
noncomputable def p52 : PCode := pcOf Try.prog Try.f52 (Try.f52.body.getD .skip) [[0], [0, 3], [0, 3, 8], [0, 3, 20], [2], [0, 3], [2]]
theorem P52 : PFn Try.prog 52 ⟨p52, [.tmp 2], 21⟩ := .mk3 Try.f52 (Try.f52.body.getD .skip) [[0], [0, 3], [0, 3, 8], [0, 3, 20], [2], [0, 3], [2]] Try.func52 (by kernel_rfl) (by kernel_rfl) (by kernel_rfl) (by kernel_rfl) (by decide)
noncomputable def p57_r0 : List PI := [
  ⟨none, some 2, [], .eff fun e => ret (.v (.int .i64 0))⟩]
noncomputable def p57_r1 : List PI := [
  ⟨none, some 5, [0], .eff fun e => ret (e 0)⟩,
  ⟨none, some 6, [5], .eff fun e => effLenSl (e 5)⟩,
  ⟨none, some 7, [6], .eff fun e => effIb .lss (e 6) (.v (.int .i64 1))⟩]
noncomputable def p57_r2 : List PI := [
  ⟨none, some 8, [], .eff fun e => effMkifc 9 (.v (Value.string (⟨#[115, 108, 105, 99, 101, 115, 46, 77, 105, 110, 58, 32, 101, 109, 112, 116, 121, 32, 108, 105, 115, 116]⟩ : ByteArray)))⟩,
  ⟨none, none, [], .eff fun e => none⟩]
noncomputable def p57_r3 : List PI := [
  ⟨none, some 9, [0], .eff fun e => ret (e 0)⟩,
  ⟨none, some 10, [9], .eff fun e => effIdx 1 (e 9) (.v (.int .i64 0))⟩,
  ⟨none, some 11, [10], .eff fun e => effLoad1 (e 10)⟩,
  ⟨none, some 3, [11], .eff fun e => ret (e 11)⟩]
noncomputable def p57_r4 : List PI := [
  ⟨none, some 4, [], .eff fun e => ret (.v (.int .i64 1))⟩]
noncomputable def p57_r5 : List PI := [
  ⟨none, some 12, [4], .eff fun e => ret (e 4)⟩,
  ⟨none, some 13, [0], .eff fun e => ret (e 0)⟩,
  ⟨none, some 14, [13], .eff fun e => effLenSl (e 13)⟩,
  ⟨none, some 15, [12, 14], .eff fun e => effIb .lss (e 12) (e 14)⟩]
noncomputable def p57_r6 : List PI := [
  ⟨none, some 18, [3], .eff fun e => ret (e 3)⟩,
  ⟨none, some 19, [0], .eff fun e => ret (e 0)⟩,
  ⟨none, some 20, [4], .eff fun e => ret (e 4)⟩,
  ⟨none, some 21, [19, 20], .eff fun e => effIdx 1 (e 19) (e 20)⟩,
  ⟨none, some 22, [21], .eff fun e => effLoad1 (e 21)⟩,
  ⟨none, some 23, [18, 22], .eff fun e => effBig false [(e 18), (e 22)]⟩,
  ⟨none, some 3, [23], .eff fun e => ret (e 23)⟩]
noncomputable def p57_r7 : List PI := [
  ⟨none, some 16, [4], .eff fun e => ret (e 4)⟩,
  ⟨none, some 17, [16], .eff fun e => effIb .add (e 16) (.v (.int .i64 1))⟩,
  ⟨none, some 4, [17], .eff fun e => ret (e 17)⟩]
noncomputable def p57_l0 : PCode := (.seq (.seq (.reg p57_r5 [0, 3, 4, 15]) (.cond (.tmp 15) .skip (.exit 0))) (.seq (.block 1 (.reg p57_r6 [0, 3, 4])) (.reg p57_r7 [0, 3, 4])))
noncomputable def p57_r8 : List PI := [
  ⟨none, some 24, [3], .eff fun e => ret (e 3)⟩,
  ⟨none, some 2, [24], .eff fun e => ret (e 24)⟩]
noncomputable def p57 : PCode := (.seq (.reg p57_r0 [0]) (.seq (.seq (.reg p57_r1 [0, 7]) (.cond (.tmp 7) (.reg p57_r2 [0]) .skip)) (.seq (.reg p57_r3 [0, 3]) (.seq (.seq (.reg p57_r4 [0, 3, 4]) (.block 0 (.loop p57_l0))) (.seq (.reg p57_r8 [2]) .ret)))))
theorem P57 : PFn Try.prog 57 ⟨p57, [.tmp 2], 25⟩ := .mk2 Try.f57 (Try.f57.body.getD .skip) [[0], [0, 7], [0], [0, 3], [0, 3, 4], [0, 3, 4, 15], [0, 3, 4], [0, 3, 4], [2]] Try.func57 (by kernel_rfl) (by kernel_rfl) (by kernel_rfl) (by kernel_rfl) (by decide)
noncomputable def p61 : PCode := pcOf Try.prog Try.f61 (Try.f61.body.getD .skip) [[0], [0, 3], [3], [2]]
theorem P61 : PFn Try.prog 61 ⟨p61, [.tmp 2], 8⟩ := .mk3 Try.f61 (Try.f61.body.getD .skip) [[0], [0, 3], [3], [2]] Try.func61 (by kernel_rfl) (by kernel_rfl) (by kernel_rfl) (by kernel_rfl) (by decide)
noncomputable def p63 : PCode := pcOf Try.prog Try.f63 (Try.f63.body.getD .skip) [[0, 3], [0, 3, 4], [0, 3, 4, 5], [0, 3, 4, 5, 9, 10, 11], [0, 3, 4, 5, 9, 10, 11, 12], [0, 3, 4, 5, 7, 9, 10, 11], [0, 3, 4, 5, 7, 9, 10, 11], [0, 3, 4, 5, 7, 9, 10, 11], [0, 3, 4, 5, 9, 10, 11], [0, 3, 4, 5, 9, 10, 11], []]
theorem P63 : PFn Try.prog 63 ⟨p63, [], 28⟩ := .mk3 Try.f63 (Try.f63.body.getD .skip) [[0, 3], [0, 3, 4], [0, 3, 4, 5], [0, 3, 4, 5, 9, 10, 11], [0, 3, 4, 5, 9, 10, 11, 12], [0, 3, 4, 5, 7, 9, 10, 11], [0, 3, 4, 5, 7, 9, 10, 11], [0, 3, 4, 5, 7, 9, 10, 11], [0, 3, 4, 5, 9, 10, 11], [0, 3, 4, 5, 9, 10, 11], []] Try.func63 (by kernel_rfl) (by kernel_rfl) (by kernel_rfl) (by kernel_rfl) (by decide)
noncomputable def p64 : PCode := pcOf Try.prog Try.f64 (Try.f64.body.getD .skip) [[]]
theorem P64 : PFn Try.prog 64 ⟨p64, [], 7⟩ := .mk3 Try.f64 (Try.f64.body.getD .skip) [[]] Try.func64 (by kernel_rfl) (by kernel_rfl) (by kernel_rfl) (by kernel_rfl) (by decide)
noncomputable def p65_r0 : List PI := [
  ⟨none, some 4, [], .eff fun e => ret (.v (Value.nilIface))⟩]
noncomputable def p65_r1 : List PI := [
  ⟨none, some 5, [0], .eff fun e => ret (e 0)⟩,
  ⟨none, some 6, [5], .call 98 ([.tmp 5])⟩]
noncomputable def p65_r2 : List PI := [
  ⟨none, some 7, [0], .eff fun e => ret (e 0)⟩,
  ⟨none, some 8, [0], .eff fun e => ret (e 0)⟩,
  ⟨none, some 9, [8], .eff fun e => effNilck (e 8)⟩,
  ⟨none, some 10, [9], .eff fun e => effOff 1 (e 9)⟩,
  ⟨none, some 11, [10], .eff fun e => effLoad1 (e 10)⟩,
  ⟨none, some 12, [1], .eff fun e => ret (e 1)⟩,
  ⟨none, some 13, [12], .eff fun e => effMks 1 1 ([.int .u8 0]) [(0, 1, (e 12))]⟩,
  ⟨none, some 14, [11, 13], .eff fun e => effAppB 1 (e 11) (e 13)⟩,
  ⟨none, some 15, [7], .eff fun e => effNilck (e 7)⟩,
  ⟨none, some 16, [15], .eff fun e => effOff 1 (e 15)⟩,
  ⟨none, none, [16, 14], .eff fun e => effStore 1 (e 16) (e 14)⟩]
noncomputable def p65_r3 : List PI := [
  ⟨none, some 4, [], .eff fun e => ret (.v (Value.nilIface))⟩]
noncomputable def p65 : PCode := (.seq (.reg p65_r0 [0, 1]) (.seq (.reg p65_r1 [0, 1]) (.seq (.reg p65_r2 []) (.seq (.reg p65_r3 [4]) .ret))))
theorem P65 : PFn Try.prog 65 ⟨p65, [.tmp 4], 17⟩ := .mk2 Try.f65 (Try.f65.body.getD .skip) [[0, 1], [0, 1], [], [4]] Try.func65 (by kernel_rfl) (by kernel_rfl) (by kernel_rfl) (by kernel_rfl) (by decide)
noncomputable def p66_r0 : List PI := [
  ⟨none, some 2, [], .eff fun e => ret (.v (Value.string (⟨#[]⟩ : ByteArray)))⟩]
noncomputable def p66_r1 : List PI := [
  ⟨none, some 3, [0], .eff fun e => ret (e 0)⟩,
  ⟨none, some 4, [3], .eff fun e => effNilck (e 3)⟩,
  ⟨none, some 5, [4], .eff fun e => effOff 1 (e 4)⟩,
  ⟨none, some 6, [5], .eff fun e => effLoad1 (e 5)⟩,
  ⟨none, some 7, [6], .eff fun e => effSdata (e 6)⟩,
  ⟨none, some 8, [0], .eff fun e => ret (e 0)⟩,
  ⟨none, some 9, [8], .eff fun e => effNilck (e 8)⟩,
  ⟨none, some 10, [9], .eff fun e => effOff 1 (e 9)⟩,
  ⟨none, some 11, [10], .eff fun e => effLoad1 (e 10)⟩,
  ⟨none, some 12, [11], .eff fun e => effLenSl (e 11)⟩,
  ⟨none, some 13, [7, 12], .eff fun e => effUstr (e 7) (e 12)⟩,
  ⟨none, some 2, [13], .eff fun e => ret (e 13)⟩]
noncomputable def p66 : PCode := (.seq (.reg p66_r0 [0]) (.seq (.draw p66_r1 [[], [0], [1, 0], [2, 1, 0], [3, 2, 1, 0], [], [5], [6, 5], [7, 6, 5], [8, 7, 6, 5], [4, 9, 3, 2, 1, 0, 8, 7, 6, 5], [10, 4, 9, 3, 2, 1, 0, 8, 7, 6, 5]] [2]) .ret))
theorem P66 : PFn Try.prog 66 ⟨p66, [.tmp 2], 14⟩ := .mk2 Try.f66 (Try.f66.body.getD .skip) [[0], [2]] Try.func66 (by kernel_rfl) (by kernel_rfl) (by kernel_rfl) (by kernel_rfl) (by decide)
noncomputable def p67_r0 : List PI := [
  ⟨none, some 4, [0], .eff fun e => ret (e 0)⟩,
  ⟨none, some 5, [0], .eff fun e => ret (e 0)⟩,
  ⟨none, some 6, [5], .eff fun e => effNilck (e 5)⟩,
  ⟨none, some 7, [6], .eff fun e => effOff 0 (e 6)⟩,
  ⟨none, some 8, [7], .eff fun e => effLoad1 (e 7)⟩,
  ⟨none, some 9, [1], .eff fun e => ret (e 1)⟩,
  ⟨none, some 10, [9], .eff fun e => effMks 1 1 ([.int .i64 0]) [(0, 1, (e 9))]⟩,
  ⟨none, some 11, [8, 10], .eff fun e => effApp 1 8 (e 8) (e 10)⟩,
  ⟨none, some 12, [4], .eff fun e => effNilck (e 4)⟩,
  ⟨none, some 13, [12], .eff fun e => effOff 0 (e 12)⟩,
  ⟨none, none, [13, 11], .eff fun e => effStore 1 (e 13) (e 11)⟩]
noncomputable def p67 : PCode := (.reg p67_r0 [])
theorem P67 : PFn Try.prog 67 ⟨p67, [], 14⟩ := .mk2 Try.f67 (Try.f67.body.getD .skip) [[]] Try.func67 (by kernel_rfl) (by kernel_rfl) (by kernel_rfl) (by kernel_rfl) (by decide)
noncomputable def p68_r0 : List PI := [
  ⟨none, some 2, [], .eff fun e => ret (.v (.int .i64 0))⟩,
  ⟨none, some 3, [], .eff fun e => ret (.v (.bool false))⟩]
noncomputable def p68_r1 : List PI := [
  ⟨none, some 4, [0], .eff fun e => ret (e 0)⟩,
  ⟨none, some 5, [4], .eff fun e => effNilck (e 4)⟩,
  ⟨none, some 6, [5], .eff fun e => effOff 0 (e 5)⟩,
  ⟨none, some 7, [6], .eff fun e => effLoad1 (e 6)⟩,
  ⟨none, some 8, [7], .eff fun e => effLenSl (e 7)⟩,
  ⟨none, some 9, [8], .eff fun e => effIb .eql (e 8) (.v (.int .i64 0))⟩]
noncomputable def p68_r2 : List PI := [
  ⟨none, some 10, [2], .eff fun e => ret (e 2)⟩,
  ⟨none, some 2, [10], .eff fun e => ret (e 10)⟩,
  ⟨none, some 3, [], .eff fun e => ret (.v (.bool false))⟩]
noncomputable def p68_r3 : List PI := [
  ⟨none, some 11, [0], .eff fun e => ret (e 0)⟩,
  ⟨none, some 12, [11], .eff fun e => effNilck (e 11)⟩,
  ⟨none, some 13, [12], .eff fun e => effOff 0 (e 12)⟩,
  ⟨none, some 14, [13], .eff fun e => effLoad1 (e 13)⟩,
  ⟨none, some 15, [0], .eff fun e => ret (e 0)⟩,
  ⟨none, some 16, [15], .eff fun e => effNilck (e 15)⟩,
  ⟨none, some 17, [16], .eff fun e => effOff 0 (e 16)⟩,
  ⟨none, some 18, [17], .eff fun e => effLoad1 (e 17)⟩,
  ⟨none, some 19, [18], .eff fun e => effLenSl (e 18)⟩,
  ⟨none, some 20, [19], .eff fun e => effIb .sub (e 19) (.v (.int .i64 1))⟩,
  ⟨none, some 21, [14, 20], .eff fun e => effIdx 1 (e 14) (e 20)⟩,
  ⟨none, some 22, [21], .eff fun e => effLoad1 (e 21)⟩,
  ⟨none, some 2, [22], .eff fun e => ret (e 22)⟩,
  ⟨none, some 3, [], .eff fun e => ret (.v (.bool true))⟩]
noncomputable def p68 : PCode := (.seq (.reg p68_r0 [0, 2]) (.seq (.seq (.reg p68_r1 [0, 2, 9]) (.cond (.tmp 9) (.seq (.reg p68_r2 [2, 3]) .ret) .skip)) (.seq (.draw p68_r3 [[], [0], [1, 0], [2, 1, 0], [], [4], [5, 4], [6, 5, 4], [7, 6, 5, 4], [8, 7, 6, 5, 4], [3, 9, 2, 1, 0, 8, 7, 6, 5, 4], [10, 3, 9, 2, 1, 0, 8, 7, 6, 5, 4], [11, 10, 3, 9, 2, 1, 0, 8, 7, 6, 5, 4], [12, 11, 10, 3, 9, 2, 1, 0, 8, 7, 6, 5, 4]] [2, 3]) .ret)))
theorem P68 : PFn Try.prog 68 ⟨p68, [.tmp 2, .tmp 3], 23⟩ := .mk2 Try.f68 (Try.f68.body.getD .skip) [[0, 2], [0, 2, 9], [2, 3], [2, 3]] Try.func68 (by kernel_rfl) (by kernel_rfl) (by kernel_rfl) (by kernel_rfl) (by decide)
noncomputable def p69_r0 : List PI := [
  ⟨none, some 2, [0], .eff fun e => ret (e 0)⟩,
  ⟨none, some 3, [0], .eff fun e => ret (e 0)⟩,
  ⟨none, some 4, [3], .eff fun e => effNilck (e 3)⟩,
  ⟨none, some 5, [4], .eff fun e => effOff 0 (e 4)⟩,
  ⟨none, some 6, [5], .eff fun e => effLoad1 (e 5)⟩,
  ⟨none, some 7, [0], .eff fun e => ret (e 0)⟩,
  ⟨none, some 8, [7], .eff fun e => effNilck (e 7)⟩,
  ⟨none, some 9, [8], .eff fun e => effOff 0 (e 8)⟩,
  ⟨none, some 10, [9], .eff fun e => effLoad1 (e 9)⟩,
  ⟨none, some 11, [10], .eff fun e => effLenSl (e 10)⟩,
  ⟨none, some 12, [11], .eff fun e => effIb .sub (e 11) (.v (.int .i64 1))⟩,
  ⟨none, some 13, [6, 12], .eff fun e => effSlc 1 (e 6) none (some (e 12)) none⟩,
  ⟨none, some 14, [2], .eff fun e => effNilck (e 2)⟩,
  ⟨none, some 15, [14], .eff fun e => effOff 0 (e 14)⟩,
  ⟨none, none, [15, 13], .eff fun e => effStore 1 (e 15) (e 13)⟩]
noncomputable def p69 : PCode := (.draw p69_r0 [[], [], [1], [2, 1], [3, 2, 1], [], [5], [6, 5], [7, 6, 5], [8, 7, 6, 5], [9, 8, 7, 6, 5], [4, 10, 3, 2, 1, 9, 8, 7, 6, 5], [0, 11, 4, 10, 3, 2, 1, 9, 8, 7, 6, 5], [12, 0, 11, 4, 10, 3, 2, 1, 9, 8, 7, 6, 5], [13, 12, 0, 11, 4, 10, 3, 2, 1, 9, 8, 7, 6, 5]] [])
theorem P69 : PFn Try.prog 69 ⟨p69, [], 16⟩ := .mk2 Try.f69 (Try.f69.body.getD .skip) [[]] Try.func69 (by kernel_rfl) (by kernel_rfl) (by kernel_rfl) (by kernel_rfl) (by decide)
noncomputable def p70_r0 : List PI := [
  ⟨none, some 4, [], .eff fun e => ret (.v (.bool false))⟩]
noncomputable def p70_r1 : List PI := [
  ⟨none, some 5, [0], .eff fun e => ret (e 0)⟩,
  ⟨none, some 6, [5], .eff fun e => effIb .leq (.v (.int .i64 0)) (e 5)⟩,
  ⟨none, some 7, [6], .eff fun e => ret (e 6)⟩,
  ⟨some (7, true), some 8, [0], .eff fun e => ret (e 0)⟩,
  ⟨some (7, true), some 9, [1], .eff fun e => ret (e 1)⟩,
  ⟨some (7, true), some 10, [8, 9], .eff fun e => effIb .lss (e 8) (e 9)⟩,
  ⟨none, some 11, [7, 10], .eff fun e => effPick (e 7) (e 10) (.v (.bool false))⟩,
  ⟨none, some 4, [11], .eff fun e => ret (e 11)⟩]
noncomputable def p70 : PCode := (.seq (.reg p70_r0 [0, 1]) (.seq (.reg p70_r1 [4]) .ret))
theorem P70 : PFn Try.prog 70 ⟨p70, [.tmp 4], 12⟩ := .mk2 Try.f70 (Try.f70.body.getD .skip) [[0, 1], [4]] Try.func70 (by kernel_rfl) (by kernel_rfl) (by kernel_rfl) (by kernel_rfl) (by decide)
noncomputable def p74 : PCode := pcOf Try.prog Try.f74 (Try.f74.body.getD .skip) [[0, 1], [0, 1, 7, 8], [0, 1, 7, 8, 9], [0, 1, 5, 7, 8], [0, 1, 5, 7, 8, 16], [4], [0, 1, 7, 8], [4]]
theorem P74 : PFn Try.prog 74 ⟨p74, [.tmp 4], 19⟩ := .mk3 Try.f74 (Try.f74.body.getD .skip) [[0, 1], [0, 1, 7, 8], [0, 1, 7, 8, 9], [0, 1, 5, 7, 8], [0, 1, 5, 7, 8, 16], [4], [0, 1, 7, 8], [4]] Try.func74 (by kernel_rfl) (by kernel_rfl) (by kernel_rfl) (by kernel_rfl) (by decide)
noncomputable def p75 : PCode := pcOf Try.prog Try.f75 (Try.f75.body.getD .skip) [[0, 1], [3]]
theorem P75 : PFn Try.prog 75 ⟨p75, [.tmp 3], 7⟩ := .mk3 Try.f75 (Try.f75.body.getD .skip) [[0, 1], [3]] Try.func75 (by kernel_rfl) (by kernel_rfl) (by kernel_rfl) (by kernel_rfl) (by decide)
noncomputable def p76 : PCode := pcOf Try.prog Try.f76 (Try.f76.body.getD .skip) [[0], [0, 3], [0, 3, 6], [0, 3], [0, 3], [2]]
theorem P76 : PFn Try.prog 76 ⟨p76, [.tmp 2], 12⟩ := .mk3 Try.f76 (Try.f76.body.getD .skip) [[0], [0, 3], [0, 3, 6], [0, 3], [0, 3], [2]] Try.func76 (by kernel_rfl) (by kernel_rfl) (by kernel_rfl) (by kernel_rfl) (by decide)
noncomputable def p79 : PCode := pcOf Try.prog Try.f79 (Try.f79.body.getD .skip) [[0, 1, 2, 3, 4, 5, 6, 12], [5, 16], [], [0, 1, 3, 6, 19, 20], [0, 1, 3, 6, 19, 20, 21], [0, 1, 3, 6, 9, 19, 20], [0, 1, 3, 6, 9, 19, 20, 27], [0, 1, 3, 6, 9, 19, 20], [0, 1, 3, 6, 19, 20], [0, 1, 3, 6, 19, 20]]
theorem P79 : PFn Try.prog 79 ⟨p79, [], 41⟩ := .mk3 Try.f79 (Try.f79.body.getD .skip) [[0, 1, 2, 3, 4, 5, 6, 12], [5, 16], [], [0, 1, 3, 6, 19, 20], [0, 1, 3, 6, 19, 20, 21], [0, 1, 3, 6, 9, 19, 20], [0, 1, 3, 6, 9, 19, 20, 27], [0, 1, 3, 6, 9, 19, 20], [0, 1, 3, 6, 19, 20], [0, 1, 3, 6, 19, 20]] Try.func79 (by kernel_rfl) (by kernel_rfl) (by kernel_rfl) (by kernel_rfl) (by decide)
noncomputable def p82_r0 : List PI := [
  ⟨none, some 2, [], .eff fun e => ret (.v (.slice none 0 0))⟩]
noncomputable def p82_r1 : List PI := [
  ⟨none, some 8, [0], .eff fun e => ret (e 0)⟩,
  ⟨none, some 9, [8], .eff fun e => effLenSl (e 8)⟩,
  ⟨none, some 10, [9, 9], .eff fun e => effMk 8 (.int .u64 0) (e 9) (e 9)⟩,
  ⟨none, some 3, [10], .eff fun e => ret (e 10)⟩]
noncomputable def p82_r2 : List PI := [
  ⟨none, some 11, [0], .eff fun e => ret (e 0)⟩,
  ⟨none, some 12, [11], .eff fun e => effLenSl (e 11)⟩,
  ⟨none, some 13, [], .eff fun e => ret (.v (.int .i64 0))⟩]
noncomputable def p82_r3 : List PI := [
  ⟨none, some 14, [13, 12], .eff fun e => effIb .lss (e 13) (e 12)⟩]
noncomputable def p82_r4 : List PI := [
  ⟨none, some 15, [13], .eff fun e => ret (e 13)⟩,
  ⟨none, some 16, [11, 13], .eff fun e => effIdx 1 (e 11) (e 13)⟩,
  ⟨none, some 17, [16], .eff fun e => effLoad1 (e 16)⟩,
  ⟨none, some 4, [15], .eff fun e => ret (e 15)⟩,
  ⟨none, some 5, [17], .eff fun e => ret (e 17)⟩]
noncomputable def p82_r5 : List PI := [
  ⟨none, some 18, [4], .eff fun e => ret (e 4)⟩,
  ⟨none, some 19, [18], .eff fun e => effIb .add (e 18) (.v (.int .i64 1))⟩,
  ⟨none, some 6, [19], .eff fun e => ret (e 19)⟩]
noncomputable def p82_r6 : List PI := [
  ⟨none, some 20, [6], .eff fun e => ret (e 6)⟩,
  ⟨none, some 21, [0], .eff fun e => ret (e 0)⟩,
  ⟨none, some 22, [21], .eff fun e => effLenSl (e 21)⟩,
  ⟨none, some 23, [20, 22], .eff fun e => effIb .lss (e 20) (e 22)⟩]
noncomputable def p82_r7 : List PI := [
  ⟨none, some 26, [0], .eff fun e => ret (e 0)⟩,
  ⟨none, some 27, [6], .eff fun e => ret (e 6)⟩,
  ⟨none, some 28, [26, 27], .eff fun e => effIdx 1 (e 26) (e 27)⟩,
  ⟨none, some 29, [28], .eff fun e => effLoad1 (e 28)⟩,
  ⟨none, some 7, [29], .eff fun e => ret (e 29)⟩]
noncomputable def p82_r8 : List PI := [
  ⟨none, some 30, [5], .eff fun e => ret (e 5)⟩,
  ⟨none, some 31, [7], .eff fun e => ret (e 7)⟩,
  ⟨none, some 32, [30, 31], .eff fun e => effIb .lss (e 30) (e 31)⟩,
  ⟨none, some 33, [32], .eff fun e => ret (e 32)⟩,
  ⟨some (33, true), some 34, [0], .eff fun e => ret (e 0)⟩,
  ⟨some (33, true), some 35, [6], .eff fun e => ret (e 6)⟩,
  ⟨some (33, true), some 36, [34, 35], .eff fun e => effSlc 1 (e 34) (some (e 35)) none none⟩,
  ⟨some (33, true), some 37, [36], .call 57 ([.tmp 36])⟩,
  ⟨some (33, true), some 38, [5], .eff fun e => ret (e 5)⟩,
  ⟨some (33, true), some 39, [37, 38], .eff fun e => effIb .lss (e 37) (e 38)⟩,
  ⟨none, some 40, [33, 39], .eff fun e => effPick (e 33) (e 39) (.v (.bool false))⟩]
noncomputable def p82_r9 : List PI := [
  ⟨none, some 41, [3], .eff fun e => ret (e 3)⟩,
  ⟨none, some 42, [5], .eff fun e => ret (e 5)⟩,
  ⟨none, some 43, [41, 42], .eff fun e => effIdx 1 (e 41) (e 42)⟩,
  ⟨none, some 44, [43], .eff fun e => effLoad1 (e 43)⟩,
  ⟨none, some 45, [7], .eff fun e => ret (e 7)⟩,
  ⟨none, some 46, [45], .eff fun e => SOp.eff Try.prog (evalA e) (SOp.bin .shl 96 (.const (.int .u64 1)) (.tmp 45))⟩,
  ⟨none, some 47, [44, 46], .eff fun e => SOp.eff Try.prog (evalA e) (SOp.bin .or 96 (.tmp 44) (.tmp 46))⟩,
  ⟨none, some 48, [41, 42], .eff fun e => effIdx 1 (e 41) (e 42)⟩,
  ⟨none, none, [48, 47], .eff fun e => effStore 1 (e 48) (e 47)⟩]
noncomputable def p82_r10 : List PI := [
  ⟨none, some 49, [3], .eff fun e => ret (e 3)⟩,
  ⟨none, some 50, [7], .eff fun e => ret (e 7)⟩,
  ⟨none, some 51, [49, 50], .eff fun e => effIdx 1 (e 49) (e 50)⟩,
  ⟨none, some 52, [51], .eff fun e => effLoad1 (e 51)⟩,
  ⟨none, some 53, [5], .eff fun e => ret (e 5)⟩,
  ⟨none, some 54, [53], .eff fun e => SOp.eff Try.prog (evalA e) (SOp.bin .shl 96 (.const (.int .u64 1)) (.tmp 53))⟩,
  ⟨none, some 55, [52, 54], .eff fun e => SOp.eff Try.prog (evalA e) (SOp.bin .or 96 (.tmp 52) (.tmp 54))⟩,
  ⟨none, some 56, [49, 50], .eff fun e => effIdx 1 (e 49) (e 50)⟩,
  ⟨none, none, [56, 55], .eff fun e => effStore 1 (e 56) (e 55)⟩]
noncomputable def p82_r11 : List PI := [
  ⟨none, some 24, [6], .eff fun e => ret (e 6)⟩,
  ⟨none, some 25, [24], .eff fun e => effIb .add (e 24) (.v (.int .i64 1))⟩,
  ⟨none, some 6, [25], .eff fun e => ret (e 25)⟩]
noncomputable def p82_l0 : PCode := (.seq (.seq (.reg p82_r6 [0, 3, 5, 6, 11, 12, 13, 23]) (.cond (.tmp 23) .skip (.exit 2))) (.seq (.block 3 (.seq (.reg p82_r7 [0, 3, 5, 6, 7, 11, 12, 13]) (.seq (.reg p82_r8 [0, 3, 5, 6, 7, 11, 12, 13, 40]) (.cond (.tmp 40) (.seq (.draw p82_r9 [[], [], [0, 1], [2, 0, 1], [], [4], [3, 5, 2, 0, 1, 4], [6, 3, 5, 2, 0, 1, 4], [7, 6, 3, 5, 2, 0, 1, 4]] [0, 3, 5, 6, 7, 11, 12, 13]) (.draw p82_r10 [[], [], [0, 1], [2, 0, 1], [], [4], [3, 5, 2, 0, 1, 4], [6, 3, 5, 2, 0, 1, 4], [7, 6, 3, 5, 2, 0, 1, 4]] [0, 3, 5, 6, 11, 12, 13])) .skip)))) (.reg p82_r11 [0, 3, 5, 6, 11, 12, 13])))
noncomputable def p82_r12 : List PI := [
  ⟨none, some 57, [13], .eff fun e => effIb .add (e 13) (.v (.int .i64 1))⟩,
  ⟨none, some 13, [57], .eff fun e => ret (e 57)⟩]
noncomputable def p82_l1 : PCode := (.seq (.reg p82_r3 [0, 3, 11, 12, 13, 14]) (.seq (.cond (.tmp 14) .skip (.exit 0)) (.seq (.block 1 (.seq (.reg p82_r4 [0, 3, 4, 5, 11, 12, 13]) (.seq (.reg p82_r5 [0, 3, 5, 6, 11, 12, 13]) (.block 2 (.loop p82_l0))))) (.reg p82_r12 [0, 3, 11, 12, 13]))))
noncomputable def p82_r13 : List PI := [
  ⟨none, some 58, [3], .eff fun e => ret (e 3)⟩,
  ⟨none, some 2, [58], .eff fun e => ret (e 58)⟩]
noncomputable def p82 : PCode := (.seq (.reg p82_r0 [0]) (.seq (.reg p82_r1 [0, 3]) (.seq (.seq (.reg p82_r2 [0, 3, 11, 12, 13]) (.block 0 (.loop p82_l1))) (.seq (.reg p82_r13 [2]) .ret))))
theorem P82 : PFn Try.prog 82 ⟨p82, [.tmp 2], 59⟩ := .mk2 Try.f82 (Try.f82.body.getD .skip) [[0], [0, 3], [0, 3, 11, 12, 13], [0, 3, 11, 12, 13, 14], [0, 3, 4, 5, 11, 12, 13], [0, 3, 5, 6, 11, 12, 13], [0, 3, 5, 6, 11, 12, 13, 23], [0, 3, 5, 6, 7, 11, 12, 13], [0, 3, 5, 6, 7, 11, 12, 13, 40], [0, 3, 5, 6, 7, 11, 12, 13], [0, 3, 5, 6, 11, 12, 13], [0, 3, 5, 6, 11, 12, 13], [0, 3, 11, 12, 13], [2]] Try.func82 (by kernel_rfl) (by kernel_rfl) (by kernel_rfl) (by kernel_rfl) (by decide)
noncomputable def p84 : PCode := pcOf Try.prog Try.f84 (Try.f84.body.getD .skip) [[0, 1], [0, 1, 10], [0, 1], [0, 5, 6], [0, 6, 26], [0, 6], [0, 7], [7, 8], [7, 8, 37], [7, 8], [4]]
theorem P84 : PFn Try.prog 84 ⟨p84, [.tmp 4], 48⟩ := .mk3 Try.f84 (Try.f84.body.getD .skip) [[0, 1], [0, 1, 10], [0, 1], [0, 5, 6], [0, 6, 26], [0, 6], [0, 7], [7, 8], [7, 8, 37], [7, 8], [4]] Try.func84 (by kernel_rfl) (by kernel_rfl) (by kernel_rfl) (by kernel_rfl) (by decide)
noncomputable def p85_r0 : List PI := [
  ⟨none, some 9, [2], .eff fun e => effLoad1 (e 2)⟩,
  ⟨none, some 10, [0], .eff fun e => ret (e 0)⟩,
  ⟨none, some 11, [9, 10], .eff fun e => effIdx 1 (e 9) (e 10)⟩,
  ⟨none, some 12, [11], .eff fun e => effLoad1 (e 11)⟩,
  ⟨none, some 13, [12], .eff fun e => effIb .geq (e 12) (.v (.int .i64 0))⟩]
noncomputable def p85_r1 : List PI := [
  ⟨none, some 14, [3], .eff fun e => effLoad1 (e 3)⟩,
  ⟨none, some 15, [14], .eff fun e => ret (e 14)⟩,
  ⟨some (15, true), some 16, [2], .eff fun e => effLoad1 (e 2)⟩,
  ⟨some (15, true), some 17, [0], .eff fun e => ret (e 0)⟩,
  ⟨some (15, true), some 18, [16, 17], .eff fun e => effIdx 1 (e 16) (e 17)⟩,
  ⟨some (15, true), some 19, [18], .eff fun e => effLoad1 (e 18)⟩,
  ⟨some (15, true), some 20, [1], .eff fun e => ret (e 1)⟩,
  ⟨some (15, true), some 21, [19, 20], .eff fun e => effIb .eql (e 19) (e 20)⟩,
  ⟨none, some 22, [15, 21], .eff fun e => effPick (e 15) (e 21) (.v (.bool false))⟩,
  ⟨none, none, [3, 22], .eff fun e => effStore 1 (e 3) (e 22)⟩]
noncomputable def p85_r2 : List PI := [
  ⟨none, some 23, [2], .eff fun e => effLoad1 (e 2)⟩,
  ⟨none, some 24, [0], .eff fun e => ret (e 0)⟩,
  ⟨none, some 25, [1], .eff fun e => ret (e 1)⟩,
  ⟨none, some 26, [23, 24], .eff fun e => effIdx 1 (e 23) (e 24)⟩,
  ⟨none, none, [26, 25], .eff fun e => effStore 1 (e 26) (e 25)⟩]
noncomputable def p85_r3 : List PI := [
  ⟨none, some 27, [2], .eff fun e => effLoad1 (e 2)⟩,
  ⟨none, some 28, [27], .eff fun e => effLenSl (e 27)⟩,
  ⟨none, some 29, [], .eff fun e => ret (.v (.int .i64 0))⟩]
noncomputable def p85_r4 : List PI := [
  ⟨none, some 30, [29, 28], .eff fun e => effIb .lss (e 29) (e 28)⟩]
noncomputable def p85_r5 : List PI := [
  ⟨none, some 31, [29], .eff fun e => ret (e 29)⟩,
  ⟨none, some 8, [31], .eff fun e => ret (e 31)⟩]
noncomputable def p85_r6 : List PI := [
  ⟨none, some 32, [4], .eff fun e => effLoad1 (e 4)⟩,
  ⟨none, some 33, [0], .eff fun e => ret (e 0)⟩,
  ⟨none, some 34, [32, 33], .eff fun e => effIdx 1 (e 32) (e 33)⟩,
  ⟨none, some 35, [34], .eff fun e => effLoad1 (e 34)⟩,
  ⟨none, some 36, [8], .eff fun e => ret (e 8)⟩,
  ⟨none, some 37, [35, 36], .eff fun e => SOp.eff Try.prog (evalA e) (SOp.bin .shr 96 (.tmp 35) (.tmp 36))⟩,
  ⟨none, some 38, [37], .eff fun e => SOp.eff Try.prog (evalA e) (SOp.bin .and 96 (.tmp 37) (.const (.int .u64 1)))⟩,
  ⟨none, some 39, [38], .eff fun e => effIb .eql (e 38) (.v (.int .u64 1))⟩]
noncomputable def p85_r7 : List PI := [
  ⟨none, some 40, [5], .eff fun e => effLoad1 (e 5)⟩,
  ⟨none, some 41, [8], .eff fun e => ret (e 8)⟩,
  ⟨none, some 42, [1], .eff fun e => ret (e 1)⟩,
  ⟨none, some 43, [42], .eff fun e => effIb .sub (.v (.int .i64 1)) (e 42)⟩,
  ⟨none, some 44, [40, 41, 43], .callv (.tmp 40) ([.tmp 41, .tmp 43])⟩]
noncomputable def p85_r8 : List PI := [
  ⟨none, some 45, [29], .eff fun e => effIb .add (e 29) (.v (.int .i64 1))⟩,
  ⟨none, some 29, [45], .eff fun e => ret (e 45)⟩]
noncomputable def p85_l0 : PCode := (.seq (.reg p85_r4 [0, 1, 4, 5, 28, 29, 30]) (.seq (.cond (.tmp 30) .skip (.exit 0)) (.seq (.block 1 (.seq (.reg p85_r5 [0, 1, 4, 5, 8, 28, 29]) (.seq (.reg p85_r6 [0, 1, 4, 5, 8, 28, 29, 39]) (.cond (.tmp 39) (.reg p85_r7 [0, 1, 4, 5, 28, 29]) .skip)))) (.reg p85_r8 [0, 1, 4, 5, 28, 29]))))
noncomputable def p85 : PCode := (.seq (.seq (.reg p85_r0 [0, 1, 2, 3, 4, 5, 13]) (.cond (.tmp 13) (.seq (.reg p85_r1 []) .ret) .skip)) (.seq (.reg p85_r2 [0, 1, 2, 4, 5]) (.seq (.reg p85_r3 [0, 1, 4, 5, 28, 29]) (.block 0 (.loop p85_l0)))))
theorem P85 : PFn Try.prog 85 ⟨p85, [], 46⟩ := .mk2 Try.f85 (Try.f85.body.getD .skip) [[0, 1, 2, 3, 4, 5, 13], [], [0, 1, 2, 4, 5], [0, 1, 4, 5, 28, 29], [0, 1, 4, 5, 28, 29, 30], [0, 1, 4, 5, 8, 28, 29], [0, 1, 4, 5, 8, 28, 29, 39], [0, 1, 4, 5, 28, 29], [0, 1, 4, 5, 28, 29]] Try.func85 (by kernel_rfl) (by kernel_rfl) (by kernel_rfl) (by kernel_rfl) (by decide)
noncomputable def p91 : PCode := pcOf Try.prog Try.f91 (Try.f91.body.getD .skip) [[0, 1], [4]]
theorem P91 : PFn Try.prog 91 ⟨p91, [.tmp 4], 17⟩ := .mk3 Try.f91 (Try.f91.body.getD .skip) [[0, 1], [4]] Try.func91 (by kernel_rfl) (by kernel_rfl) (by kernel_rfl) (by kernel_rfl) (by decide)
noncomputable def p96 : PCode := pcOf Try.prog Try.f96 (Try.f96.body.getD .skip) [[1, 2, 6], []]
theorem P96 : PFn Try.prog 96 ⟨p96, [], 11⟩ := .mk3 Try.f96 (Try.f96.body.getD .skip) [[1, 2, 6], []] Try.func96 (by kernel_rfl) (by kernel_rfl) (by kernel_rfl) (by kernel_rfl) (by decide)
noncomputable def p97 : PCode := pcOf Try.prog Try.f97 (Try.f97.body.getD .skip) [[0, 1, 2, 4, 5], [0, 1, 2, 4, 15], [0, 1, 2, 4], [0, 1, 2], [0, 1, 2, 4, 5]]
theorem P97 : PFn Try.prog 97 ⟨p97, [], 24⟩ := .mk3 Try.f97 (Try.f97.body.getD .skip) [[0, 1, 2, 4, 5], [0, 1, 2, 4, 15], [0, 1, 2, 4], [0, 1, 2], [0, 1, 2, 4, 5]] Try.func97 (by kernel_rfl) (by kernel_rfl) (by kernel_rfl) (by kernel_rfl) (by decide)
noncomputable def p98_r0 : List PI := [
  ⟨none, some 2, [0], .eff fun e => ret (e 0)⟩,
  ⟨none, some 3, [2], .eff fun e => effNilck (e 2)⟩,
  ⟨none, some 4, [3], .eff fun e => effOff 0 (e 3)⟩,
  ⟨none, some 5, [4], .eff fun e => effLoad1 (e 4)⟩,
  ⟨none, some 6, [5], .eff fun e => effEqn false (TypeDesc.pointer 77) (e 5)⟩]
noncomputable def p98_r1 : List PI := [
  ⟨none, some 7, [0], .eff fun e => ret (e 0)⟩,
  ⟨none, some 8, [0], .eff fun e => ret (e 0)⟩,
  ⟨none, some 9, [8], .eff fun e => effSame 2 (e 8)⟩,
  ⟨none, some 10, [9], .eff fun e => ret (e 9)⟩,
  ⟨none, some 11, [10], .eff fun e => effSame 2 (e 10)⟩,
  ⟨none, some 12, [7], .eff fun e => effNilck (e 7)⟩,
  ⟨none, some 13, [12], .eff fun e => effOff 0 (e 12)⟩,
  ⟨none, none, [13, 11], .eff fun e => effStore 1 (e 13) (e 11)⟩]
noncomputable def p98_r2 : List PI := [
  ⟨none, some 14, [0], .eff fun e => ret (e 0)⟩,
  ⟨none, some 15, [14], .eff fun e => effNilck (e 14)⟩,
  ⟨none, some 16, [15], .eff fun e => effOff 0 (e 15)⟩,
  ⟨none, some 17, [16], .eff fun e => effLoad1 (e 16)⟩,
  ⟨none, some 18, [0], .eff fun e => ret (e 0)⟩,
  ⟨none, some 19, [17, 18], .eff fun e => effPeq true (e 17) (e 18)⟩]
noncomputable def p98 : PCode := (.seq (.reg p98_r0 [0, 6]) (.cond (.tmp 6) (.reg p98_r1 []) (.seq (.reg p98_r2 [19]) (.cond (.tmp 19) (.cond (.const (Value.nilFunc)) .skip .skip) .skip))))
theorem P98 : PFn Try.prog 98 ⟨p98, [], 20⟩ := .mk2 Try.f98 (Try.f98.body.getD .skip) [[0, 6], [], [19]] Try.func98 (by kernel_rfl) (by kernel_rfl) (by kernel_rfl) (by kernel_rfl) (by decide)
noncomputable def p100 : PCode := pcOf Try.prog Try.f100 (Try.f100.body.getD .skip) [[0, 1], [6, 7], [4, 5], [8, 9], [4, 5]]
theorem P100 : PFn Try.prog 100 ⟨p100, [.tmp 4, .tmp 5], 30⟩ := .mk3 Try.f100 (Try.f100.body.getD .skip) [[0, 1], [6, 7], [4, 5], [8, 9], [4, 5]] Try.func100 (by kernel_rfl) (by kernel_rfl) (by kernel_rfl) (by kernel_rfl) (by decide)
noncomputable def p101 : PCode := pcOf Try.prog Try.f101 (Try.f101.body.getD .skip) [[0], [2]]
theorem P101 : PFn Try.prog 101 ⟨p101, [.tmp 2], 6⟩ := .mk3 Try.f101 (Try.f101.body.getD .skip) [[0], [2]] Try.func101 (by kernel_rfl) (by kernel_rfl) (by kernel_rfl) (by kernel_rfl) (by decide)
noncomputable def p113 : PCode := pcOf Try.prog Try.f113 (Try.f113.body.getD .skip) [[0, 1], [6], [4, 5]]
theorem P113 : PFn Try.prog 113 ⟨p113, [.tmp 4, .tmp 5], 17⟩ := .mk3 Try.f113 (Try.f113.body.getD .skip) [[0, 1], [6], [4, 5]] Try.func113 (by kernel_rfl) (by kernel_rfl) (by kernel_rfl) (by kernel_rfl) (by decide)
noncomputable def p114 : PCode := pcOf Try.prog Try.f114 (Try.f114.body.getD .skip) [[0, 1], [0, 1, 6], [0, 1, 6, 7], [0, 1, 6, 7, 8], [0, 1, 6, 7, 8, 9], [0, 1, 6, 7, 8, 9, 10], [0, 1, 6, 7, 9, 11], [0, 1, 6, 7, 9, 11, 12], [0, 1, 6, 7, 9, 12, 13], [0, 1, 7, 9, 12, 13], [0, 1, 4], [4, 5]]
theorem P114 : PFn Try.prog 114 ⟨p114, [.tmp 4, .tmp 5], 51⟩ := .mk3 Try.f114 (Try.f114.body.getD .skip) [[0, 1], [0, 1, 6], [0, 1, 6, 7], [0, 1, 6, 7, 8], [0, 1, 6, 7, 8, 9], [0, 1, 6, 7, 8, 9, 10], [0, 1, 6, 7, 9, 11], [0, 1, 6, 7, 9, 11, 12], [0, 1, 6, 7, 9, 12, 13], [0, 1, 7, 9, 12, 13], [0, 1, 4], [4, 5]] Try.func114 (by kernel_rfl) (by kernel_rfl) (by kernel_rfl) (by kernel_rfl) (by decide)
end Go.Sx.Lk
end
