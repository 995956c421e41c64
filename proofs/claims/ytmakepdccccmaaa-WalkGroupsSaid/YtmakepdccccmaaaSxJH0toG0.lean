/- Arguments of rows that are lists of numbers. No conditions. -/
import Derived.Test.YtmakepdccccmaaaSxR
import Derived.Test.YtmakepdccccmaaaRows
import Derived.WalkKit
import Derived.ProofKit
import Derived.OpenShut
import Derived.ShutString
import Derived.ChangeOld
import Derived.ChangeSlices
import Derived.Below
set_option linter.unusedVariables false
set_option linter.unusedSimpArgs false
namespace Go.Sx
theorem rep_nilS {w : World} : Rep (There w) w (fun _ => none) (.il (ints []) (List.length ([] : List Int)) true) (.slice none 0 0) := .nil
/-- A list that came in. -/
theorem rep_ints {w : World} {a : Option Addr} {len cap : Nat} {zs : List Int}
    (hn : ∀ x, a = some x → x.spot = none)
    (h : (a = none ∧ len = 0 ∧ cap = 0 ∧ zs = []) ∨ ∃ x, a = some x ∧ len ≤ cap ∧ cap ≤ maxLen ∧ zs.length = cap ∧ (∀ i, i < zs.length → w.cell? (x.add i) = some (.int .i64 (zs.getD i 0))) ∧ ∀ n ∈ zs, (Lit.int .i64 n).wf = true) :
    ∃ l u, Rep (There w) w (fun _ => none) (.il (ints l) l.length u) (.slice a len cap) ∧ ∀ n ∈ l, (Lit.int .i64 n).wf = true := by
  rcases h with ⟨rfl, rfl, rfl, rfl⟩ | ⟨x, rfl, hl, hm, hz, hc, hw⟩
  · exact ⟨[], true, .nil, fun n hn => by simp at hn⟩
  · rcases rep_row (w := w) (a := some x) (len := len) (cap := cap) (zs := zs) (.inr ⟨x, rfl, hl, hm, hz, hc, hw⟩) with ⟨_, _, h1, h2, h3⟩ | ⟨u, h1, h2, h3⟩
    · subst h1 h2
      exact ⟨[], true, by
        obtain ⟨b, off, spot⟩ := x
        cases spot with
        | none => exact rep_empty b off 0 (fun _ => rfl)
        | some s => exact absurd (hn _ rfl) (by simp), fun n hn => by simp at hn⟩
    · exact ⟨zs.take len, u, by rw [h2]; exact h1, h3⟩
end Go.Sx
/- What the rows of the walk layer share: arguments that are lists of numbers. No conditions. -/
namespace Go.Proofs.Ytmakepdccccmaaa.wrow
open Go.ChangeShapes Go.WideShapes Go.ChangeAt Go.RowKit
set_option linter.unusedVariables false
set_option maxRecDepth 100000

theorem own : ownKnob Try.prog.godebug = none := by kernel_rfl
theorem laidOut : laidOutB Try.prog = true := by kernel_rfl
theorem cells3 : Try.prog.cellsOf 3 = 1 := by kernel_rfl
theorem spot22 {w : World} {base : Nat} {a : Addr} {len cap : Nat} (h : Value.okWide Try.prog w .any base 22 (.slice (some a) len cap)) : a.spot = none := by
  simp only [Value.okWide, Try.underlying22, Cell.okWide, Cell.ok] at h
  exact h.2.2.2.1
abbrev IsL (w : World) (l : List Int) (u : Bool) (v : Value) : Prop := Go.Sx.Rep (Go.Sx.There w) w (fun _ => none) (.il (Go.Sx.ints l) l.length u) v
theorem arg22 {H : Type} {enc : TypeId × Value → H} {w : World} {a0 : Option Addr} {len cap fuel : Nat} {x : DataW H × List MemPlace}
    {base : Nat} (hv : Value.okWide Try.prog w .any base 22 (.slice a0 len cap)) (hf : DataW.trod enc Try.prog w 0 (fun _ => true) true fuel 22 (Value.cells (.slice a0 len cap)).toList = some x) :
    ∃ l u, IsL w l u (.slice a0 len cap) ∧ ∀ n ∈ l, (Lit.int .i64 n).wf = true := by
  rcases open_ints Try.underlying22 Try.underlying3 cells3 hf with ⟨hcs, hx⟩ | ⟨a, len', cap', zs, hcs, _, hl, hm, hz, hx, hcell, hwz⟩
  · simp [Value.cells] at hcs
    obtain ⟨rfl, rfl, rfl⟩ := hcs
    exact Go.Sx.rep_ints (w := w) (a := none) (len := 0) (cap := 0) (zs := []) (fun x h => by cases h) (.inl ⟨rfl, rfl, rfl, rfl⟩)
  · simp [Value.cells] at hcs
    obtain ⟨rfl, rfl, rfl⟩ := hcs
    simp only [if_true] at hz
    have hsp : ∀ x, some a = some x → x.spot = none := fun x hx => by
      rw [← Option.some.inj hx]; exact spot22 hv
    exact Go.Sx.rep_ints (w := w) (a := some a) (len := len) (cap := cap) (zs := zs) hsp (.inr ⟨a, rfl, hl, hm, hz, hcell, hwz⟩)
end Go.Proofs.Ytmakepdccccmaaa.wrow
