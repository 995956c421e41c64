/- Arguments of rows that are lists of numbers. No conditions. -/
import Derived.Test.YtmakepdccccmaaaSxR
import Derived.Test.YtmakepdccccmaaaRows
import Derived.WalkKit
import Derived.ProofKit
import Derived.OpenShut
import Derived.ShutString
import Derived.ChangeOld
import Derived.ChangeSlices
import Derived.Below
set_option linter.unusedVariables false
set_option linter.unusedSimpArgs false
namespace Go.Sx
theorem rep_nilS {w : World} : Rep (There w) w (fun _ => none) (.il (ints []) (List.length ([] : List Int)) true) (.slice none 0 0) := .nil
/-- A list that came in. -/
theorem rep_ints {w : World} {a : Option Addr} {len cap : Nat} {zs : List Int}
    (hn : ∀ x, a = some x → x.spot = none)
    (h : (a = none ∧ len = 0 ∧ cap = 0 ∧ zs = []) ∨ ∃ x, a = some x ∧ len ≤ cap ∧ cap ≤ maxLen ∧ zs.length = cap ∧ (∀ i, i < zs.length → w.cell? (x.add i) = some (.int .i64 (zs.getD i 0))) ∧ ∀ n ∈ zs, (Lit.int .i64 n).wf = true) :
    ∃ l u, Rep (There w) w (fun _ => none) (.il (ints l) l.length u) (.slice a len cap) ∧ ∀ n ∈ l, (Lit.int .i64 n).wf = true := by
  rcases h with ⟨rfl, rfl, rfl, rfl⟩ | ⟨x, rfl, hl, hm, hz, hc, hw⟩
  · exact ⟨[], true, .nil, fun n hn => by simp at hn⟩
  · rcases rep_row (w := w) (a := some x) (len := len) (cap := cap) (zs := zs) (.inr ⟨x, rfl, hl, hm, hz, hc, hw⟩) with ⟨_, _, h1, h2, h3⟩ | ⟨u, h1, h2, h3⟩
    · subst h1 h2
      exact ⟨[], true, by
        obtain ⟨b, off, spot⟩ := x
        cases spot with
        | none => exact rep_empty b off 0 (fun _ => rfl)
        | some s => exact absurd (hn _ rfl) (by simp), fun n hn => by simp at hn⟩
    · exact ⟨zs.take len, u, by rw [h2]; exact h1, h3⟩
end Go.Sx
namespace Go.Proofs.Ytmakepdccccmaaa.wrow
open Go.ChangeShapes Go.WideShapes Go.ChangeAt Go.RowKit
set_option maxRecDepth 100000

theorem own : ownKnob Try.prog.godebug = none := by kernel_rfl
theorem laidOut : laidOutB Try.prog = true := by kernel_rfl
theorem cells3 : Try.prog.cellsOf 3 = 1 := by kernel_rfl
theorem spot22 {w : World} {base : Nat} {a : Addr} {len cap : Nat} (h : Value.okWide Try.prog w .any base 22 (.slice (some a) len cap)) : a.spot = none := by
  simp only [Value.okWide, Try.underlying22, Cell.okWide, Cell.ok] at h
  exact h.2.2.2.1
abbrev IsL (w : World) (l : List Int) (u : Bool) (v : Value) : Prop := Go.Sx.Rep (Go.Sx.There w) w (fun _ => none) (.il (Go.Sx.ints l) l.length u) v
theorem arg22 {H : Type} {enc : TypeId × Value → H} {w : World} {a0 : Option Addr} {len cap fuel : Nat} {x : DataW H × List MemPlace}
    {base : Nat} (hv : Value.okWide Try.prog w .any base 22 (.slice a0 len cap)) (hf : DataW.trod enc Try.prog w 0 (fun _ => true) true fuel 22 (Value.cells (.slice a0 len cap)).toList = some x) :
    ∃ l u, IsL w l u (.slice a0 len cap) ∧ ∀ n ∈ l, (Lit.int .i64 n).wf = true := by
  rcases open_ints Try.underlying22 Try.underlying3 cells3 hf with ⟨hcs, hx⟩ | ⟨a, len', cap', zs, hcs, _, hl, hm, hz, hx, hcell, hwz⟩
  · simp [Value.cells] at hcs
    obtain ⟨rfl, rfl, rfl⟩ := hcs
    exact Go.Sx.rep_ints (w := w) (a := none) (len := 0) (cap := 0) (zs := []) (fun x h => by cases h) (.inl ⟨rfl, rfl, rfl, rfl⟩)
  · simp [Value.cells] at hcs
    obtain ⟨rfl, rfl, rfl⟩ := hcs
    simp only [if_true] at hz
    have hsp : ∀ x, some a = some x → x.spot = none := fun x hx => by
      rw [← Option.some.inj hx]; exact spot22 hv
    exact Go.Sx.rep_ints (w := w) (a := some a) (len := len) (cap := cap) (zs := zs) hsp (.inr ⟨a, rfl, hl, hm, hz, hcell, hwz⟩)
end Go.Proofs.Ytmakepdccccmaaa.wrow
namespace Go.Proofs.Ytmakepdccccmaaa.wrow
open Go.ChangeShapes Go.WideShapes Go.ChangeAt Go.RowKit
set_option maxRecDepth 100000

theorem under5 : Try.prog.underlying 5 = some (.int .u8) := by kernel_rfl
theorem cellTypes45 : Try.prog.cellTypes Try.prog.depth 45 = some [5, 5, 5, 5, 5] := by kernel_rfl
theorem cellsOf45 : Try.prog.cellsOf 45 = 5 := by kernel_rfl
theorem wide45 : (match Try.prog.underlying 45 with | some (.struct _) | some (.array _ _) => true | _ => false) = true := by kernel_rfl
theorem cell5 {w : World} {base : Nat} {v : Value} (h : Cell.okWide Try.prog w .any base 5 v) : ∃ n, v = .int .u8 n ∧ 0 ≤ n ∧ n ≤ 255 := by
  simp only [Cell.okWide, under5] at h
  have hmin : IntKind.u8.min = 0 := by decide
  have hmax : IntKind.u8.max = 255 := by decide
  cases v <;> simp_all [Cell.ok, IntKind.has]
theorem cells5 {w : World} {base : Nat} : ∀ {n : Nat} {cs : List Value}, cs.length = n → (∀ (i : Nat) v, cs[i]? = some v → Cell.okWide Try.prog w .any base 5 v) → ∃ l : List Int, cs = l.map (Value.int .u8) ∧ l.length = n ∧ ∀ x ∈ l, 0 ≤ x ∧ x ≤ 255
  | 0, [], _, _ => ⟨[], rfl, rfl, fun x h => by simp at h⟩
  | n + 1, c :: cs, hl, h => by
    obtain ⟨x, rfl, h1⟩ := cell5 (h 0 c rfl)
    obtain ⟨l, rfl, h2, h3⟩ := cells5 (n := n) (cs := cs) (by simpa using hl) (fun i v hv => h (i + 1) v (by simpa using hv))
    refine ⟨x :: l, rfl, by simp [h2], fun y hy => ?_⟩
    rw [List.mem_cons] at hy
    rcases hy with rfl | hy
    · exact h1
    · exact h3 y hy
/-- A row of small numbers. -/
theorem row5 {w : World} {base : Nat} {t : TypeId} {n : Nat} {v : Value} (hw : (match Try.prog.underlying t with | some (.struct _) | some (.array _ _) => true | _ => false) = true) (ht : Try.prog.cellTypes Try.prog.depth t = some (List.replicate n 5)) (hn : Try.prog.cellsOf t = n)
    (h : Value.okWide Try.prog w .any base t v) : ∃ l : List Int, v = .agg (l.map (Value.int .u8)).toArray ∧ l.length = n ∧ ∀ x ∈ l, 0 ≤ x ∧ x ≤ 255 := by
  have key : (∃ cs, v = .agg cs ∧ cs.size = Try.prog.cellsOf t ∧ Row.okWide Try.prog w .any base t cs) := by
    unfold Value.okWide at h
    split at h
    · exact h
    · exact h
    · rename_i h1 h2
      exfalso
      split at hw
      · rename_i fs hu; exact h1 fs hu
      · rename_i k e hu; exact h2 k e hu
      · cases hw
  obtain ⟨cs, rfl, hs, ts, h1, h2, h3⟩ := key
  rw [ht] at h1
  cases h1
  rw [hn] at hs
  obtain ⟨l, hl, hll, hb⟩ := cells5 (w := w) (base := base) (n := n) (cs := cs.toList) (by simpa using hs) (fun i v hv => by
    have hi : cs[i]? = some v := by simpa using hv
    obtain ⟨u, hu, hc⟩ := h3 i v hi
    have : u = 5 := by
      have := List.mem_of_getElem? hu
      exact List.eq_of_mem_replicate this
    subst this; exact hc)
  exact ⟨l, by rw [← hl], hll, hb⟩
theorem arg45 {w : World} {base : Nat} {v : Value} (h : Value.okWide Try.prog w .any base 45 v) : ∃ s b0 b1 b2 b3 : Int, v = .agg #[.int .u8 s, .int .u8 b0, .int .u8 b1, .int .u8 b2, .int .u8 b3] ∧ (0 ≤ s ∧ s ≤ 255) ∧ ∀ x ∈ [b0, b1, b2, b3], 0 ≤ x ∧ x ≤ 255 := by
  obtain ⟨l, hv, hl, hb⟩ := row5 (n := 5) wide45 cellTypes45 cellsOf45 h
  match l, hl with
  | [s, b0, b1, b2, b3], _ => exact ⟨s, b0, b1, b2, b3, hv, hb s (by simp), fun x hx => hb x (by simp only [List.mem_cons] at hx ⊢; exact .inr hx)⟩
/-- Small numbers in a row, as they come in. -/
theorem rep5 {S : Nat → Prop} {w : World} {f : Go.Sx.Place} (l : List Int) : Go.Sx.Rep S w f (.agg (l.map fun n => .v (.int .u8 n))) (.agg (l.map (Value.int .u8)).toArray) := by
  refine .agg (by simp) (fun x hx => ?_) (fun i x y hx hy => ?_)
  · obtain ⟨n, -, rfl⟩ := List.mem_map.1 hx; rfl
  · rw [List.getElem?_map] at hx hy
    cases hl : l[i]? with
    | none => rw [hl] at hx; cases hx
    | some n => rw [hl] at hx hy; cases hx; cases hy; exact .v _
end Go.Proofs.Ytmakepdccccmaaa.wrow
