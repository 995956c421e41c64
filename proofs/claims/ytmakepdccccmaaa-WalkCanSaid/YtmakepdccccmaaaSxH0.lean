/- Arguments of rows that are lists of numbers. No conditions. -/
import Derived.Test.YtmakepdccccmaaaSxR
set_option linter.unusedVariables false
set_option linter.unusedSimpArgs false
namespace Go.Sx
theorem rep_nilS {w : World} : Rep (There w) w (fun _ => none) (.il (ints []) (List.length ([] : List Int)) true) (.slice none 0 0) := .nil
/-- A list that came in. -/
theorem rep_ints {w : World} {a : Option Addr} {len cap : Nat} {zs : List Int}
    (hn : ∀ x, a = some x → x.spot = none)
    (h : (a = none ∧ len = 0 ∧ cap = 0 ∧ zs = []) ∨ ∃ x, a = some x ∧ len ≤ cap ∧ cap ≤ maxLen ∧ zs.length = cap ∧ (∀ i, i < zs.length → w.cell? (x.add i) = some (.int .i64 (zs.getD i 0))) ∧ ∀ n ∈ zs, (Lit.int .i64 n).wf = true) :
    ∃ l u, Rep (There w) w (fun _ => none) (.il (ints l) l.length u) (.slice a len cap) ∧ ∀ n ∈ l, (Lit.int .i64 n).wf = true := by
  rcases h with ⟨rfl, rfl, rfl, rfl⟩ | ⟨x, rfl, hl, hm, hz, hc, hw⟩
  · exact ⟨[], true, .nil, fun n hn => by simp at hn⟩
  · rcases rep_row (w := w) (a := some x) (len := len) (cap := cap) (zs := zs) (.inr ⟨x, rfl, hl, hm, hz, hc, hw⟩) with ⟨_, _, h1, h2, h3⟩ | ⟨u, h1, h2, h3⟩
    · subst h1 h2
      exact ⟨[], true, by
        obtain ⟨b, off, spot⟩ := x
        cases spot with
        | none => exact rep_empty b off 0 (fun _ => rfl)
        | some s => exact absurd (hn _ rfl) (by simp), fun n hn => by simp at hn⟩
    · exact ⟨zs.take len, u, by rw [h2]; exact h1, h3⟩
end Go.Sx
