/- Any sketch of a statement is one that the walk takes. No conditions. -/
import Derived.Test.YtfiebjbhiflfpaaDoorSxJD
namespace Go.Sx.Ch
open Go Go.Sx Go.Proofs
theorem gSk_ok {s g most : Int} {O : List Int} (hl : O.length = 16) (hs : 0 ≤ s ∧ s ≤ 255) (hb : ∀ x ∈ O, 0 ≤ x ∧ x ≤ 255) (hg : 0 ≤ g ∧ g ≤ 65535) (hm : 0 ≤ most ∧ most ≤ 8) : gSk s O g most = true := by
  simp only [gSk, Bool.and_eq_true, decide_eq_true_eq, within_iff, List.all_eq_true]
  exact ⟨⟨⟨⟨hs, hl⟩, hb⟩, hg⟩, hm⟩
end Go.Sx.Ch
