/- What the listed variable gives: its cells. No conditions. -/
import Derived.Test.YtfiebjbhiflfpaaDoorRows
import Derived.WalkKit
import Derived.ProofKit
import Derived.OpenShut
import Derived.ShutString
import Derived.ChangeOld
import Derived.Below
import Derived.LaidMore
import Derived.Stop.Joined
import Derived.Lib.LaidTab
import Derived.Test.YtfiebjbhiflfpaaDoorSxR
set_option linter.unusedVariables false
set_option linter.unusedSimpArgs false
namespace Go.Proofs.YtfiebjbhiflfpaaDoor.crow
open Go.ChangeShapes Go.WideShapes Go.ChangeAt Go.RowKit
abbrev laidD : List (String × DataW Unit) := [("bellarmine/chart.others", Rows.laid_bellarmine_chart_others)]
theorem own : ownKnob Tryd.prog.godebug = none := by kernel_rfl
theorem laidOut : laidOutB Tryd.prog = true := by kernel_rfl
theorem gOthers : Tryd.prog.globalNamed "bellarmine/chart.others" = some 0 := by kernel_rfl
theorem door_met (os : Os) (args : Array Value) : laidMetH Tryd.prog laidD ((World.doorLaid Tryd.prog 14 os).forCall (fun _ _ => 0) ⟨#[], args, []⟩).memory :=
  laidMetH_of_parts3 (fuel := 8) (laidMet_of_run' 8 (by kernel_rfl) (by kernel_rfl)) (by kernel_rfl) (by kernel_rfl)
theorem glob_of_laid {W : World} (h : laidMetH Tryd.prog laidD W) : Go.Sx.Glob (Go.Sx.There W) W := by
  rw [MakeChecks.laidMetH_plain _ _ _ (by kernel_rfl)] at h
  have hT := Lib.tabIs_of_head (k := .i64) (t := 78) (e := 3) (n := 16) (zs := [1, 0, 3, 2, 5, 4, 7, 6, 9, 8, 11, 10, 13, 12, 15, 14]) gOthers (by kernel_rfl) (by kernel_rfl) (by kernel_rfl) (by kernel_rfl) (by kernel_rfl) h
  intro b cs hb
  unfold Go.Sx.GL at hb
  split at hb
  · rename_i e; subst e
    cases hb
    have hc : ∀ (i : Nat) x, (([1, 0, 3, 2, 5, 4, 7, 6, 9, 8, 11, 10, 13, 12, 15, 14] : List Int).map fun n => Value.int .i64 n)[i]? = some x → W.cell? ⟨0, i, none⟩ = some x ∧ x.oneCell' = true := fun i x hx => by
      rw [List.getElem?_map] at hx
      obtain ⟨n, hn, rfl⟩ := Option.map_eq_some_iff.1 hx
      have hi := (List.getElem?_eq_some_iff.1 hn).1
      refine ⟨?_, rfl⟩
      have := hT.cell gOthers i hi
      rw [this, List.getD_eq_getElem?_getD, hn]; rfl
    refine ⟨?_, hc⟩
    have h0 := (hc 0 _ rfl).1
    unfold World.cell? at h0
    split at h0
    · rename_i hb; exact (Array.getElem?_eq_some_iff.1 hb).1
    · cases h0
  · cases hb
end Go.Proofs.YtfiebjbhiflfpaaDoor.crow
