/- From what a function does in an empty heap to what the given statement asks. No conditions. -/
import Derived.Test.YteoiebmbgbgpgaaSxO
set_option linter.unusedVariables false
set_option linter.unusedSimpArgs false
namespace Go.Sx
def There (w : World) (b : Nat) : Prop := b < w.heap.size
theorem wf_there {w : World} (hg : Glob (There w) w) : Wf (There w) w (fun _ => none) (hp []) :=
  ⟨⟨fun id k h => by simp [hp] at h, fun i j li lj hi _ _ _ _ => (hi rfl).elim⟩, fun b hb => ⟨hb, fun ⟨_, _, h, _⟩ => h rfl⟩, hg⟩
theorem below_of_runs {P : Program} {g : FuncId} {args : List AV} {vs : List Value} {r : AV} {k' : Nat} {h' : Heap} {w : World} (hg : Glob (There w) w) (h : Runs P g 0 args (hp []) r k' h') (ha : Reps (There w) w (fun _ => none) args vs) :
    Calls P g vs.toArray w fun e w' => (∃ S f v, e = .returned v ∧ Rep S w' f r v) ∧ RowKit.Below w.heap.size w w' := by
  refine (h.2 (There w) w (fun _ => none) vs ha (wf_there hg) (fun _ _ => rfl)).mono ?_
  rintro e w' ⟨S', f', v, rfl, hv, _, hst, _⟩
  exact ⟨⟨S', f', v, rfl, hv⟩, hst.kept.os, hst.kept.tape, hst.kept.output, hst.kept.size, fun k hk => hst.kept.block k hk (fun ⟨_, _, h, _⟩ => h rfl)⟩
theorem law_of_runs {P : Program} {g : FuncId} {args : List AV} {vs : List Value} {k' : Nat} {h' : Heap} {w : World} (hg : Glob (There w) w) (h : Runs P g 0 args (hp []) (.v (.bool true)) k' h') (ha : Reps (There w) w (fun _ => none) args vs) :
    Calls P g vs.toArray w fun e w' => e = .returned (.bool true) ∧ RowKit.Below w.heap.size w w' := by
  refine (below_of_runs hg h ha).mono ?_
  rintro e w' ⟨⟨S, f, v, rfl, hv⟩, hb⟩
  cases hv
  exact ⟨rfl, hb⟩
def ints (l : List Int) : List AV := l.map fun n => .v (.int .i64 n)
end Go.Sx
