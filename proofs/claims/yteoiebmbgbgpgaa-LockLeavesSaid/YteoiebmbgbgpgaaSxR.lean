/- From what a function does in an empty heap to what the given statement asks. No conditions. -/
import Derived.Test.YteoiebmbgbgpgaaSxO
set_option linter.unusedVariables false
set_option linter.unusedSimpArgs false
namespace Go.Sx
def There (w : World) (b : Nat) : Prop := b < w.heap.size
theorem wf_there {w : World} (hg : Glob (There w) w) : Wf (There w) w (fun _ => none) (hp []) :=
  ⟨⟨fun id k h => by simp [hp] at h, fun i j li lj hi _ _ _ _ => (hi rfl).elim⟩, fun b hb => ⟨hb, fun ⟨_, _, h, _⟩ => h rfl⟩, hg⟩
theorem below_of_runs {P : Program} {g : FuncId} {args : List AV} {vs : List Value} {r : AV} {k' : Nat} {h' : Heap} {w : World} (hg : Glob (There w) w) (h : Runs P g 0 args (hp []) r k' h') (ha : Reps (There w) w (fun _ => none) args vs) :
    Calls P g vs.toArray w fun e w' => (∃ S f v, e = .returned v ∧ Rep S w' f r v) ∧ RowKit.Below w.heap.size w w' := by
  refine (h.2 (There w) w (fun _ => none) vs ha (wf_there hg) (fun _ _ => rfl)).mono ?_
  rintro e w' ⟨S', f', v, rfl, hv, _, hst, _⟩
  exact ⟨⟨S', f', v, rfl, hv⟩, hst.kept.os, hst.kept.tape, hst.kept.output, hst.kept.size, fun k hk => hst.kept.block k hk (fun ⟨_, _, h, _⟩ => h rfl)⟩
theorem law_of_runs {P : Program} {g : FuncId} {args : List AV} {vs : List Value} {k' : Nat} {h' : Heap} {w : World} (hg : Glob (There w) w) (h : Runs P g 0 args (hp []) (.v (.bool true)) k' h') (ha : Reps (There w) w (fun _ => none) args vs) :
    Calls P g vs.toArray w fun e w' => e = .returned (.bool true) ∧ RowKit.Below w.heap.size w w' := by
  refine (below_of_runs hg h ha).mono ?_
  rintro e w' ⟨⟨S, f, v, rfl, hv⟩, hb⟩
  cases hv
  exact ⟨rfl, hb⟩
def ints (l : List Int) : List AV := l.map fun n => .v (.int .i64 n)
theorem rep_row {w : World} {a : Option Addr} {len cap : Nat} {zs : List Int}
    (h : (a = none ∧ len = 0 ∧ cap = 0 ∧ zs = []) ∨ ∃ x, a = some x ∧ len ≤ cap ∧ cap ≤ maxLen ∧ zs.length = cap ∧ (∀ i, i < zs.length → w.cell? (x.add i) = some (.int .i64 (zs.getD i 0))) ∧ ∀ n ∈ zs, (Lit.int .i64 n).wf = true) :
    (∃ a', a = a' ∧ len = 0 ∧ cap = 0 ∧ zs = []) ∨ ∃ full, Rep (There w) w (fun _ => none) (.il (ints (zs.take len)) len full) (.slice a len cap) ∧ (zs.take len).length = len ∧ ∀ n ∈ zs.take len, (Lit.int .i64 n).wf = true := by
  rcases h with ⟨rfl, rfl, rfl, rfl⟩ | ⟨x, rfl, hl, _, hz, hc, hw⟩
  · exact .inl ⟨none, rfl, rfl, rfl, rfl⟩
  · cases zs with
    | nil =>
      simp at hz
      exact .inl ⟨some x, rfl, by omega, by omega, rfl⟩
    | cons z zs =>
      right
      have h0 := hc 0 (by simp)
      obtain ⟨b, off, spot⟩ := x
      have hspot : spot = none := by simpa [Addr.add] using World.cell?_spot h0
      subst hspot
      have hlen : ((z :: zs).take len).length = len := by rw [List.length_take]; omega
      refine ⟨decide (cap = len), ?_, hlen, fun n hn => hw n (List.mem_of_mem_take hn)⟩
      refine .il (vals := ((z :: zs).take len).map fun n => .int .i64 n) (by simp [ints]) (fun _ => ?_) (fun i u hu => ?_) (fun u hu => ?_) (fun i u v hu hv => ?_) hl (fun hf => by simpa using hf)
      · simp only [There]
        have h1 : w.cell? ⟨b, off + 0, none⟩ = _ := h0
        unfold World.cell? at h1
        split at h1
        · rename_i hb; exact (Array.getElem?_eq_some_iff.1 hb).1
        · cases h1
      · rw [List.getElem?_map] at hu
        obtain ⟨n, hn, rfl⟩ := Option.map_eq_some_iff.1 hu
        rw [List.getElem?_take] at hn
        split at hn
        · have hi : i < (z :: zs).length := (List.getElem?_eq_some_iff.1 hn).1
          have := hc i hi
          rw [Addr.add_lit] at this
          rw [this, List.getD_eq_getElem?_getD, hn]; rfl
        · cases hn
      · obtain ⟨n, _, rfl⟩ := List.mem_map.1 hu; rfl
      · unfold ints at hu
        rw [List.getElem?_map] at hu hv
        cases hn : ((z :: zs).take len)[i]? with
        | none => simp [hn] at hu
        | some n => simp [hn] at hu hv; subst hu hv; exact .v _
end Go.Sx
