/- What the rows of the outright laws of the chart layer share: a map by numbers as an argument. No conditions. -/
import Derived.Test.YtfiebjbhiflfpaaDoorSxCG0
import Derived.Test.YtfiebjbhiflfpaaDoorSxV
import Derived.Test.YtfiebjbhiflfpaaDoorSxR
import Derived.Deep.Matrix
import Derived.ChangeSame
set_option linter.unusedVariables false
set_option linter.unusedSimpArgs false
namespace Go.Proofs.YtfiebjbhiflfpaaDoor.crow
open Go.ChangeShapes Go.WideShapes Go.ChangeAt Go.RowKit Go.Deep
set_option maxRecDepth 100000
theorem under5 : Tryd.prog.underlying 5 = some (.int .u8) := by kernel_rfl
theorem under58 : Tryd.prog.underlying 58 = some (.int .u16) := by kernel_rfl
theorem cellTypes60 : Tryd.prog.cellTypes Tryd.prog.depth 60 = some (List.replicate 17 5 ++ [58]) := by kernel_rfl
theorem cellsOf60 : Tryd.prog.cellsOf 60 = 18 := by kernel_rfl
theorem wide60 : (match Tryd.prog.underlying 60 with | some (.struct _) | some (.array _ _) => true | _ => false) = true := by kernel_rfl
theorem cell5 {w : World} {base : Nat} {v : Value} (h : Cell.okWide Tryd.prog w .any base 5 v) : ∃ n, v = .int .u8 n ∧ 0 ≤ n ∧ n ≤ 255 := by
  simp only [Cell.okWide, under5] at h
  have hmin : IntKind.u8.min = 0 := by decide
  have hmax : IntKind.u8.max = 255 := by decide
  cases v <;> simp_all [Cell.ok, IntKind.has]
theorem cell58 {w : World} {base : Nat} {v : Value} (h : Cell.okWide Tryd.prog w .any base 58 v) : ∃ n, v = .int .u16 n ∧ 0 ≤ n ∧ n ≤ 65535 := by
  simp only [Cell.okWide, under58] at h
  have hmin : IntKind.u16.min = 0 := by decide
  have hmax : IntKind.u16.max = 65535 := by decide
  cases v <;> simp_all [Cell.ok, IntKind.has]
theorem cells5 {w : World} {base : Nat} : ∀ {n : Nat} {cs : List Value}, cs.length = n → (∀ (i : Nat) v, cs[i]? = some v → Cell.okWide Tryd.prog w .any base 5 v) → ∃ l : List Int, cs = l.map (Value.int .u8) ∧ l.length = n ∧ ∀ x ∈ l, 0 ≤ x ∧ x ≤ 255
  | 0, [], _, _ => ⟨[], rfl, rfl, fun x h => by simp at h⟩
  | n + 1, c :: cs, hl, h => by
    obtain ⟨x, rfl, h1⟩ := cell5 (h 0 c rfl)
    obtain ⟨l, rfl, h2, h3⟩ := cells5 (n := n) (cs := cs) (by simpa using hl) (fun i v hv => h (i + 1) v (by simpa using hv))
    refine ⟨x :: l, rfl, by simp [h2], fun y hy => ?_⟩
    rw [List.mem_cons] at hy
    rcases hy with rfl | hy
    · exact h1
    · exact h3 y hy
theorem argK {w : World} {base : Nat} {v : Value} (h : Value.okWide Tryd.prog w .any base 60 v) :
    ∃ (s : Int) (l : List Int) (g : Int), v = .agg ((Value.int .u8 s :: l.map (Value.int .u8)) ++ [Value.int .u16 g]).toArray ∧ l.length = 16 ∧ (0 ≤ s ∧ s ≤ 255) ∧ (∀ x ∈ l, 0 ≤ x ∧ x ≤ 255) ∧ 0 ≤ g ∧ g ≤ 65535 := by
  have key : (∃ cs, v = .agg cs ∧ cs.size = Tryd.prog.cellsOf 60 ∧ Row.okWide Tryd.prog w .any base 60 cs) := by
    have hw := wide60
    unfold Value.okWide at h
    split at h
    · exact h
    · exact h
    · rename_i h1 h2
      exfalso
      split at hw
      · rename_i fs hu; exact h1 fs hu
      · rename_i k e hu; exact h2 k e hu
      · cases hw
  obtain ⟨cs, rfl, hs, ts, h1, h2, h3⟩ := key
  rw [cellTypes60] at h1
  cases h1
  rw [cellsOf60] at hs
  obtain ⟨L⟩ := cs
  have hL : L.length = 18 := by simpa using hs
  have hx : ∀ (i : Nat) v, L[i]? = some v → ∃ u, (List.replicate 17 5 ++ [58])[i % 18]? = some u ∧ Cell.okWide Tryd.prog w .any base u v := fun i v hv => h3 i v (by simpa using hv)
  obtain ⟨c, hc⟩ : ∃ c, L = L.take 17 ++ [c] := by
    refine ⟨L[17], ?_⟩
    have := List.take_append_drop 17 L
    rw [List.drop_eq_getElem_cons (by omega), List.drop_eq_nil_of_le (by omega)] at this
    exact this.symm
  obtain ⟨M, hM⟩ : ∃ M, L.take 17 = M := ⟨_, rfl⟩
  have hMl : M.length = 17 := by rw [← hM]; simp [hL]
  rw [hM] at hc
  subst hc
  obtain ⟨m, hm, hml, hmb⟩ := cells5 (w := w) (base := base) (n := 17) (cs := M) hMl (fun i v hv => by
    have hi : i < 17 := by rw [← hMl]; exact (List.getElem?_eq_some_iff.1 hv).1
    obtain ⟨u, hu, hc⟩ := hx i v (by rw [List.getElem?_append_left (by omega)]; exact hv)
    rw [Nat.mod_eq_of_lt (by omega), List.getElem?_append_left (by simp; omega)] at hu
    have : u = 5 := List.eq_of_mem_replicate (List.mem_of_getElem? hu)
    subst this; exact hc)
  obtain ⟨u, hu, hc⟩ := hx 17 c (by rw [List.getElem?_append_right (by omega), hMl]; rfl)
  have hu' : u = 58 := by
    have : (List.replicate 17 5 ++ [58])[17 % 18]? = some 58 := rfl
    exact Option.some.inj (hu.symm.trans this)
  subst hu'
  obtain ⟨g, rfl, hg⟩ := cell58 hc
  match m, hml with
  | s :: l, hml => exact ⟨s, l, g, by rw [hm]; rfl, by simpa using hml, hmb s List.mem_cons_self, fun x hx => hmb x (List.mem_cons_of_mem _ hx), hg⟩
theorem repK {S : Nat → Prop} {w : World} {f : Go.Sx.Place} (s : Int) (l : List Int) (g : Int) : Go.Sx.Rep S w f (.agg ((.v (.int .u8 s) :: l.map fun n => .v (.int .u8 n)) ++ [.v (.int .u16 g)])) (.agg ((Value.int .u8 s :: l.map (Value.int .u8)) ++ [Value.int .u16 g]).toArray) := by
  have hm : ∀ (V : List Value), (∀ x ∈ V, x.oneCell' = true) → Go.Sx.Rep S w f (.agg (V.map Go.Sx.AV.v)) (.agg V.toArray) := fun V hV => by
    refine .agg (by simp) (fun x hx => hV x (by simpa using hx)) (fun i x y hx hy => ?_)
    rw [List.getElem?_map] at hx
    have hy' : V[i]? = some y := by simpa using hy
    rw [hy'] at hx
    cases hx
    exact .v _
  have := hm ((Value.int .u8 s :: l.map (Value.int .u8)) ++ [Value.int .u16 g]) (fun x hx => by
    simp only [List.mem_append, List.mem_cons, List.mem_map, List.not_mem_nil, or_false] at hx
    rcases hx with (rfl | ⟨n, -, rfl⟩) | rfl <;> rfl)
  simpa [List.map_append, List.map_map, Function.comp_def] using this
end Go.Proofs.YtfiebjbhiflfpaaDoor.crow
