/- What the listed variable gives: its cells. No conditions. -/
import Derived.Test.YtfiebjbhiflfpaaDoorRows
import Derived.WalkKit
import Derived.ProofKit
import Derived.OpenShut
import Derived.ShutString
import Derived.ChangeOld
import Derived.Below
import Derived.LaidMore
import Derived.Stop.Joined
import Derived.Lib.LaidTab
import Derived.Test.YtfiebjbhiflfpaaDoorSxR
import Derived.Test.YtfiebjbhiflfpaaDoorSxV
import Derived.Deep.Matrix
import Derived.ChangeSame
import Derived.Test.YtfiebjbhiflfpaaDoorSxJD
namespace Go.Proofs.YtfiebjbhiflfpaaDoor.crow
open Go.ChangeShapes Go.WideShapes Go.ChangeAt Go.RowKit
set_option linter.unusedVariables false

abbrev laidD : List (String × DataW Unit) := [("bellarmine/chart.others", Rows.laid_bellarmine_chart_others)]
theorem own : ownKnob Tryd.prog.godebug = none := by kernel_rfl
theorem laidOut : laidOutB Tryd.prog = true := by kernel_rfl
theorem gOthers : Tryd.prog.globalNamed "bellarmine/chart.others" = some 0 := by kernel_rfl
theorem door_met (os : Os) (args : Array Value) : laidMetH Tryd.prog laidD ((World.doorLaid Tryd.prog 14 os).forCall (fun _ _ => 0) ⟨#[], args, []⟩).memory :=
  laidMetH_of_parts3 (fuel := 8) (laidMet_of_run' 8 (by kernel_rfl) (by kernel_rfl)) (by kernel_rfl) (by kernel_rfl)
theorem glob_of_laid {W : World} (h : laidMetH Tryd.prog laidD W) : Go.Sx.Glob (Go.Sx.There W) W := by
  rw [MakeChecks.laidMetH_plain _ _ _ (by kernel_rfl)] at h
  have hT := Lib.tabIs_of_head (k := .i64) (t := 78) (e := 3) (n := 16) (zs := [1, 0, 3, 2, 5, 4, 7, 6, 9, 8, 11, 10, 13, 12, 15, 14]) gOthers (by kernel_rfl) (by kernel_rfl) (by kernel_rfl) (by kernel_rfl) (by kernel_rfl) h
  intro b cs hb
  unfold Go.Sx.GL at hb
  split at hb
  · rename_i e; subst e
    cases hb
    have hc : ∀ (i : Nat) x, (([1, 0, 3, 2, 5, 4, 7, 6, 9, 8, 11, 10, 13, 12, 15, 14] : List Int).map fun n => Value.int .i64 n)[i]? = some x → W.cell? ⟨0, i, none⟩ = some x ∧ x.oneCell' = true := fun i x hx => by
      rw [List.getElem?_map] at hx
      obtain ⟨n, hn, rfl⟩ := Option.map_eq_some_iff.1 hx
      have hi := (List.getElem?_eq_some_iff.1 hn).1
      refine ⟨?_, rfl⟩
      have := hT.cell gOthers i hi
      rw [this, List.getD_eq_getElem?_getD, hn]; rfl
    refine ⟨?_, hc⟩
    have h0 := (hc 0 _ rfl).1
    unfold World.cell? at h0
    split at h0
    · rename_i hb; exact (Array.getElem?_eq_some_iff.1 hb).1
    · cases h0
  · cases hb
end Go.Proofs.YtfiebjbhiflfpaaDoor.crow
set_option linter.unusedSimpArgs false
namespace Go.Sx
open Go.ChangeShapes Go.WideShapes Go.Deep

theorem rep_unfull {S w f cells len full x} (h : Rep S w f (.il cells len full) x) : Rep S w f (.il cells len false) x := by
  cases h with
  | nil => exact .nil
  | emp => exact .emp
  | il hl hS hc h1 hr hn hf => exact .il hl hS hc h1 hr hn (by simp)
/-- An empty list, wherever it lies. -/
theorem rep_emptyAt {S w f full} (x : Addr) : Rep S w f (.il [] 0 full) (.slice (some x) 0 0) := by
  obtain ⟨b, off, spot⟩ := x
  cases spot with
  | none => exact rep_empty b off 0 (fun _ => rfl)
  | some s => exact .emp
/-- A list that came in. -/
theorem rep_ints' {w : World} {a : Option Addr} {len cap : Nat} {zs : List Int} (hl : len ≤ cap) (hz : zs.length = cap) (hw : ∀ n ∈ zs, (Lit.int .i64 n).wf = true) (h0 : a = none → cap = 0)
    (hc : ∀ x, a = some x → ∀ i, i < cap → w.cell? (x.add i) = some (.int .i64 (zs.getD i 0))) (hm : cap ≤ maxLen) :
    (zs.take len).length = len ∧ Rep (There w) w (fun _ => none) (.il (ints (zs.take len)) len false) (.slice a len cap) := by
  have hlen : (zs.take len).length = len := by rw [List.length_take]; omega
  refine ⟨hlen, ?_⟩
  cases a with
  | none =>
    have e := h0 rfl
    subst e
    have e2 : len = 0 := by omega
    subst e2
    simp only [List.take_zero]
    exact .nil
  | some x =>
    rcases rep_row (w := w) (a := some x) (len := len) (cap := cap) (zs := zs) (.inr ⟨x, rfl, hl, hm, hz, fun i hi => hc x rfl i (by omega), hw⟩) with ⟨_, _, h1, h2, h3⟩ | ⟨u, h1, h2, h3⟩
    · subst h1 h2
      simp only [List.take_zero]
      exact rep_emptyAt x
    · exact rep_unfull h1
/-- A list of lists that came in. -/
theorem rep_lls {P : Program} {H : Type} {enc : TypeId × Value → H} {w : World} {t e q : TypeId} {fuel : Nat} {c : Value} {x : DataW H × List MemPlace} (ht : P.underlying t = some (.slice e)) (he : P.underlying e = some (.slice q))
    (hq : P.underlying q = some (.int .i64)) (ce : P.cellsOf e = 1) (cq : P.cellsOf q = 1) {base : Nat} {held : Bool} (h : DataW.trod enc P w base (fun _ => true) held fuel t [c] = some x) :
    ∃ l u, Rep (There w) w (fun _ => none) (.il (lls l) l.length u) c ∧ ∀ r ∈ l, ∀ n ∈ r, (Lit.int .i64 n).wf = true := by
  rcases open_int_rows ht he hq ce cq h with ⟨hc, -⟩ | ⟨a, len, cap, A, L, C, Z, hc, -, hl, hm, -, hx⟩
  · cases hc
    exact ⟨[], true, .nil, fun r hr => by cases hr⟩
  · cases hc
    have hin : ∀ r, r < cap → ((Z r).take (L r)).length = L r ∧ Rep (There w) w (fun _ => none) (.il (ints ((Z r).take (L r))) (L r) false) (.slice (A r) (L r) (C r)) := fun r hr => by
      obtain ⟨_, h2, h3, h4, h5, h6, h7⟩ := hx r hr
      exact rep_ints' h2 h4 h5 h6 (fun x hx i hi => (h7 x hx).2 i hi) h3
    refine ⟨(List.range len).map fun r => (Z r).take (L r), false, ?_, fun r hr n hn => ?_⟩
    · by_cases h0 : cap = 0
      · subst h0
        have e2 : len = 0 := by omega
        subst e2
        exact rep_emptyAt a
      · have hca := (hx 0 (by omega)).1
        obtain ⟨b, off, spot⟩ := a
        have hspot : spot = none := by simpa [Addr.add] using World.cell?_spot hca
        subst hspot
        simp only [List.length_map, List.length_range]
        refine .il (vals := (List.range len).map fun r => .slice (A r) (L r) (C r)) (by simp) (fun _ => ?_) (fun i u hu => ?_) (fun u hu => ?_) (fun i u v hu hv => ?_) hl (by simp)
        · simp only [There]
          have h1 : w.cell? ⟨b, off + 0, none⟩ = _ := hca
          unfold World.cell? at h1
          split at h1
          · rename_i hb; exact (Array.getElem?_eq_some_iff.1 hb).1
          · cases h1
        · rw [List.getElem?_map] at hu
          obtain ⟨n, hn, rfl⟩ := Option.map_eq_some_iff.1 hu
          obtain ⟨hn1, rfl⟩ := List.getElem?_eq_some_iff.1 hn
          simp only [List.length_range] at hn1
          have := (hx i (by omega)).1
          rw [Addr.add_lit] at this
          simpa using this
        · obtain ⟨n, _, rfl⟩ := List.mem_map.1 hu; rfl
        · rw [lls_get?, List.getElem?_map] at hu
          rw [List.getElem?_map] at hv
          cases hn : (List.range len)[i]? with
          | none => simp [hn] at hu
          | some n =>
            simp only [hn, Option.map_some, Option.some.injEq] at hu hv
            obtain ⟨hn1, rfl⟩ := List.getElem?_eq_some_iff.1 hn
            simp only [List.length_range, List.getElem_range] at hn1 hu hv
            subst hu hv
            have := hin i (by omega)
            rw [this.1]; exact this.2
    · obtain ⟨i, hi, rfl⟩ := List.mem_map.1 hr
      simp only [List.mem_range] at hi
      exact (hx i (by omega)).2.2.2.2.1 n (List.mem_of_mem_take hn)
end Go.Sx
namespace Go.Proofs.YtfiebjbhiflfpaaDoor.crow
open Go.ChangeShapes Go.WideShapes Go.ChangeAt Go.RowKit Go.Deep
set_option maxRecDepth 100000

theorem cellsOf24 : Tryd.prog.cellsOf 24 = 1 := by kernel_rfl
theorem cellsOf22 : Tryd.prog.cellsOf 22 = 1 := by kernel_rfl
theorem cellsOf37 : Tryd.prog.cellsOf 37 = 1 := by kernel_rfl
theorem cellsOf3 : Tryd.prog.cellsOf 3 = 1 := by kernel_rfl
theorem one_list {cs : Array Value} (h : cs.size = 1) : ∃ c, cs = #[c] := by
  obtain ⟨l⟩ := cs
  match l, h with
  | [c], _ => exact ⟨c, rfl⟩
theorem argMp {H : Type} {enc : TypeId × Value → H} {W : World} {v : Value} {d : DataW H} {p : List MemPlace} {base : Nat} (hv : Value.okWide Tryd.prog W .any base 24 v) (h : DataW.Trod enc Tryd.prog W 0 (fun _ => true) true 24 v d p) :
    ∃ L u, Go.Sx.Rep (Go.Sx.There W) W (fun _ => none) (.agg [.il (Go.Sx.lls L) L.length u]) v := by
  unfold Value.okWide at hv
  rw [Tryd.underlying24] at hv
  obtain ⟨cs, rfl, hs, -⟩ := hv
  rw [cellsOf24] at hs
  obtain ⟨c, rfl⟩ := one_list hs
  obtain ⟨fuel, hf⟩ := h
  obtain ⟨y, n, -, -, h2⟩ := trod_struct1 Tryd.underlying24 hf
  simp only [cellsOf22, List.drop_zero] at h2
  have h3 : DataW.trod enc Tryd.prog W 0 (fun _ => true) true n 22 [c] = some y := h2
  obtain ⟨L, u, hr, -⟩ := Go.Sx.rep_lls Tryd.underlying22 Tryd.underlying37 Tryd.underlying3 cellsOf37 cellsOf3 h3
  have h1 : c.oneCell' = true := by
    have : ∀ (X : List Go.Sx.AV) (m : Nat), Go.Sx.Rep (Go.Sx.There W) W (fun _ => none) (.il X m u) c → c.oneCell' = true := fun X m h => by cases h <;> rfl
    exact this _ _ hr
  refine ⟨L, u, .agg (vals := [c]) rfl (fun x hx => ?_) (fun i x y hx hy => ?_)⟩
  · rw [List.mem_singleton] at hx; subst hx; exact h1
  · rcases i with _ | i
    · cases hx; cases hy; exact hr
    · simp at hx
theorem argL {H : Type} {enc : TypeId × Value → H} {W : World} {v : Value} {d : DataW H} {p : List MemPlace} {base : Nat} (hv : Value.okWide Tryd.prog W .any base 37 v) (h : DataW.Trod enc Tryd.prog W 0 (fun _ => true) true 37 v d p) :
    ∃ l u, Go.Sx.Rep (Go.Sx.There W) W (fun _ => none) (.il (Go.Sx.ints l) l.length u) v := by
  obtain ⟨a0, len, cap, rfl⟩ := okWide_slice Tryd.underlying37 hv
  obtain ⟨fuel, hf⟩ := h
  rcases open_ints Tryd.underlying37 Tryd.underlying3 cellsOf3 hf with ⟨hc, -⟩ | ⟨a, len', cap', zs, hc, hb, hl, hm, hz, -, hcell, hw⟩
  · cases hc; exact ⟨[], true, .nil⟩
  · cases hc
    simp only [if_true] at hz
    have := Go.Sx.rep_ints' (w := W) (a := some a) hl hz hw (fun h => by cases h) (fun x hx i hi => by cases hx; exact hcell i (by omega)) hm
    exact ⟨_, false, by rw [this.1]; exact this.2⟩
theorem argI {W : World} {v : Value} {base : Nat} (hv : Value.okWide Tryd.prog W .any base 3 v) : ∃ n, v = .int .i64 n ∧ (Lit.int .i64 n).wf = true := by
  simp only [Value.okWide, Tryd.underlying3, Cell.okWide] at hv
  cases v <;> simp_all [Cell.ok, IntKind.has, Lit.wf, Tryd.underlying3]
theorem argU {W : World} {v : Value} {base : Nat} (hv : Value.okWide Tryd.prog W .any base 5 v) : ∃ n, v = .int .u8 n ∧ 0 ≤ n ∧ n ≤ 255 := by
  have hmin : IntKind.u8.min = 0 := by decide
  have hmax : IntKind.u8.max = 255 := by decide
  simp only [Value.okWide, Tryd.underlying5, Cell.okWide] at hv
  cases v <;> simp_all [Cell.ok, IntKind.has, Tryd.underlying5]
end Go.Proofs.YtfiebjbhiflfpaaDoor.crow
namespace Go.Proofs.YtfiebjbhiflfpaaDoor.crow
open Go.ChangeShapes Go.WideShapes Go.ChangeAt Go.RowKit Go.Deep
set_option maxRecDepth 100000

theorem under5 : Tryd.prog.underlying 5 = some (.int .u8) := by kernel_rfl
theorem under58 : Tryd.prog.underlying 58 = some (.int .u16) := by kernel_rfl
theorem cellTypes60 : Tryd.prog.cellTypes Tryd.prog.depth 60 = some (List.replicate 17 5 ++ [58]) := by kernel_rfl
theorem cellsOf60 : Tryd.prog.cellsOf 60 = 18 := by kernel_rfl
theorem wide60 : (match Tryd.prog.underlying 60 with | some (.struct _) | some (.array _ _) => true | _ => false) = true := by kernel_rfl
theorem cell5 {w : World} {base : Nat} {v : Value} (h : Cell.okWide Tryd.prog w .any base 5 v) : ∃ n, v = .int .u8 n ∧ 0 ≤ n ∧ n ≤ 255 := by
  simp only [Cell.okWide, under5] at h
  have hmin : IntKind.u8.min = 0 := by decide
  have hmax : IntKind.u8.max = 255 := by decide
  cases v <;> simp_all [Cell.ok, IntKind.has]
theorem cell58 {w : World} {base : Nat} {v : Value} (h : Cell.okWide Tryd.prog w .any base 58 v) : ∃ n, v = .int .u16 n ∧ 0 ≤ n ∧ n ≤ 65535 := by
  simp only [Cell.okWide, under58] at h
  have hmin : IntKind.u16.min = 0 := by decide
  have hmax : IntKind.u16.max = 65535 := by decide
  cases v <;> simp_all [Cell.ok, IntKind.has]
theorem cells5 {w : World} {base : Nat} : ∀ {n : Nat} {cs : List Value}, cs.length = n → (∀ (i : Nat) v, cs[i]? = some v → Cell.okWide Tryd.prog w .any base 5 v) → ∃ l : List Int, cs = l.map (Value.int .u8) ∧ l.length = n ∧ ∀ x ∈ l, 0 ≤ x ∧ x ≤ 255
  | 0, [], _, _ => ⟨[], rfl, rfl, fun x h => by simp at h⟩
  | n + 1, c :: cs, hl, h => by
    obtain ⟨x, rfl, h1⟩ := cell5 (h 0 c rfl)
    obtain ⟨l, rfl, h2, h3⟩ := cells5 (n := n) (cs := cs) (by simpa using hl) (fun i v hv => h (i + 1) v (by simpa using hv))
    refine ⟨x :: l, rfl, by simp [h2], fun y hy => ?_⟩
    rw [List.mem_cons] at hy
    rcases hy with rfl | hy
    · exact h1
    · exact h3 y hy
/-- A map by numbers. -/
theorem argK {w : World} {base : Nat} {v : Value} (h : Value.okWide Tryd.prog w .any base 60 v) :
    ∃ (s : Int) (l : List Int) (g : Int), v = .agg ((Value.int .u8 s :: l.map (Value.int .u8)) ++ [Value.int .u16 g]).toArray ∧ l.length = 16 ∧ (0 ≤ s ∧ s ≤ 255) ∧ (∀ x ∈ l, 0 ≤ x ∧ x ≤ 255) ∧ 0 ≤ g ∧ g ≤ 65535 := by
  have key : (∃ cs, v = .agg cs ∧ cs.size = Tryd.prog.cellsOf 60 ∧ Row.okWide Tryd.prog w .any base 60 cs) := by
    have hw := wide60
    unfold Value.okWide at h
    split at h
    · exact h
    · exact h
    · rename_i h1 h2
      exfalso
      split at hw
      · rename_i fs hu; exact h1 fs hu
      · rename_i k e hu; exact h2 k e hu
      · cases hw
  obtain ⟨cs, rfl, hs, ts, h1, h2, h3⟩ := key
  rw [cellTypes60] at h1
  cases h1
  rw [cellsOf60] at hs
  obtain ⟨L⟩ := cs
  have hL : L.length = 18 := by simpa using hs
  have hx : ∀ (i : Nat) v, L[i]? = some v → ∃ u, (List.replicate 17 5 ++ [58])[i % 18]? = some u ∧ Cell.okWide Tryd.prog w .any base u v := fun i v hv => h3 i v (by simpa using hv)
  obtain ⟨c, hc⟩ : ∃ c, L = L.take 17 ++ [c] := by
    refine ⟨L[17], ?_⟩
    have := List.take_append_drop 17 L
    rw [List.drop_eq_getElem_cons (by omega), List.drop_eq_nil_of_le (by omega)] at this
    exact this.symm
  obtain ⟨M, hM⟩ : ∃ M, L.take 17 = M := ⟨_, rfl⟩
  have hMl : M.length = 17 := by rw [← hM]; simp [hL]
  rw [hM] at hc
  subst hc
  obtain ⟨m, hm, hml, hmb⟩ := cells5 (w := w) (base := base) (n := 17) (cs := M) hMl (fun i v hv => by
    have hi : i < 17 := by rw [← hMl]; exact (List.getElem?_eq_some_iff.1 hv).1
    obtain ⟨u, hu, hc⟩ := hx i v (by rw [List.getElem?_append_left (by omega)]; exact hv)
    rw [Nat.mod_eq_of_lt (by omega), List.getElem?_append_left (by simp; omega)] at hu
    have : u = 5 := List.eq_of_mem_replicate (List.mem_of_getElem? hu)
    subst this; exact hc)
  obtain ⟨u, hu, hc⟩ := hx 17 c (by rw [List.getElem?_append_right (by omega), hMl]; rfl)
  have hu' : u = 58 := by
    have : (List.replicate 17 5 ++ [58])[17 % 18]? = some 58 := rfl
    exact Option.some.inj (hu.symm.trans this)
  subst hu'
  obtain ⟨g, rfl, hg⟩ := cell58 hc
  match m, hml with
  | s :: l, hml => exact ⟨s, l, g, by rw [hm]; rfl, by simpa using hml, hmb s List.mem_cons_self, fun x hx => hmb x (List.mem_cons_of_mem _ hx), hg⟩
/-- A map by numbers, as it comes in. -/
theorem repK {S : Nat → Prop} {w : World} {f : Go.Sx.Place} (s : Int) (l : List Int) (g : Int) : Go.Sx.Rep S w f (.agg ((.v (.int .u8 s) :: l.map fun n => .v (.int .u8 n)) ++ [.v (.int .u16 g)])) (.agg ((Value.int .u8 s :: l.map (Value.int .u8)) ++ [Value.int .u16 g]).toArray) := by
  have hm : ∀ (V : List Value), (∀ x ∈ V, x.oneCell' = true) → Go.Sx.Rep S w f (.agg (V.map Go.Sx.AV.v)) (.agg V.toArray) := fun V hV => by
    refine .agg (by simp) (fun x hx => hV x (by simpa using hx)) (fun i x y hx hy => ?_)
    rw [List.getElem?_map] at hx
    have hy' : V[i]? = some y := by simpa using hy
    rw [hy'] at hx
    cases hx
    exact .v _
  have := hm ((Value.int .u8 s :: l.map (Value.int .u8)) ++ [Value.int .u16 g]) (fun x hx => by
    simp only [List.mem_append, List.mem_cons, List.mem_map, List.not_mem_nil, or_false] at hx
    rcases hx with (rfl | ⟨n, -, rfl⟩) | rfl <;> rfl)
  simpa [List.map_append, List.map_map, Function.comp_def] using this
end Go.Proofs.YtfiebjbhiflfpaaDoor.crow
namespace Go.Sx.Ch
open Go Go.Sx Go.Proofs
theorem gSk_ok {s g most : Int} {O : List Int} (hl : O.length = 16) (hs : 0 ≤ s ∧ s ≤ 255) (hb : ∀ x ∈ O, 0 ≤ x ∧ x ≤ 255) (hg : 0 ≤ g ∧ g ≤ 65535) (hm : 0 ≤ most ∧ most ≤ 8) : gSk s O g most = true := by
  simp only [gSk, Bool.and_eq_true, decide_eq_true_eq, within_iff, List.all_eq_true]
  exact ⟨⟨⟨⟨hs, hl⟩, hb⟩, hg⟩, hm⟩
end Go.Sx.Ch
