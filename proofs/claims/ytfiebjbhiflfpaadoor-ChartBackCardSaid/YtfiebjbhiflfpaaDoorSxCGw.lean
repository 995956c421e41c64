/- ChartBack returns true, and changes nothing. No conditions. The row's step is the guide's template. -/
import Derived.Test.YtfiebjbhiflfpaaDoorSxJKTtoJM
import Derived.Test.YtfiebjbhiflfpaaDoorSxCG2
import Derived.Test.YtfiebjbhiflfpaaDoorTie
import Derived.Test.YtfiebjbhiflfpaaDoorCards
import Derived.SevenTiedAt
set_option linter.unusedVariables false
set_option linter.unusedSimpArgs false
namespace Go.Proofs.YtfiebjbhiflfpaaDoor.chartBack
open Go.ChangeShapes Go.WideShapes Go.ChangeAt Go.RowKit Go.Proofs.YtfiebjbhiflfpaaDoor.crow
set_option maxRecDepth 100000
/-! ### The walk -/
theorem walk {w : World} (hg : Go.Sx.Glob (Go.Sx.There w) w) {v0 : Value} (h0 : ∃ (s : Int) (l : List Int) (g : Int), v0 = .agg ((Value.int .u8 s :: l.map (Value.int .u8)) ++ [Value.int .u16 g]).toArray ∧ l.length = 16 ∧ (0 ≤ s ∧ s ≤ 255) ∧ (∀ x ∈ l, 0 ≤ x ∧ x ≤ 255) ∧ 0 ≤ g ∧ g ≤ 65535) :
    Calls Tryd.prog 13 #[v0] w fun e w' => e = .returned (.bool true) ∧ Below w.heap.size w w' := by
  obtain ⟨s0, l0, g0, rfl, hl0, hs0, hb0, hg0⟩ := h0
  have hh := Go.Sx.Ch.backw_runs (Go.Sx.Ch.gSk_ok hl0 hs0 hb0 hg0 (by decide))
  rw [← Go.Sx.hp_eq] at hh
  exact Go.Sx.law_of_runs (vs := [.agg ((Value.int .u8 s0 :: l0.map (Value.int .u8)) ++ [Value.int .u16 g0]).toArray]) hg hh ⟨rfl, fun i x y hx hy => by
    rcases i with _ | i
    · cases hx; cases hy; exact repK s0 l0 g0
    · simp at hx⟩
section
variable {H : Type} {enc : TypeId × Value → H} {P : Program} {w : World} {base : Nat} {spare : Nat → Bool} {held : Bool}
theorem trodAllN {t0 : TypeId} {args : Array Value} {ds : List (DataW H)} {ps : List MemPlace} (h : DataW.TrodAll enc P w base spare held [t0] args.toList ds ps) :
    ∃ v0 d0 p0, args = #[v0] ∧ ds = [d0] ∧ ps = p0 ∧ DataW.Trod enc P w base spare held t0 v0 d0 p0 := by
  obtain ⟨v0, vs0, d0, ds0, p0, q0, hargs, rfl, rfl, hd0, k0⟩ := trodAll_cons h
  obtain ⟨rfl, rfl, rfl⟩ := trodAll_nil k0
  exact ⟨v0, d0, p0, by cases args; simp_all, rfl, by simp, hd0⟩
end
/-! ### THE ROW's STEP -/
set_option maxRecDepth 100000 in
theorem lifted (os : Os) (started : os.Started) (H : Type) (enc : TypeId × Value → H) :
    ReturnsInHanded {} Tryd.checked os 13 .any (fun w args => (Rows.chartBackSpec.pre enc Tryd.prog Tryd.f13 [] false w args ∧ laidMetH Tryd.prog laidD w) ∧ sizedMet enc Tryd.prog Tryd.f13 (OpenSpec.ofChange Rows.chartBackSpec) false w args)
      (Rows.chartBackSpec.post enc Tryd.prog Tryd.f13 false true false false) := by
  refine returnsInHanded_of_change_and (C := Tryd.checked) (X := fun w _ => laidMetH Tryd.prog laidD w) (fun _ _ _ hh h => h.of_heap hh) own started (by kernel_rfl) Tryd.func13
    (ChangeSpec.witness_shaped (enc := enc) (C := Tryd.checked) (os := os) (X := fun w _ => laidMetH Tryd.prog laidD w) false (World.doorLaid Tryd.prog 14 os) #[.agg #[.int .u8 0, .int .u8 0, .int .u8 0, .int .u8 0, .int .u8 0, .int .u8 0, .int .u8 0, .int .u8 0, .int .u8 0, .int .u8 0, .int .u8 0, .int .u8 0, .int .u8 0, .int .u8 0, .int .u8 0, .int .u8 0, .int .u8 0, .int .u16 0]] 8 rfl (World.shaped_of_RefB (by kernel_rfl) (by kernel_rfl)) (by kernel_rfl) (by kernel_rfl) (by kernel_rfl) (door_met os _)) ?_
  intro W base args ds gs before hval0 hW _ _ hL _
  have hval : ∀ (j : Nat) t v, Tryd.f13.params[j]? = some t → args[j]? = some v → Value.okWide Tryd.prog W .any base t v := hval0
  have hW' := hW
  obtain ⟨p, q, hA0, hV, rfl, hfz, hnd⟩ := hW
  have hA : DataW.TrodAll enc Tryd.prog W 0 (fun _ => true) true Tryd.f13.params.toList args.toList ds p := hA0
  rw [Tryd.params13] at hA hval
  obtain ⟨v0, d0, p0, rfl, rfl, rfl, h0⟩ := trodAllN hA
  obtain ⟨rfl, rfl⟩ := trodVars_none hV
  have hv0 := hval 0 60 v0 rfl rfl
  have h0k := h0
  clear hA0 hval0
  simp only [List.append_nil] at hW'
  have hlt : ∀ x ∈ p, x.block < W.heap.size := fun x hx => by simpa using hW'.lt x hx
  have hargs0 : ∀ (W' : World), Below W.heap.size W W' → DataW.Trod enc Tryd.prog W' 0 (fun b => decide (b < W.heap.size)) true 60 v0 d0 p :=
    fun W' hn => Below.trod laidOut (by kernel_rfl) (of_decide_eq_true (by kernel_rfl)) h0k hn (fun x hx => hlt x (by simp only [List.mem_append, hx, true_or, or_true]))
  refine (walk (glob_of_laid hL) (argK hv0)).mono fun e W' ⟨he, bel⟩ => ?_
  subst he
  exact ⟨_, rfl, _, _, _, [], p, [], hW', trodAll_mk1 (shut_bool Tryd.underlying4 _), (by simp only [List.append_assoc]; exact trodAll_mk1 (hargs0 W' bel)), rfl, bel.frame _, fun h => by cases h⟩
theorem over : Rows.ChartBackSaid :=
  OpenClaim.holds_of_wide 13 Tryd.f13 rfl rfl rfl rfl rfl rfl rfl ⟨rfl, rfl, rfl, rfl, rfl⟩ rfl rfl rfl rfl rfl (by kernel_rfl) Tryd.func13 (by kernel_rfl)
    (of_decide_eq_true (by kernel_rfl)) (by unfold Func.isWrapper; first | (rw [if_pos (by decide +kernel)]; kernel_rfl) | (rw [if_neg (by decide +kernel)]; exact ⟨rfl, rfl⟩))
    (fun os started H enc _ => lifted os started H enc)
theorem proved : Rows.ChartBackCardSaid :=
  Claim7.holds_tied_plain_at .later [] [.data] true (true, "85decda5bb3614a8c7708f423a54af538417e6802e2c80cf031848972d83ff7a") false
    over (fun _ h => by cases h) (by kernel_rfl) (fun _ h => by cases h) chartBack_row_tie rfl ⟨rfl, rfl⟩ (by kernel_rfl) rfl
    (fun f fn hf hfn => by
      obtain rfl : f = 13 := Option.some.inj ((show Tryd.prog.funcNamed "bellarmine/bellarminelaw09.ChartBack" = some 13 by kernel_rfl).symm.trans hf) |>.symm
      obtain rfl : fn = Tryd.f13 := (Option.some.inj (Tryd.func13.symm.trans hfn)).symm
      exact ⟨by kernel_rfl, fun j t ht => by
        rw [Tryd.params13] at ht
        rcases j with _ | j <;> cases ht <;> kernel_rfl⟩)
    (by kernel_rfl)
#print axioms proved
end Go.Proofs.YtfiebjbhiflfpaaDoor.chartBack
