/- WalkSixths returns true, and changes nothing. No conditions. The row's step is the guide's template. -/
import Derived.Test.YtmakepdccccmaaaSxJH0toG1
import Derived.Test.YtmakepdccccmaaaSxME
namespace Go.Proofs.Ytmakepdccccmaaa.walkSixths
open Go.ChangeShapes Go.WideShapes Go.ChangeAt Go.RowKit Go.Proofs.Ytmakepdccccmaaa.wrow
set_option linter.unusedVariables false
set_option maxRecDepth 100000

/-! ### The walk -/
theorem walk (w : World) {v : Value} (h : ∃ s b0 b1 b2 b3 : Int, v = .agg #[.int .u8 s, .int .u8 b0, .int .u8 b1, .int .u8 b2, .int .u8 b3] ∧ (0 ≤ s ∧ s ≤ 255) ∧ ∀ x ∈ [b0, b1, b2, b3], 0 ≤ x ∧ x ≤ 255) :
    Calls Try.prog 14 #[v] w fun e w' => e = .returned (.bool true) ∧ Below w.heap.size w w' := by
  obtain ⟨s, b0, b1, b2, b3, rfl, hs, hb⟩ := h
  have h1 := Go.Sx.Wk.walkSixths_runs s b0 b1 b2 b3 hs hb
  rw [← Go.Sx.hp_eq] at h1
  exact Go.Sx.law_of_runs (vs := [.agg #[.int .u8 s, .int .u8 b0, .int .u8 b1, .int .u8 b2, .int .u8 b3]]) h1 ⟨rfl, fun i x y hx hy => by
    cases i with
    | zero => cases hx; cases hy; exact rep5 [s, b0, b1, b2, b3]
    | succ i => simp at hx⟩

/-! ### THE ROW's STEP -/
set_option maxRecDepth 100000 in
theorem lifted (os : Os) (started : os.Started) (H : Type) (enc : TypeId × Value → H) :
    ReturnsInHanded {} Try.checked os 14 .any (Rows.walkSixthsSpec.pre6 enc Try.prog Try.f14 Rows.walkSixthsRow.domain false) (Rows.walkSixthsSpec.post enc Try.prog Try.f14 false true false false) := by
  refine returnsInHanded_of_change (C := Try.checked) own started (by kernel_rfl) Try.func14
    (ChangeSpec.witness6 (enc := enc) (C := Try.checked) false ⟨#[], #[.agg #[.int .u8 0, .int .u8 0, .int .u8 0, .int .u8 0, .int .u8 0]], []⟩ 8 (by kernel_rfl) (by kernel_rfl) (by kernel_rfl) (by kernel_rfl)) ?_
  intro W base args ds gs before hval0 hW hcnd _
  have hval : ∀ (j : Nat) t v, Try.f14.params[j]? = some t → args[j]? = some v → Value.okWide Try.prog W .any base t v := hval0
  have hW' := hW
  obtain ⟨p, q, hA0, hV, rfl, hfz, hnd⟩ := hW
  have hA : DataW.TrodAll enc Try.prog W 0 (fun _ => true) true Try.f14.params.toList args.toList ds p := hA0
  rw [Try.params14] at hA hval
  obtain ⟨v0, d0, rfl, rfl, h0⟩ := trodAll_one hA
  obtain ⟨rfl, rfl⟩ := trodVars_none hV
  have hv0 := hval 0 45 v0 rfl rfl
  have h0k := h0
  clear hA0 hval0
  simp only [List.append_nil] at hW'
  have hlt : ∀ x ∈ p, x.block < W.heap.size := fun x hx => by simpa using hW'.lt x hx
  have hargs : ∀ (W' : World), Below W.heap.size W W' → DataW.Trod enc Try.prog W' 0 (fun b => decide (b < W.heap.size)) true 45 v0 d0 p :=
    fun W' hn => Below.trod laidOut (by kernel_rfl) (of_decide_eq_true (by kernel_rfl)) h0k hn hlt
  refine (walk W (arg45 hv0)).mono fun e W' ⟨he, bel⟩ => ?_
  subst he
  exact ⟨_, rfl, _, _, _, [], p, [], hW', trodAll_mk1 (shut_bool Try.underlying4 _), trodAll_mk1 (hargs W' bel), rfl, bel.frame _, fun h => by cases h⟩

theorem over : Rows.walkSixthsRow.holds Try.pinned (OpenSpec.ofChange Rows.walkSixthsSpec) :=
  OpenClaim.holds_of_wide 14 Try.f14 rfl rfl rfl rfl rfl rfl rfl ⟨rfl, rfl, rfl, rfl, rfl⟩ rfl rfl rfl rfl rfl (by kernel_rfl) Try.func14 (by kernel_rfl)
    (of_decide_eq_true (by kernel_rfl)) (by unfold Func.isWrapper; first | (rw [if_pos (by decide +kernel)]; kernel_rfl) | (rw [if_neg (by decide +kernel)]; exact ⟨rfl, rfl⟩))
    (fun os started H enc _ => lifted os started H enc)

/-- ████ THE STATEMENT ████ -/
theorem proved : Rows.WalkSixthsSaid :=
  over
#print axioms proved
end Go.Proofs.Ytmakepdccccmaaa.walkSixths
