/- WalkWalked returns true, and changes nothing. No conditions. The row's step is the guide's template. -/
import Derived.Test.YtmakepdccccmaaaSxJH0toG2
import Derived.Test.YtmakepdccccmaaaSxR6
namespace Go.Proofs.Ytmakepdccccmaaa.walkWalked
open Go.ChangeShapes Go.WideShapes Go.ChangeAt Go.RowKit Go.Proofs.Ytmakepdccccmaaa.wrow
set_option linter.unusedVariables false
set_option maxRecDepth 100000

/-! ### The walk -/
theorem walk (w : World) {v0 v1 v2 : Value} (h0 : ∃ s b0 b1 b2 b3 : Int, v0 = .agg #[.int .u8 s, .int .u8 b0, .int .u8 b1, .int .u8 b2, .int .u8 b3] ∧ (0 ≤ s ∧ s ≤ 255) ∧ ∀ x ∈ [b0, b1, b2, b3], 0 ≤ x ∧ x ≤ 255)
    (h1 : ∃ n, v1 = .int .u8 n ∧ 0 ≤ n ∧ n ≤ 255) (h2 : ∃ l : List Int, v2 = .agg (l.map (Value.int .u8)).toArray ∧ l.length = 12 ∧ ∀ x ∈ l, 0 ≤ x ∧ x ≤ 255) :
    Calls Try.prog 9 #[v0, v1, v2] w fun e w' => e = .returned (.bool true) ∧ Below w.heap.size w w' := by
  obtain ⟨s, b0, b1, b2, b3, rfl, hs, hb⟩ := h0
  obtain ⟨n, rfl, hn⟩ := h1
  obtain ⟨l, rfl, hl, hlb⟩ := h2
  have h1 := Go.Sx.Wk.walkWalked_runs s b0 b1 b2 b3 n l hs hb hn hl hlb
  rw [← Go.Sx.hp_eq] at h1
  exact Go.Sx.law_of_runs (vs := [.agg #[.int .u8 s, .int .u8 b0, .int .u8 b1, .int .u8 b2, .int .u8 b3], .int .u8 n, .agg (l.map (Value.int .u8)).toArray]) h1 ⟨rfl, fun i x y hx hy => by
    rcases i with _ | _ | _ | i
    · cases hx; cases hy; exact rep5 [s, b0, b1, b2, b3]
    · cases hx; cases hy; exact .v _
    · cases hx; cases hy; exact rep5 l
    · simp at hx⟩

/-! ### THE ROW's STEP -/
set_option maxRecDepth 100000 in
theorem lifted (os : Os) (started : os.Started) (H : Type) (enc : TypeId × Value → H) :
    ReturnsInHanded {} Try.checked os 9 .any (Rows.walkWalkedSpec.pre6 enc Try.prog Try.f9 Rows.walkWalkedRow.domain false) (Rows.walkWalkedSpec.post enc Try.prog Try.f9 false true false false) := by
  refine returnsInHanded_of_change (C := Try.checked) own started (by kernel_rfl) Try.func9
    (ChangeSpec.witness6 (enc := enc) (C := Try.checked) false ⟨#[], #[.agg #[.int .u8 0, .int .u8 0, .int .u8 0, .int .u8 0, .int .u8 0], .int .u8 0, .agg #[.int .u8 0, .int .u8 0, .int .u8 0, .int .u8 0, .int .u8 0, .int .u8 0, .int .u8 0, .int .u8 0, .int .u8 0, .int .u8 0, .int .u8 0, .int .u8 0]], []⟩ 8 (by kernel_rfl) (by kernel_rfl) (by kernel_rfl) (by kernel_rfl)) ?_
  intro W base args ds gs before hval0 hW hcnd _
  have hval : ∀ (j : Nat) t v, Try.f9.params[j]? = some t → args[j]? = some v → Value.okWide Try.prog W .any base t v := hval0
  have hW' := hW
  obtain ⟨p, q, hA0, hV, rfl, hfz, hnd⟩ := hW
  have hA : DataW.TrodAll enc Try.prog W 0 (fun _ => true) true Try.f9.params.toList args.toList ds p := hA0
  rw [Try.params9] at hA hval
  obtain ⟨v0, v1, v2, d0, d1, d2, p0, p1, p2, rfl, rfl, rfl, h0, h1, h2⟩ := trodAll_three hA
  obtain ⟨rfl, rfl⟩ := trodVars_none hV
  have hv0 := hval 0 45 v0 rfl rfl
  have hv1 := hval 1 5 v1 rfl rfl
  have hv2 := hval 2 51 v2 rfl rfl
  have h0k := h0
  have h1k := h1
  have h2k := h2
  clear hA0 hval0
  simp only [List.append_nil] at hW'
  have hlt : ∀ x ∈ p0 ++ p1 ++ p2, x.block < W.heap.size := fun x hx => by simpa using hW'.lt x hx
  have hargs : ∀ (W' : World), Below W.heap.size W W' → DataW.Trod enc Try.prog W' 0 (fun b => decide (b < W.heap.size)) true 45 v0 d0 p0 :=
    fun W' hn => Below.trod laidOut (by kernel_rfl) (of_decide_eq_true (by kernel_rfl)) h0k hn (fun x hx => hlt x (List.mem_append_left _ (List.mem_append_left _ hx)))
  have hargs1 : ∀ (W' : World), Below W.heap.size W W' → DataW.Trod enc Try.prog W' 0 (fun b => decide (b < W.heap.size)) true 5 v1 d1 p1 :=
    fun W' hn => Below.trod laidOut (by kernel_rfl) (of_decide_eq_true (by kernel_rfl)) h1k hn (fun x hx => hlt x (List.mem_append_left _ (List.mem_append_right _ hx)))
  have hargs2 : ∀ (W' : World), Below W.heap.size W W' → DataW.Trod enc Try.prog W' 0 (fun b => decide (b < W.heap.size)) true 51 v2 d2 p2 :=
    fun W' hn => Below.trod laidOut (by kernel_rfl) (of_decide_eq_true (by kernel_rfl)) h2k hn (fun x hx => hlt x (List.mem_append_right _ hx))
  refine (walk W (arg45 hv0) (val5 hv1) (arg51 hv2)).mono fun e W' ⟨he, bel⟩ => ?_
  subst he
  exact ⟨_, rfl, _, _, _, [], p0 ++ p1 ++ p2, [], hW', trodAll_mk1 (shut_bool Try.underlying4 _), (by rw [List.append_assoc]; exact trodAll_mk3 (hargs W' bel) (hargs1 W' bel) (hargs2 W' bel)), rfl, bel.frame _, fun h => by cases h⟩

theorem over : Rows.walkWalkedRow.holds Try.pinned (OpenSpec.ofChange Rows.walkWalkedSpec) :=
  OpenClaim.holds_of_wide 9 Try.f9 rfl rfl rfl rfl rfl rfl rfl ⟨rfl, rfl, rfl, rfl, rfl⟩ rfl rfl rfl rfl rfl (by kernel_rfl) Try.func9 (by kernel_rfl)
    (of_decide_eq_true (by kernel_rfl)) (by unfold Func.isWrapper; first | (rw [if_pos (by decide +kernel)]; kernel_rfl) | (rw [if_neg (by decide +kernel)]; exact ⟨rfl, rfl⟩))
    (fun os started H enc _ => lifted os started H enc)

/-- ████ THE STATEMENT ████ -/
theorem proved : Rows.WalkWalkedSaid :=
  over
#print axioms proved
end Go.Proofs.Ytmakepdccccmaaa.walkWalked
