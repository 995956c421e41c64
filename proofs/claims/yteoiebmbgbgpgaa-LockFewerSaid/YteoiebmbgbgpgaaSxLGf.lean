/- LockFewer returns true, and changes nothing. No conditions. The row's step is the guide's template. -/
import Derived.Test.YteoiebmbgbgpgaaSxJLG0toPLa
import Derived.Test.YteoiebmbgbgpgaaSxND
set_option linter.unusedVariables false
set_option linter.unusedSimpArgs false
namespace Go.Proofs.Yteoiebmbgbgpgaa.lockFewer
open Go.ChangeShapes Go.WideShapes Go.ChangeAt Go.RowKit Go.Proofs.Yteoiebmbgbgpgaa.lrow
set_option maxRecDepth 100000
/-! ### The walk -/
theorem walk {w : World} {v0 v1 : Value} (h0 : ∃ (s : Int) (l : List Int), v0 = .agg ((s :: l).map (Value.int .u8)).toArray ∧ (0 ≤ s ∧ s ≤ 255) ∧ l.length = 7 ∧ ∀ x ∈ l, 0 ≤ x ∧ x ≤ 255) (h1 : ∃ n, v1 = .int .u8 n ∧ 0 ≤ n ∧ n ≤ 255) :
    Calls Try.prog 9 #[v0, v1] w fun e w' => e = .returned (.bool true) ∧ Below w.heap.size w w' := by
  obtain ⟨s0, l0, rfl, hs0, hl0, hb0⟩ := h0
  obtain ⟨n1, rfl, hn1⟩ := h1
  have hh := Go.Sx.Lk.lockFewer_runs (Go.Sx.Lk.gTr_of hs0 hl0 hb0) hn1
  rw [← Go.Sx.hp_eq] at hh
  exact Go.Sx.law_of_runs (vs := [.agg ((s0 :: l0).map (Value.int .u8)).toArray, .int .u8 n1]) (fun b cs hb => by simp [Go.Sx.GL] at hb) hh ⟨rfl, fun i x y hx hy => by
    rcases i with _ | _ | i
    · cases hx; cases hy; exact rep5 (s0 :: l0)
    · cases hx; cases hy; exact .v _
    · simp at hx⟩
section
variable {H : Type} {enc : TypeId × Value → H} {P : Program} {w : World} {base : Nat} {spare : Nat → Bool} {held : Bool}
theorem trodAllN {t0 t1 : TypeId} {args : Array Value} {ds : List (DataW H)} {ps : List MemPlace} (h : DataW.TrodAll enc P w base spare held [t0, t1] args.toList ds ps) :
    ∃ v0 v1 d0 d1 p0 p1, args = #[v0, v1] ∧ ds = [d0, d1] ∧ ps = p0 ++ p1 ∧ DataW.Trod enc P w base spare held t0 v0 d0 p0 ∧ DataW.Trod enc P w base spare held t1 v1 d1 p1 := by
  obtain ⟨v0, vs0, d0, ds0, p0, q0, hargs, rfl, rfl, hd0, k0⟩ := trodAll_cons h
  obtain ⟨v1, vs1, d1, ds1, p1, q1, rfl, rfl, rfl, hd1, k1⟩ := trodAll_cons k0
  obtain ⟨rfl, rfl, rfl⟩ := trodAll_nil k1
  exact ⟨v0, v1, d0, d1, p0, p1, by cases args; simp_all, rfl, by simp, hd0, hd1⟩
end
/-! ### THE ROW's STEP -/
set_option maxRecDepth 100000 in
theorem lifted (os : Os) (started : os.Started) (H : Type) (enc : TypeId × Value → H) :
    ReturnsInHanded {} Try.checked os 9 .any (Rows.lockFewerSpec.pre6 enc Try.prog Try.f9 Rows.lockFewerRow.domain false) (Rows.lockFewerSpec.post enc Try.prog Try.f9 false true false false) := by
  refine returnsInHanded_of_change (C := Try.checked) own started (by kernel_rfl) Try.func9
    (ChangeSpec.witness6 (enc := enc) (C := Try.checked) false ⟨#[], #[.agg #[.int .u8 0, .int .u8 0, .int .u8 0, .int .u8 0, .int .u8 0, .int .u8 0, .int .u8 0, .int .u8 0], .int .u8 0], []⟩ 8 (by kernel_rfl) (by kernel_rfl) (by kernel_rfl) (by kernel_rfl)) ?_
  intro W base args ds gs before hval0 hW hcnd _
  have hval : ∀ (j : Nat) t v, Try.f9.params[j]? = some t → args[j]? = some v → Value.okWide Try.prog W .any base t v := hval0
  have hW' := hW
  obtain ⟨p, q, hA0, hV, rfl, hfz, hnd⟩ := hW
  have hA : DataW.TrodAll enc Try.prog W 0 (fun _ => true) true Try.f9.params.toList args.toList ds p := hA0
  rw [Try.params9] at hA hval
  obtain ⟨v0, v1, d0, d1, p0, p1, rfl, rfl, rfl, h0, h1⟩ := trodAllN hA
  obtain ⟨rfl, rfl⟩ := trodVars_none hV
  have hv0 := hval 0 53 v0 rfl rfl
  have hv1 := hval 1 5 v1 rfl rfl
  have h0k := h0
  have h1k := h1
  clear hA0 hval0
  simp only [List.append_nil] at hW'
  have hlt : ∀ x ∈ p0 ++ p1, x.block < W.heap.size := fun x hx => by simpa using hW'.lt x hx
  have hargs0 : ∀ (W' : World), Below W.heap.size W W' → DataW.Trod enc Try.prog W' 0 (fun b => decide (b < W.heap.size)) true 53 v0 d0 p0 :=
    fun W' hn => Below.trod laidOut (by kernel_rfl) (of_decide_eq_true (by kernel_rfl)) h0k hn (fun x hx => hlt x (by simp only [List.mem_append, hx, true_or, or_true]))
  have hargs1 : ∀ (W' : World), Below W.heap.size W W' → DataW.Trod enc Try.prog W' 0 (fun b => decide (b < W.heap.size)) true 5 v1 d1 p1 :=
    fun W' hn => Below.trod laidOut (by kernel_rfl) (of_decide_eq_true (by kernel_rfl)) h1k hn (fun x hx => hlt x (by simp only [List.mem_append, hx, true_or, or_true]))
  refine (walk (arg53 hv0) (val5 hv1)).mono fun e W' ⟨he, bel⟩ => ?_
  subst he
  exact ⟨_, rfl, _, _, _, [], p0 ++ p1, [], hW', trodAll_mk1 (shut_bool Try.underlying4 _), (by simp only [List.append_assoc]; exact ⟨p0, _, hargs0 W' bel, trodAll_mk1 (hargs1 W' bel), rfl⟩), rfl, bel.frame _, fun h => by cases h⟩
theorem over : Rows.lockFewerRow.holds Try.pinned (OpenSpec.ofChange Rows.lockFewerSpec) :=
  OpenClaim.holds_of_wide 9 Try.f9 rfl rfl rfl rfl rfl rfl rfl ⟨rfl, rfl, rfl, rfl, rfl⟩ rfl rfl rfl rfl rfl (by kernel_rfl) Try.func9 (by kernel_rfl)
    (of_decide_eq_true (by kernel_rfl)) (by unfold Func.isWrapper; first | (rw [if_pos (by decide +kernel)]; kernel_rfl) | (rw [if_neg (by decide +kernel)]; exact ⟨rfl, rfl⟩))
    (fun os started H enc _ => lifted os started H enc)
theorem proved : Rows.LockFewerSaid :=
  over
#print axioms proved
end Go.Proofs.Yteoiebmbgbgpgaa.lockFewer
