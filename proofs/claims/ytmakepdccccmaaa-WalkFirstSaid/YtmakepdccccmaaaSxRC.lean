/- What functions of the outright laws return: a copy of a list that may be empty. No conditions. -/
import Derived.Test.YtmakepdccccmaaaSxJS29toR5
set_option linter.unusedVariables false
set_option linter.unusedSimpArgs false
namespace Go.Sx.Wk
open Go Go.Sx Go.Proofs

theorem runs_il0 {P : Program} {g k h r k' h'} {u : Bool} (h1 : Runs P g k [.v (.slice none 0 0)] h r k' h') (h2 : ∀ b o c, Runs P g k [.v (.slice (some ⟨b, o, none⟩) 0 c)] h r k' h') : Runs P g k [.il [] 0 u] h r k' h' := by
  refine ⟨h1.1, fun S w f vs hv wf hk => ?_⟩
  obtain ⟨hl, hv⟩ := hv
  match vs, hl with
  | [v], _ =>
    have hr := hv 0 _ _ rfl rfl
    have one : Reps S w f [.v v] [v] := ⟨rfl, fun i x y hx hy => by
      rcases i with _ | i
      · cases hx; cases hy; exact .v _
      · simp at hx⟩
    cases hr with
    | nil => exact h1.2 S w f _ one wf hk
    | il hvl hS hc h1' hr hn hf => exact (h2 _ _ _).2 S w f _ one wf hk
def f45c : List AV → HL → Nat → Option (AV × HL × Nat) := fun args h k => match args, h, k with
  | [.il cs n u], [], 0 => match unints cs with
    | some l => if n = l.length ∧ small l = true then (if l = [] then some (.il [] 0 true, [], 0) else some (.ref 0 0 l.length 1 none, [(0, .cells (ints l))], 1)) else none
    | none => none
  | _, _, _ => none
def s45c : Sp := ⟨45, f45c⟩
@[simp] theorem s45c_g : s45c.g = 45 := rfl
@[simp] theorem s45c_f : s45c.f = f45c := rfl
theorem s45c_ok : s45c.ok Try.prog := by
  intro args h k r h' k' hh
  simp only [s45c_f, f45c] at hh
  split at hh
  · rename_i cs n u
    split at hh
    · rename_i l hl
      split at hh
      · rename_i hc
        obtain ⟨hn, hsl⟩ := hc
        have e := unints_inv hl
        split at hh
        · rename_i he
          subst he
          cases hh
          rw [e, hn]
          simp only [hp_eq]
          refine runs_il0 ?_ fun b o c => ?_
          · refine P45.rz (ss := []) trivial (by simp) fun Q hQ => ?_
            delta p45 p45_r0 p45_r1 p45_r2 p45_r3
            simp (disch := omega) [oLt, oLe, oLtN, oLeN, nLt, nLe, nLtN, nLeN]
            exact hQ _ _ (.chg (.weak (s' := ⟨[(2, .il [] 0 true)], [], 4⟩) ⟨rfl, .nil, trivial⟩ trivial rfl (.to [] (by simp))) (.p (s := ⟨[(2, .il [] 0 true)], [], 0⟩) (.inl rfl) (by simp) rfl))
          · refine P45.rz (ss := []) trivial (by simp) fun Q hQ => ?_
            delta p45 p45_r0 p45_r1 p45_r2 p45_r3
            simp (disch := omega) [oLt, oLe, oLtN, oLeN, nLt, nLe, nLtN, nLeN]
            exact hQ _ _ (.chg (.frz 3 (cs := []) (by simp) rfl .refl) (.p (.inl rfl) (by simp) rfl))
        · rename_i he
          refine s45_ok [.il cs n u] [] 0 r h' k' ?_
          rw [e]
          rcases l with _ | ⟨l0, lr⟩
          · exact absurd rfl he
          · have hu : unints (AV.v (.int .i64 l0) :: ints lr) = some (l0 :: lr) := by rw [← ints_cons, ← e]; exact hl
            simp only [s45_f, f45, ints_cons, hu]
            rw [if_pos ⟨hn, hsl⟩, ← hh]; rfl
      · cases hh
    · cases hh
  · cases hh
end Go.Sx.Wk
