/- What functions of the outright laws return: all lists of inspectors are tried, from the empty one on. No conditions. -/
import Derived.Test.YtmakepdccccmaaaSxRG
set_option linter.unusedVariables false
set_option linter.unusedSimpArgs false
set_option maxRecDepth 4000
namespace Go.Sx.Wk
open Go Go.Sx Go.Proofs

def RA (t : List Int) (fw : Int) : Option (List Int) × Int := bstO (goodF t) nextL (divs t.length []) fw
def hA47 (t : List Int) (fw : Int) (b : Option (List Int)) (u : Bool) : HL := [(0, .cells [vI t.length]), (1, .cells [.il (bls (evL t (2 ^ t.length))) (2 ^ t.length) u]), (2, .cells [vI fw]), (3, .cells [bO b]), (4, .cells [.fn (.func 47) [] [.ptr 0 0, .ptr 1 0, .ptr 2 0, .ptr 3 0, .ptr 4 0]])]
theorem RA_one {t : List Int} (h0 : 0 < t.length) (fw : Int) : RA t fw = R47 t [0] fw := by
  obtain ⟨r, hr⟩ : ∃ r, t.length = r + 1 := ⟨t.length - 1, by omega⟩
  have e : divs (r + 1) [] = divs r [0] := by
    have h : (gs ((nextL []).toNat + 1)) = [0] := by decide
    simp only [divs, h, List.flatMap_cons, List.flatMap_nil, List.append_nil, List.nil_append]
  unfold RA R47
  rw [hr, e]
  congr 1
theorem low5 : lowTo [0, 1, 2, 3, 4] 5 = true := by decide
set_option maxHeartbeats 4000000 in
theorem put47_top {t : List Int} {fw : Int} {b : Option (List Int)} {u : Bool} (h0 : 0 < t.length) (h4 : t.length ≤ 4) :
    Runs Try.prog 47 5 [.v (.slice none 0 0), vI 0, .ptr 0 0, .ptr 1 0, .ptr 2 0, .ptr 3 0, .ptr 4 0] (hpF (hA47 t fw b u)) (.tup []) 5 (hpF (hA47 t (RA t fw).2 ((RA t fw).1.or b) u)) := by
  have hlc : ¬ (0 : Int) = t.length := by omega
  rw [RA_one h0]
  have hg : g47 5 t [0] 1 = true := by
    rw [g47_iff]
    exact ⟨h4, by simp; omega, by simp; omega, by decide, by simp, by decide, by decide⟩
  have hG : G47 t 5 [.ref 0 0 1 1 none, vI 1, .ptr 1 0, .ptr 2 0, .ptr 3 0, .ptr 4 0, .ptr 5 0] [(0, .cells [vI 0]), (1, .cells [vI t.length]), (2, .cells [.il (bls (evL t (2 ^ t.length))) (2 ^ t.length) u]), (3, .cells [vI fw]), (4, .cells [bO b]), (5, .cells [.fn (.func 47) [] [.ptr 1 0, .ptr 2 0, .ptr 3 0, .ptr 4 0, .ptr 5 0]])] 6 = some (.tup [], ho47 t (R47 t [0] fw).2 ((R47 t [0] fw).1.or b) u, 6) := by
    have e1 : unints [vI 0] = some [0] := rfl
    simp only [G47, e1]
    simp [hg]
  generalize R47 t [0] fw = R at *
  refine P47.rz (ss := [s48, put47 t 5]) ⟨s48_ok, put47_ok t 5, trivial⟩ (by simp) fun Q hQ => ?_
  delta p47 p47_r0 p47_r16
  simp (disch := omega) [oLt, oLe, oLtN, oLeN, nLt, nLe, nLtN, nLeN, hA47, hlc]
  refine XZ_for (fun g : Nat => ⟨[(0, .v (.slice none 0 0)), (1, vI 0), (6, .ptr 4 0), (14, vI g)], hA47 t (if g = 0 then fw else R.2) (if g = 0 then b else R.1.or b) u, 5⟩) (fun g => 1 - g) (fun g => g ≤ 1) 0 (by simp) (.to [0, 1, 2, 3, 4] (by simp [hA47, low5, -lowTo])) ?_
  intro g hg1 N Q' hN hE
  rcases Nat.eq_zero_or_pos g with h | h
  · subst h
    have fin : ∀ s', ChgT 5 s' ⟨[(0, .v (.slice none 0 0)), (1, vI 0), (6, .ptr 4 0), (14, vI 1)], hA47 t R.2 (R.1.or b) u, 5⟩ → N s' := fun s' hh => hN s' 1 (by omega) (by omega) (by simpa using hh)
    simp only [if_true]
    delta p47_l2 p47_r17 p47_r18 p47_r19
    simp (disch := omega) [oLt, oLe, oLtN, oLeN, nLt, nLe, nLtN, nLeN, hA47, f48, hG, ho47]
    exact fin _ (.to [0, 1, 2, 3, 4] (by simp [hA47, low5, -lowTo]))
  · have : g = 1 := by omega
    subst this
    delta p47_l2 p47_r17 p47_r18 p47_r19
    simp (disch := omega) [oLt, oLe, oLtN, oLeN, nLt, nLe, nLtN, nLeN, hA47]
    refine hE _ _ _ .refl ?_
    exact hQ _ _ (EndsP_on [0, 1, 2, 3, 4] (.inr rfl) (by simp) rfl (by simp) rfl (by simp [hA47]))
def f47A (t : List Int) : List AV → HL → Nat → Option (AV × HL × Nat) := fun args h k => match args, h, k with
  | [.v (.slice none 0 0), .v (.int .i64 0), .ptr 0 0, .ptr 1 0, .ptr 2 0, .ptr 3 0, .ptr 4 0], [(0, .cells [.v (.int .i64 n)]), (1, .cells [.il ce ne u]), (2, .cells [.v (.int .i64 fw)]), (3, .cells [o]), (4, .cells [.fn (.func 47) [] [.ptr 0 0, .ptr 1 0, .ptr 2 0, .ptr 3 0, .ptr 4 0]])], 5 => match unbls ce with
    | some E => match dbO o with
      | some b => if n = t.length ∧ E = evL t (2 ^ t.length) ∧ ne = 2 ^ t.length ∧ 0 < t.length ∧ t.length ≤ 4 then some (.tup [], hA47 t (RA t fw).2 ((RA t fw).1.or b) u, 5) else none
      | none => none
    | none => none
  | _, _, _ => none
def s47A (t : List Int) : Sp := ⟨47, f47A t⟩
@[simp] theorem s47A_g (t : List Int) : (s47A t).g = 47 := rfl
@[simp] theorem s47A_f (t : List Int) : (s47A t).f = f47A t := rfl
theorem s47A_ok (t : List Int) : (s47A t).ok Try.prog := by
  intro args h k r h' k' hh
  simp only [s47A_f, f47A] at hh
  split at hh
  · split at hh
    · rename_i E hE
      split at hh
      · rename_i b hb
        split at hh
        · rename_i hc
          obtain ⟨rfl, rfl, rfl, h0, h4⟩ := hc
          cases hh
          rw [unbls_inv hE, dbO_inv hb]
          simp only [hp_eq]
          exact put47_top h0 h4
        · cases hh
      · cases hh
    · cases hh
  · cases hh
end Go.Sx.Wk
