/- What functions of the walk layer return: the search for a division. No conditions. -/
import Derived.Test.YtmakepdccccmaaaSxJO9toO3
set_option linter.unusedVariables false
set_option linter.unusedSimpArgs false
set_option maxRecDepth 4000
namespace Go.Sx.Wk
open Go Go.Sx Go.Proofs

theorem EndsP_on {k : Nat} {rs : List SRes} {r : AV} {H : HL} {e : Exit} {s : ST} (l : List Nat) (he : e = .ret ∨ e = .normal) (hr : resA s.st rs = some (ren (gT l s.nx) r)) (low : lowTo l k = true) (hle : k ≤ l.length) (nd : dist l = true)
    (hh : heapTo l.length (gT l s.nx) s.heap H) : EndsP k rs r l.length H e s := by
  have := cv_to (l := l) (nx := s.nx) (h := s.heap) (h' := H) low hle nd hh
  exact ⟨by rcases he with rfl | rfl <;> trivial, s, .refl, _, this, hr⟩
def f48 : List AV → HL → Nat → Option (AV × HL × Nat) := fun args h k => match args, h, k with
  | [.ref 0 0 n 1 none], [(0, .cells cs)], 1 => match unints cs with
    | some l => some (.ref 0 0 n 1 (some n), [(0, .cells cs)], 1)
    | none => none
  | [.v (.slice none 0 0)], [], 0 => some (.v (.slice none 0 0), [], 0)
  | _, _, _ => none
def s48 : Sp := ⟨48, f48⟩
@[simp] theorem s48_g : s48.g = 48 := rfl
@[simp] theorem s48_f : s48.f = f48 := rfl
theorem s48_ok : s48.ok Try.prog := by
  intro args h k r h' k' hh
  simp only [s48_f, f48] at hh
  split at hh
  · split at hh
    · rename_i l hl
      cases hh
      rw [unints_inv hl]
      simp only [hp_eq]
      refine P48.rz (ss := []) trivial (by simp) fun Q hQ => ?_
      delta p48 p48_r0 p48_r1
      simp (disch := omega) [oLt, oLe, oLtN, oLeN, nLt, nLe, nLtN, nLeN]
      exact hQ _ _ (EndsP_on [0] (.inl rfl) (by simp) rfl (by simp) rfl (by simp))
    · cases hh
  · cases hh
    simp only [hp_eq]
    refine P48.rz (ss := []) trivial (by simp) fun Q hQ => ?_
    delta p48 p48_r0 p48_r1
    simp (disch := omega) [oLt, oLe, oLtN, oLeN, nLt, nLe, nLtN, nLeN]
    exact hQ _ _ (.same (.inl rfl) (by simp) rfl rfl rfl (by simp))
  · cases hh

@[simp] theorem idsL_app : ∀ (a b : List AV), idsL (a ++ b) = idsL a ++ idsL b
  | [], b => by simp [idsL]
  | x :: a, b => by cases x <;> simp [idsL, idsL_app a b]
@[simp] theorem inL_app (p : Nat → Bool) : ∀ (a b : List AV), inL p (a ++ b) = (inL p a && inL p b)
  | [], b => by simp [inL]
  | x :: a, b => by simp [inL, inL_app p a b, Bool.and_assoc]
/-- The order of the last part of the search, taken out of the text. -/
def anc70 : List (List Nat) := match p70_l1 with
  | .seq _ (.seq _ (.seq (.block _ (.seq _ (.seq _ (.seq _ (.seq _ (.seq (.draw _ a _) _)))))) _)) => a
  | _ => []
theorem l170 : p70_l1 = (.seq (.reg p70_r8 [0, 1, 2, 4, 29, 30, 31]) (.seq (.cond (Operand.tmp 31) .skip (.exit 0)) (.seq (.block 1 (.seq (.reg p70_r9 [0, 1, 2, 4, 9, 29, 30]) (.seq (.reg p70_r10 [0, 1, 2, 4, 9, 10, 29, 30]) (.seq (.seq (.reg p70_r11 [0, 1, 2, 4, 9, 10, 29, 30, 37, 38, 39]) (.block 2 (.loop p70_l0))) (.seq (.reg p70_r17 [0, 1, 2, 4, 9, 13, 29, 30]) (.seq (.draw p70_r18 anc70 [0, 1, 2, 4, 29, 30, 72]) (.cond (Operand.tmp 72) (.seq (.reg p70_r19 [7]) .ret) .skip))))))) (.reg p70_r20 [0, 1, 2, 4, 29, 30])))) := rfl
/-- What the search says. -/
def R70 (t : List Int) (x : Nat) (l : List Int) : Option (List Int) := putF canB t x (t.length - l.length) l
def g70 (f : Nat) (t l : List Int) (x : Nat) : Bool := ok8 t && decide (t.length ≤ 4) && decide (l.length ≤ t.length) && decide (t.length - l.length < f) && decide (1 ≤ x) && decide (x ≤ 4) && l.all (within 0 · 4) && decide (nextL l ≤ l.length) && decide (0 < t.length)
def hpB (t l : List Int) (u : Bool) (o : AV) : HL := [(0, .cells (ints l)), (1, .cells [.il (ints t) t.length u]), (2, .cells [o]), (3, .cells [.fn (.func 70) [] [.ptr 1 0, .ptr 2 0, .ptr 3 0]])]
def hpA (t : List Int) (u : Bool) (o : AV) : HL := [(0, .cells [.il (ints t) t.length u]), (1, .cells [o]), (2, .cells [.fn (.func 70) [] [.ptr 0 0, .ptr 1 0, .ptr 2 0]])]
def outB (t l : List Int) (u : Bool) (x : Nat) : AV × HL × Nat := match R70 t x l with
  | none => (vB false, hpB t l u (.v (.slice none 0 0)), 4)
  | some L => if l.length = t.length then (vB true, hpB t l u (.ref 0 0 l.length 1 none), 4) else (vB true, hpB t l u (.ref 4 0 L.length 1 none) ++ [(4, .cells (ints L))], 5)
def outA (t : List Int) (u : Bool) (x : Nat) : AV × HL × Nat := match R70 t x [] with
  | none => (vB false, hpA t u (.v (.slice none 0 0)), 3)
  | some L => (vB true, hpA t u (.ref 3 0 L.length 1 none) ++ [(3, .cells (ints L))], 4)
def G70 (f : Nat) : List AV → HL → Nat → Option (AV × HL × Nat) := fun args h k => match args, h, k with
  | [.v (.slice none 0 0), .v (.int .i64 x), .ptr 0 0, .ptr 1 0, .ptr 2 0], [(0, .cells [.il ct n u]), (1, .cells [.v (.slice none 0 0)]), (2, .cells [.fn (.func 70) [] [.ptr 0 0, .ptr 1 0, .ptr 2 0]])], 3 => match unints ct with
    | some t => if n = t.length ∧ 0 ≤ x ∧ g70 f t [] x.toNat = true then some (outA t u x.toNat) else none
    | none => none
  | [.ref 0 0 m 1 none, .v (.int .i64 x), .ptr 1 0, .ptr 2 0, .ptr 3 0], [(0, .cells cl), (1, .cells [.il ct n u]), (2, .cells [.v (.slice none 0 0)]), (3, .cells [.fn (.func 70) [] [.ptr 1 0, .ptr 2 0, .ptr 3 0]])], 4 => match unints cl with
    | some l => match unints ct with
      | some t => if n = t.length ∧ m = l.length ∧ l ≠ [] ∧ 0 ≤ x ∧ g70 f t l x.toNat = true then some (outB t l u x.toNat) else none
      | none => none
    | none => none
  | _, _, _ => none
def put70 (f : Nat) : Sp := ⟨70, G70 f⟩
@[simp] theorem put70_g (f : Nat) : (put70 f).g = 70 := rfl
@[simp] theorem put70_f (f : Nat) : (put70 f).f = G70 f := rfl
theorem R70_succ {t l : List Int} {x r : Nat} (h : t.length - l.length = r + 1) : R70 t x l = putL canB t (fun l' => putF canB t x r l') l (bnd70 l x) (bnd70 l x) := by
  simp only [R70, h, putF]
theorem g70_iff {f : Nat} {t l : List Int} {x : Nat} : g70 f t l x = true ↔ ok8 t = true ∧ t.length ≤ 4 ∧ l.length ≤ t.length ∧ t.length - l.length < f ∧ 1 ≤ x ∧ x ≤ 4 ∧ (∀ y ∈ l, 0 ≤ y ∧ y ≤ 4) ∧ nextL l ≤ l.length ∧ 0 < t.length := by
  simp only [g70, Bool.and_eq_true, decide_eq_true_eq, List.all_eq_true, within_iff, and_assoc]
theorem goes_top {t : List Int} (ht : ok8 t = true) (h4 : t.length ≤ 4) : ∃ a b c d ev sh, pad t t = [a, b, c, d] ∧ G55 5000 t [a, b, c, d] [] [] [.agg [vI a, vI b, vI c, vI d]] = some (vB (canB t), ev, sh) := by
  obtain ⟨ev, sh, h1, h2, h3⟩ := goF_top ht h4
  obtain ⟨a, b, c, d, hp⟩ := pad4 h4
  rw [hp] at h1
  exact ⟨a, b, c, d, ev, sh, hp, by simp [G55, h1]⟩

set_option maxHeartbeats 4000000 in
theorem putB_runs {f : Nat} (ih : (put70 f).ok Try.prog) {t : List Int} {l0 : Int} {lr : List Int} {x : Nat} {u : Bool} (hg : g70 (f + 1) t (l0 :: lr) x = true) :
    Runs Try.prog 70 4 [.ref 0 0 (lr.length + 1) 1 none, vI x, .ptr 1 0, .ptr 2 0, .ptr 3 0] (hpF (hpB t (l0 :: lr) u (.v (.slice none 0 0)))) (outB t (l0 :: lr) u x).1 (outB t (l0 :: lr) u x).2.2 (hpF (outB t (l0 :: lr) u x).2.1) := by
  obtain ⟨ht, h4, hlt, hf, hx1, hx4, hal, hnl, htp⟩ := g70_iff.1 hg
  simp only [List.length_cons, List.length_nil] at hlt hf hnl
  have h0 := nextL_nonneg (l0 :: lr)
  obtain ⟨M, hM⟩ := Int.eq_ofNat_of_zero_le h0
  have hml : maxL l0 lr = (M : Int) - 1 := by
    have := maxL_top (x := l0) (r := lr) (hal l0 (by simp)).1
    omega
  by_cases hd : lr.length + 1 = t.length
  · have hR : R70 t x (l0 :: lr) = some (l0 :: lr) := by simp [R70, hd, putF]
    have he : outB t (l0 :: lr) u x = (vB true, hpB t (l0 :: lr) u (.ref 0 0 (l0 :: lr).length 1 none), 4) := by simp [outB, hR, hd]
    rw [he]
    refine P70.rz (ss := [s48, s49, s54, s55, put70 f]) ⟨s48_ok, s49_ok, s54_ok, s55_ok, ih, trivial⟩ (by simp) fun Q hQ => ?_
    delta p70 p70_r0 p70_r1 p70_r2 p70_r3 p70_r4 p70_r5 p70_r6 p70_r7
    simp (disch := omega) [oLt, oLe, oLtN, oLeN, nLt, nLe, nLtN, nLeN, hpB, hd]
    exact hQ _ _ (EndsP_on [0, 1, 2, 3] (.inl rfl) (by simp) rfl (by simp) rfl (by simp [hpB, hd]))
  have hdc : ¬ (lr.length : Int) + 1 = t.length := by omega
  have hld : ¬ (l0 :: lr).length = t.length := by simpa using hd

  obtain ⟨r, hr⟩ : ∃ r, t.length - (lr.length + 1) = r + 1 := ⟨t.length - (lr.length + 1) - 1, by omega⟩
  have hR := R70_succ (t := t) (l := (l0 :: lr)) (x := x) (r := r) (by simpa using hr)
  have hbn : bnd70 (l0 :: lr) x = min (M + 1) x := by simp [bnd70, hM]
  have hst : small (l0 :: lr) = true := by simp [small] <;> omega
  have hM5 : M ≤ 4 := by have := hnl; rw [hM] at this; omega
  generalize hbb : bnd70 (l0 :: lr) x = b at *
  have hb5 : b ≤ 5 := by omega
  have hLl : ((l0 :: lr) : List Int).length = (lr.length + 1) := by simp
  -- how it ends
  have endN : R70 t x (l0 :: lr) = none → (outB t (l0 :: lr) u x) = (vB false, hpB t (l0 :: lr) u (.v (.slice none 0 0)), 4) := fun h => by simp only [outB, h]
  have endS : ∀ Lr, R70 t x (l0 :: lr) = some Lr → (outB t (l0 :: lr) u x) = (vB true, hpB t (l0 :: lr) u (.ref 4 0 Lr.length 1 none) ++ [(4, Blk.cells (ints Lr))], 5) := fun Lr h => by simp only [outB, h]; rw [if_neg hld]
  generalize hout : (outB t (l0 :: lr) u x) = out at *
  refine P70.rz (ss := [s48, s49, s54, s55, put70 f]) ⟨s48_ok, s49_ok, s54_ok, s55_ok, ih, trivial⟩ (by simp) fun Q hQ => ?_
  have outer : ∀ s0 : ST, ChgT 4 s0 ⟨[(0, .ref 0 0 (lr.length + 1) 1 none), (1, vI x), (2, .ptr 1 0), (4, .ptr 3 0), (29, vI b), (30, vI ((0 : Nat) : Int))], hpB t (l0 :: lr) u (.v (.slice none 0 0)), 4⟩ →
      XZ (rZ (spc [s48, s49, s54, s55, put70 f])) 4 (.loop p70_l1) s0 (inBE 0 (thenE (fun s' => XZ (rZ (spc [s48, s49, s54, s55, put70 f])) 4 (.seq (.reg p70_r21 [7]) .ret) s' Q) Q)) := by
    intro s0 hs0
    refine XZ_for (fun g : Nat => ⟨[(0, .ref 0 0 (lr.length + 1) 1 none), (1, vI x), (2, .ptr 1 0), (4, .ptr 3 0), (29, vI b), (30, vI g)], hpB t (l0 :: lr) u (.v (.slice none 0 0)), 4⟩) (fun g => b - g) (fun g => g ≤ b ∧ putL canB t (fun l' => putF canB t x r l') (l0 :: lr) b (b - g) = R70 t x (l0 :: lr)) 0 ⟨by simp, by simpa using hR.symm⟩ hs0 ?_
    rintro g ⟨hgb, hp⟩ N Q' hN hE
    rcases Nat.lt_or_ge g b with h | h
    · obtain ⟨j, hj⟩ : ∃ j, b - g = j + 1 := ⟨b - g - 1, by omega⟩
      have hgj : b - (j + 1) = g := by omega
      have hj' : b - (g + 1) = j := by omega
      rw [hj] at hp
      simp only [putL, hgj] at hp
      have hgc : (g : Int) < b := by omega
      have hg4 : g ≤ 4 := by omega
      have next : putL canB t (fun l' => putF canB t x r l') (l0 :: lr) b j = R70 t x (l0 :: lr) → ∀ s', ChgT 4 s' ⟨[(0, .ref 0 0 (lr.length + 1) 1 none), (1, vI x), (2, .ptr 1 0), (4, .ptr 3 0), (29, vI b), (30, vI ((g + 1 : Nat) : Int))], hpB t (l0 :: lr) u (.v (.slice none 0 0)), 4⟩ → N s' := fun hp s' hh => hN s' (g + 1) (by omega) ⟨h, by rw [hj']; exact hp⟩ hh
      have h78 := grp_ok8 (d := (l0 :: lr) ++ [(g : Int)]) (t := t) (g := g) ht h4
      have hG8 : ok8 (grpL ((l0 :: lr) ++ [(g : Int)]) t g) = true := by simp only [g78, Bool.and_eq_true] at h78; exact h78.1
      have hG4 : (grpL ((l0 :: lr) ++ [(g : Int)]) t g).length ≤ 4 := by simp only [g78, Bool.and_eq_true, decide_eq_true_eq] at h78; exact h78.2
      obtain ⟨ga, gb, gc, gd, gev, gsh, hgp, h55⟩ := goes_top hG8 hG4
      -- the stretches of the group
      have inner : ∀ (s0 : ST) (Q2 : Exit → ST → Prop), ChgT 4 s0 ⟨[(0, .ref 0 0 (lr.length + 1) 1 none), (1, vI x), (2, .ptr 1 0), (4, .ptr 3 0), (9, vI g), (10, .v (.slice none 0 0)), (29, vI b), (30, vI g), (37, .ref 4 0 ((lr.length + 1) + 1) 1 none), (38, vI (((lr.length + 1) + 1 : Nat) : Int)), (39, vI ((0 : Nat) : Int))], hpB t (l0 :: lr) u (.v (.slice none 0 0)) ++ [(4, Blk.cells (ints ((l0 :: lr) ++ [(g : Int)])))], 5⟩ →
          (Q2 (.exit 2) ⟨[(0, .ref 0 0 (lr.length + 1) 1 none), (1, vI x), (2, .ptr 1 0), (4, .ptr 3 0), (9, vI g), (10, ow 4 (grpL ((l0 :: lr) ++ [(g : Int)]) t g)), (29, vI b), (30, vI g)], owh 4 (grpL ((l0 :: lr) ++ [(g : Int)]) t g) (hpB t (l0 :: lr) u (.v (.slice none 0 0))), own (grpL ((l0 :: lr) ++ [(g : Int)]) t g) 4⟩) → XZ (rZ (spc [s48, s49, s54, s55, put70 f])) 4 (.loop p70_l0) s0 Q2 := by
        intro s0 Q2 hs0 hq
        have hl'l : ((l0 :: lr) ++ [(g : Int)]).length = (lr.length + 1) + 1 := by simp
        have hlt' : (lr.length + 1) + 1 ≤ t.length := by omega
        generalize (l0 :: lr) ++ [(g : Int)] = l' at *
        refine XZ_for (fun p : Nat × List Int => ⟨[(0, .ref 0 0 (lr.length + 1) 1 none), (1, vI x), (2, .ptr 1 0), (4, .ptr 3 0), (9, vI g), (10, ow 5 p.2), (29, vI b), (30, vI g), (37, .ref 4 0 ((lr.length + 1) + 1) 1 none), (38, vI (((lr.length + 1) + 1 : Nat) : Int)), (39, vI p.1)], owh 5 p.2 (hpB t (l0 :: lr) u (.v (.slice none 0 0)) ++ [(4, Blk.cells (ints l'))]), own p.2 5⟩) (fun p => l'.length - p.1) (fun p => p.1 ≤ l'.length ∧ p.2.length ≤ p.1 ∧ p.2 ++ grpL (l'.drop p.1) (t.drop p.1) g = grpL l' t g) (0, []) ⟨by simp, by simp, by simp⟩ hs0 ?_
        rintro ⟨s, acc⟩ ⟨hs, ha, hp⟩ N2 Q3 hN2 hE2
        simp only at hs ha hp ⊢
        rcases Nat.lt_or_ge s l'.length with h1 | h1
        · have h1t : s < t.length := by omega
          have h1c : s < (lr.length + 1) + 1 := by omega
          have h1i : (s : Int) < (lr.length + 1) + 1 := by omega
          obtain ⟨y, q, y1, y2, y3, y4, y5⟩ := drop_split h1t
          obtain ⟨z, w, z1, z2, z3, z4, z5⟩ := drop_split h1
          have z6 : (ints l')[s]? = some (vI z) := by simp [ints, z2]
          rw [grp_drop z1 y1] at hp
          by_cases hx : z = g
          · rw [if_pos hx] at hp
            have fin : ∀ s', ChgT 4 s' ⟨[(0, .ref 0 0 (lr.length + 1) 1 none), (1, vI x), (2, .ptr 1 0), (4, .ptr 3 0), (9, vI g), (10, ow 5 (acc ++ [y])), (29, vI b), (30, vI g), (37, .ref 4 0 ((lr.length + 1) + 1) 1 none), (38, vI (((lr.length + 1) + 1 : Nat) : Int)), (39, vI ((s + 1 : Nat) : Int))], owh 5 (acc ++ [y]) (hpB t (l0 :: lr) u (.v (.slice none 0 0)) ++ [(4, Blk.cells (ints l'))]), own (acc ++ [y]) 5⟩ → N2 s' := fun s' hh =>
              hN2 s' (s + 1, acc ++ [y]) (by simp only; omega) ⟨h1, by simp; omega, by simp only [z4, y4]; rw [← hp]; simp⟩ hh
            rcases acc with _ | ⟨a0, ar⟩
            · delta p70_l0 p70_r12 p70_r13 p70_r14 p70_r15 p70_r16
              simp (disch := omega) [oLt, oLe, oLtN, oLeN, nLt, nLe, nLtN, nLeN, hpB, h1, h1t, h1c, h1i, z2, z3, z6, y2, y3, hx, hl'l]
              exact fin _ (.tot [37, 10] (by simp [hpB]))
            · simp only [List.length_cons] at ha
              delta p70_l0 p70_r12 p70_r13 p70_r14 p70_r15 p70_r16
              simp (disch := omega) [oLt, oLe, oLtN, oLeN, nLt, nLe, nLtN, nLeN, hpB, h1, h1t, h1c, h1i, z2, z3, z6, y2, y3, hx, hl'l]
              exact fin _ (.tot [37, 10] (by simp [hpB]))
          · rw [if_neg hx] at hp
            rcases acc with _ | ⟨a0, ar⟩
            · delta p70_l0 p70_r12 p70_r13 p70_r14 p70_r15 p70_r16
              simp (disch := omega) [oLt, oLe, oLtN, oLeN, nLt, nLe, nLtN, nLeN, hpB, h1, h1t, h1c, h1i, z2, z3, z6, y2, y3, hx, hl'l]
              exact hN2 _ (s + 1, []) (by simp only; omega) ⟨h1, by simp, by simp only [z4, y4]; exact hp⟩ (.tot [37] (by simp [hpB]))
            · delta p70_l0 p70_r12 p70_r13 p70_r14 p70_r15 p70_r16
              simp (disch := omega) [oLt, oLe, oLtN, oLeN, nLt, nLe, nLtN, nLeN, hpB, h1, h1t, h1c, h1i, z2, z3, z6, y2, y3, hx, hl'l]
              exact hN2 _ (s + 1, a0 :: ar) (by simp only; omega) ⟨h1, by simp only [List.length_cons] at ha ⊢; omega, by simp only [z4, y4]; exact hp⟩ (.tot [37, 10] (by simp [hpB]))
        · have h1c : ¬ s < (lr.length + 1) + 1 := by omega
          have h1i : ¬ (s : Int) < (lr.length + 1) + 1 := by omega
          rw [List.drop_eq_nil_of_le h1] at hp
          simp only [grpL_nil, List.append_nil] at hp
          rw [← hp] at hq
          rcases acc with _ | ⟨a0, ar⟩
          · delta p70_l0 p70_r12 p70_r13 p70_r14 p70_r15 p70_r16
            simp (disch := omega) [oLt, oLe, oLtN, oLeN, nLt, nLe, nLtN, nLeN, hpB, h1c, h1i]
            exact hE2 _ _ _ (.tot [] (by simp [hpB])) hq
          · delta p70_l0 p70_r12 p70_r13 p70_r14 p70_r15 p70_r16
            simp (disch := omega) [oLt, oLe, oLtN, oLeN, nLt, nLe, nLtN, nLeN, hpB, h1c, h1i]
            exact hE2 _ _ _ (.tot [10] (by simp [hpB])) hq
      have hgne : grpL ((l0 :: lr) ++ [(g : Int)]) t g ≠ [] := by
        rw [own_pre (by omega)]
        have : t.drop ((l0 :: lr) : List Int).length ≠ [] := by
          intro e; have := congrArg List.length e; simp only [List.length_drop, List.length_cons, List.length_nil] at this; omega
        cases htd : t.drop ((l0 :: lr) : List Int).length with
        | nil => exact absurd htd this
        | cons a r' => simp [grpL]
      rw [l170]
      delta p70_r8 p70_r9 p70_r10 p70_r11
      simp (disch := omega) [oLt, oLe, oLtN, oLeN, nLt, nLe, nLtN, nLeN, hpB, hgc, hg4, f48]
      refine inner _ _ (.tot [37] (by simp [hpB])) ?_
      have hgM : (g : Int) ≤ M := by omega
      have hl'g : g70 f t (l0 :: (lr ++ [(g : Int)])) x = true := by
        have e : nextL (l0 :: (lr ++ [(g : Int)])) = max (M : Int) (g + 1) := by rw [← hM]; exact nextL_app (l0 :: lr) g
        refine g70_iff.2 ⟨ht, h4, by simp; omega, by simp; omega, hx1, hx4, fun y hy => ?_, by rw [e]; simp; omega, htp⟩
        have : y ∈ (l0 :: lr) ++ [(g : Int)] := hy
        rw [List.mem_append] at this
        rcases this with h | h
        · exact hal y h
        · simp at h; omega
      have hl'R : R70 t x (l0 :: (lr ++ [(g : Int)])) = putF canB t x r ((l0 :: lr) ++ [(g : Int)]) := by
        have e : t.length - ((l0 :: (lr ++ [(g : Int)])) : List Int).length = r := by simp; omega
        simp only [R70, e]; rfl
      rw [← hl'R] at hp
      generalize grpL ((l0 :: lr) ++ [(g : Int)]) t g = G at *
      rcases G with _ | ⟨G0, Gr⟩
      · exact absurd rfl hgne
      delta p70_r17
      simp (disch := omega) [oLt, oLe, oLtN, oLeN, nLt, nLe, nLtN, nLeN, hpB, hG4, hgp, shp]
      cases hcb : canB (G0 :: Gr) with
      | false =>
        rw [hcb] at h55 hp
        simp only [Bool.false_eq_true, if_false] at hp
        delta p70_r18 p70_r19 p70_r20
        simp (disch := omega) [oLt, oLe, oLtN, oLeN, nLt, nLe, nLtN, nLeN, h55]
        refine ⟨fun _ => ?_, by decide⟩
        exact next hp _ (.tot [] (by simp [hpB]))
      | true =>
        rw [hcb] at h55 hp
        simp only [if_true] at hp
        cases hrec : R70 t x (l0 :: (lr ++ [(g : Int)])) with
        | none =>
          rw [hrec] at hp
          simp only at hp
          have ho : outB t (l0 :: (lr ++ [(g : Int)])) u x = (vB false, hpB t (l0 :: (lr ++ [(g : Int)])) u (.v (.slice none 0 0)), 4) := by simp only [outB, hrec]
          delta p70_r18 p70_r19 p70_r20
          simp (disch := omega) [oLt, oLe, oLtN, oLeN, nLt, nLe, nLtN, nLeN, h55, f48, G70, hl'g, ho, hpB]
          refine ⟨fun _ => ?_, by decide⟩
          exact next hp _ (.tot [] (by simp [hpB]))
        | some Lr =>
          rw [hrec] at hp
          simp only at hp
          have he := endS Lr hp.symm
          rw [he] at hQ
          by_cases hd' : ((l0 :: (lr ++ [(g : Int)])) : List Int).length = t.length
          · have hr0 : r = 0 := by simp at hd'; omega
            subst hr0
            have hLr : Lr = (l0 :: (lr ++ [(g : Int)])) := by rw [hl'R] at hrec; simp only [putF, Option.some.injEq] at hrec; exact hrec.symm
            subst hLr
            have ho : outB t (l0 :: (lr ++ [(g : Int)])) u x = (vB true, hpB t (l0 :: (lr ++ [(g : Int)])) u (.ref 0 0 ((l0 :: (lr ++ [(g : Int)])) : List Int).length 1 none), 4) := by simp only [outB, hrec]; rw [if_pos hd']
            simp only [List.length_cons, List.length_append, List.length_nil] at hd' ho
            delta p70_r18 p70_r19 p70_r20
            simp (disch := omega) [oLt, oLe, oLtN, oLeN, nLt, nLe, nLtN, nLeN, h55, f48, G70, hl'g, ho, hpB]
            refine ⟨fun _ => ?_, by decide⟩
            exact hE _ _ _ .refl (hQ _ _ (EndsP_on [0, 1, 2, 3, 20] (.inl rfl) (by simp) rfl (by simp) rfl (by simp [hpB])))
          · have ho : outB t (l0 :: (lr ++ [(g : Int)])) u x = (vB true, hpB t (l0 :: (lr ++ [(g : Int)])) u (.ref 4 0 Lr.length 1 none) ++ [(4, .cells (ints Lr))], 5) := by simp only [outB, hrec]; rw [if_neg hd']
            delta p70_r18 p70_r19 p70_r20
            simp (disch := omega) [oLt, oLe, oLtN, oLeN, nLt, nLe, nLtN, nLeN, h55, f48, G70, hl'g, ho, hpB]
            refine ⟨fun _ => ?_, by decide⟩
            exact hE _ _ _ .refl (hQ _ _ (EndsP_on [0, 1, 2, 3, 22] (.inl rfl) (by simp) rfl (by simp) rfl (by simp [hpB])))
    · have h' : ¬ (g : Int) < b := by omega
      have hj0 : b - g = 0 := by omega
      rw [hj0] at hp
      simp only [putL] at hp
      have he := endN hp.symm
      rw [he] at hQ
      rw [l170]
      delta p70_r8
      simp (disch := omega) [oLt, oLe, oLtN, oLeN, nLt, nLe, nLtN, nLeN, h']
      refine hE _ _ _ .refl ?_
      delta p70_r21
      simp (disch := omega) [oLt, oLe, oLtN, oLeN, nLt, nLe, nLtN, nLeN]
      exact hQ _ _ (.same (.inl rfl) (by simp) rfl rfl rfl (by simp [hpB]))
  by_cases hxm : (x : Int) < M + 1
  · have hbx : b = x := by omega
    subst hbx
    delta p70 p70_r0 p70_r1 p70_r2 p70_r3 p70_r4 p70_r5 p70_r6 p70_r7
    simp (disch := omega) [oLt, oLe, oLtN, oLeN, nLt, nLe, nLtN, nLeN, hpB, hdc, hst, hml, hxm, maxF]
    exact outer _ (.tot [] (by simp [hpB]))
  · have hbx : b = M + 1 := by omega
    subst hbx
    delta p70 p70_r0 p70_r1 p70_r2 p70_r3 p70_r4 p70_r5 p70_r6 p70_r7
    simp (disch := omega) [oLt, oLe, oLtN, oLeN, nLt, nLe, nLtN, nLeN, hpB, hdc, hst, hml, hxm, maxF]
    exact outer _ (.tot [] (by simp [hpB]))


set_option maxHeartbeats 4000000 in
theorem putA_runs {f : Nat} (ih : (put70 f).ok Try.prog) {t : List Int} {x : Nat} {u : Bool} (hg : g70 (f + 1) t ([] : List Int) x = true) :
    Runs Try.prog 70 3 [.v (.slice none 0 0), vI x, .ptr 0 0, .ptr 1 0, .ptr 2 0] (hpF (hpA t u (.v (.slice none 0 0)))) (outA t u x).1 (outA t u x).2.2 (hpF (outA t u x).2.1) := by
  obtain ⟨ht, h4, hlt, hf, hx1, hx4, hal, hnl, htp⟩ := g70_iff.1 hg
  simp only [List.length_cons, List.length_nil] at hlt hf hnl
  have h0 := nextL_nonneg ([] : List Int)
  obtain ⟨M, hM⟩ := Int.eq_ofNat_of_zero_le h0
  obtain ⟨n0, hn0⟩ : ∃ n0 : Nat, n0 = 0 := ⟨0, rfl⟩
  obtain ⟨r, hr⟩ : ∃ r, t.length - n0 = r + 1 := ⟨t.length - n0 - 1, by omega⟩
  have hR := R70_succ (t := t) (l := ([] : List Int)) (x := x) (r := r) (by simpa [hn0] using hr)
  have hbn : bnd70 ([] : List Int) x = min (M + 1) x := by simp [bnd70, hM]
  have hst : small ([] : List Int) = true := by simp [small] <;> omega
  have hM5 : M ≤ 4 := by have := hnl; rw [hM] at this; omega
  generalize hbb : bnd70 ([] : List Int) x = b at *
  have hb5 : b ≤ 5 := by omega
  have hLl : (([] : List Int) : List Int).length = n0 := by simp [hn0]
  -- how it ends
  have endN : R70 t x ([] : List Int) = none → (outA t u x) = (vB false, hpA t u (.v (.slice none 0 0)), 3) := fun h => by simp only [outA, h]
  have endS : ∀ Lr, R70 t x ([] : List Int) = some Lr → (outA t u x) = (vB true, hpA t u (.ref 3 0 Lr.length 1 none) ++ [(3, Blk.cells (ints Lr))], 4) := fun Lr h => by simp only [outA, h]
  generalize hout : (outA t u x) = out at *
  refine P70.rz (ss := [s48, s49, s54, s55, put70 f]) ⟨s48_ok, s49_ok, s54_ok, s55_ok, ih, trivial⟩ (by simp) fun Q hQ => ?_
  have outer : ∀ s0 : ST, ChgT 3 s0 ⟨[(0, .v (.slice none 0 0)), (1, vI x), (2, .ptr 0 0), (4, .ptr 2 0), (29, vI b), (30, vI ((0 : Nat) : Int))], hpA t u (.v (.slice none 0 0)), 3⟩ →
      XZ (rZ (spc [s48, s49, s54, s55, put70 f])) 3 (.loop p70_l1) s0 (inBE 0 (thenE (fun s' => XZ (rZ (spc [s48, s49, s54, s55, put70 f])) 3 (.seq (.reg p70_r21 [7]) .ret) s' Q) Q)) := by
    intro s0 hs0
    refine XZ_for (fun g : Nat => ⟨[(0, .v (.slice none 0 0)), (1, vI x), (2, .ptr 0 0), (4, .ptr 2 0), (29, vI b), (30, vI g)], hpA t u (.v (.slice none 0 0)), 3⟩) (fun g => b - g) (fun g => g ≤ b ∧ putL canB t (fun l' => putF canB t x r l') ([] : List Int) b (b - g) = R70 t x ([] : List Int)) 0 ⟨by simp, by simpa using hR.symm⟩ hs0 ?_
    rintro g ⟨hgb, hp⟩ N Q' hN hE
    rcases Nat.lt_or_ge g b with h | h
    · obtain ⟨j, hj⟩ : ∃ j, b - g = j + 1 := ⟨b - g - 1, by omega⟩
      have hgj : b - (j + 1) = g := by omega
      have hj' : b - (g + 1) = j := by omega
      rw [hj] at hp
      simp only [putL, hgj] at hp
      have hgc : (g : Int) < b := by omega
      have hg4 : g ≤ 4 := by omega
      have next : putL canB t (fun l' => putF canB t x r l') ([] : List Int) b j = R70 t x ([] : List Int) → ∀ s', ChgT 3 s' ⟨[(0, .v (.slice none 0 0)), (1, vI x), (2, .ptr 0 0), (4, .ptr 2 0), (29, vI b), (30, vI ((g + 1 : Nat) : Int))], hpA t u (.v (.slice none 0 0)), 3⟩ → N s' := fun hp s' hh => hN s' (g + 1) (by omega) ⟨h, by rw [hj']; exact hp⟩ hh
      have h78 := grp_ok8 (d := ([] : List Int) ++ [(g : Int)]) (t := t) (g := g) ht h4
      have hG8 : ok8 (grpL (([] : List Int) ++ [(g : Int)]) t g) = true := by simp only [g78, Bool.and_eq_true] at h78; exact h78.1
      have hG4 : (grpL (([] : List Int) ++ [(g : Int)]) t g).length ≤ 4 := by simp only [g78, Bool.and_eq_true, decide_eq_true_eq] at h78; exact h78.2
      obtain ⟨ga, gb, gc, gd, gev, gsh, hgp, h55⟩ := goes_top hG8 hG4
      -- the stretches of the group
      have inner : ∀ (s0 : ST) (Q2 : Exit → ST → Prop), ChgT 3 s0 ⟨[(0, .v (.slice none 0 0)), (1, vI x), (2, .ptr 0 0), (4, .ptr 2 0), (9, vI g), (10, .v (.slice none 0 0)), (29, vI b), (30, vI g), (37, .ref 3 0 (n0 + 1) 1 none), (38, vI ((n0 + 1 : Nat) : Int)), (39, vI ((0 : Nat) : Int))], hpA t u (.v (.slice none 0 0)) ++ [(3, Blk.cells (ints (([] : List Int) ++ [(g : Int)])))], 4⟩ →
          (Q2 (.exit 2) ⟨[(0, .v (.slice none 0 0)), (1, vI x), (2, .ptr 0 0), (4, .ptr 2 0), (9, vI g), (10, ow 3 (grpL (([] : List Int) ++ [(g : Int)]) t g)), (29, vI b), (30, vI g)], owh 3 (grpL (([] : List Int) ++ [(g : Int)]) t g) (hpA t u (.v (.slice none 0 0))), own (grpL (([] : List Int) ++ [(g : Int)]) t g) 3⟩) → XZ (rZ (spc [s48, s49, s54, s55, put70 f])) 3 (.loop p70_l0) s0 Q2 := by
        intro s0 Q2 hs0 hq
        have hl'l : (([] : List Int) ++ [(g : Int)]).length = n0 + 1 := by simp [hn0]
        have hlt' : n0 + 1 ≤ t.length := by omega
        generalize ([] : List Int) ++ [(g : Int)] = l' at *
        refine XZ_for (fun p : Nat × List Int => ⟨[(0, .v (.slice none 0 0)), (1, vI x), (2, .ptr 0 0), (4, .ptr 2 0), (9, vI g), (10, ow 4 p.2), (29, vI b), (30, vI g), (37, .ref 3 0 (n0 + 1) 1 none), (38, vI ((n0 + 1 : Nat) : Int)), (39, vI p.1)], owh 4 p.2 (hpA t u (.v (.slice none 0 0)) ++ [(3, Blk.cells (ints l'))]), own p.2 4⟩) (fun p => l'.length - p.1) (fun p => p.1 ≤ l'.length ∧ p.2.length ≤ p.1 ∧ p.2 ++ grpL (l'.drop p.1) (t.drop p.1) g = grpL l' t g) (0, []) ⟨by simp, by simp, by simp⟩ hs0 ?_
        rintro ⟨s, acc⟩ ⟨hs, ha, hp⟩ N2 Q3 hN2 hE2
        simp only at hs ha hp ⊢
        rcases Nat.lt_or_ge s l'.length with h1 | h1
        · have h1t : s < t.length := by omega
          have h1c : s < n0 + 1 := by omega
          have h1i : (s : Int) < n0 + 1 := by omega
          obtain ⟨y, q, y1, y2, y3, y4, y5⟩ := drop_split h1t
          obtain ⟨z, w, z1, z2, z3, z4, z5⟩ := drop_split h1
          have z6 : (ints l')[s]? = some (vI z) := by simp [ints, z2]
          rw [grp_drop z1 y1] at hp
          by_cases hx : z = g
          · rw [if_pos hx] at hp
            have fin : ∀ s', ChgT 3 s' ⟨[(0, .v (.slice none 0 0)), (1, vI x), (2, .ptr 0 0), (4, .ptr 2 0), (9, vI g), (10, ow 4 (acc ++ [y])), (29, vI b), (30, vI g), (37, .ref 3 0 (n0 + 1) 1 none), (38, vI ((n0 + 1 : Nat) : Int)), (39, vI ((s + 1 : Nat) : Int))], owh 4 (acc ++ [y]) (hpA t u (.v (.slice none 0 0)) ++ [(3, Blk.cells (ints l'))]), own (acc ++ [y]) 4⟩ → N2 s' := fun s' hh =>
              hN2 s' (s + 1, acc ++ [y]) (by simp only; omega) ⟨h1, by simp; omega, by simp only [z4, y4]; rw [← hp]; simp⟩ hh
            rcases acc with _ | ⟨a0, ar⟩
            · delta p70_l0 p70_r12 p70_r13 p70_r14 p70_r15 p70_r16
              simp (disch := omega) [oLt, oLe, oLtN, oLeN, nLt, nLe, nLtN, nLeN, hpA, h1, h1t, h1c, h1i, z2, z3, z6, y2, y3, hx, hl'l]
              exact fin _ (.tot [37, 10] (by simp [hpA]))
            · exfalso; simp only [List.length_cons] at ha; omega
          · rw [if_neg hx] at hp
            rcases acc with _ | ⟨a0, ar⟩
            · delta p70_l0 p70_r12 p70_r13 p70_r14 p70_r15 p70_r16
              simp (disch := omega) [oLt, oLe, oLtN, oLeN, nLt, nLe, nLtN, nLeN, hpA, h1, h1t, h1c, h1i, z2, z3, z6, y2, y3, hx, hl'l]
              exact hN2 _ (s + 1, []) (by simp only; omega) ⟨h1, by simp, by simp only [z4, y4]; exact hp⟩ (.tot [37] (by simp [hpA]))
            · exfalso; simp only [List.length_cons] at ha; omega
        · have h1c : ¬ s < n0 + 1 := by omega
          have h1i : ¬ (s : Int) < n0 + 1 := by omega
          rw [List.drop_eq_nil_of_le h1] at hp
          simp only [grpL_nil, List.append_nil] at hp
          rw [← hp] at hq
          rcases acc with _ | ⟨a0, ar⟩
          · delta p70_l0 p70_r12 p70_r13 p70_r14 p70_r15 p70_r16
            simp (disch := omega) [oLt, oLe, oLtN, oLeN, nLt, nLe, nLtN, nLeN, hpA, h1c, h1i]
            exact hE2 _ _ _ (.tot [] (by simp [hpA])) hq
          · delta p70_l0 p70_r12 p70_r13 p70_r14 p70_r15 p70_r16
            simp (disch := omega) [oLt, oLe, oLtN, oLeN, nLt, nLe, nLtN, nLeN, hpA, h1c, h1i]
            exact hE2 _ _ _ (.tot [10] (by simp [hpA])) hq
      have hgne : grpL (([] : List Int) ++ [(g : Int)]) t g ≠ [] := by
        rw [own_pre (by omega)]
        have : t.drop (([] : List Int) : List Int).length ≠ [] := by
          intro e; have := congrArg List.length e; simp only [List.length_drop, List.length_cons, List.length_nil] at this; omega
        cases htd : t.drop (([] : List Int) : List Int).length with
        | nil => exact absurd htd this
        | cons a r' => simp [grpL]
      rw [l170]
      delta p70_r8 p70_r9 p70_r10 p70_r11
      simp (disch := omega) [oLt, oLe, oLtN, oLeN, nLt, nLe, nLtN, nLeN, hpA, hgc, hg4, f48]
      refine inner _ _ (.tot [37] (by simp [hpA, hn0])) ?_
      have hgM : (g : Int) ≤ M := by omega
      have hl'g : g70 f t [(g : Int)] x = true := by
        have e : nextL [(g : Int)] = max (M : Int) (g + 1) := by rw [← hM]; exact nextL_app ([] : List Int) g
        refine g70_iff.2 ⟨ht, h4, by simp; omega, by simp; omega, hx1, hx4, fun y hy => ?_, by rw [e]; simp; omega, htp⟩
        have : y ∈ ([] : List Int) ++ [(g : Int)] := hy
        rw [List.mem_append] at this
        rcases this with h | h
        · exact hal y h
        · simp at h; omega
      have hl'R : R70 t x [(g : Int)] = putF canB t x r (([] : List Int) ++ [(g : Int)]) := by
        have e : t.length - ([(g : Int)] : List Int).length = r := by simp; omega
        simp only [R70, e]; rfl
      rw [← hl'R] at hp
      generalize grpL (([] : List Int) ++ [(g : Int)]) t g = G at *
      rcases G with _ | ⟨G0, Gr⟩
      · exact absurd rfl hgne
      delta p70_r17
      simp (disch := omega) [oLt, oLe, oLtN, oLeN, nLt, nLe, nLtN, nLeN, hpA, hG4, hgp, shp]
      cases hcb : canB (G0 :: Gr) with
      | false =>
        rw [hcb] at h55 hp
        simp only [Bool.false_eq_true, if_false] at hp
        delta p70_r18 p70_r19 p70_r20
        simp (disch := omega) [oLt, oLe, oLtN, oLeN, nLt, nLe, nLtN, nLeN, h55]
        refine ⟨fun _ => ?_, by decide⟩
        exact next hp _ (.tot [] (by simp [hpA]))
      | true =>
        rw [hcb] at h55 hp
        simp only [if_true] at hp
        cases hrec : R70 t x [(g : Int)] with
        | none =>
          rw [hrec] at hp
          simp only at hp
          have ho : outB t [(g : Int)] u x = (vB false, hpB t [(g : Int)] u (.v (.slice none 0 0)), 4) := by simp only [outB, hrec]
          delta p70_r18 p70_r19 p70_r20
          simp (disch := omega) [oLt, oLe, oLtN, oLeN, nLt, nLe, nLtN, nLeN, h55, f48, G70, hl'g, ho, hpB]
          refine ⟨fun _ => ?_, by decide⟩
          exact next hp _ (.tot [] (by simp [hpA]))
        | some Lr =>
          rw [hrec] at hp
          simp only at hp
          have he := endS Lr hp.symm
          rw [he] at hQ
          by_cases hd' : ([(g : Int)] : List Int).length = t.length
          · have hr0 : r = 0 := by simp at hd'; omega
            subst hr0
            have hLr : Lr = [(g : Int)] := by rw [hl'R] at hrec; simp only [putF, Option.some.injEq] at hrec; exact hrec.symm
            subst hLr
            have ho : outB t [(g : Int)] u x = (vB true, hpB t [(g : Int)] u (.ref 0 0 ([(g : Int)] : List Int).length 1 none), 4) := by simp only [outB, hrec]; rw [if_pos hd']
            simp only [List.length_cons, List.length_append, List.length_nil] at hd' ho
            delta p70_r18 p70_r19 p70_r20
            simp (disch := omega) [oLt, oLe, oLtN, oLeN, nLt, nLe, nLtN, nLeN, h55, f48, G70, hl'g, ho, hpB]
            refine ⟨fun _ => ?_, by decide⟩
            exact hE _ _ _ .refl (hQ _ _ (EndsP_on [0, 1, 2, 19] (.inl rfl) (by simp) rfl (by simp) rfl (by simp [hpA])))
          · have ho : outB t [(g : Int)] u x = (vB true, hpB t [(g : Int)] u (.ref 4 0 Lr.length 1 none) ++ [(4, .cells (ints Lr))], 5) := by simp only [outB, hrec]; rw [if_neg hd']
            delta p70_r18 p70_r19 p70_r20
            simp (disch := omega) [oLt, oLe, oLtN, oLeN, nLt, nLe, nLtN, nLeN, h55, f48, G70, hl'g, ho, hpB]
            refine ⟨fun _ => ?_, by decide⟩
            exact hE _ _ _ .refl (hQ _ _ (EndsP_on [0, 1, 2, 21] (.inl rfl) (by simp) rfl (by simp) rfl (by simp [hpA])))
    · have h' : ¬ (g : Int) < b := by omega
      have hj0 : b - g = 0 := by omega
      rw [hj0] at hp
      simp only [putL] at hp
      have he := endN hp.symm
      rw [he] at hQ
      rw [l170]
      delta p70_r8
      simp (disch := omega) [oLt, oLe, oLtN, oLeN, nLt, nLe, nLtN, nLeN, h']
      refine hE _ _ _ .refl ?_
      delta p70_r21
      simp (disch := omega) [oLt, oLe, oLtN, oLeN, nLt, nLe, nLtN, nLeN]
      exact hQ _ _ (.same (.inl rfl) (by simp) rfl rfl rfl (by simp [hpA]))
  have hM0 : M = 0 := by simp [nextL] at hM; omega
  subst hM0
  have htc : ¬ (0 : Int) = t.length := by omega
  have hxm : ¬ (x : Int) < 1 := by omega
  have hbx : b = 1 := by omega
  subst hbx
  delta p70 p70_r0 p70_r1 p70_r2 p70_r3 p70_r4 p70_r5 p70_r6 p70_r7
  simp (disch := omega) [oLt, oLe, oLtN, oLeN, nLt, nLe, nLtN, nLeN, hpA, htc, hxm]
  exact outer _ (.tot [] (by simp [hpA]))


theorem put70_of {f : Nat} (hA : ∀ {t : List Int} {x : Nat} {u : Bool}, g70 f t [] x = true → Runs Try.prog 70 3 [.v (.slice none 0 0), vI x, .ptr 0 0, .ptr 1 0, .ptr 2 0] (hpF (hpA t u (.v (.slice none 0 0)))) (outA t u x).1 (outA t u x).2.2 (hpF (outA t u x).2.1))
    (hB : ∀ {t : List Int} {l0 : Int} {lr : List Int} {x : Nat} {u : Bool}, g70 f t (l0 :: lr) x = true → Runs Try.prog 70 4 [.ref 0 0 (lr.length + 1) 1 none, vI x, .ptr 1 0, .ptr 2 0, .ptr 3 0] (hpF (hpB t (l0 :: lr) u (.v (.slice none 0 0)))) (outB t (l0 :: lr) u x).1 (outB t (l0 :: lr) u x).2.2 (hpF (outB t (l0 :: lr) u x).2.1)) : (put70 f).ok Try.prog := by
  intro args h k r h' k' hh
  simp only [put70_f, G70] at hh
  split at hh
  · rename_i x ct n u
    split at hh
    · rename_i t ht
      split at hh
      · rename_i hc
        obtain ⟨hn, hx, hg⟩ := hc
        obtain ⟨x, rfl⟩ := Int.eq_ofNat_of_zero_le hx
        have hr := hA (u := u) hg
        simp only [Option.some.injEq, Int.toNat_natCast] at hh hr
        rw [hh] at hr
        rw [unints_inv ht, hn]
        simp only [hp_eq]
        exact hr
      · cases hh
    · cases hh
  · rename_i m x cl ct n u
    split at hh
    · rename_i l hl
      split at hh
      · rename_i t ht
        split at hh
        · rename_i hc
          obtain ⟨hn, hm, hne, hx, hg⟩ := hc
          obtain ⟨x, rfl⟩ := Int.eq_ofNat_of_zero_le hx
          rcases l with _ | ⟨l0, lr⟩
          · exact absurd rfl hne
          have hr := hB (u := u) hg
          simp only [Option.some.injEq, Int.toNat_natCast] at hh hr
          rw [hh] at hr
          rw [unints_inv ht, unints_inv hl, hn, hm]
          simp only [hp_eq]
          exact hr
        · cases hh
      · cases hh
    · cases hh
  · cases hh
theorem put70_ok : ∀ f, (put70 f).ok Try.prog
  | 0 => put70_of (fun hg => by have := (g70_iff.1 hg).2.2.2.1; omega) (fun hg => by have := (g70_iff.1 hg).2.2.2.1; omega)
  | f + 1 => put70_of (fun hg => putA_runs (put70_ok f) hg) (fun hg => putB_runs (put70_ok f) hg)
end Go.Sx.Wk
