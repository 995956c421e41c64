/- The search for a ring, from nothing on (printed by mkPut.py). No conditions. -/
import Derived.Test.YtfiebjbhiflfpaaDoorSxJHP2toHP3
set_option linter.unusedVariables false
set_option linter.unusedSimpArgs false
set_option maxRecDepth 4000
namespace Go.Sx.Ch
open Go Go.Sx Go.Proofs

theorem r5 : List.range 5 = [0, 1, 2, 3, 4] := rfl
/-- The states of the loop. -/
def stT (N : List Nat) (C : List Int) (m : Int) (P p : Nat) : ST :=
  ⟨[(0, .v (.slice none 0 0)), (1, .v (.int .u32 0)), (4, .ptr 2 0), (6, .ptr 4 0), (10, vI 0), (33, vI P), (34, vI p)], hpR 0 m .any N C, 5⟩
set_option maxHeartbeats 1000000
theorem put_Tn {N : List Nat} {C : List Int} {f P p : Nat} {m : Int} {N1 : ST → Prop} {Q1 : Exit → ST → Prop} (hp16 : p < 16) (hP16 : P ≤ 16) (hpc : (p : Int) < P) (hsr : ∀ u v, effPlain2 Tryd.prog (fun a b => do eqGuard .shr 65 u v a b; binOp .shr 65 a b) (.v (.int .u32 0)) (vI p) = ret (.v (.int .u32 0))) (han : ∀ u v, effPlain2 Tryd.prog (fun a b => do eqGuard .and 65 u v a b; binOp .and 65 a b) (.v (.int .u32 0)) (.v (.int .u32 1)) = ret (.v (.int .u32 0))) {B : Nat} (hsh : ∀ u z, effPlain2 Tryd.prog (fun a b => do eqGuard .shl 65 u z a b; binOp .shl 65 a b) (.v (.int .u32 1)) (vI p) = ret (vU B)) (hor : ∀ u z, effPlain2 Tryd.prog (fun a b => do eqGuard .or 65 u z a b; binOp .or 65 a b) (.v (.int .u32 0)) (vU B) = ret (vU B)) (hgd : GdR f N C m [(p : Int)] (B : Nat)) (hrr : ringR (JN N) N.length m.toNat f [(p : Int)] = none) (fin : ∀ s', ChgT 5 s' (stT N C m P (p + 1)) → N1 s') :
    XZ (rZ (spc [s82, s81r f N C])) 5 p81_l0 (stT N C m P p) (thenE N1 Q1) := by
  unfold stT at *
  simp only [hpR, putA, Nat.zero_add] at *
  delta p81_l0
  refine XZ_step ?_ (fun N Q_ hN => ?_) ?_
  rotate_left
  · delta p81_r6; simp (disch := omega) [oLt, oLe, oLtN, oLeN, nLt, nLe, nLtN, nLeN, hpc]
    exact hN
  refine XZ_step ?_ (fun N_ Q_ hN_ => ?_) ?_
  rotate_left
  · simp (disch := omega) [oLt, oLe, oLtN, oLeN, nLt, nLe, nLtN, nLeN, hpc]
    exact hN_
  refine XZ_seqG (XZ_blockG ?_)
  refine XZ_step ?_ (fun N Q_ hN => ?_) ?_
  rotate_left
  · delta p81_r7; simp (disch := omega) [oLt, oLe, oLtN, oLeN, nLt, nLe, nLtN, nLeN]
    exact hN
  refine XZ_seqG (XZ_drawG ?_)
  delta p81_r8
  refine zD_cut 5 ?_ ?_ (fun K_ hK => ?_) ?_
  rotate_left 2
  · simp only [List.take_succ_cons, List.take_zero]
    simp (disch := omega) [oLt, oLe, oLtN, oLeN, nLt, nLe, nLtN, nLeN, hsr, han, hsh, hor, hgd, hrr, resR, hpR, putA, r6]
    exact hK
  simp only [List.drop_succ_cons, List.drop_zero]
  refine zD_cut 3 ?_ ?_ (fun K_ hK => ?_) ?_
  rotate_left 2
  · simp only [List.take_succ_cons, List.take_zero]
    simp (disch := omega) [oLt, oLe, oLtN, oLeN, nLt, nLe, nLtN, nLeN, hsr, han, hsh, hor, hgd, hrr, resR, hpR, putA, r6]
    exact hK
  simp only [List.drop_succ_cons, List.drop_zero]
  refine zD_cut 6 ?_ ?_ (fun K_ hK => ?_) ?_
  rotate_left 2
  · simp only [List.take_succ_cons, List.take_zero]
    simp (disch := omega) [oLt, oLe, oLtN, oLeN, nLt, nLe, nLtN, nLeN, hsr, han, hsh, hor, hgd, hrr, resR, hpR, putA, r6]
    exact hK
  simp only [List.drop_succ_cons, List.drop_zero]
  refine zD_cut 6 ?_ ?_ (fun K_ hK => ?_) ?_
  rotate_left 2
  · simp only [List.take_succ_cons, List.take_zero]
    simp (disch := omega) [oLt, oLe, oLtN, oLeN, nLt, nLe, nLtN, nLeN, hsr, han, hsh, hor, hgd, hrr, resR, hpR, putA, r6]
    exact hK
  simp only [List.drop_succ_cons, List.drop_zero]
  refine zD_cut 4 ?_ ?_ (fun K_ hK => ?_) ?_
  rotate_left 2
  · simp only [List.take_succ_cons, List.take_zero]
    simp (disch := omega) [oLt, oLe, oLtN, oLeN, nLt, nLe, nLtN, nLeN, hsr, han, hsh, hor, hgd, hrr, resR, hpR, putA, r6]
    exact hK
  simp only [List.drop_succ_cons, List.drop_zero]
  refine zD_cut 4 ?_ ?_ (fun K_ hK => ?_) ?_
  rotate_left 2
  · simp only [List.take_succ_cons, List.take_zero]
    simp (disch := omega) [oLt, oLe, oLtN, oLeN, nLt, nLe, nLtN, nLeN, hsr, han, hsh, hor, hgd, hrr, resR, hpR, putA, r6]
    exact hK
  simp only [List.drop_succ_cons, List.drop_zero]
  refine zD_cut 4 ?_ ?_ (fun K_ hK => ?_) ?_
  rotate_left 2
  · simp only [List.take_succ_cons, List.take_zero]
    simp (disch := omega) [oLt, oLe, oLtN, oLeN, nLt, nLe, nLtN, nLeN, hsr, han, hsh, hor, hgd, hrr, resR, hpR, putA, r6]
    exact hK
  simp only [List.drop_succ_cons, List.drop_zero]
  refine zD_cut 2 ?_ ?_ (fun K_ hK => ?_) ?_
  rotate_left 2
  · simp only [List.take_succ_cons, List.take_zero]
    simp (disch := omega) [oLt, oLe, oLtN, oLeN, nLt, nLe, nLtN, nLeN, hsr, han, hsh, hor, hgd, hrr, resR, hpR, putA, r6]
    exact hK
  simp only [List.drop_succ_cons, List.drop_zero]
  refine zD_cut 2 ?_ ?_ (fun K_ hK => ?_) ?_
  rotate_left 2
  · simp only [List.take_succ_cons, List.take_zero]
    simp (disch := omega) [oLt, oLe, oLtN, oLeN, nLt, nLe, nLtN, nLeN, hsr, han, hsh, hor, hgd, hrr, resR, hpR, putA, r6]
    exact hK
  simp only [List.drop_succ_cons, List.drop_zero]
  refine goD_ok (by decide) ?_
  delta p81_r9 p81_r10
  simp (disch := omega) [oLt, oLe, oLtN, oLeN, nLt, nLe, nLtN, nLeN]
  exact fin _ (.to [0, 1, 2, 3, 4] (by simp [r5]))
theorem put_Ts {N : List Nat} {C : List Int} {f P p : Nat} {m : Int} {N1 : ST → Prop} {Q1 : Exit → ST → Prop} (hp16 : p < 16) (hP16 : P ≤ 16) (hpc : (p : Int) < P) (hsr : ∀ u v, effPlain2 Tryd.prog (fun a b => do eqGuard .shr 65 u v a b; binOp .shr 65 a b) (.v (.int .u32 0)) (vI p) = ret (.v (.int .u32 0))) (han : ∀ u v, effPlain2 Tryd.prog (fun a b => do eqGuard .and 65 u v a b; binOp .and 65 a b) (.v (.int .u32 0)) (.v (.int .u32 1)) = ret (.v (.int .u32 0))) {B : Nat} (hsh : ∀ u z, effPlain2 Tryd.prog (fun a b => do eqGuard .shl 65 u z a b; binOp .shl 65 a b) (.v (.int .u32 1)) (vI p) = ret (vU B)) (hor : ∀ u z, effPlain2 Tryd.prog (fun a b => do eqGuard .or 65 u z a b; binOp .or 65 a b) (.v (.int .u32 0)) (vU B) = ret (vU B)) (hgd : GdR f N C m [(p : Int)] (B : Nat)) {q : List Int} (hrr : ringR (JN N) N.length m.toNat f [(p : Int)] = some q) (fin : ∀ s', ChgT 5 s' ⟨[(9, vB true)], hpR 0 m (.il (ints q) q.length false) N C, 5⟩ → Q1 .ret s') :
    XZ (rZ (spc [s82, s81r f N C])) 5 p81_l0 (stT N C m P p) (thenE N1 Q1) := by
  unfold stT at *
  simp only [hpR, putA, Nat.zero_add] at *
  delta p81_l0
  refine XZ_step ?_ (fun N Q_ hN => ?_) ?_
  rotate_left
  · delta p81_r6; simp (disch := omega) [oLt, oLe, oLtN, oLeN, nLt, nLe, nLtN, nLeN, hpc]
    exact hN
  refine XZ_step ?_ (fun N_ Q_ hN_ => ?_) ?_
  rotate_left
  · simp (disch := omega) [oLt, oLe, oLtN, oLeN, nLt, nLe, nLtN, nLeN, hpc]
    exact hN_
  refine XZ_seqG (XZ_blockG ?_)
  refine XZ_step ?_ (fun N Q_ hN => ?_) ?_
  rotate_left
  · delta p81_r7; simp (disch := omega) [oLt, oLe, oLtN, oLeN, nLt, nLe, nLtN, nLeN]
    exact hN
  refine XZ_seqG (XZ_drawG ?_)
  delta p81_r8
  refine zD_cut 5 ?_ ?_ (fun K_ hK => ?_) ?_
  rotate_left 2
  · simp only [List.take_succ_cons, List.take_zero]
    simp (disch := omega) [oLt, oLe, oLtN, oLeN, nLt, nLe, nLtN, nLeN, hsr, han, hsh, hor, hgd, hrr, resR, hpR, putA, r6]
    exact hK
  simp only [List.drop_succ_cons, List.drop_zero]
  refine zD_cut 3 ?_ ?_ (fun K_ hK => ?_) ?_
  rotate_left 2
  · simp only [List.take_succ_cons, List.take_zero]
    simp (disch := omega) [oLt, oLe, oLtN, oLeN, nLt, nLe, nLtN, nLeN, hsr, han, hsh, hor, hgd, hrr, resR, hpR, putA, r6]
    exact hK
  simp only [List.drop_succ_cons, List.drop_zero]
  refine zD_cut 6 ?_ ?_ (fun K_ hK => ?_) ?_
  rotate_left 2
  · simp only [List.take_succ_cons, List.take_zero]
    simp (disch := omega) [oLt, oLe, oLtN, oLeN, nLt, nLe, nLtN, nLeN, hsr, han, hsh, hor, hgd, hrr, resR, hpR, putA, r6]
    exact hK
  simp only [List.drop_succ_cons, List.drop_zero]
  refine zD_cut 6 ?_ ?_ (fun K_ hK => ?_) ?_
  rotate_left 2
  · simp only [List.take_succ_cons, List.take_zero]
    simp (disch := omega) [oLt, oLe, oLtN, oLeN, nLt, nLe, nLtN, nLeN, hsr, han, hsh, hor, hgd, hrr, resR, hpR, putA, r6]
    exact hK
  simp only [List.drop_succ_cons, List.drop_zero]
  refine zD_cut 4 ?_ ?_ (fun K_ hK => ?_) ?_
  rotate_left 2
  · simp only [List.take_succ_cons, List.take_zero]
    simp (disch := omega) [oLt, oLe, oLtN, oLeN, nLt, nLe, nLtN, nLeN, hsr, han, hsh, hor, hgd, hrr, resR, hpR, putA, r6]
    exact hK
  simp only [List.drop_succ_cons, List.drop_zero]
  refine zD_cut 4 ?_ ?_ (fun K_ hK => ?_) ?_
  rotate_left 2
  · simp only [List.take_succ_cons, List.take_zero]
    simp (disch := omega) [oLt, oLe, oLtN, oLeN, nLt, nLe, nLtN, nLeN, hsr, han, hsh, hor, hgd, hrr, resR, hpR, putA, r6]
    exact hK
  simp only [List.drop_succ_cons, List.drop_zero]
  refine zD_cut 4 ?_ ?_ (fun K_ hK => ?_) ?_
  rotate_left 2
  · simp only [List.take_succ_cons, List.take_zero]
    simp (disch := omega) [oLt, oLe, oLtN, oLeN, nLt, nLe, nLtN, nLeN, hsr, han, hsh, hor, hgd, hrr, resR, hpR, putA, r6]
    exact hK
  simp only [List.drop_succ_cons, List.drop_zero]
  refine zD_cut 2 ?_ ?_ (fun K_ hK => ?_) ?_
  rotate_left 2
  · simp only [List.take_succ_cons, List.take_zero]
    simp (disch := omega) [oLt, oLe, oLtN, oLeN, nLt, nLe, nLtN, nLeN, hsr, han, hsh, hor, hgd, hrr, resR, hpR, putA, r6]
    exact hK
  simp only [List.drop_succ_cons, List.drop_zero]
  refine zD_cut 2 ?_ ?_ (fun K_ hK => ?_) ?_
  rotate_left 2
  · simp only [List.take_succ_cons, List.take_zero]
    simp (disch := omega) [oLt, oLe, oLtN, oLeN, nLt, nLe, nLtN, nLeN, hsr, han, hsh, hor, hgd, hrr, resR, hpR, putA, r6]
    exact hK
  simp only [List.drop_succ_cons, List.drop_zero]
  refine goD_ok (by decide) ?_
  delta p81_r9 p81_r10
  simp (disch := omega) [oLt, oLe, oLtN, oLeN, nLt, nLe, nLtN, nLeN]
  exact fin _ (.to [0, 1, 2, 3, 4] (by simp [r5]))
open Classical in
noncomputable def s81t (f : Nat) (N : List Nat) (C : List Int) : Sp := ⟨81, fun args h k => match args, h with
  | .v (.slice none 0 0) :: .v (.int .u32 met) :: rest, (0, .cells [.v (.int .i64 many)]) :: hr => if met = 0 ∧ k = 5 ∧ rest = [.ptr 0 0, .ptr 1 0, .ptr 2 0, .ptr 3 0, .ptr 4 0] ∧ hr = (hpR 0 many .any N C).tail ∧ GdR f N C many [] 0 then
        resR 0 many N C 5 (ringR (JN N) N.length many.toNat f []) else none
  | _, _ => none⟩
@[simp] theorem s81t_g (f : Nat) (N : List Nat) (C : List Int) : (s81t f N C).g = 81 := rfl
open Classical in
@[simp] theorem s81t_f (f : Nat) (N : List Nat) (C : List Int) (met many : Int) : (s81t f N C).f [.v (.slice none 0 0), .v (.int .u32 met), .ptr 0 0, .ptr 1 0, .ptr 2 0, .ptr 3 0, .ptr 4 0]
    [(0, .cells [.v (.int .i64 many)]), (1, .cells [.any]), (2, .cells [.il (uws N) N.length false]), (3, .cells (ints C)), (4, .cells [.fn (.func 81) [] [.ptr 0 0, .ptr 1 0, .ptr 2 0, .ptr 3 0, .ptr 4 0]])] 5 =
    if met = 0 ∧ GdR f N C many [] 0 then resR 0 many N C 5 (ringR (JN N) N.length many.toNat f []) else none := by
  simp only [s81t]
  simp [hpR, putA]
theorem s81t_ok {N : List Nat} {C : List Int} (f : Nat) : (s81t (f + 1) N C).ok Tryd.prog := by
  intro args hl k r h' k' hh
  unfold s81t at hh
  simp only at hh
  split at hh
  · rename_i met rest many hr0
    split at hh
    · rename_i hc
      obtain ⟨rfl, rfl, rfl, rfl, hg⟩ := hc
      have hr := hh
      have ih := s81r_ok (N := N) (C := C) f
      simp only [hp_eq]
      obtain ⟨h80, hN, m0, m1, hbl, hle, hfu, -⟩ := hg
      obtain ⟨m, rfl⟩ := Int.eq_ofNat_of_zero_le (show 0 ≤ many by omega)
      obtain ⟨nn, P, h34, hnn, hP, h0, h33, en, eP, hf⟩ := g80_facts h80
      have h33' := (List.getElem?_eq_some_iff.1 h33).2
      have hNl : N.length = P := by rw [← hN]; unfold nearF; rw [nearN_len, eP]; simp
      rw [Int.toNat_natCast, hNl] at hr
      refine P81.rz (ss := [s82, s81r f N C]) ⟨s82_ok, ih, trivial⟩ (by simp) fun Q hQ => ?_
      have hT : ringR (JN N) P m (f + 1) [] = tryF (fun p => if okP (JN N) [] p then ringR (JN N) P m f [(p : Int)] else none) P 0 := by
        simp only [ringR]; rw [if_neg (by simp; omega)]; rfl
      have hmc : ¬ (0 : Int) = m := by omega
      delta p81 p81_r0 p81_r1 p81_r2 p81_r3 p81_r4 p81_r5
      simp (disch := omega) [oLt, oLe, oLtN, oLeN, nLt, nLe, nLtN, nLeN, hpR, putA, hmc, h33, h33', h34]
      refine XZ_for (fun p : Nat => stT N C m P p) (fun p => P - p) (fun p => p ≤ P ∧ tryF (fun p => if okP (JN N) [] p then ringR (JN N) P m f [(p : Int)] else none) (P - p) p = ringR (JN N) P m (f + 1) []) 0 ⟨Nat.zero_le _, by rw [hT]; rfl⟩ (.to [0, 1, 2, 3, 4] (by simp [stT, hpR, putA, r5])) ?_
      rintro p ⟨hp, hinv⟩ N1 Q1 hN1 hE
      rcases Nat.lt_or_ge p P with h | h
      · have hpc : (p : Int) < P := by omega
        have hp16 : p < 16 := by omega
        have hst : P - p = (P - (p + 1)) + 1 := by omega
        rw [hst] at hinv
        simp only [tryF] at hinv
        have hok : okP (JN N) [] p = true := rfl
        rw [hok, if_pos rfl] at hinv
        have hsr : ∀ u v, effPlain2 Tryd.prog (fun a b => do eqGuard .shr 65 u v a b; binOp .shr 65 a b) (.v (.int .u32 0)) (vI p) = ret (.v (.int .u32 0)) := fun u v => by
          have := shr32 u v (a := 0) (by omega) hp16
          rw [Nat.zero_div] at this
          exact this
        have han : ∀ u v, effPlain2 Tryd.prog (fun a b => do eqGuard .and 65 u v a b; binOp .and 65 a b) (.v (.int .u32 0)) (.v (.int .u32 1)) = ret (.v (.int .u32 0)) := fun u v => by
          exact and32 u v (a := 0) (by omega)
        have h2p : 2 ^ p < 2 ^ 16 := Nat.pow_lt_pow_right (by omega) hp16
        have hsh := fun u v => shl32 u v hp16
        have hMp := maskL_push [] p
        obtain ⟨B, hB⟩ : ∃ B, 2 ^ p = B := ⟨_, rfl⟩
        rw [hB] at hMp h2p hsh
        have hor : ∀ u z, effPlain2 Tryd.prog (fun a b => do eqGuard .or 65 u z a b; binOp .or 65 a b) (.v (.int .u32 0)) (vU B) = ret (vU B) := fun u z => by
          have := or32 u z (a := 0) (b := B) (by omega) (by omega)
          rw [Nat.zero_or] at this
          exact this
        have hmask : maskL [(p : Int)] = B := by
          have h0 : maskL [] = 0 := rfl
          rw [h0] at hMp
          simpa using hMp
        have hgd : GdR f N C m [(p : Int)] (B : Nat) := ⟨h80, hN, m0, m1, by rw [hNl]; exact below_push (pre := []) (fun x hx => by cases hx) h, by simp; omega, by simp at hfu ⊢; omega, by rw [hmask]⟩
        have hrm : (m : Int).toNat = m := Int.toNat_natCast m
        cases hrr : ringR (JN N) P m f [(p : Int)] with
        | some q =>
          rw [hrr] at hinv
          simp only at hinv
          rw [← hinv] at hr
          cases hr
          exact put_Ts hp16 hP hpc hsr han hsh hor hgd (by rw [hNl, hrm]; exact hrr) (fun s' hh => hE _ _ _ hh (hQ _ _ (.same (.inl rfl) (by simp) rfl rfl rfl (by simp [hpR, putA, r5]))))
        | none =>
          rw [hrr] at hinv
          simp only at hinv
          exact put_Tn hp16 hP hpc hsr han hsh hor hgd (by rw [hNl, hrm]; exact hrr) (fun s' hh => hN1 s' (p + 1) (by omega) ⟨h, hinv⟩ hh)
      · obtain rfl : p = P := by omega
        have hpc : ¬ (p : Int) < p := by omega
        rw [Nat.sub_self] at hinv
        simp only [tryF] at hinv
        rw [← hinv] at hr
        cases hr
        unfold stT
        delta p81_l0 p81_r6 p81_r7 p81_r8 p81_r9 p81_r10
        simp (disch := omega) [oLt, oLe, oLtN, oLeN, nLt, nLe, nLtN, nLeN, hpR, putA, hpc]
        refine hE _ _ _ .refl ?_
        delta p81_r11
        simp (disch := omega) [oLt, oLe, oLtN, oLeN, nLt, nLe, nLtN, nLeN]
        exact hQ _ _ (.same (.inl rfl) (by simp) rfl rfl rfl (by simp [hpR, putA, r5]))
    · cases hh
  · cases hh
end Go.Sx.Ch
