/- The body of the loop of the search for a ring, case by case (printed by mkPut.py). No conditions. -/
import Derived.Test.YtfiebjbhiflfpaaDoorSxJHOtoHP
import Derived.Test.YtfiebjbhiflfpaaDoorSxJSttoSd
set_option linter.unusedVariables false
set_option linter.unusedSimpArgs false
set_option maxRecDepth 4000
namespace Go.Sx.Ch
open Go Go.Sx Go.Proofs

attribute [simp] evCall reach idsB idsL ids inA Go.Sx.inL Go.Sx.inM inB allHp enumH gl renB
@[simp] theorem idsL_app : ∀ a b : List AV, idsL (a ++ b) = idsL a ++ idsL b
  | [], b => rfl
  | x :: a, b => by cases x <;> simp [idsL, idsL_app a b]
@[simp] theorem inL_app (p : Nat → Bool) : ∀ a b : List AV, Go.Sx.inL p (a ++ b) = (Go.Sx.inL p a && Go.Sx.inL p b)
  | [], b => by simp
  | x :: a, b => by rw [List.cons_append, Go.Sx.inL, Go.Sx.inL, inL_app p a b, Bool.and_assoc]
@[simp] theorem idsL_ints : ∀ l : List Int, idsL (ints l) = []
  | [] => rfl
  | x :: l => by rw [ints_cons, idsL, idsL_ints l]
@[simp] theorem inL_ints (p : Nat → Bool) : ∀ l : List Int, Go.Sx.inL p (ints l) = true
  | [] => rfl
  | x :: l => by rw [ints_cons, Go.Sx.inL, inL_ints p l]; rfl
theorem XZ_blockG {R : Rsv} {k0 : Nat} {id : Nat} {b : PCode} {s : ST} {Q : Exit → ST → Prop} (h : XZ R k0 b s (inBE id Q)) : XZ R k0 (.block id b) s Q := h
/-- The states of the loop. -/
def stU (N : List Nat) (C : List Int) (m : Int) (pre : List Int) (M P p : Nat) : ST :=
  ⟨[(0, .il (ints pre) pre.length false), (1, vU M), (4, .ptr 3 0), (6, .ptr 5 0), (10, vI pre.length), (33, vI P), (34, vI p)], hpR 1 m .any N C, 6⟩
set_option maxHeartbeats 1000000
theorem put_A {N : List Nat} {C : List Int} {f P p : Nat} {m : Int} {pre : List Int} {M y : Nat} {N1 : ST → Prop} {Q1 : Exit → ST → Prop} (hp16 : p < 16) (hP16 : P ≤ 16) (hpc : (p : Int) < P) (hpn : pre.length ≤ 16) (hsr : ∀ u v, effPlain2 Tryd.prog (fun a b => do eqGuard .shr 65 u v a b; binOp .shr 65 a b) (vU M) (vI p) = ret (vU y)) (han : ∀ u v, effPlain2 Tryd.prog (fun a b => do eqGuard .and 65 u v a b; binOp .and 65 a b) (vU y) (.v (.int .u32 1)) = ret (vU 1)) (fin : ∀ s', ChgT 6 s' (stU N C m pre M P (p + 1)) → N1 s') :
    XZ (rZ (spc [s82, s81r f N C])) 6 p81_l0 (stU N C m pre M P p) (thenE N1 Q1) := by
  unfold stU at *
  simp only [hpR, putA] at *
  delta p81_l0
  refine XZ_step ?_ (fun N Q_ hN => ?_) ?_
  rotate_left
  · delta p81_r6; simp (disch := omega) [oLt, oLe, oLtN, oLeN, nLt, nLe, nLtN, nLeN, hpc]
    exact hN
  refine XZ_step ?_ (fun N_ Q_ hN_ => ?_) ?_
  rotate_left
  · simp (disch := omega) [oLt, oLe, oLtN, oLeN, nLt, nLe, nLtN, nLeN, hpc]
    exact hN_
  refine XZ_seqG (XZ_blockG ?_)
  refine XZ_step ?_ (fun N Q_ hN => ?_) ?_
  rotate_left
  · delta p81_r7; simp (disch := omega) [oLt, oLe, oLtN, oLeN, nLt, nLe, nLtN, nLeN]
    exact hN
  refine XZ_seqG (XZ_drawG ?_)
  delta p81_r8
  refine zD_cut 5 ?_ ?_ (fun K_ hK => ?_) ?_
  rotate_left 2
  · simp only [List.take_succ_cons, List.take_zero]
    simp (disch := omega) [oLt, oLe, oLtN, oLeN, nLt, nLe, nLtN, nLeN, hsr, han]
    exact hK
  simp only [List.drop_succ_cons, List.drop_zero]
  refine zD_cut 3 ?_ ?_ (fun K_ hK => ?_) ?_
  rotate_left 2
  · simp only [List.take_succ_cons, List.take_zero]
    simp (disch := omega) [oLt, oLe, oLtN, oLeN, nLt, nLe, nLtN, nLeN, hsr, han]
    exact hK
  simp only [List.drop_succ_cons, List.drop_zero]
  refine zD_cut 6 ?_ ?_ (fun K_ hK => ?_) ?_
  rotate_left 2
  · simp only [List.take_succ_cons, List.take_zero]
    simp (disch := omega) [oLt, oLe, oLtN, oLeN, nLt, nLe, nLtN, nLeN, hsr, han]
    exact hK
  simp only [List.drop_succ_cons, List.drop_zero]
  refine zD_cut 6 ?_ ?_ (fun K_ hK => ?_) ?_
  rotate_left 2
  · simp only [List.take_succ_cons, List.take_zero]
    simp (disch := omega) [oLt, oLe, oLtN, oLeN, nLt, nLe, nLtN, nLeN, hsr, han]
    exact hK
  simp only [List.drop_succ_cons, List.drop_zero]
  refine zD_cut 4 ?_ ?_ (fun K_ hK => ?_) ?_
  rotate_left 2
  · simp only [List.take_succ_cons, List.take_zero]
    simp (disch := omega) [oLt, oLe, oLtN, oLeN, nLt, nLe, nLtN, nLeN, hsr, han]
    exact hK
  simp only [List.drop_succ_cons, List.drop_zero]
  refine zD_cut 4 ?_ ?_ (fun K_ hK => ?_) ?_
  rotate_left 2
  · simp only [List.take_succ_cons, List.take_zero]
    simp (disch := omega) [oLt, oLe, oLtN, oLeN, nLt, nLe, nLtN, nLeN, hsr, han]
    exact hK
  simp only [List.drop_succ_cons, List.drop_zero]
  refine zD_cut 4 ?_ ?_ (fun K_ hK => ?_) ?_
  rotate_left 2
  · simp only [List.take_succ_cons, List.take_zero]
    simp (disch := omega) [oLt, oLe, oLtN, oLeN, nLt, nLe, nLtN, nLeN, hsr, han]
    exact hK
  simp only [List.drop_succ_cons, List.drop_zero]
  refine zD_cut 2 ?_ ?_ (fun K_ hK => ?_) ?_
  rotate_left 2
  · simp only [List.take_succ_cons, List.take_zero]
    simp (disch := omega) [oLt, oLe, oLtN, oLeN, nLt, nLe, nLtN, nLeN, hsr, han]
    exact hK
  simp only [List.drop_succ_cons, List.drop_zero]
  refine zD_cut 2 ?_ ?_ (fun K_ hK => ?_) ?_
  rotate_left 2
  · simp only [List.take_succ_cons, List.take_zero]
    simp (disch := omega) [oLt, oLe, oLtN, oLeN, nLt, nLe, nLtN, nLeN, hsr, han]
    exact hK
  simp only [List.drop_succ_cons, List.drop_zero]
  refine goD_ok (by decide) ?_
  delta p81_r9 p81_r10
  simp (disch := omega) [oLt, oLe, oLtN, oLeN, nLt, nLe, nLtN, nLeN]
  exact fin _ (.to [0, 1, 2, 3, 4, 5] (by simp [r6]))
theorem put_B0 {N : List Nat} {C : List Int} {f P p : Nat} {m : Int} {pre : List Int} {M y : Nat} {N1 : ST → Prop} {Q1 : Exit → ST → Prop} (hp16 : p < 16) (hP16 : P ≤ 16) (hpc : (p : Int) < P) (hpn : pre.length ≤ 16) (hsr : ∀ u v, effPlain2 Tryd.prog (fun a b => do eqGuard .shr 65 u v a b; binOp .shr 65 a b) (vU M) (vI p) = ret (vU y)) (han : ∀ u v, effPlain2 Tryd.prog (fun a b => do eqGuard .and 65 u v a b; binOp .and 65 a b) (vU y) (.v (.int .u32 1)) = ret (vU 0)) {b w v : Nat} (hNP : N.length = P) (hn0 : ¬ pre.length = 0) (gb : pre[pre.length - 1]? = some (b : Int)) (gw : N[b]? = some w) (hsr2 : ∀ u z, effPlain2 Tryd.prog (fun a b => do eqGuard .shr 65 u z a b; binOp .shr 65 a b) (vU w) (vI p) = ret (vU v)) {x : Nat} (han2 : ∀ u z, effPlain2 Tryd.prog (fun a b => do eqGuard .and 65 u z a b; binOp .and 65 a b) (vU v) (.v (.int .u32 1)) = ret (vU x)) (hx1 : ¬ x = 1) (fin : ∀ s', ChgT 6 s' (stU N C m pre M P (p + 1)) → N1 s') :
    XZ (rZ (spc [s82, s81r f N C])) 6 p81_l0 (stU N C m pre M P p) (thenE N1 Q1) := by
  have h0c : (0 : Int) < pre.length := by omega
  have hn0c : ¬ (pre.length : Int) = 0 := by omega
  have gb' := (List.getElem?_eq_some_iff.1 gb).2
  have gw' := (List.getElem?_eq_some_iff.1 gw).2
  have hbN : b < N.length := (List.getElem?_eq_some_iff.1 gw).1
  have hbNc : (b : Int) < N.length := by omega
  have hlast : ((pre.length : Int) - 1).toNat = pre.length - 1 := by omega
  have hne : ¬ pre = [] := fun e => hn0 (by rw [e]; rfl)
  have hxc : ¬ (x : Int) = 1 := by omega
  unfold stU at *
  simp only [hpR, putA] at *
  delta p81_l0
  refine XZ_step ?_ (fun N Q_ hN => ?_) ?_
  rotate_left
  · delta p81_r6; simp (disch := omega) [oLt, oLe, oLtN, oLeN, nLt, nLe, nLtN, nLeN, hpc]
    exact hN
  refine XZ_step ?_ (fun N_ Q_ hN_ => ?_) ?_
  rotate_left
  · simp (disch := omega) [oLt, oLe, oLtN, oLeN, nLt, nLe, nLtN, nLeN, hpc]
    exact hN_
  refine XZ_seqG (XZ_blockG ?_)
  refine XZ_step ?_ (fun N Q_ hN => ?_) ?_
  rotate_left
  · delta p81_r7; simp (disch := omega) [oLt, oLe, oLtN, oLeN, nLt, nLe, nLtN, nLeN]
    exact hN
  refine XZ_seqG (XZ_drawG ?_)
  delta p81_r8
  refine zD_cut 5 ?_ ?_ (fun K_ hK => ?_) ?_
  rotate_left 2
  · simp only [List.take_succ_cons, List.take_zero]
    simp (disch := omega) [oLt, oLe, oLtN, oLeN, nLt, nLe, nLtN, nLeN, hsr, han, hn0, hn0c, h0c, hne, gb, gb', gw, gw', hbN, hbNc, hlast, hsr2, han2, hx1, hxc]
    exact hK
  simp only [List.drop_succ_cons, List.drop_zero]
  refine zD_cut 3 ?_ ?_ (fun K_ hK => ?_) ?_
  rotate_left 2
  · simp only [List.take_succ_cons, List.take_zero]
    simp (disch := omega) [oLt, oLe, oLtN, oLeN, nLt, nLe, nLtN, nLeN, hsr, han, hn0, hn0c, h0c, hne, gb, gb', gw, gw', hbN, hbNc, hlast, hsr2, han2, hx1, hxc]
    exact hK
  simp only [List.drop_succ_cons, List.drop_zero]
  refine zD_cut 6 ?_ ?_ (fun K_ hK => ?_) ?_
  rotate_left 2
  · simp only [List.take_succ_cons, List.take_zero]
    simp (disch := omega) [oLt, oLe, oLtN, oLeN, nLt, nLe, nLtN, nLeN, hsr, han, hn0, hn0c, h0c, hne, gb, gb', gw, gw', hbN, hbNc, hlast, hsr2, han2, hx1, hxc]
    exact hK
  simp only [List.drop_succ_cons, List.drop_zero]
  refine zD_cut 6 ?_ ?_ (fun K_ hK => ?_) ?_
  rotate_left 2
  · simp only [List.take_succ_cons, List.take_zero]
    simp (disch := omega) [oLt, oLe, oLtN, oLeN, nLt, nLe, nLtN, nLeN, hsr, han, hn0, hn0c, h0c, hne, gb, gb', gw, gw', hbN, hbNc, hlast, hsr2, han2, hx1, hxc]
    exact hK
  simp only [List.drop_succ_cons, List.drop_zero]
  refine zD_cut 4 ?_ ?_ (fun K_ hK => ?_) ?_
  rotate_left 2
  · simp only [List.take_succ_cons, List.take_zero]
    simp (disch := omega) [oLt, oLe, oLtN, oLeN, nLt, nLe, nLtN, nLeN, hsr, han, hn0, hn0c, h0c, hne, gb, gb', gw, gw', hbN, hbNc, hlast, hsr2, han2, hx1, hxc]
    exact hK
  simp only [List.drop_succ_cons, List.drop_zero]
  refine zD_cut 4 ?_ ?_ (fun K_ hK => ?_) ?_
  rotate_left 2
  · simp only [List.take_succ_cons, List.take_zero]
    simp (disch := omega) [oLt, oLe, oLtN, oLeN, nLt, nLe, nLtN, nLeN, hsr, han, hn0, hn0c, h0c, hne, gb, gb', gw, gw', hbN, hbNc, hlast, hsr2, han2, hx1, hxc]
    exact hK
  simp only [List.drop_succ_cons, List.drop_zero]
  refine zD_cut 4 ?_ ?_ (fun K_ hK => ?_) ?_
  rotate_left 2
  · simp only [List.take_succ_cons, List.take_zero]
    simp (disch := omega) [oLt, oLe, oLtN, oLeN, nLt, nLe, nLtN, nLeN, hsr, han, hn0, hn0c, h0c, hne, gb, gb', gw, gw', hbN, hbNc, hlast, hsr2, han2, hx1, hxc]
    exact hK
  simp only [List.drop_succ_cons, List.drop_zero]
  refine zD_cut 2 ?_ ?_ (fun K_ hK => ?_) ?_
  rotate_left 2
  · simp only [List.take_succ_cons, List.take_zero]
    simp (disch := omega) [oLt, oLe, oLtN, oLeN, nLt, nLe, nLtN, nLeN, hsr, han, hn0, hn0c, h0c, hne, gb, gb', gw, gw', hbN, hbNc, hlast, hsr2, han2, hx1, hxc]
    exact hK
  simp only [List.drop_succ_cons, List.drop_zero]
  refine zD_cut 2 ?_ ?_ (fun K_ hK => ?_) ?_
  rotate_left 2
  · simp only [List.take_succ_cons, List.take_zero]
    simp (disch := omega) [oLt, oLe, oLtN, oLeN, nLt, nLe, nLtN, nLeN, hsr, han, hn0, hn0c, h0c, hne, gb, gb', gw, gw', hbN, hbNc, hlast, hsr2, han2, hx1, hxc]
    exact hK
  simp only [List.drop_succ_cons, List.drop_zero]
  refine goD_ok (by decide) ?_
  delta p81_r9 p81_r10
  simp (disch := omega) [oLt, oLe, oLtN, oLeN, nLt, nLe, nLtN, nLeN]
  exact fin _ (.to [0, 1, 2, 3, 4, 5] (by simp [r6]))
theorem put_Bn {N : List Nat} {C : List Int} {f P p : Nat} {m : Int} {pre : List Int} {M y : Nat} {N1 : ST → Prop} {Q1 : Exit → ST → Prop} (hp16 : p < 16) (hP16 : P ≤ 16) (hpc : (p : Int) < P) (hpn : pre.length ≤ 16) (hsr : ∀ u v, effPlain2 Tryd.prog (fun a b => do eqGuard .shr 65 u v a b; binOp .shr 65 a b) (vU M) (vI p) = ret (vU y)) (han : ∀ u v, effPlain2 Tryd.prog (fun a b => do eqGuard .and 65 u v a b; binOp .and 65 a b) (vU y) (.v (.int .u32 1)) = ret (vU 0)) {b w v : Nat} (hNP : N.length = P) (hn0 : ¬ pre.length = 0) (gb : pre[pre.length - 1]? = some (b : Int)) (gw : N[b]? = some w) (hsr2 : ∀ u z, effPlain2 Tryd.prog (fun a b => do eqGuard .shr 65 u z a b; binOp .shr 65 a b) (vU w) (vI p) = ret (vU v)) (han2 : ∀ u z, effPlain2 Tryd.prog (fun a b => do eqGuard .and 65 u z a b; binOp .and 65 a b) (vU v) (.v (.int .u32 1)) = ret (vU 1)) {B M2 : Nat} (hsh : ∀ u z, effPlain2 Tryd.prog (fun a b => do eqGuard .shl 65 u z a b; binOp .shl 65 a b) (.v (.int .u32 1)) (vI p) = ret (vU B)) (hor : ∀ u z, effPlain2 Tryd.prog (fun a b => do eqGuard .or 65 u z a b; binOp .or 65 a b) (vU M) (vU B) = ret (vU M2)) (hgd : GdR f N C m (pre ++ [(p : Int)]) (M2 : Nat)) (hrr : ringR (JN N) N.length m.toNat f (pre ++ [(p : Int)]) = none) (fin : ∀ s', ChgT 6 s' (stU N C m pre M P (p + 1)) → N1 s') :
    XZ (rZ (spc [s82, s81r f N C])) 6 p81_l0 (stU N C m pre M P p) (thenE N1 Q1) := by
  have h0c : (0 : Int) < pre.length := by omega
  have hn0c : ¬ (pre.length : Int) = 0 := by omega
  have gb' := (List.getElem?_eq_some_iff.1 gb).2
  have gw' := (List.getElem?_eq_some_iff.1 gw).2
  have hbN : b < N.length := (List.getElem?_eq_some_iff.1 gw).1
  have hbNc : (b : Int) < N.length := by omega
  have hlast : ((pre.length : Int) - 1).toNat = pre.length - 1 := by omega
  have hne : ¬ pre = [] := fun e => hn0 (by rw [e]; rfl)
  unfold stU at *
  simp only [hpR, putA] at *
  delta p81_l0
  refine XZ_step ?_ (fun N Q_ hN => ?_) ?_
  rotate_left
  · delta p81_r6; simp (disch := omega) [oLt, oLe, oLtN, oLeN, nLt, nLe, nLtN, nLeN, hpc]
    exact hN
  refine XZ_step ?_ (fun N_ Q_ hN_ => ?_) ?_
  rotate_left
  · simp (disch := omega) [oLt, oLe, oLtN, oLeN, nLt, nLe, nLtN, nLeN, hpc]
    exact hN_
  refine XZ_seqG (XZ_blockG ?_)
  refine XZ_step ?_ (fun N Q_ hN => ?_) ?_
  rotate_left
  · delta p81_r7; simp (disch := omega) [oLt, oLe, oLtN, oLeN, nLt, nLe, nLtN, nLeN]
    exact hN
  refine XZ_seqG (XZ_drawG ?_)
  delta p81_r8
  refine zD_cut 5 ?_ ?_ (fun K_ hK => ?_) ?_
  rotate_left 2
  · simp only [List.take_succ_cons, List.take_zero]
    simp (disch := omega) [oLt, oLe, oLtN, oLeN, nLt, nLe, nLtN, nLeN, hsr, han, hn0, hn0c, h0c, hne, gb, gb', gw, gw', hbN, hbNc, hlast, hsr2, han2, hsh, hor, hgd, hrr, resR, hpR, putA, r6]
    exact hK
  simp only [List.drop_succ_cons, List.drop_zero]
  refine zD_cut 3 ?_ ?_ (fun K_ hK => ?_) ?_
  rotate_left 2
  · simp only [List.take_succ_cons, List.take_zero]
    simp (disch := omega) [oLt, oLe, oLtN, oLeN, nLt, nLe, nLtN, nLeN, hsr, han, hn0, hn0c, h0c, hne, gb, gb', gw, gw', hbN, hbNc, hlast, hsr2, han2, hsh, hor, hgd, hrr, resR, hpR, putA, r6]
    exact hK
  simp only [List.drop_succ_cons, List.drop_zero]
  refine zD_cut 6 ?_ ?_ (fun K_ hK => ?_) ?_
  rotate_left 2
  · simp only [List.take_succ_cons, List.take_zero]
    simp (disch := omega) [oLt, oLe, oLtN, oLeN, nLt, nLe, nLtN, nLeN, hsr, han, hn0, hn0c, h0c, hne, gb, gb', gw, gw', hbN, hbNc, hlast, hsr2, han2, hsh, hor, hgd, hrr, resR, hpR, putA, r6]
    exact hK
  simp only [List.drop_succ_cons, List.drop_zero]
  refine zD_cut 6 ?_ ?_ (fun K_ hK => ?_) ?_
  rotate_left 2
  · simp only [List.take_succ_cons, List.take_zero]
    simp (disch := omega) [oLt, oLe, oLtN, oLeN, nLt, nLe, nLtN, nLeN, hsr, han, hn0, hn0c, h0c, hne, gb, gb', gw, gw', hbN, hbNc, hlast, hsr2, han2, hsh, hor, hgd, hrr, resR, hpR, putA, r6]
    exact hK
  simp only [List.drop_succ_cons, List.drop_zero]
  refine zD_cut 4 ?_ ?_ (fun K_ hK => ?_) ?_
  rotate_left 2
  · simp only [List.take_succ_cons, List.take_zero]
    simp (disch := omega) [oLt, oLe, oLtN, oLeN, nLt, nLe, nLtN, nLeN, hsr, han, hn0, hn0c, h0c, hne, gb, gb', gw, gw', hbN, hbNc, hlast, hsr2, han2, hsh, hor, hgd, hrr, resR, hpR, putA, r6]
    exact hK
  simp only [List.drop_succ_cons, List.drop_zero]
  refine zD_cut 4 ?_ ?_ (fun K_ hK => ?_) ?_
  rotate_left 2
  · simp only [List.take_succ_cons, List.take_zero]
    simp (disch := omega) [oLt, oLe, oLtN, oLeN, nLt, nLe, nLtN, nLeN, hsr, han, hn0, hn0c, h0c, hne, gb, gb', gw, gw', hbN, hbNc, hlast, hsr2, han2, hsh, hor, hgd, hrr, resR, hpR, putA, r6]
    exact hK
  simp only [List.drop_succ_cons, List.drop_zero]
  refine zD_cut 4 ?_ ?_ (fun K_ hK => ?_) ?_
  rotate_left 2
  · simp only [List.take_succ_cons, List.take_zero]
    simp (disch := omega) [oLt, oLe, oLtN, oLeN, nLt, nLe, nLtN, nLeN, hsr, han, hn0, hn0c, h0c, hne, gb, gb', gw, gw', hbN, hbNc, hlast, hsr2, han2, hsh, hor, hgd, hrr, resR, hpR, putA, r6]
    exact hK
  simp only [List.drop_succ_cons, List.drop_zero]
  refine zD_cut 2 ?_ ?_ (fun K_ hK => ?_) ?_
  rotate_left 2
  · simp only [List.take_succ_cons, List.take_zero]
    simp (disch := omega) [oLt, oLe, oLtN, oLeN, nLt, nLe, nLtN, nLeN, hsr, han, hn0, hn0c, h0c, hne, gb, gb', gw, gw', hbN, hbNc, hlast, hsr2, han2, hsh, hor, hgd, hrr, resR, hpR, putA, r6]
    exact hK
  simp only [List.drop_succ_cons, List.drop_zero]
  refine zD_cut 2 ?_ ?_ (fun K_ hK => ?_) ?_
  rotate_left 2
  · simp only [List.take_succ_cons, List.take_zero]
    simp (disch := omega) [oLt, oLe, oLtN, oLeN, nLt, nLe, nLtN, nLeN, hsr, han, hn0, hn0c, h0c, hne, gb, gb', gw, gw', hbN, hbNc, hlast, hsr2, han2, hsh, hor, hgd, hrr, resR, hpR, putA, r6]
    exact hK
  simp only [List.drop_succ_cons, List.drop_zero]
  refine goD_ok (by decide) ?_
  delta p81_r9 p81_r10
  simp (disch := omega) [oLt, oLe, oLtN, oLeN, nLt, nLe, nLtN, nLeN]
  exact fin _ (.to [0, 1, 2, 3, 4, 5] (by simp [r6]))
theorem put_Bs {N : List Nat} {C : List Int} {f P p : Nat} {m : Int} {pre : List Int} {M y : Nat} {N1 : ST → Prop} {Q1 : Exit → ST → Prop} (hp16 : p < 16) (hP16 : P ≤ 16) (hpc : (p : Int) < P) (hpn : pre.length ≤ 16) (hsr : ∀ u v, effPlain2 Tryd.prog (fun a b => do eqGuard .shr 65 u v a b; binOp .shr 65 a b) (vU M) (vI p) = ret (vU y)) (han : ∀ u v, effPlain2 Tryd.prog (fun a b => do eqGuard .and 65 u v a b; binOp .and 65 a b) (vU y) (.v (.int .u32 1)) = ret (vU 0)) {b w v : Nat} (hNP : N.length = P) (hn0 : ¬ pre.length = 0) (gb : pre[pre.length - 1]? = some (b : Int)) (gw : N[b]? = some w) (hsr2 : ∀ u z, effPlain2 Tryd.prog (fun a b => do eqGuard .shr 65 u z a b; binOp .shr 65 a b) (vU w) (vI p) = ret (vU v)) (han2 : ∀ u z, effPlain2 Tryd.prog (fun a b => do eqGuard .and 65 u z a b; binOp .and 65 a b) (vU v) (.v (.int .u32 1)) = ret (vU 1)) {B M2 : Nat} (hsh : ∀ u z, effPlain2 Tryd.prog (fun a b => do eqGuard .shl 65 u z a b; binOp .shl 65 a b) (.v (.int .u32 1)) (vI p) = ret (vU B)) (hor : ∀ u z, effPlain2 Tryd.prog (fun a b => do eqGuard .or 65 u z a b; binOp .or 65 a b) (vU M) (vU B) = ret (vU M2)) (hgd : GdR f N C m (pre ++ [(p : Int)]) (M2 : Nat)) {q : List Int} (hrr : ringR (JN N) N.length m.toNat f (pre ++ [(p : Int)]) = some q) (fin : ∀ s', ChgT 6 s' ⟨[(9, vB true)], hpR 1 m (.il (ints q) q.length false) N C, 6⟩ → Q1 .ret s') :
    XZ (rZ (spc [s82, s81r f N C])) 6 p81_l0 (stU N C m pre M P p) (thenE N1 Q1) := by
  have h0c : (0 : Int) < pre.length := by omega
  have hn0c : ¬ (pre.length : Int) = 0 := by omega
  have gb' := (List.getElem?_eq_some_iff.1 gb).2
  have gw' := (List.getElem?_eq_some_iff.1 gw).2
  have hbN : b < N.length := (List.getElem?_eq_some_iff.1 gw).1
  have hbNc : (b : Int) < N.length := by omega
  have hlast : ((pre.length : Int) - 1).toNat = pre.length - 1 := by omega
  have hne : ¬ pre = [] := fun e => hn0 (by rw [e]; rfl)
  unfold stU at *
  simp only [hpR, putA] at *
  delta p81_l0
  refine XZ_step ?_ (fun N Q_ hN => ?_) ?_
  rotate_left
  · delta p81_r6; simp (disch := omega) [oLt, oLe, oLtN, oLeN, nLt, nLe, nLtN, nLeN, hpc]
    exact hN
  refine XZ_step ?_ (fun N_ Q_ hN_ => ?_) ?_
  rotate_left
  · simp (disch := omega) [oLt, oLe, oLtN, oLeN, nLt, nLe, nLtN, nLeN, hpc]
    exact hN_
  refine XZ_seqG (XZ_blockG ?_)
  refine XZ_step ?_ (fun N Q_ hN => ?_) ?_
  rotate_left
  · delta p81_r7; simp (disch := omega) [oLt, oLe, oLtN, oLeN, nLt, nLe, nLtN, nLeN]
    exact hN
  refine XZ_seqG (XZ_drawG ?_)
  delta p81_r8
  refine zD_cut 5 ?_ ?_ (fun K_ hK => ?_) ?_
  rotate_left 2
  · simp only [List.take_succ_cons, List.take_zero]
    simp (disch := omega) [oLt, oLe, oLtN, oLeN, nLt, nLe, nLtN, nLeN, hsr, han, hn0, hn0c, h0c, hne, gb, gb', gw, gw', hbN, hbNc, hlast, hsr2, han2, hsh, hor, hgd, hrr, resR, hpR, putA, r6]
    exact hK
  simp only [List.drop_succ_cons, List.drop_zero]
  refine zD_cut 3 ?_ ?_ (fun K_ hK => ?_) ?_
  rotate_left 2
  · simp only [List.take_succ_cons, List.take_zero]
    simp (disch := omega) [oLt, oLe, oLtN, oLeN, nLt, nLe, nLtN, nLeN, hsr, han, hn0, hn0c, h0c, hne, gb, gb', gw, gw', hbN, hbNc, hlast, hsr2, han2, hsh, hor, hgd, hrr, resR, hpR, putA, r6]
    exact hK
  simp only [List.drop_succ_cons, List.drop_zero]
  refine zD_cut 6 ?_ ?_ (fun K_ hK => ?_) ?_
  rotate_left 2
  · simp only [List.take_succ_cons, List.take_zero]
    simp (disch := omega) [oLt, oLe, oLtN, oLeN, nLt, nLe, nLtN, nLeN, hsr, han, hn0, hn0c, h0c, hne, gb, gb', gw, gw', hbN, hbNc, hlast, hsr2, han2, hsh, hor, hgd, hrr, resR, hpR, putA, r6]
    exact hK
  simp only [List.drop_succ_cons, List.drop_zero]
  refine zD_cut 6 ?_ ?_ (fun K_ hK => ?_) ?_
  rotate_left 2
  · simp only [List.take_succ_cons, List.take_zero]
    simp (disch := omega) [oLt, oLe, oLtN, oLeN, nLt, nLe, nLtN, nLeN, hsr, han, hn0, hn0c, h0c, hne, gb, gb', gw, gw', hbN, hbNc, hlast, hsr2, han2, hsh, hor, hgd, hrr, resR, hpR, putA, r6]
    exact hK
  simp only [List.drop_succ_cons, List.drop_zero]
  refine zD_cut 4 ?_ ?_ (fun K_ hK => ?_) ?_
  rotate_left 2
  · simp only [List.take_succ_cons, List.take_zero]
    simp (disch := omega) [oLt, oLe, oLtN, oLeN, nLt, nLe, nLtN, nLeN, hsr, han, hn0, hn0c, h0c, hne, gb, gb', gw, gw', hbN, hbNc, hlast, hsr2, han2, hsh, hor, hgd, hrr, resR, hpR, putA, r6]
    exact hK
  simp only [List.drop_succ_cons, List.drop_zero]
  refine zD_cut 4 ?_ ?_ (fun K_ hK => ?_) ?_
  rotate_left 2
  · simp only [List.take_succ_cons, List.take_zero]
    simp (disch := omega) [oLt, oLe, oLtN, oLeN, nLt, nLe, nLtN, nLeN, hsr, han, hn0, hn0c, h0c, hne, gb, gb', gw, gw', hbN, hbNc, hlast, hsr2, han2, hsh, hor, hgd, hrr, resR, hpR, putA, r6]
    exact hK
  simp only [List.drop_succ_cons, List.drop_zero]
  refine zD_cut 4 ?_ ?_ (fun K_ hK => ?_) ?_
  rotate_left 2
  · simp only [List.take_succ_cons, List.take_zero]
    simp (disch := omega) [oLt, oLe, oLtN, oLeN, nLt, nLe, nLtN, nLeN, hsr, han, hn0, hn0c, h0c, hne, gb, gb', gw, gw', hbN, hbNc, hlast, hsr2, han2, hsh, hor, hgd, hrr, resR, hpR, putA, r6]
    exact hK
  simp only [List.drop_succ_cons, List.drop_zero]
  refine zD_cut 2 ?_ ?_ (fun K_ hK => ?_) ?_
  rotate_left 2
  · simp only [List.take_succ_cons, List.take_zero]
    simp (disch := omega) [oLt, oLe, oLtN, oLeN, nLt, nLe, nLtN, nLeN, hsr, han, hn0, hn0c, h0c, hne, gb, gb', gw, gw', hbN, hbNc, hlast, hsr2, han2, hsh, hor, hgd, hrr, resR, hpR, putA, r6]
    exact hK
  simp only [List.drop_succ_cons, List.drop_zero]
  refine zD_cut 2 ?_ ?_ (fun K_ hK => ?_) ?_
  rotate_left 2
  · simp only [List.take_succ_cons, List.take_zero]
    simp (disch := omega) [oLt, oLe, oLtN, oLeN, nLt, nLe, nLtN, nLeN, hsr, han, hn0, hn0c, h0c, hne, gb, gb', gw, gw', hbN, hbNc, hlast, hsr2, han2, hsh, hor, hgd, hrr, resR, hpR, putA, r6]
    exact hK
  simp only [List.drop_succ_cons, List.drop_zero]
  refine goD_ok (by decide) ?_
  delta p81_r9 p81_r10
  simp (disch := omega) [oLt, oLe, oLtN, oLeN, nLt, nLe, nLtN, nLeN]
  exact fin _ (.to [0, 1, 2, 3, 4, 5] (by simp [r6]))
end Go.Sx.Ch
set_option maxRecDepth 4000
namespace Go.Sx.Ch
open Go Go.Sx Go.Proofs

set_option maxHeartbeats 4000000
theorem s81r_ok {N : List Nat} {C : List Int} : ∀ f, (s81r f N C).ok Tryd.prog
  | 0 => by
    intro args hl k r h' k' hh
    obtain ⟨many, met, pre, rfl, rfl, rfl, hne, hg, hr⟩ := s81r_inv hh
    have := hg.fu; have := hg.le; omega
  | f + 1 => by
    intro args hl k r h' k' hh
    obtain ⟨many, met, pre, rfl, rfl, rfl, hne, hg, hr⟩ := s81r_inv hh
    have ih := s81r_ok (N := N) (C := C) f
    simp only [hp_eq]
    obtain ⟨h80, hN, m0, m1, hbl, hle, hfu, rfl⟩ := hg
    obtain ⟨m, rfl⟩ := Int.eq_ofNat_of_zero_le (show 0 ≤ many by omega)
    obtain ⟨nn, P, h34, hnn, hP, h0, h33, en, eP, hf⟩ := g80_facts h80
    have h33' := (List.getElem?_eq_some_iff.1 h33).2
    have hNl : N.length = P := by rw [← hN]; unfold nearF; rw [nearN_len, eP]; simp
    have hlt : ∀ i, N.getD i 0 < 65536 := by
      rw [← hN]
      exact nearN_lt _ fun e he => by
        rw [en] at he
        obtain ⟨o, a, b, -, -, hb, -, -, -, -, e2⟩ := hf e (by simpa using he)
        rw [e2]; simp; omega
    rw [hNl] at hbl
    rw [Int.toNat_natCast, hNl] at hr
    have h0n : 0 < pre.length := List.length_pos_iff.2 hne
    refine P81.rz (ss := [s82, s81r f N C]) ⟨s82_ok, ih, trivial⟩ (by simp) fun Q hQ => ?_
    have hbits : ∀ a : Nat, a < P → ∃ w, w < 65536 ∧ N[a]? = some w ∧ ∀ q, JN N a q = w.testBit q := fun a ha => by
      have hw : N[a]? = some (N.getD a 0) := by rw [List.getD_eq_getElem?_getD, List.getElem?_eq_getElem (by omega)]; rfl
      exact ⟨N.getD a 0, hlt a, hw, fun q => rfl⟩
    by_cases hnm : pre.length = m
    · have hnc : (pre.length : Int) = m := by omega
      simp only [ringR] at hr
      rw [if_pos hnm] at hr
      obtain ⟨a, ha, ga, ea⟩ := below_get hbl h0n
      obtain ⟨b, hb, gb, eb⟩ := below_get hbl (i := pre.length - 1) (by omega)
      rw [ea, ← hnm, eb, Int.toNat_natCast, Int.toNat_natCast] at hr
      obtain ⟨w, hw6, gw, hJ⟩ := hbits a ha
      rw [hJ b] at hr
      have hsr := fun u v => shr32 u v hw6 (show b < 16 by omega)
      have hbit := bit_at w b
      have hy6 : w / 2 ^ b < 65536 := Nat.lt_of_le_of_lt (Nat.div_le_self _ _) hw6
      have han := fun u v => and32 u v hy6
      obtain ⟨y, hy⟩ : ∃ y, w / 2 ^ b = y := ⟨_, rfl⟩
      rw [hy] at hsr hbit han
      obtain ⟨z, hz⟩ : ∃ z, y % 2 = z := ⟨_, rfl⟩
      rw [hz] at hbit han
      have ga' := (List.getElem?_eq_some_iff.1 ga).2
      have gb' := (List.getElem?_eq_some_iff.1 gb).2
      have gw' := (List.getElem?_eq_some_iff.1 gw).2
      have hac : (a : Int) < N.length := by omega
      have haN : a < N.length := by omega
      have hbn : pre.length - 1 < pre.length := by omega
      have h0c : (0 : Int) < pre.length := by omega
      have gbm : pre[m - 1]? = some (b : Int) := by rw [← hnm]; exact gb
      have gbm' := (List.getElem?_eq_some_iff.1 gbm).2
      have hm0 : 0 < m := by omega
      have hm1' : m - 1 < pre.length := by omega
      have hlast : ((m : Int) - 1).toNat = m - 1 := by omega
      by_cases hz1 : z = 1
      · subst hz1
        rw [if_pos (hbit.1 rfl)] at hr
        cases hr
        delta p81 p81_r0 p81_r1 p81_r2 p81_r3 p81_r4 p81_r5
        simp (disch := omega) [oLt, oLe, oLtN, oLeN, nLt, nLe, nLtN, nLeN, hpR, putA, hnc, h0n, h0c, ga, ga', gbm, gbm', hm0, hm1', gw, gw', hac, haN, hlast, hsr, han]
        exact hQ _ _ (.chg (.frz 0 (by simp; rfl) (by simp) .refl) (.same (.inl rfl) (by simp) rfl rfl rfl (by simp [hpR, putA, r6, hnc])))
      · have hbf : ¬ w.testBit b = true := fun h => hz1 (hbit.2 h)
        have hzc : ¬ (z : Int) = 1 := by omega
        rw [if_neg hbf] at hr
        cases hr
        delta p81 p81_r0 p81_r1 p81_r2 p81_r3 p81_r4 p81_r5
        simp (disch := omega) [oLt, oLe, oLtN, oLeN, nLt, nLe, nLtN, nLeN, hpR, putA, hnc, h0n, h0c, ga, ga', gbm, gbm', hm0, hm1', gw, gw', hac, haN, hlast, hsr, han, hz1, hzc]
        exact hQ _ _ (.chg (.trans (.frz 0 (by simp; rfl) (by simp) (.to (s' := ⟨[(9, vB false)], hpR 1 m (.il (ints pre) pre.length false) N C, 6⟩) [0, 1, 2, 3, 4, 5] (by simp [hpR, putA, hnc, hzc, r6]))) (.weak (s' := ⟨[(9, vB false)], hpR 1 m .any N C, 6⟩) ⟨rfl, .refl, trivial⟩ hpR_any rfl .refl)) (.same (.inl rfl) (by simp) rfl rfl rfl (by simp [hpR, putA, r6, hnc])))
    · have hnc : ¬ (pre.length : Int) = m := by omega
      have hlm : pre.length < m := by omega
      have hT : ringR (JN N) P m (f + 1) pre = tryF (fun p => if okP (JN N) pre p then ringR (JN N) P m f (pre ++ [(p : Int)]) else none) P 0 := by
        simp only [ringR]; rw [if_neg hnm]
      delta p81 p81_r0 p81_r1 p81_r2 p81_r3 p81_r4 p81_r5
      simp (disch := omega) [oLt, oLe, oLtN, oLeN, nLt, nLe, nLtN, nLeN, hpR, putA, hnc, h33, h33', h34]
      refine XZ_for (fun p : Nat => stU N C m pre (maskL pre) P p) (fun p => P - p) (fun p => p ≤ P ∧ tryF (fun p => if okP (JN N) pre p then ringR (JN N) P m f (pre ++ [(p : Int)]) else none) (P - p) p = ringR (JN N) P m (f + 1) pre) 0 ⟨Nat.zero_le _, by rw [hT]; rfl⟩ (.frz 0 (by simp; rfl) (by simp) (.to [0, 1, 2, 3, 4, 5] (by simp [stU, hpR, putA, r6]))) ?_
      rintro p ⟨hp, hinv⟩ N1 Q' hN1 hE
      rcases Nat.lt_or_ge p P with h | h
      · have hpc : (p : Int) < P := by omega
        have hp16 : p < 16 := by omega
        have hst : P - p = (P - (p + 1)) + 1 := by omega
        rw [hst] at hinv
        simp only [tryF] at hinv
        have hM6 := mask_small hP hbl
        have hbit := mask_bit (q := p) hbl
        have hMb := bit_at (maskL pre) p
        have hsr := fun u v => shr32 u v hM6 hp16
        have hy6 : maskL pre / 2 ^ p < 65536 := Nat.lt_of_le_of_lt (Nat.div_le_self _ _) hM6
        have han := fun u v => and32 u v hy6
        have hMp := maskL_push pre p
        obtain ⟨y, hy⟩ : ∃ y, maskL pre / 2 ^ p = y := ⟨_, rfl⟩
        rw [hy] at hsr hMb han
        have hz2 : y % 2 = 0 ∨ y % 2 = 1 := by omega
        obtain ⟨z, hz⟩ : ∃ z, y % 2 = z := ⟨_, rfl⟩
        rw [hz] at hMb han hz2
        have hn0 : ¬ pre.length = 0 := by omega
        have hn0c : ¬ (pre.length : Int) = 0 := by omega
        cases hcon : pre.contains (p : Int) with
        | true =>
          have hz1 : z = 1 := hMb.2 (by rw [hbit, hcon])
          have hok : okP (JN N) pre p = false := by unfold okP; rw [hcon]; rfl
          rw [hok, if_neg (by simp)] at hinv
          simp only at hinv
          subst hz1
          exact put_A hp16 hP hpc (by omega) hsr han (fun s' hh => hN1 s' (p + 1) (by omega) ⟨h, hinv⟩ hh)
        | false =>
          have hz0 : z = 0 := by
            rcases hz2 with e | e
            · exact e
            · have := hMb.1 e
              rw [hbit, hcon] at this; cases this
          subst hz0
          obtain ⟨b, hb, gb, eb⟩ := below_get hbl (i := pre.length - 1) (by omega)
          have gb' := (List.getElem?_eq_some_iff.1 gb).2
          obtain ⟨w, hw6, gw, hJ⟩ := hbits b hb
          have gw' := (List.getElem?_eq_some_iff.1 gw).2
          have hbN : b < N.length := by omega
          have hbNc : (b : Int) < N.length := by omega
          have hlast : ((pre.length : Int) - 1).toNat = pre.length - 1 := by omega
          have h0c : (0 : Int) < pre.length := by omega
          have hsr2 := fun u v => shr32 u v hw6 hp16
          have hwb := bit_at w p
          have hv6 : w / 2 ^ p < 65536 := Nat.lt_of_le_of_lt (Nat.div_le_self _ _) hw6
          have han2 := fun u v => and32 u v hv6
          obtain ⟨v, hv⟩ : ∃ v, w / 2 ^ p = v := ⟨_, rfl⟩
          rw [hv] at hsr2 hwb han2
          obtain ⟨x, hx⟩ : ∃ x, v % 2 = x := ⟨_, rfl⟩
          rw [hx] at hwb han2
          have hokJ : okP (JN N) pre p = w.testBit p := by
            unfold okP; rw [hcon, eb, Int.toNat_natCast, hJ]; simp [hn0]
          by_cases hx1 : x = 1
          · have hok : okP (JN N) pre p = true := by rw [hokJ]; exact hwb.1 hx1
            rw [hok, if_pos rfl] at hinv
            subst hx1
            have h2p : 2 ^ p < 2 ^ 16 := Nat.pow_lt_pow_right (by omega) hp16
            have hsh := fun u v => shl32 u v hp16
            obtain ⟨B, hB⟩ : ∃ B, 2 ^ p = B := ⟨_, rfl⟩
            rw [hB] at hMp h2p hsh
            have hor := fun u v => or32 u v hM6 (show B < 65536 by omega)
            rw [← hMp] at hor
            have hgd : GdR f N C m (pre ++ [(p : Int)]) (maskL (pre ++ [(p : Int)]) : Nat) := ⟨h80, hN, m0, m1, by rw [hNl]; exact below_push hbl h, by simp; omega, by simp; omega, rfl⟩
            have hP' : N.length = P := hNl
            have hrm : (m : Int).toNat = m := Int.toNat_natCast m
            cases hrr : ringR (JN N) P m f (pre ++ [(p : Int)]) with
            | some q =>
              rw [hrr] at hinv
              simp only at hinv
              rw [← hinv] at hr
              cases hr
              exact put_Bs hp16 hP hpc (by omega) hsr han hNl hn0 gb gw hsr2 han2 hsh hor hgd (by rw [hNl, hrm]; exact hrr) (fun s' hh => hE _ _ _ hh (hQ _ _ (.same (.inl rfl) (by simp) rfl rfl rfl (by simp [hpR, putA, r6]))))
            | none =>
              rw [hrr] at hinv
              simp only at hinv
              exact put_Bn hp16 hP hpc (by omega) hsr han hNl hn0 gb gw hsr2 han2 hsh hor hgd (by rw [hNl, hrm]; exact hrr) (fun s' hh => hN1 s' (p + 1) (by omega) ⟨h, hinv⟩ hh)
          · have hxf : w.testBit p = false := by
              cases hh : w.testBit p with
              | false => rfl
              | true => exact absurd (hwb.2 hh) hx1
            have hxc : ¬ (x : Int) = 1 := by omega
            rw [hokJ, hxf, if_neg (by simp)] at hinv
            simp only at hinv
            exact put_B0 hp16 hP hpc (by omega) hsr han hNl hn0 gb gw hsr2 han2 hx1 (fun s' hh => hN1 s' (p + 1) (by omega) ⟨h, hinv⟩ hh)
      · obtain rfl : p = P := by omega
        have hpc : ¬ (p : Int) < p := by omega
        rw [Nat.sub_self] at hinv
        simp only [tryF] at hinv
        rw [← hinv] at hr
        cases hr
        unfold stU
        delta p81_l0 p81_r6 p81_r7 p81_r8 p81_r9 p81_r10
        simp (disch := omega) [oLt, oLe, oLtN, oLeN, nLt, nLe, nLtN, nLeN, hpR, putA, hpc]
        refine hE _ _ _ .refl ?_
        delta p81_r11
        simp (disch := omega) [oLt, oLe, oLtN, oLeN, nLt, nLe, nLtN, nLeN]
        exact hQ _ _ (.same (.inl rfl) (by simp) rfl rfl rfl (by simp [hpR, putA, r6, hnc]))
end Go.Sx.Ch
