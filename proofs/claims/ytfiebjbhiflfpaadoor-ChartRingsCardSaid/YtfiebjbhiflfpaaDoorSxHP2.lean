/- The body of the loop of the search for a ring, case by case (printed by mkPut.py). No conditions. -/
import Derived.Test.YtfiebjbhiflfpaaDoorSxJHOtoHP
import Derived.Test.YtfiebjbhiflfpaaDoorSxJSttoSd
set_option linter.unusedVariables false
set_option linter.unusedSimpArgs false
set_option maxRecDepth 4000
namespace Go.Sx.Ch
open Go Go.Sx Go.Proofs

attribute [simp] evCall reach idsB idsL ids inA Go.Sx.inL Go.Sx.inM inB allHp enumH gl renB
@[simp] theorem idsL_app : ∀ a b : List AV, idsL (a ++ b) = idsL a ++ idsL b
  | [], b => rfl
  | x :: a, b => by cases x <;> simp [idsL, idsL_app a b]
@[simp] theorem inL_app (p : Nat → Bool) : ∀ a b : List AV, Go.Sx.inL p (a ++ b) = (Go.Sx.inL p a && Go.Sx.inL p b)
  | [], b => by simp
  | x :: a, b => by rw [List.cons_append, Go.Sx.inL, Go.Sx.inL, inL_app p a b, Bool.and_assoc]
@[simp] theorem idsL_ints : ∀ l : List Int, idsL (ints l) = []
  | [] => rfl
  | x :: l => by rw [ints_cons, idsL, idsL_ints l]
@[simp] theorem inL_ints (p : Nat → Bool) : ∀ l : List Int, Go.Sx.inL p (ints l) = true
  | [] => rfl
  | x :: l => by rw [ints_cons, Go.Sx.inL, inL_ints p l]; rfl
theorem XZ_blockG {R : Rsv} {k0 : Nat} {id : Nat} {b : PCode} {s : ST} {Q : Exit → ST → Prop} (h : XZ R k0 b s (inBE id Q)) : XZ R k0 (.block id b) s Q := h
/-- The states of the loop. -/
def stU (N : List Nat) (C : List Int) (m : Int) (pre : List Int) (M P p : Nat) : ST :=
  ⟨[(0, .il (ints pre) pre.length false), (1, vU M), (4, .ptr 3 0), (6, .ptr 5 0), (10, vI pre.length), (33, vI P), (34, vI p)], hpR 1 m .any N C, 6⟩
set_option maxHeartbeats 1000000
theorem put_A {N : List Nat} {C : List Int} {f P p : Nat} {m : Int} {pre : List Int} {M y : Nat} {N1 : ST → Prop} {Q1 : Exit → ST → Prop} (hp16 : p < 16) (hP16 : P ≤ 16) (hpc : (p : Int) < P) (hpn : pre.length ≤ 16) (hsr : ∀ u v, effPlain2 Tryd.prog (fun a b => do eqGuard .shr 65 u v a b; binOp .shr 65 a b) (vU M) (vI p) = ret (vU y)) (han : ∀ u v, effPlain2 Tryd.prog (fun a b => do eqGuard .and 65 u v a b; binOp .and 65 a b) (vU y) (.v (.int .u32 1)) = ret (vU 1)) (fin : ∀ s', ChgT 6 s' (stU N C m pre M P (p + 1)) → N1 s') :
    XZ (rZ (spc [s82, s81r f N C])) 6 p81_l0 (stU N C m pre M P p) (thenE N1 Q1) := by
  unfold stU at *
  simp only [hpR, putA] at *
  delta p81_l0
  refine XZ_step ?_ (fun N Q_ hN => ?_) ?_
  rotate_left
  · delta p81_r6; simp (disch := omega) [oLt, oLe, oLtN, oLeN, nLt, nLe, nLtN, nLeN, hpc]
    exact hN
  refine XZ_step ?_ (fun N_ Q_ hN_ => ?_) ?_
  rotate_left
  · simp (disch := omega) [oLt, oLe, oLtN, oLeN, nLt, nLe, nLtN, nLeN, hpc]
    exact hN_
  refine XZ_seqG (XZ_blockG ?_)
  refine XZ_step ?_ (fun N Q_ hN => ?_) ?_
  rotate_left
  · delta p81_r7; simp (disch := omega) [oLt, oLe, oLtN, oLeN, nLt, nLe, nLtN, nLeN]
    exact hN
  refine XZ_seqG (XZ_drawG ?_)
  delta p81_r8
  refine zD_cut 5 ?_ ?_ (fun K_ hK => ?_) ?_
  rotate_left 2
  · simp only [List.take_succ_cons, List.take_zero]
    simp (disch := omega) [oLt, oLe, oLtN, oLeN, nLt, nLe, nLtN, nLeN, hsr, han]
    exact hK
  simp only [List.drop_succ_cons, List.drop_zero]
  refine zD_cut 3 ?_ ?_ (fun K_ hK => ?_) ?_
  rotate_left 2
  · simp only [List.take_succ_cons, List.take_zero]
    simp (disch := omega) [oLt, oLe, oLtN, oLeN, nLt, nLe, nLtN, nLeN, hsr, han]
    exact hK
  simp only [List.drop_succ_cons, List.drop_zero]
  refine zD_cut 6 ?_ ?_ (fun K_ hK => ?_) ?_
  rotate_left 2
  · simp only [List.take_succ_cons, List.take_zero]
    simp (disch := omega) [oLt, oLe, oLtN, oLeN, nLt, nLe, nLtN, nLeN, hsr, han]
    exact hK
  simp only [List.drop_succ_cons, List.drop_zero]
  refine zD_cut 6 ?_ ?_ (fun K_ hK => ?_) ?_
  rotate_left 2
  · simp only [List.take_succ_cons, List.take_zero]
    simp (disch := omega) [oLt, oLe, oLtN, oLeN, nLt, nLe, nLtN, nLeN, hsr, han]
    exact hK
  simp only [List.drop_succ_cons, List.drop_zero]
  refine zD_cut 4 ?_ ?_ (fun K_ hK => ?_) ?_
  rotate_left 2
  · simp only [List.take_succ_cons, List.take_zero]
    simp (disch := omega) [oLt, oLe, oLtN, oLeN, nLt, nLe, nLtN, nLeN, hsr, han]
    exact hK
  simp only [List.drop_succ_cons, List.drop_zero]
  refine zD_cut 4 ?_ ?_ (fun K_ hK => ?_) ?_
  rotate_left 2
  · simp only [List.take_succ_cons, List.take_zero]
    simp (disch := omega) [oLt, oLe, oLtN, oLeN, nLt, nLe, nLtN, nLeN, hsr, han]
    exact hK
  simp only [List.drop_succ_cons, List.drop_zero]
  refine zD_cut 4 ?_ ?_ (fun K_ hK => ?_) ?_
  rotate_left 2
  · simp only [List.take_succ_cons, List.take_zero]
    simp (disch := omega) [oLt, oLe, oLtN, oLeN, nLt, nLe, nLtN, nLeN, hsr, han]
    exact hK
  simp only [List.drop_succ_cons, List.drop_zero]
  refine zD_cut 2 ?_ ?_ (fun K_ hK => ?_) ?_
  rotate_left 2
  · simp only [List.take_succ_cons, List.take_zero]
    simp (disch := omega) [oLt, oLe, oLtN, oLeN, nLt, nLe, nLtN, nLeN, hsr, han]
    exact hK
  simp only [List.drop_succ_cons, List.drop_zero]
  refine zD_cut 2 ?_ ?_ (fun K_ hK => ?_) ?_
  rotate_left 2
  · simp only [List.take_succ_cons, List.take_zero]
    simp (disch := omega) [oLt, oLe, oLtN, oLeN, nLt, nLe, nLtN, nLeN, hsr, han]
    exact hK
  simp only [List.drop_succ_cons, List.drop_zero]
  refine goD_ok (by decide) ?_
  delta p81_r9 p81_r10
  simp (disch := omega) [oLt, oLe, oLtN, oLeN, nLt, nLe, nLtN, nLeN]
  exact fin _ (.to [0, 1, 2, 3, 4, 5] (by simp [r6]))
theorem put_B0 {N : List Nat} {C : List Int} {f P p : Nat} {m : Int} {pre : List Int} {M y : Nat} {N1 : ST → Prop} {Q1 : Exit → ST → Prop} (hp16 : p < 16) (hP16 : P ≤ 16) (hpc : (p : Int) < P) (hpn : pre.length ≤ 16) (hsr : ∀ u v, effPlain2 Tryd.prog (fun a b => do eqGuard .shr 65 u v a b; binOp .shr 65 a b) (vU M) (vI p) = ret (vU y)) (han : ∀ u v, effPlain2 Tryd.prog (fun a b => do eqGuard .and 65 u v a b; binOp .and 65 a b) (vU y) (.v (.int .u32 1)) = ret (vU 0)) {b w v : Nat} (hNP : N.length = P) (hn0 : ¬ pre.length = 0) (gb : pre[pre.length - 1]? = some (b : Int)) (gw : N[b]? = some w) (hsr2 : ∀ u z, effPlain2 Tryd.prog (fun a b => do eqGuard .shr 65 u z a b; binOp .shr 65 a b) (vU w) (vI p) = ret (vU v)) {x : Nat} (han2 : ∀ u z, effPlain2 Tryd.prog (fun a b => do eqGuard .and 65 u z a b; binOp .and 65 a b) (vU v) (.v (.int .u32 1)) = ret (vU x)) (hx1 : ¬ x = 1) (fin : ∀ s', ChgT 6 s' (stU N C m pre M P (p + 1)) → N1 s') :
    XZ (rZ (spc [s82, s81r f N C])) 6 p81_l0 (stU N C m pre M P p) (thenE N1 Q1) := by
  have h0c : (0 : Int) < pre.length := by omega
  have hn0c : ¬ (pre.length : Int) = 0 := by omega
  have gb' := (List.getElem?_eq_some_iff.1 gb).2
  have gw' := (List.getElem?_eq_some_iff.1 gw).2
  have hbN : b < N.length := (List.getElem?_eq_some_iff.1 gw).1
  have hbNc : (b : Int) < N.length := by omega
  have hlast : ((pre.length : Int) - 1).toNat = pre.length - 1 := by omega
  have hne : ¬ pre = [] := fun e => hn0 (by rw [e]; rfl)
  have hxc : ¬ (x : Int) = 1 := by omega
  unfold stU at *
  simp only [hpR, putA] at *
  delta p81_l0
  refine XZ_step ?_ (fun N Q_ hN => ?_) ?_
  rotate_left
  · delta p81_r6; simp (disch := omega) [oLt, oLe, oLtN, oLeN, nLt, nLe, nLtN, nLeN, hpc]
    exact hN
  refine XZ_step ?_ (fun N_ Q_ hN_ => ?_) ?_
  rotate_left
  · simp (disch := omega) [oLt, oLe, oLtN, oLeN, nLt, nLe, nLtN, nLeN, hpc]
    exact hN_
  refine XZ_seqG (XZ_blockG ?_)
  refine XZ_step ?_ (fun N Q_ hN => ?_) ?_
  rotate_left
  · delta p81_r7; simp (disch := omega) [oLt, oLe, oLtN, oLeN, nLt, nLe, nLtN, nLeN]
    exact hN
  refine XZ_seqG (XZ_drawG ?_)
  delta p81_r8
  refine zD_cut 5 ?_ ?_ (fun K_ hK => ?_) ?_
  rotate_left 2
  · simp only [List.take_succ_cons, List.take_zero]
    simp (disch := omega) [oLt, oLe, oLtN, oLeN, nLt, nLe, nLtN, nLeN, hsr, han, hn0, hn0c, h0c, hne, gb, gb', gw, gw', hbN, hbNc, hlast, hsr2, han2, hx1, hxc]
    exact hK
  simp only [List.drop_succ_cons, List.drop_zero]
  refine zD_cut 3 ?_ ?_ (fun K_ hK => ?_) ?_
  rotate_left 2
  · simp only [List.take_succ_cons, List.take_zero]
    simp (disch := omega) [oLt, oLe, oLtN, oLeN, nLt, nLe, nLtN, nLeN, hsr, han, hn0, hn0c, h0c, hne, gb, gb', gw, gw', hbN, hbNc, hlast, hsr2, han2, hx1, hxc]
    exact hK
  simp only [List.drop_succ_cons, List.drop_zero]
  refine zD_cut 6 ?_ ?_ (fun K_ hK => ?_) ?_
  rotate_left 2
  · simp only [List.take_succ_cons, List.take_zero]
    simp (disch := omega) [oLt, oLe, oLtN, oLeN, nLt, nLe, nLtN, nLeN, hsr, han, hn0, hn0c, h0c, hne, gb, gb', gw, gw', hbN, hbNc, hlast, hsr2, han2, hx1, hxc]
    exact hK
  simp only [List.drop_succ_cons, List.drop_zero]
  refine zD_cut 6 ?_ ?_ (fun K_ hK => ?_) ?_
  rotate_left 2
  · simp only [List.take_succ_cons, List.take_zero]
    simp (disch := omega) [oLt, oLe, oLtN, oLeN, nLt, nLe, nLtN, nLeN, hsr, han, hn0, hn0c, h0c, hne, gb, gb', gw, gw', hbN, hbNc, hlast, hsr2, han2, hx1, hxc]
    exact hK
  simp only [List.drop_succ_cons, List.drop_zero]
  refine zD_cut 4 ?_ ?_ (fun K_ hK => ?_) ?_
  rotate_left 2
  · simp only [List.take_succ_cons, List.take_zero]
    simp (disch := omega) [oLt, oLe, oLtN, oLeN, nLt, nLe, nLtN, nLeN, hsr, han, hn0, hn0c, h0c, hne, gb, gb', gw, gw', hbN, hbNc, hlast, hsr2, han2, hx1, hxc]
    exact hK
  simp only [List.drop_succ_cons, List.drop_zero]
  refine zD_cut 4 ?_ ?_ (fun K_ hK => ?_) ?_
  rotate_left 2
  · simp only [List.take_succ_cons, List.take_zero]
    simp (disch := omega) [oLt, oLe, oLtN, oLeN, nLt, nLe, nLtN, nLeN, hsr, han, hn0, hn0c, h0c, hne, gb, gb', gw, gw', hbN, hbNc, hlast, hsr2, han2, hx1, hxc]
    exact hK
  simp only [List.drop_succ_cons, List.drop_zero]
  refine zD_cut 4 ?_ ?_ (fun K_ hK => ?_) ?_
  rotate_left 2
  · simp only [List.take_succ_cons, List.take_zero]
    simp (disch := omega) [oLt, oLe, oLtN, oLeN, nLt, nLe, nLtN, nLeN, hsr, han, hn0, hn0c, h0c, hne, gb, gb', gw, gw', hbN, hbNc, hlast, hsr2, han2, hx1, hxc]
    exact hK
  simp only [List.drop_succ_cons, List.drop_zero]
  refine zD_cut 2 ?_ ?_ (fun K_ hK => ?_) ?_
  rotate_left 2
  · simp only [List.take_succ_cons, List.take_zero]
    simp (disch := omega) [oLt, oLe, oLtN, oLeN, nLt, nLe, nLtN, nLeN, hsr, han, hn0, hn0c, h0c, hne, gb, gb', gw, gw', hbN, hbNc, hlast, hsr2, han2, hx1, hxc]
    exact hK
  simp only [List.drop_succ_cons, List.drop_zero]
  refine zD_cut 2 ?_ ?_ (fun K_ hK => ?_) ?_
  rotate_left 2
  · simp only [List.take_succ_cons, List.take_zero]
    simp (disch := omega) [oLt, oLe, oLtN, oLeN, nLt, nLe, nLtN, nLeN, hsr, han, hn0, hn0c, h0c, hne, gb, gb', gw, gw', hbN, hbNc, hlast, hsr2, han2, hx1, hxc]
    exact hK
  simp only [List.drop_succ_cons, List.drop_zero]
  refine goD_ok (by decide) ?_
  delta p81_r9 p81_r10
  simp (disch := omega) [oLt, oLe, oLtN, oLeN, nLt, nLe, nLtN, nLeN]
  exact fin _ (.to [0, 1, 2, 3, 4, 5] (by simp [r6]))
theorem put_Bn {N : List Nat} {C : List Int} {f P p : Nat} {m : Int} {pre : List Int} {M y : Nat} {N1 : ST → Prop} {Q1 : Exit → ST → Prop} (hp16 : p < 16) (hP16 : P ≤ 16) (hpc : (p : Int) < P) (hpn : pre.length ≤ 16) (hsr : ∀ u v, effPlain2 Tryd.prog (fun a b => do eqGuard .shr 65 u v a b; binOp .shr 65 a b) (vU M) (vI p) = ret (vU y)) (han : ∀ u v, effPlain2 Tryd.prog (fun a b => do eqGuard .and 65 u v a b; binOp .and 65 a b) (vU y) (.v (.int .u32 1)) = ret (vU 0)) {b w v : Nat} (hNP : N.length = P) (hn0 : ¬ pre.length = 0) (gb : pre[pre.length - 1]? = some (b : Int)) (gw : N[b]? = some w) (hsr2 : ∀ u z, effPlain2 Tryd.prog (fun a b => do eqGuard .shr 65 u z a b; binOp .shr 65 a b) (vU w) (vI p) = ret (vU v)) (han2 : ∀ u z, effPlain2 Tryd.prog (fun a b => do eqGuard .and 65 u z a b; binOp .and 65 a b) (vU v) (.v (.int .u32 1)) = ret (vU 1)) {B M2 : Nat} (hsh : ∀ u z, effPlain2 Tryd.prog (fun a b => do eqGuard .shl 65 u z a b; binOp .shl 65 a b) (.v (.int .u32 1)) (vI p) = ret (vU B)) (hor : ∀ u z, effPlain2 Tryd.prog (fun a b => do eqGuard .or 65 u z a b; binOp .or 65 a b) (vU M) (vU B) = ret (vU M2)) (hgd : GdR f N C m (pre ++ [(p : Int)]) (M2 : Nat)) (hrr : ringR (JN N) N.length m.toNat f (pre ++ [(p : Int)]) = none) (fin : ∀ s', ChgT 6 s' (stU N C m pre M P (p + 1)) → N1 s') :
    XZ (rZ (spc [s82, s81r f N C])) 6 p81_l0 (stU N C m pre M P p) (thenE N1 Q1) := by
  have h0c : (0 : Int) < pre.length := by omega
  have hn0c : ¬ (pre.length : Int) = 0 := by omega
  have gb' := (List.getElem?_eq_some_iff.1 gb).2
  have gw' := (List.getElem?_eq_some_iff.1 gw).2
  have hbN : b < N.length := (List.getElem?_eq_some_iff.1 gw).1
  have hbNc : (b : Int) < N.length := by omega
  have hlast : ((pre.length : Int) - 1).toNat = pre.length - 1 := by omega
  have hne : ¬ pre = [] := fun e => hn0 (by rw [e]; rfl)
  unfold stU at *
  simp only [hpR, putA] at *
  delta p81_l0
  refine XZ_step ?_ (fun N Q_ hN => ?_) ?_
  rotate_left
  · delta p81_r6; simp (disch := omega) [oLt, oLe, oLtN, oLeN, nLt, nLe, nLtN, nLeN, hpc]
    exact hN
  refine XZ_step ?_ (fun N_ Q_ hN_ => ?_) ?_
  rotate_left
  · simp (disch := omega) [oLt, oLe, oLtN, oLeN, nLt, nLe, nLtN, nLeN, hpc]
    exact hN_
  refine XZ_seqG (XZ_blockG ?_)
  refine XZ_step ?_ (fun N Q_ hN => ?_) ?_
  rotate_left
  · delta p81_r7; simp (disch := omega) [oLt, oLe, oLtN, oLeN, nLt, nLe, nLtN, nLeN]
    exact hN
  refine XZ_seqG (XZ_drawG ?_)
  delta p81_r8
  refine zD_cut 5 ?_ ?_ (fun K_ hK => ?_) ?_
  rotate_left 2
  · simp only [List.take_succ_cons, List.take_zero]
    simp (disch := omega) [oLt, oLe, oLtN, oLeN, nLt, nLe, nLtN, nLeN, hsr, han, hn0, hn0c, h0c, hne, gb, gb', gw, gw', hbN, hbNc, hlast, hsr2, han2, hsh, hor, hgd, hrr, resR, hpR, putA, r6]
    exact hK
  simp only [List.drop_succ_cons, List.drop_zero]
  refine zD_cut 3 ?_ ?_ (fun K_ hK => ?_) ?_
  rotate_left 2
  · simp only [List.take_succ_cons, List.take_zero]
    simp (disch := omega) [oLt, oLe, oLtN, oLeN, nLt, nLe, nLtN, nLeN, hsr, han, hn0, hn0c, h0c, hne, gb, gb', gw, gw', hbN, hbNc, hlast, hsr2, han2, hsh, hor, hgd, hrr, resR, hpR, putA, r6]
    exact hK
  simp only [List.drop_succ_cons, List.drop_zero]
  refine zD_cut 6 ?_ ?_ (fun K_ hK => ?_) ?_
  rotate_left 2
  · simp only [List.take_succ_cons, List.take_zero]
    simp (disch := omega) [oLt, oLe, oLtN, oLeN, nLt, nLe, nLtN, nLeN, hsr, han, hn0, hn0c, h0c, hne, gb, gb', gw, gw', hbN, hbNc, hlast, hsr2, han2, hsh, hor, hgd, hrr, resR, hpR, putA, r6]
    exact hK
  simp only [List.drop_succ_cons, List.drop_zero]
  refine zD_cut 6 ?_ ?_ (fun K_ hK => ?_) ?_
  rotate_left 2
  · simp only [List.take_succ_cons, List.take_zero]
    simp (disch := omega) [oLt, oLe, oLtN, oLeN, nLt, nLe, nLtN, nLeN, hsr, han, hn0, hn0c, h0c, hne, gb, gb', gw, gw', hbN, hbNc, hlast, hsr2, han2, hsh, hor, hgd, hrr, resR, hpR, putA, r6]
    exact hK
  simp only [List.drop_succ_cons, List.drop_zero]
  refine zD_cut 4 ?_ ?_ (fun K_ hK => ?_) ?_
  rotate_left 2
  · simp only [List.take_succ_cons, List.take_zero]
    simp (disch := omega) [oLt, oLe, oLtN, oLeN, nLt, nLe, nLtN, nLeN, hsr, han, hn0, hn0c, h0c, hne, gb, gb', gw, gw', hbN, hbNc, hlast, hsr2, han2, hsh, hor, hgd, hrr, resR, hpR, putA, r6]
    exact hK
  simp only [List.drop_succ_cons, List.drop_zero]
  refine zD_cut 4 ?_ ?_ (fun K_ hK => ?_) ?_
  rotate_left 2
  · simp only [List.take_succ_cons, List.take_zero]
    simp (disch := omega) [oLt, oLe, oLtN, oLeN, nLt, nLe, nLtN, nLeN, hsr, han, hn0, hn0c, h0c, hne, gb, gb', gw, gw', hbN, hbNc, hlast, hsr2, han2, hsh, hor, hgd, hrr, resR, hpR, putA, r6]
    exact hK
  simp only [List.drop_succ_cons, List.drop_zero]
  refine zD_cut 4 ?_ ?_ (fun K_ hK => ?_) ?_
  rotate_left 2
  · simp only [List.take_succ_cons, List.take_zero]
    simp (disch := omega) [oLt, oLe, oLtN, oLeN, nLt, nLe, nLtN, nLeN, hsr, han, hn0, hn0c, h0c, hne, gb, gb', gw, gw', hbN, hbNc, hlast, hsr2, han2, hsh, hor, hgd, hrr, resR, hpR, putA, r6]
    exact hK
  simp only [List.drop_succ_cons, List.drop_zero]
  refine zD_cut 2 ?_ ?_ (fun K_ hK => ?_) ?_
  rotate_left 2
  · simp only [List.take_succ_cons, List.take_zero]
    simp (disch := omega) [oLt, oLe, oLtN, oLeN, nLt, nLe, nLtN, nLeN, hsr, han, hn0, hn0c, h0c, hne, gb, gb', gw, gw', hbN, hbNc, hlast, hsr2, han2, hsh, hor, hgd, hrr, resR, hpR, putA, r6]
    exact hK
  simp only [List.drop_succ_cons, List.drop_zero]
  refine zD_cut 2 ?_ ?_ (fun K_ hK => ?_) ?_
  rotate_left 2
  · simp only [List.take_succ_cons, List.take_zero]
    simp (disch := omega) [oLt, oLe, oLtN, oLeN, nLt, nLe, nLtN, nLeN, hsr, han, hn0, hn0c, h0c, hne, gb, gb', gw, gw', hbN, hbNc, hlast, hsr2, han2, hsh, hor, hgd, hrr, resR, hpR, putA, r6]
    exact hK
  simp only [List.drop_succ_cons, List.drop_zero]
  refine goD_ok (by decide) ?_
  delta p81_r9 p81_r10
  simp (disch := omega) [oLt, oLe, oLtN, oLeN, nLt, nLe, nLtN, nLeN]
  exact fin _ (.to [0, 1, 2, 3, 4, 5] (by simp [r6]))
theorem put_Bs {N : List Nat} {C : List Int} {f P p : Nat} {m : Int} {pre : List Int} {M y : Nat} {N1 : ST → Prop} {Q1 : Exit → ST → Prop} (hp16 : p < 16) (hP16 : P ≤ 16) (hpc : (p : Int) < P) (hpn : pre.length ≤ 16) (hsr : ∀ u v, effPlain2 Tryd.prog (fun a b => do eqGuard .shr 65 u v a b; binOp .shr 65 a b) (vU M) (vI p) = ret (vU y)) (han : ∀ u v, effPlain2 Tryd.prog (fun a b => do eqGuard .and 65 u v a b; binOp .and 65 a b) (vU y) (.v (.int .u32 1)) = ret (vU 0)) {b w v : Nat} (hNP : N.length = P) (hn0 : ¬ pre.length = 0) (gb : pre[pre.length - 1]? = some (b : Int)) (gw : N[b]? = some w) (hsr2 : ∀ u z, effPlain2 Tryd.prog (fun a b => do eqGuard .shr 65 u z a b; binOp .shr 65 a b) (vU w) (vI p) = ret (vU v)) (han2 : ∀ u z, effPlain2 Tryd.prog (fun a b => do eqGuard .and 65 u z a b; binOp .and 65 a b) (vU v) (.v (.int .u32 1)) = ret (vU 1)) {B M2 : Nat} (hsh : ∀ u z, effPlain2 Tryd.prog (fun a b => do eqGuard .shl 65 u z a b; binOp .shl 65 a b) (.v (.int .u32 1)) (vI p) = ret (vU B)) (hor : ∀ u z, effPlain2 Tryd.prog (fun a b => do eqGuard .or 65 u z a b; binOp .or 65 a b) (vU M) (vU B) = ret (vU M2)) (hgd : GdR f N C m (pre ++ [(p : Int)]) (M2 : Nat)) {q : List Int} (hrr : ringR (JN N) N.length m.toNat f (pre ++ [(p : Int)]) = some q) (fin : ∀ s', ChgT 6 s' ⟨[(9, vB true)], hpR 1 m (.il (ints q) q.length false) N C, 6⟩ → Q1 .ret s') :
    XZ (rZ (spc [s82, s81r f N C])) 6 p81_l0 (stU N C m pre M P p) (thenE N1 Q1) := by
  have h0c : (0 : Int) < pre.length := by omega
  have hn0c : ¬ (pre.length : Int) = 0 := by omega
  have gb' := (List.getElem?_eq_some_iff.1 gb).2
  have gw' := (List.getElem?_eq_some_iff.1 gw).2
  have hbN : b < N.length := (List.getElem?_eq_some_iff.1 gw).1
  have hbNc : (b : Int) < N.length := by omega
  have hlast : ((pre.length : Int) - 1).toNat = pre.length - 1 := by omega
  have hne : ¬ pre = [] := fun e => hn0 (by rw [e]; rfl)
  unfold stU at *
  simp only [hpR, putA] at *
  delta p81_l0
  refine XZ_step ?_ (fun N Q_ hN => ?_) ?_
  rotate_left
  · delta p81_r6; simp (disch := omega) [oLt, oLe, oLtN, oLeN, nLt, nLe, nLtN, nLeN, hpc]
    exact hN
  refine XZ_step ?_ (fun N_ Q_ hN_ => ?_) ?_
  rotate_left
  · simp (disch := omega) [oLt, oLe, oLtN, oLeN, nLt, nLe, nLtN, nLeN, hpc]
    exact hN_
  refine XZ_seqG (XZ_blockG ?_)
  refine XZ_step ?_ (fun N Q_ hN => ?_) ?_
  rotate_left
  · delta p81_r7; simp (disch := omega) [oLt, oLe, oLtN, oLeN, nLt, nLe, nLtN, nLeN]
    exact hN
  refine XZ_seqG (XZ_drawG ?_)
  delta p81_r8
  refine zD_cut 5 ?_ ?_ (fun K_ hK => ?_) ?_
  rotate_left 2
  · simp only [List.take_succ_cons, List.take_zero]
    simp (disch := omega) [oLt, oLe, oLtN, oLeN, nLt, nLe, nLtN, nLeN, hsr, han, hn0, hn0c, h0c, hne, gb, gb', gw, gw', hbN, hbNc, hlast, hsr2, han2, hsh, hor, hgd, hrr, resR, hpR, putA, r6]
    exact hK
  simp only [List.drop_succ_cons, List.drop_zero]
  refine zD_cut 3 ?_ ?_ (fun K_ hK => ?_) ?_
  rotate_left 2
  · simp only [List.take_succ_cons, List.take_zero]
    simp (disch := omega) [oLt, oLe, oLtN, oLeN, nLt, nLe, nLtN, nLeN, hsr, han, hn0, hn0c, h0c, hne, gb, gb', gw, gw', hbN, hbNc, hlast, hsr2, han2, hsh, hor, hgd, hrr, resR, hpR, putA, r6]
    exact hK
  simp only [List.drop_succ_cons, List.drop_zero]
  refine zD_cut 6 ?_ ?_ (fun K_ hK => ?_) ?_
  rotate_left 2
  · simp only [List.take_succ_cons, List.take_zero]
    simp (disch := omega) [oLt, oLe, oLtN, oLeN, nLt, nLe, nLtN, nLeN, hsr, han, hn0, hn0c, h0c, hne, gb, gb', gw, gw', hbN, hbNc, hlast, hsr2, han2, hsh, hor, hgd, hrr, resR, hpR, putA, r6]
    exact hK
  simp only [List.drop_succ_cons, List.drop_zero]
  refine zD_cut 6 ?_ ?_ (fun K_ hK => ?_) ?_
  rotate_left 2
  · simp only [List.take_succ_cons, List.take_zero]
    simp (disch := omega) [oLt, oLe, oLtN, oLeN, nLt, nLe, nLtN, nLeN, hsr, han, hn0, hn0c, h0c, hne, gb, gb', gw, gw', hbN, hbNc, hlast, hsr2, han2, hsh, hor, hgd, hrr, resR, hpR, putA, r6]
    exact hK
  simp only [List.drop_succ_cons, List.drop_zero]
  refine zD_cut 4 ?_ ?_ (fun K_ hK => ?_) ?_
  rotate_left 2
  · simp only [List.take_succ_cons, List.take_zero]
    simp (disch := omega) [oLt, oLe, oLtN, oLeN, nLt, nLe, nLtN, nLeN, hsr, han, hn0, hn0c, h0c, hne, gb, gb', gw, gw', hbN, hbNc, hlast, hsr2, han2, hsh, hor, hgd, hrr, resR, hpR, putA, r6]
    exact hK
  simp only [List.drop_succ_cons, List.drop_zero]
  refine zD_cut 4 ?_ ?_ (fun K_ hK => ?_) ?_
  rotate_left 2
  · simp only [List.take_succ_cons, List.take_zero]
    simp (disch := omega) [oLt, oLe, oLtN, oLeN, nLt, nLe, nLtN, nLeN, hsr, han, hn0, hn0c, h0c, hne, gb, gb', gw, gw', hbN, hbNc, hlast, hsr2, han2, hsh, hor, hgd, hrr, resR, hpR, putA, r6]
    exact hK
  simp only [List.drop_succ_cons, List.drop_zero]
  refine zD_cut 4 ?_ ?_ (fun K_ hK => ?_) ?_
  rotate_left 2
  · simp only [List.take_succ_cons, List.take_zero]
    simp (disch := omega) [oLt, oLe, oLtN, oLeN, nLt, nLe, nLtN, nLeN, hsr, han, hn0, hn0c, h0c, hne, gb, gb', gw, gw', hbN, hbNc, hlast, hsr2, han2, hsh, hor, hgd, hrr, resR, hpR, putA, r6]
    exact hK
  simp only [List.drop_succ_cons, List.drop_zero]
  refine zD_cut 2 ?_ ?_ (fun K_ hK => ?_) ?_
  rotate_left 2
  · simp only [List.take_succ_cons, List.take_zero]
    simp (disch := omega) [oLt, oLe, oLtN, oLeN, nLt, nLe, nLtN, nLeN, hsr, han, hn0, hn0c, h0c, hne, gb, gb', gw, gw', hbN, hbNc, hlast, hsr2, han2, hsh, hor, hgd, hrr, resR, hpR, putA, r6]
    exact hK
  simp only [List.drop_succ_cons, List.drop_zero]
  refine zD_cut 2 ?_ ?_ (fun K_ hK => ?_) ?_
  rotate_left 2
  · simp only [List.take_succ_cons, List.take_zero]
    simp (disch := omega) [oLt, oLe, oLtN, oLeN, nLt, nLe, nLtN, nLeN, hsr, han, hn0, hn0c, h0c, hne, gb, gb', gw, gw', hbN, hbNc, hlast, hsr2, han2, hsh, hor, hgd, hrr, resR, hpR, putA, r6]
    exact hK
  simp only [List.drop_succ_cons, List.drop_zero]
  refine goD_ok (by decide) ?_
  delta p81_r9 p81_r10
  simp (disch := omega) [oLt, oLe, oLtN, oLeN, nLt, nLe, nLtN, nLeN]
  exact fin _ (.to [0, 1, 2, 3, 4, 5] (by simp [r6]))
end Go.Sx.Ch
