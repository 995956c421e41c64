/- What functions of the document's lock layer return: two basins; they are the program's. No conditions. -/
import Derived.Test.YteoiebmbgbgpgaaSxJMAtoNH
import Derived.Test.YteoiebmbgbgpgaaSxJLAtoNA
import Derived.Test.YteoiebmbgbgpgaaSxJSttoSd
import Derived.Test.YteoiebmbgbgpgaaSxJLWtoNC
import Derived.Test.YteoiebmbgbgpgaaSxJNtoNq
import Derived.KernelRfl
import Derived.Test.YteoiebmbgbgpgaaProg
set_option linter.unusedVariables false
set_option linter.unusedSimpArgs false
set_option maxRecDepth 4000
namespace Go.Sx.Lk
open Go Go.Sx Go.Proofs
section
set_option maxHeartbeats 8000000
theorem goOn_ofI {K : Exit → ST → Prop} {ks : List Nat} {e : List (Nat × AV)} {h : HL} {n : Nat} (hh : K .normal ⟨kp e ks, h, n⟩) : goOn K ks ⟨e, h, n⟩ := by rw [goOn_mk]; exact hh
def adjD (l : List Int) (a b : Int) : Bool := clD l (if b < a then b else a) (if a < b then b else a)
def pastD (l B : List Int) : List (Int × Int) := (l.zip B).reverse
def tw86 (l B : List Int) : Option (List Int) := bt (adjD l) (l.drop B.length) (pastD l B)
def r86 : Option (List Int) → AV
  | some c => .tup [.il (ints c) c.length false, vB true]
  | none => .tup [.il [] 0 false, vB false]
theorem pastD_map {l B : List Int} (h : B.length ≤ l.length) : (pastD l B).reverse.map Prod.snd = B := by
  unfold pastD
  rw [List.reverse_reverse, List.map_snd_zip]
  omega
theorem zip_snoc : ∀ {l B : List Int} {k : Int} (x : Int), l[B.length]? = some k → l.zip (B ++ [x]) = l.zip B ++ [(k, x)]
  | [], [], k, x, h => by simp at h
  | a :: l, [], k, x, h => by simp at h; subst h; simp
  | [], b :: B, k, x, h => by simp at h
  | a :: l, b :: B, k, x, h => by
    have := zip_snoc (l := l) (B := B) x (by simpa using h)
    simp [this]
theorem pastD_snoc {l B : List Int} {k : Int} (x : Int) (h : l[B.length]? = some k) : pastD l (B ++ [x]) = (k, x) :: pastD l B := by
  unfold pastD
  rw [zip_snoc x h, List.reverse_append]; rfl
def fr86 (l B : List Int) (k x : Int) (i : Nat) : Bool := ((l.zip B).take i).all fun p => !(decide (p.2 = x) && adjD l p.1 k)
theorem fr86_all (l B : List Int) (k x : Int) (h : B.length ≤ l.length) : fr86 l B k x B.length = fre (adjD l) (pastD l B) k x := by
  unfold fr86 fre pastD
  rw [List.all_reverse, List.take_of_length_le (by simp; omega)]
theorem fr86_succ {l B : List Int} {k x a b : Int} {i : Nat} (h1 : l[i]? = some a) (h2 : B[i]? = some b) : fr86 l B k x (i + 1) = (fr86 l B k x i && !(decide (b = x) && adjD l a k)) := by
  unfold fr86
  have hz : (l.zip B)[i]? = some (a, b) := by rw [List.getElem?_zip_eq_some]; exact ⟨h1, h2⟩
  have hi := (List.getElem?_eq_some_iff.1 hz).1
  rw [List.take_succ_eq_append_getElem hi, List.all_append]
  rw [List.getElem?_eq_getElem hi] at hz
  rw [Option.some.inj hz]
  simp
def g86 (f : Nat) (l B : List Int) : Bool := decide (chkF l = 0) && decide (B.length ≤ l.length ∧ l.length - B.length + 1 ≤ f)
noncomputable def s86 (f : Nat) : Sp := spT 86 [.l, .l] fun (l : List Int) (B : List Int) => res (g86 f l B) (r86 (tw86 l B))
@[simp] theorem s86_g (f : Nat) : (s86 f).g = 86 := rfl
@[simp] theorem s86_f (f : Nat) : (s86 f).f = (spT 86 [.l, .l] fun (l : List Int) (B : List Int) => res (g86 f l B) (r86 (tw86 l B))).f := rfl
def mk86 (l : List Int) (u : Bool) (B : List Int) (v : Bool) (x : Int) (fr : Bool) (i : Nat) : ST := ⟨[(0, .il (ints l) l.length u), (1, .il (ints B) B.length v), (6, vI B.length), (7, vI x), (8, vB fr), (9, vI i)], [], 0⟩
theorem mn2 (a b : Int) : effBig false [vI a, vI b] = ret (vI (if b < a then b else a)) := mn_eff a b
theorem mx2 (a b : Int) : effBig true [vI a, vI b] = ret (vI (if a < b then b else a)) := by
  by_cases h : a < b <;> simp [effBig, h]
def anc86 : List (List Nat) := [[], [0], [1, 0], [1, 0], [2, 3, 1, 0], [4, 2, 3, 1, 0], [1, 0], [5, 6, 4, 2, 3, 1, 0], [7, 5, 6, 4, 2, 3, 1, 0], [8, 7, 5, 6, 4, 2, 3, 1, 0], [8, 7, 5, 6, 4, 2, 3, 1, 0], [8, 7, 5, 6, 4, 2, 3, 1, 0], [10, 11, 8, 7, 5, 6, 4, 2, 3, 1, 0], [12, 10, 11, 8, 7, 5, 6, 4, 2, 3, 1, 0], [8, 7, 5, 6, 4, 2, 3, 1, 0], [8, 7, 5, 6, 4, 2, 3, 1, 0], [14, 15, 8, 7, 5, 6, 4, 2, 3, 1, 0], [16, 14, 15, 8, 7, 5, 6, 4, 2, 3, 1, 0], [13, 17, 12, 10, 11, 16, 14, 15, 8, 7, 5, 6, 4, 2, 3, 1, 0], [8, 7, 5, 6, 4, 2, 3, 1, 0], [8, 7, 5, 6, 4, 2, 3, 1, 0], [19, 20, 8, 7, 5, 6, 4, 2, 3, 1, 0], [21, 19, 20, 8, 7, 5, 6, 4, 2, 3, 1, 0], [8, 7, 5, 6, 4, 2, 3, 1, 0], [8, 7, 5, 6, 4, 2, 3, 1, 0], [23, 24, 8, 7, 5, 6, 4, 2, 3, 1, 0], [25, 23, 24, 8, 7, 5, 6, 4, 2, 3, 1, 0], [22, 26, 21, 19, 20, 25, 23, 24, 8, 7, 5, 6, 4, 2, 3, 1, 0], [9, 18, 27, 13, 17, 12, 10, 11, 16, 14, 15, 22, 26, 21, 19, 20, 25, 23, 24, 8, 7, 5, 6, 4, 2, 3, 1, 0], [28, 9, 18, 27, 13, 17, 12, 10, 11, 16, 14, 15, 22, 26, 21, 19, 20, 25, 23, 24, 8, 7, 5, 6, 4, 2, 3, 1, 0], [29, 28, 9, 18, 27, 13, 17, 12, 10, 11, 16, 14, 15, 22, 26, 21, 19, 20, 25, 23, 24, 8, 7, 5, 6, 4, 2, 3, 1, 0], [30, 29, 28, 9, 18, 27, 13, 17, 12, 10, 11, 16, 14, 15, 22, 26, 21, 19, 20, 25, 23, 24, 8, 7, 5, 6, 4, 2, 3, 1, 0], [31, 30, 29, 28, 9, 18, 27, 13, 17, 12, 10, 11, 16, 14, 15, 22, 26, 21, 19, 20, 25, 23, 24, 8, 7, 5, 6, 4, 2, 3, 1, 0]]
theorem p86_l0_anc : p86_l0 = (.seq (.seq (.reg p86_r8 [0, 1, 6, 7, 8, 9, 25]) (.cond (Operand.tmp 25) .skip (.exit 2))) (.seq (.block 3 (.draw p86_r9 anc86 [0, 1, 6, 7, 8, 9])) (.reg p86_r10 [0, 1, 6, 7, 8, 9]))) := rfl
theorem step86f {f : Nat} {l B : List Int} {u v : Bool} {x k : Int} {i : Nat} {N : ST → Prop} {Q' : Exit → ST → Prop} (hck : chkF l = 0) (hB : B.length < l.length) (hi : i < B.length) (hk : l[B.length]? = some k) {a b : Int} (ha : l[i]? = some a) (hb : B[i]? = some b)
    (fin : ∀ s', ChgT 0 s' (mk86 l u B v x false (i + 1)) → N s') : XZ (rZ (spc [s83, s86 f])) 0 p86_l0 (mk86 l u B v x false i) (thenE N Q') := by
  have hl7 := (chkF_len hck).2
  have hic : (i : Int) < B.length := by omega
  simp only [mk86] at fin ⊢
  rw [p86_l0_anc]
  delta p86_r8
  refine XZ_step ?_ (fun N Q_ hN => ?_) ?_
  rotate_left
  · simp (disch := omega) [oLt, oLe, oLtN, oLeN, nLt, nLe, nLtN, nLeN, hic]
    exact hN
  refine XZ_step ?_ (fun N Q_ hN => ?_) ?_
  rotate_left
  · rw [XZ_block]
    refine XZ_drawG ?_
    delta p86_r9
    refine zD_cut 5 ?_ ?_ (fun K_ hK => ?_) ?_
    rotate_left 2
    · simp only [List.take_succ_cons, List.take_zero]
      simp (disch := omega) [oLt, oLe, oLtN, oLeN, nLt, nLe, nLtN, nLeN]
      exact hK
    simp only [List.drop_succ_cons, List.drop_zero]
    refine zD_cut 5 ?_ ?_ (fun K_ hK => ?_) ?_
    rotate_left 2
    · simp only [List.take_succ_cons, List.take_zero]
      simp (disch := omega) [oLt, oLe, oLtN, oLeN, nLt, nLe, nLtN, nLeN]
      exact hK
    simp only [List.drop_succ_cons, List.drop_zero]
    refine zD_cut 5 ?_ ?_ (fun K_ hK => ?_) ?_
    rotate_left 2
    · simp only [List.take_succ_cons, List.take_zero]
      simp (disch := omega) [oLt, oLe, oLtN, oLeN, nLt, nLe, nLtN, nLeN]
      exact hK
    simp only [List.drop_succ_cons, List.drop_zero]
    refine zD_cut 5 ?_ ?_ (fun K_ hK => ?_) ?_
    rotate_left 2
    · simp only [List.take_succ_cons, List.take_zero]
      simp (disch := omega) [oLt, oLe, oLtN, oLeN, nLt, nLe, nLtN, nLeN]
      exact hK
    simp only [List.drop_succ_cons, List.drop_zero]
    refine zD_cut 5 ?_ ?_ (fun K_ hK => ?_) ?_
    rotate_left 2
    · simp only [List.take_succ_cons, List.take_zero]
      simp (disch := omega) [oLt, oLe, oLtN, oLeN, nLt, nLe, nLtN, nLeN]
      exact hK
    simp only [List.drop_succ_cons, List.drop_zero]
    refine zD_cut 5 ?_ ?_ (fun K_ hK => ?_) ?_
    rotate_left 2
    · simp only [List.take_succ_cons, List.take_zero]
      simp (disch := omega) [oLt, oLe, oLtN, oLeN, nLt, nLe, nLtN, nLeN]
      exact hK
    simp only [List.drop_succ_cons, List.drop_zero]
    refine zD_cut 3 ?_ ?_ (fun K_ hK => ?_) ?_
    rotate_left 2
    · simp only [List.take_succ_cons, List.take_zero]
      simp (disch := omega) [oLt, oLe, oLtN, oLeN, nLt, nLe, nLtN, nLeN]
      exact hK
    simp only [List.drop_succ_cons, List.drop_zero]
    refine goD_ok (by kernel_rfl) ?_
    refine goOn_ofI ?_
    simp only [kp_cons, kp_nil, enF_cons]
    exact hN
  delta p86_r10
  simp (disch := omega) [oLt, oLe, oLtN, oLeN, nLt, nLe, nLtN, nLeN]
  exact fin _ (.to [] (by simp))
theorem step86n {f : Nat} {l B : List Int} {u v : Bool} {x k : Int} {i : Nat} {N : ST → Prop} {Q' : Exit → ST → Prop} (hck : chkF l = 0) (hB : B.length < l.length) (hi : i < B.length) (hk : l[B.length]? = some k) {a b : Int} (ha : l[i]? = some a) (hb : B[i]? = some b) (hbx : ¬ b = x)
    (fin : ∀ s', ChgT 0 s' (mk86 l u B v x true (i + 1)) → N s') : XZ (rZ (spc [s83, s86 f])) 0 p86_l0 (mk86 l u B v x true i) (thenE N Q') := by
  have hl7 := (chkF_len hck).2
  have hic : (i : Int) < B.length := by omega
  have hb' := (List.getElem?_eq_some_iff.1 hb).2
  simp only [mk86] at fin ⊢
  rw [p86_l0_anc]
  delta p86_r8
  refine XZ_step ?_ (fun N Q_ hN => ?_) ?_
  rotate_left
  · simp (disch := omega) [oLt, oLe, oLtN, oLeN, nLt, nLe, nLtN, nLeN, hic]
    exact hN
  refine XZ_step ?_ (fun N Q_ hN => ?_) ?_
  rotate_left
  · rw [XZ_block]
    refine XZ_drawG ?_
    delta p86_r9
    refine zD_cut 5 ?_ ?_ (fun K_ hK => ?_) ?_
    rotate_left 2
    · simp only [List.take_succ_cons, List.take_zero]
      simp (disch := omega) [oLt, oLe, oLtN, oLeN, nLt, nLe, nLtN, nLeN, hb, hb', hic, hi, hbx]
      exact hK
    simp only [List.drop_succ_cons, List.drop_zero]
    refine zD_cut 5 ?_ ?_ (fun K_ hK => ?_) ?_
    rotate_left 2
    · simp only [List.take_succ_cons, List.take_zero]
      simp (disch := omega) [oLt, oLe, oLtN, oLeN, nLt, nLe, nLtN, nLeN, hb, hb', hic, hi, hbx]
      exact hK
    simp only [List.drop_succ_cons, List.drop_zero]
    refine zD_cut 5 ?_ ?_ (fun K_ hK => ?_) ?_
    rotate_left 2
    · simp only [List.take_succ_cons, List.take_zero]
      simp (disch := omega) [oLt, oLe, oLtN, oLeN, nLt, nLe, nLtN, nLeN, hb, hb', hic, hi, hbx]
      exact hK
    simp only [List.drop_succ_cons, List.drop_zero]
    refine zD_cut 5 ?_ ?_ (fun K_ hK => ?_) ?_
    rotate_left 2
    · simp only [List.take_succ_cons, List.take_zero]
      simp (disch := omega) [oLt, oLe, oLtN, oLeN, nLt, nLe, nLtN, nLeN, hb, hb', hic, hi, hbx]
      exact hK
    simp only [List.drop_succ_cons, List.drop_zero]
    refine zD_cut 5 ?_ ?_ (fun K_ hK => ?_) ?_
    rotate_left 2
    · simp only [List.take_succ_cons, List.take_zero]
      simp (disch := omega) [oLt, oLe, oLtN, oLeN, nLt, nLe, nLtN, nLeN, hb, hb', hic, hi, hbx]
      exact hK
    simp only [List.drop_succ_cons, List.drop_zero]
    refine zD_cut 5 ?_ ?_ (fun K_ hK => ?_) ?_
    rotate_left 2
    · simp only [List.take_succ_cons, List.take_zero]
      simp (disch := omega) [oLt, oLe, oLtN, oLeN, nLt, nLe, nLtN, nLeN, hb, hb', hic, hi, hbx]
      exact hK
    simp only [List.drop_succ_cons, List.drop_zero]
    refine zD_cut 3 ?_ ?_ (fun K_ hK => ?_) ?_
    rotate_left 2
    · simp only [List.take_succ_cons, List.take_zero]
      simp (disch := omega) [oLt, oLe, oLtN, oLeN, nLt, nLe, nLtN, nLeN, hb, hb', hic, hi, hbx]
      exact hK
    simp only [List.drop_succ_cons, List.drop_zero]
    refine goD_ok (by kernel_rfl) ?_
    refine goOn_ofI ?_
    simp only [kp_cons, kp_nil, enF_cons]
    exact hN
  delta p86_r10
  simp (disch := omega) [oLt, oLe, oLtN, oLeN, nLt, nLe, nLtN, nLeN]
  exact fin _ (.to [] (by simp))
theorem step86y {f : Nat} {l B : List Int} {u v : Bool} {k lo hh : Int} {i : Nat} {N : ST → Prop} {Q' : Exit → ST → Prop} (hl7 : l.length ≤ 7) (hsm : small l = true) (hB : B.length < l.length) (hi : i < B.length) (hk : l[B.length]? = some k) {a b : Int} (ha : l[i]? = some a) (hb : B[i]? = some b)
    (hmn : effBig false [vI a, vI k] = ret (vI lo)) (hmx : effBig true [vI a, vI k] = ret (vI hh)) (hlo0 : 0 ≤ lo) (hlo1 : lo ≤ 100)
    (fin : ∀ s', ChgT 0 s' (mk86 l u B v b (!(clD l lo hh)) (i + 1)) → N s') : XZ (rZ (spc [s83, s86 f])) 0 p86_l0 (mk86 l u B v b true i) (thenE N Q') := by
  have hic : (i : Int) < B.length := by omega
  have hil : i < l.length := by omega
  have hilc : (i : Int) < l.length := by omega
  have hBc : (B.length : Int) < l.length := by omega
  have ha' := (List.getElem?_eq_some_iff.1 ha).2
  have hb' := (List.getElem?_eq_some_iff.1 hb).2
  have hk' := (List.getElem?_eq_some_iff.1 hk).2
  simp only [mk86] at fin ⊢
  rw [p86_l0_anc]
  delta p86_r8
  refine XZ_step ?_ (fun N Q_ hN => ?_) ?_
  rotate_left
  · simp (disch := omega) [oLt, oLe, oLtN, oLeN, nLt, nLe, nLtN, nLeN, hic]
    exact hN
  refine XZ_step ?_ (fun N Q_ hN => ?_) ?_
  rotate_left
  · rw [XZ_block]
    refine XZ_drawG ?_
    delta p86_r9
    refine zD_cut 5 ?_ ?_ (fun K_ hK => ?_) ?_
    rotate_left 2
    · simp only [List.take_succ_cons, List.take_zero]
      simp (disch := omega) [oLt, oLe, oLtN, oLeN, nLt, nLe, nLtN, nLeN, ha, ha', hb, hb', hk, hk', hic, hi, hil, hilc, hBc, hB, hmn, hmx, hsm, hlo0, hlo1]
      exact hK
    simp only [List.drop_succ_cons, List.drop_zero]
    refine zD_cut 5 ?_ ?_ (fun K_ hK => ?_) ?_
    rotate_left 2
    · simp only [List.take_succ_cons, List.take_zero]
      simp (disch := omega) [oLt, oLe, oLtN, oLeN, nLt, nLe, nLtN, nLeN, ha, ha', hb, hb', hk, hk', hic, hi, hil, hilc, hBc, hB, hmn, hmx, hsm, hlo0, hlo1]
      exact hK
    simp only [List.drop_succ_cons, List.drop_zero]
    refine zD_cut 5 ?_ ?_ (fun K_ hK => ?_) ?_
    rotate_left 2
    · simp only [List.take_succ_cons, List.take_zero]
      simp (disch := omega) [oLt, oLe, oLtN, oLeN, nLt, nLe, nLtN, nLeN, ha, ha', hb, hb', hk, hk', hic, hi, hil, hilc, hBc, hB, hmn, hmx, hsm, hlo0, hlo1]
      exact hK
    simp only [List.drop_succ_cons, List.drop_zero]
    refine zD_cut 5 ?_ ?_ (fun K_ hK => ?_) ?_
    rotate_left 2
    · simp only [List.take_succ_cons, List.take_zero]
      simp (disch := omega) [oLt, oLe, oLtN, oLeN, nLt, nLe, nLtN, nLeN, ha, ha', hb, hb', hk, hk', hic, hi, hil, hilc, hBc, hB, hmn, hmx, hsm, hlo0, hlo1]
      exact hK
    simp only [List.drop_succ_cons, List.drop_zero]
    refine zD_cut 5 ?_ ?_ (fun K_ hK => ?_) ?_
    rotate_left 2
    · simp only [List.take_succ_cons, List.take_zero]
      simp (disch := omega) [oLt, oLe, oLtN, oLeN, nLt, nLe, nLtN, nLeN, ha, ha', hb, hb', hk, hk', hic, hi, hil, hilc, hBc, hB, hmn, hmx, hsm, hlo0, hlo1]
      exact hK
    simp only [List.drop_succ_cons, List.drop_zero]
    refine zD_cut 5 ?_ ?_ (fun K_ hK => ?_) ?_
    rotate_left 2
    · simp only [List.take_succ_cons, List.take_zero]
      simp (disch := omega) [oLt, oLe, oLtN, oLeN, nLt, nLe, nLtN, nLeN, ha, ha', hb, hb', hk, hk', hic, hi, hil, hilc, hBc, hB, hmn, hmx, hsm, hlo0, hlo1]
      exact hK
    simp only [List.drop_succ_cons, List.drop_zero]
    refine zD_cut 3 ?_ ?_ (fun K_ hK => ?_) ?_
    rotate_left 2
    · simp only [List.take_succ_cons, List.take_zero]
      simp (disch := omega) [oLt, oLe, oLtN, oLeN, nLt, nLe, nLtN, nLeN, ha, ha', hb, hb', hk, hk', hic, hi, hil, hilc, hBc, hB, hmn, hmx, hsm, hlo0, hlo1]
      exact hK
    simp only [List.drop_succ_cons, List.drop_zero]
    refine goD_ok (by kernel_rfl) ?_
    refine goOn_ofI ?_
    simp only [kp_cons, kp_nil, enF_cons]
    exact hN
  delta p86_r10
  simp (disch := omega) [oLt, oLe, oLtN, oLeN, nLt, nLe, nLtN, nLeN]
  exact fin _ (.to [] (by simp))
theorem step86 {fr : Bool} {f : Nat} {l B : List Int} {u v : Bool} {x k : Int} {i : Nat} {N : ST → Prop} {Q' : Exit → ST → Prop} (hck : chkF l = 0) (hB : B.length < l.length) (hi : i < B.length) (hk : l[B.length]? = some k) {a b : Int} (ha : l[i]? = some a) (hb : B[i]? = some b)
    (fin : ∀ s', ChgT 0 s' (mk86 l u B v x (fr && !(decide (b = x) && adjD l a k)) (i + 1)) → N s') : XZ (rZ (spc [s83, s86 f])) 0 p86_l0 (mk86 l u B v x fr i) (thenE N Q') := by
  obtain ⟨hl0, hl7⟩ := chkF_len hck
  have hsm : small l = true := by simp [small]; omega
  have ham := chk_mem hck a (List.mem_of_getElem? ha)
  have hkm := chk_mem hck k (List.mem_of_getElem? hk)
  have hmn := mn2 a k
  have hmx := mx2 a k
  cases fr with
  | false => exact step86f hck hB hi hk ha hb (by simpa using fin)
  | true =>
    simp only [Bool.true_and] at fin
    by_cases hbx : b = x
    · subst hbx
      simp only [decide_true, Bool.true_and] at fin
      refine step86y hl7 hsm hB hi hk ha hb hmn hmx ?_ ?_ fin
      · split <;> omega
      · split <;> omega
    · have hbd : decide (b = x) = false := by simpa using hbx
      rw [hbd] at fin
      simp only [Bool.false_and, Bool.not_false] at fin
      exact step86n hck hB hi hk ha hb hbx fin
def mk86o (l : List Int) (u : Bool) (B : List Int) (v : Bool) (x : Int) : ST := ⟨[(0, .il (ints l) l.length u), (1, .il (ints B) B.length v), (6, vI B.length), (7, vI x)], [], 0⟩
theorem s86_ok : ∀ f, (s86 f).ok Try.prog
  | 0 => by
    apply spT_ok
    simp only [OkT, Ty.all, List.nil_append, List.cons_append]
    intro (l : List Int) u (B : List Int) v
    apply okT_res; intro hg
    simp [g86] at hg
  | f + 1 => by
    apply spT_ok
    simp only [OkT, Ty.all, List.nil_append, List.cons_append]
    intro (l : List Int) u (B : List Int) v
    apply okT_res; intro hg
    simp only [g86, Bool.and_eq_true, decide_eq_true_eq] at hg
    obtain ⟨hck, hBl, hf⟩ := hg
    obtain ⟨hl0, hl7⟩ := chkF_len hck
    refine P86.rz (ss := [s83, s86 f]) ⟨s83_ok, s86_ok f, trivial⟩ (by simp) fun Q hQ => ?_
    rcases Nat.lt_or_ge B.length l.length with hB | hB
    rotate_left
    · have hBe : B.length = l.length := by omega
      have hBc : (B.length : Int) = l.length := by omega
      have hr : tw86 l B = some B := by
        unfold tw86
        rw [List.drop_eq_nil_of_le (by omega), bt, pastD_map hBl]
      rw [hr, r86] at hQ
      delta p86 p86_r0 p86_r1 p86_r2 p86_r3 p86_r4
      simp (disch := omega) [oLt, oLe, oLtN, oLeN, nLt, nLe, nLtN, nLeN, hBc]
      exact hQ _ _ (.fz [4, 5] _ (.inl rfl) (by simp; rfl) (by simp [hBe]) (by simp))
    have hBc : ¬ (B.length : Int) = l.length := by omega
    obtain ⟨k, r, e1, hk, e3, e4, e5⟩ := drop_split hB
    have hstep : ∀ x : Int, (if fre (adjD l) (pastD l B) k x = true then bt (adjD l) r ((k, x) :: pastD l B) else none) = if fr86 l B k x B.length = true then tw86 l (B ++ [x]) else none := fun x => by
      rw [fr86_all l B k x hBl]
      unfold tw86
      rw [pastD_snoc x hk, List.length_append, List.length_singleton, e4]
    have hr : tw86 l B = match (if fr86 l B k 0 B.length = true then tw86 l (B ++ [0]) else none) with
        | some c => some c
        | none => if fr86 l B k 1 B.length = true then tw86 l (B ++ [1]) else none := by
      conv => lhs; unfold tw86
      rw [e1, bt, hstep 0, hstep 1]
      rfl
    have hgx : ∀ x : Int, g86 f l (B ++ [x]) = true := fun x => by
      simp only [g86, Bool.and_eq_true, decide_eq_true_eq, List.length_append, List.length_singleton]
      exact ⟨hck, by omega, by omega⟩
    delta p86 p86_r0 p86_r1 p86_r2 p86_r3 p86_r4
    simp (disch := omega) [oLt, oLe, oLtN, oLeN, nLt, nLe, nLtN, nLeN, hBc]
    refine XZ_for (fun x : Nat => mk86o l u B v x) (fun x => 2 - x) (fun x => x ≤ 2 ∧ (0 < x → (if fr86 l B k 0 B.length = true then tw86 l (B ++ [0]) else none) = none) ∧ (1 < x → (if fr86 l B k 1 B.length = true then tw86 l (B ++ [1]) else none) = none)) 0 ⟨by simp, by simp, by simp⟩ (.to [] (by simp [mk86o])) ?_
    rintro x ⟨hx, h0, h1⟩ N Q' hN hE
    rcases Nat.lt_or_ge x 2 with hx2 | hx2
    rotate_left
    · obtain rfl : x = 2 := by omega
      rw [hr, h0 (by omega)] at hQ
      simp only [h1 (by omega), r86] at hQ
      simp only [mk86o]
      delta p86_l1 p86_r5 p86_r6 p86_r7
      simp (disch := omega) [oLt, oLe, oLtN, oLeN, nLt, nLe, nLtN, nLeN]
      refine hE _ _ _ .refl ?_
      delta p86_r16
      simp (disch := omega) [oLt, oLe, oLtN, oLeN, nLt, nLe, nLtN, nLeN]
      exact hQ _ _ (.fz [4, 5] _ (.inl rfl) (by simp; rfl) (by simp) (by simp))
    have hxc : (x : Int) < 2 := by omega
    simp only [mk86o] at hN ⊢
    have hB7 : B.length ≤ 7 := by omega
    have hgx' := hgx x
    delta p86_l1 p86_r5 p86_r6 p86_r7
    simp (disch := omega) [oLt, oLe, oLtN, oLeN, nLt, nLe, nLtN, nLeN, hxc]
    refine XZ_for (fun i : Nat => mk86 l u B v x (fr86 l B k x i) i) (fun i => B.length - i) (fun i => i ≤ B.length) 0 (Nat.zero_le _) (.to [] (by simp [mk86, fr86])) ?_
    intro i hi N2 Q2 hN2 hE2
    rcases Nat.lt_or_ge i B.length with hib | hib
    · have ha : l[i]? = some (l[i]'(by omega)) := List.getElem?_eq_getElem (by omega)
      have hb : B[i]? = some B[i] := List.getElem?_eq_getElem hib
      exact step86 hck hB hib hk ha hb fun s' hh => hN2 s' (i + 1) (by omega) hib (by rw [fr86_succ ha hb]; exact hh)
    · obtain rfl : i = B.length := by omega
      have hic : ¬ (B.length : Int) < B.length := by omega
      clear hN2
      have next : (if fr86 l B k x B.length = true then tw86 l (B ++ [(x : Int)]) else none) = none → ∀ s', ChgT 0 s' ⟨[(0, .il (ints l) l.length u), (1, .il (ints B) B.length v), (6, vI B.length), (7, vI ((x + 1 : Nat) : Int))], [], 0⟩ → N s' := fun hn s' hh => by
        refine hN s' (x + 1) (by omega) ⟨by omega, fun _ => ?_, fun h => ?_⟩ hh
        · rcases Nat.eq_zero_or_pos x with rfl | hp
          · exact hn
          · exact h0 hp
        · obtain rfl : x = 1 := by omega
          exact hn
      simp only [mk86]
      cases hfr : fr86 l B k x B.length with
      | false =>
        have next := next (by rw [hfr]; rfl)
        delta p86_l0 p86_r8
        simp (disch := omega) [oLt, oLe, oLtN, oLeN, nLt, nLe, nLtN, nLeN, hic]
        refine hE2 _ _ _ .refl ?_
        delta p86_r11 p86_r15
        simp (disch := omega) [oLt, oLe, oLtN, oLeN, nLt, nLe, nLtN, nLeN]
        exact next _ (.to [] (by simp))
      | true =>
        rw [hfr] at next
        simp only [if_true] at next
        have htk : (ints B).take B.length = ints B := List.take_of_length_le (by simp)
        cases htw : tw86 l (B ++ [(x : Int)]) with
        | none =>
          have next := next htw
          cases B with
          | nil =>
            simp only [List.nil_append] at htw hgx'
            delta p86_l0 p86_r8
            simp (disch := omega) [oLt, oLe, oLtN, oLeN, nLt, nLe, nLtN, nLeN, hic]
            refine hE2 _ _ _ .refl ?_
            delta p86_r11 p86_r12 p86_r13 p86_r15
            simp (disch := omega) [oLt, oLe, oLtN, oLeN, nLt, nLe, nLtN, nLeN, hgx', htw, r86]
            exact next _ (.to [] (by simp))
          | cons b0 B =>
            have hB7' : B.length ≤ 7 := by simp at hB7; omega
            simp only [List.cons_append] at htw hgx'
            delta p86_l0 p86_r8
            simp (disch := omega) [oLt, oLe, oLtN, oLeN, nLt, nLe, nLtN, nLeN, hic]
            refine hE2 _ _ _ .refl ?_
            delta p86_r11 p86_r12 p86_r13 p86_r15
            simp (disch := omega) [oLt, oLe, oLtN, oLeN, nLt, nLe, nLtN, nLeN, hgx', htw, r86, hB7', htk]
            exact next _ (.to [] (by simp))
        | some c =>
          have hres : tw86 l B = some c := by
            rw [hr]
            rcases Nat.eq_zero_or_pos x with rfl | hp
            · have : fr86 l B k 0 B.length = true := hfr
              rw [if_pos this]
              have htw' : tw86 l (B ++ [0]) = some c := htw
              rw [htw']
            · obtain rfl : x = 1 := by omega
              rw [h0 (by omega)]
              have : fr86 l B k 1 B.length = true := hfr
              simp only [this, if_true]
              exact htw
          rw [hres, r86] at hQ
          cases B with
          | nil =>
            simp only [List.nil_append] at htw hgx'
            delta p86_l0 p86_r8
            simp (disch := omega) [oLt, oLe, oLtN, oLeN, nLt, nLe, nLtN, nLeN, hic]
            refine hE2 _ _ _ .refl ?_
            delta p86_r11 p86_r12 p86_r13 p86_r14
            simp (disch := omega) [oLt, oLe, oLtN, oLeN, nLt, nLe, nLtN, nLeN, hgx', htw, r86]
            refine hE _ _ _ .refl ?_
            simp (disch := omega) [oLt, oLe, oLtN, oLeN, nLt, nLe, nLtN, nLeN]
            exact hQ _ _ (.fz [4, 5] _ (.inl rfl) (by simp; rfl) (by simp) (by simp))
          | cons b0 B =>
            have hB7' : B.length ≤ 7 := by simp at hB7; omega
            simp only [List.cons_append] at htw hgx'
            delta p86_l0 p86_r8
            simp (disch := omega) [oLt, oLe, oLtN, oLeN, nLt, nLe, nLtN, nLeN, hic]
            refine hE2 _ _ _ .refl ?_
            delta p86_r11 p86_r12 p86_r13 p86_r14
            simp (disch := omega) [oLt, oLe, oLtN, oLeN, nLt, nLe, nLtN, nLeN, hgx', htw, r86, hB7', htk]
            refine hE _ _ _ .refl ?_
            simp (disch := omega) [oLt, oLe, oLtN, oLeN, nLt, nLe, nLtN, nLeN]
            exact hQ _ _ (.fz [4, 5] _ (.inl rfl) (by simp; rfl) (by simp) (by simp))
def r40 : Option (List Int) → AV
  | some c => .tup [.il (ints c) c.length false, vI 0]
  | none => .tup [.il [] 0 false, vI 12]
def s40 : Sp := spT 40 [.l] fun (l : List Int) => res (small l) (if chk2F l = 0 then r40 (tw86 l []) else .tup [.il [] 0 false, vI (chk2F l)])
@[simp] theorem s40_g : s40.g = 40 := rfl
@[simp] theorem s40_f : s40.f = (spT 40 [.l] fun (l : List Int) => res (small l) (if chk2F l = 0 then r40 (tw86 l []) else .tup [.il [] 0 false, vI (chk2F l)])).f := rfl
theorem s40_ok : s40.ok Try.prog := by
  apply spT_ok
  simp only [OkT, Ty.all, List.nil_append, List.cons_append]
  intro (l : List Int) u
  apply okT_res; intro hg
  refine P40.rz (ss := [s24, s86 8]) ⟨s24_ok, s86_ok 8, trivial⟩ (by simp) fun Q hQ => ?_
  delta p40 p40_r0 p40_r1 p40_r2 p40_r3 p40_r4 p40_r5 p40_r6 p40_r7
  by_cases hck : chk2F l = 0
  rotate_left
  · rw [if_neg hck] at hQ
    simp (disch := omega) [oLt, oLe, oLtN, oLeN, nLt, nLe, nLtN, nLeN, hg, hck]
    exact hQ _ _ (.fz [2, 3] _ (.inl rfl) (by simp; rfl) (by simp) (by simp))
  rw [if_pos hck] at hQ
  have hck1 : chkF l = 0 := (chk2_eq l).symm.trans hck
  obtain ⟨hl0, hl7⟩ := chkF_len hck1
  have hg86 : g86 8 l [] = true := by
    simp only [g86, Bool.and_eq_true, decide_eq_true_eq, List.length_nil]; exact ⟨hck1, by omega, by omega⟩
  cases htw : tw86 l [] with
  | none =>
    rw [htw, r40] at hQ
    simp (disch := omega) [oLt, oLe, oLtN, oLeN, nLt, nLe, nLtN, nLeN, hg, hck, hg86, htw, r86]
    exact hQ _ _ (.fz [2, 3] _ (.inl rfl) (by simp; rfl) (by simp) (by simp))
  | some c =>
    rw [htw, r40] at hQ
    simp (disch := omega) [oLt, oLe, oLtN, oLeN, nLt, nLe, nLtN, nLeN, hg, hck, hg86, htw, r86]
    exact hQ _ _ (.fz [2, 3] _ (.inl rfl) (by simp; rfl) (by simp) (by simp))
/-! ### It is the program's -/
theorem bt_congr {adj adj' : Int → Int → Bool} {l : List Int} (h : ∀ a ∈ l, ∀ b ∈ l, a ≠ b → adj a b = adj' a b) : ∀ (rest : List Int) (past : List (Int × Int)), (∀ x ∈ rest, x ∈ l) → (∀ p ∈ past, p.1 ∈ l) → rest.Nodup → (∀ p ∈ past, ∀ x ∈ rest, p.1 ≠ x) → bt adj rest past = bt adj' rest past
  | [], past, _, _, _, _ => rfl
  | k :: r, past, h1, h2, h3, h4 => by
    obtain ⟨hkr, hr⟩ := List.nodup_cons.1 h3
    have hk := h1 k (by simp)
    have hf : ∀ x, fre adj past k x = fre adj' past k x := fun x => by
      unfold fre
      rw [Bool.eq_iff_iff, List.all_eq_true, List.all_eq_true]
      constructor
      · intro hh p hp; rw [← h p.1 (h2 p hp) k hk (h4 p hp k (by simp))]; exact hh p hp
      · intro hh p hp; rw [h p.1 (h2 p hp) k hk (h4 p hp k (by simp))]; exact hh p hp
    have ih : ∀ x : Int, bt adj r ((k, x) :: past) = bt adj' r ((k, x) :: past) := fun x => bt_congr h r _ (fun y hy => h1 y (by simp [hy])) (fun p hp => by
      rcases List.mem_cons.1 hp with rfl | hp
      · exact hk
      · exact h2 p hp) hr (fun p hp y hy => by
      rcases List.mem_cons.1 hp with rfl | hp
      · exact fun e => hkr (by have e' : k = y := e; rw [e']; exact hy)
      · exact h4 p hp y (by simp [hy]))
    simp only [bt]
    rw [hf 0, hf 1, ih 0, ih 1]
theorem adjD_eq {l : List Int} (h : chkF l = 0) : ∀ a ∈ l, ∀ b ∈ l, a ≠ b → adjF l a b = adjD l a b := by
  intro a ha b hb hne
  obtain ⟨a1, a2⟩ := chk_mem h a ha
  obtain ⟨b1, b2⟩ := chk_mem h b hb
  obtain ⟨a, rfl⟩ := Int.eq_ofNat_of_zero_le a1
  obtain ⟨b, rfl⟩ := Int.eq_ofNat_of_zero_le b1
  rw [Bool.eq_iff_iff, adjF_iff h (by omega) (by omega)]
  unfold adjD
  rcases Nat.lt_trichotomy a b with hab | hab | hab
  · rw [if_neg (by omega), if_pos (by omega), clD_iff h hab (by omega)]
    constructor
    · rintro (h1 | ⟨c, h1, h2, h3⟩)
      · exact h1
      · omega
    · exact .inl
  · exact absurd (by rw [hab]) hne
  · rw [if_pos (by omega), if_neg (by omega), clD_iff h hab (by omega)]
    constructor
    · rintro (⟨c, h1, h2, h3⟩ | h1)
      · omega
      · exact h1
    · exact .inr
theorem tw86_eq {l : List Int} (h : chkF l = 0) : tw86 l [] = if (twF l).1.2 = true then some (twF l).2 else none := by
  rw [← (tw_facts h).bt]
  unfold tw86 pastD
  simp only [List.length_nil, List.drop_zero, List.zip_nil_right, List.reverse_nil]
  exact (bt_congr (adjD_eq h) l [] (fun x h => h) (by simp) (chk_nodup h) (by simp)).symm
end
section
set_option maxHeartbeats 4000000
abbrev vU (n : Int) : AV := .v (.int .u8 n)
abbrev pN : AV := .v (.pointer none)
@[simp] theorem u8s_nil : u8s [] = [] := rfl
@[simp] theorem u8s_cons (x : Int) (l : List Int) : u8s (x :: l) = vU x :: u8s l := rfl
@[simp] theorem u8s_app (a b : List Int) : u8s (a ++ b) = u8s a ++ u8s b := by simp [u8s]
@[simp] theorem u8s_len' (l : List Int) : (u8s l).length = l.length := by simp [u8s]
@[simp] theorem idsL_u8s : ∀ l : List Int, idsL (u8s l) = []
  | [] => rfl
  | x :: l => by rw [u8s_cons, idsL, idsL_u8s l]
@[simp] theorem inL_u8s (p : Nat → Bool) : ∀ l : List Int, Go.Sx.inL p (u8s l) = true
  | [] => rfl
  | x :: l => by rw [u8s_cons, Go.Sx.inL, inL_u8s p l]; rfl
theorem u8s_inj : ∀ {a b : List Int}, u8s a = u8s b → a = b
  | [], [], _ => rfl
  | [], y :: b, h => by simp at h
  | x :: a, [], h => by simp at h
  | x :: a, y :: b, h => by
    simp only [u8s_cons, List.cons.injEq, AV.v.injEq, Value.int.injEq, true_and] at h
    rw [h.1, u8s_inj h.2]
def viaB (h : HL) (i : Nat) : Nat := match hpF h i with
  | some (.bld _ (_ :: x :: _)) => idOf x
  | _ => 0
attribute [simp] viaB
def bA (o j : Nat) (w : List Int) : List AV := if w = [] then [pN, nS] else [.ptr o 0, .ref j 0 w.length 1 none]
def bH (j : Nat) (w : List Int) : HL := if w = [] then [] else [(j, .bld true (u8s w))]
@[simp] theorem bA_nil (o j : Nat) : bA o j [] = [pN, nS] := rfl
@[simp] theorem bA_cons (o j : Nat) (x : Int) (r : List Int) : bA o j (x :: r) = [.ptr o 0, .ref j 0 (r.length + 1) 1 none] := by simp [bA]
@[simp] theorem bH_nil (j : Nat) : bH j [] = [] := rfl
@[simp] theorem bH_cons (j : Nat) (x : Int) (r : List Int) : bH j (x :: r) = [(j, .bld true (vU x :: u8s r))] := by simp [bH]
def bHp (w : List Int) : HL := (0, .bld false (bA 0 1 w)) :: bH 1 w
theorem bHp_inj {w w' : List Int} (h : bHp w = bHp w') : w = w' := by
  simp only [bHp, List.cons.injEq] at h
  cases w with
  | nil => cases w' with
    | nil => rfl
    | cons y r => simp at h
  | cons x r => cases w' with
    | nil => simp at h
    | cons y r' =>
      have h2 := h.2
      simp only [bH_cons, List.cons.injEq, Prod.mk.injEq, Blk.bld.injEq, true_and, and_true, AV.v.injEq, Value.int.injEq] at h2
      rw [h2.1, u8s_inj h2.2]
theorem nil1 : nilA (TypeDesc.pointer 77) pN = some true := rfl
theorem nil2 (i o : Nat) : nilA (TypeDesc.pointer 77) (.ptr i o) = some false := rfl
def pat98 (w : List Int) : List AV × HL × Nat := ([.ptr 0 0], bHp w, 1 + outK w)
def out98 (w : List Int) : AV × HL × Nat := (.tup [], if w = [] then [(0, .bld false [.ptr 0 0, nS])] else bHp w, 1 + outK w)
noncomputable def f98 := famF (fun w : List Int => w.length ≤ 1000) pat98 out98
noncomputable def s98 : Sp := ⟨98, f98⟩
@[simp] theorem s98_g : s98.g = 98 := rfl
@[simp] theorem s98_f : s98.f = f98 := rfl
theorem s98_ok : s98.ok Try.prog := by
  refine famF_ok ?_
  intro w hok
  cases w with
  | nil =>
    simp only [pat98, out98, hp_eq, bHp, bA_nil, bH_nil, outK_nil]
    refine P98.rz (ss := []) trivial (by simp) fun Q hQ => ?_
    delta p98 p98_r0 p98_r1 p98_r2
    simp (disch := omega) [oLt, oLe, oLtN, oLeN, nLt, nLe, nLtN, nLeN, effEqn, effSame, effPeq, nil1, nil2]
    exact hQ _ _ (EndsP_F (fun h => [0]) (.inr rfl) rfl (by simp))
  | cons x r =>
    simp only [pat98, out98, hp_eq, bHp, bA_cons, bH_cons, outK_cons]
    refine P98.rz (ss := []) trivial (by simp) fun Q hQ => ?_
    delta p98 p98_r0 p98_r1 p98_r2
    simp (disch := omega) [oLt, oLe, oLtN, oLeN, nLt, nLe, nLtN, nLeN, effEqn, effSame, effPeq, nil1, nil2]
    exact hQ _ _ (EndsP_F (fun h => [0, 1]) (.inr rfl) rfl (by simp))
theorem pat98_inj (a b : List Int) (h : pat98 a = pat98 b) : out98 a = out98 b := by
  simp only [pat98, Prod.mk.injEq] at h
  rw [bHp_inj h.2.1]
theorem f98n : f98 [.ptr 0 0] [(0, .bld false [pN, nS])] 1 = some (.tup [], [(0, .bld false [.ptr 0 0, nS])], 1) := famF_at pat98_inj [] (by simp) rfl
theorem f98c (x : Int) (r : List Int) (h : r.length ≤ 900) : f98 [.ptr 0 0] [(0, .bld false [.ptr 0 0, .ref 1 0 (r.length + 1) 1 none]), (1, .bld true (vU x :: u8s r))] 2 = some (.tup [], [(0, .bld false [.ptr 0 0, .ref 1 0 (r.length + 1) 1 none]), (1, .bld true (vU x :: u8s r))], 2) := by
  have := famF_at pat98_inj (x :: r) (ok := fun w : List Int => w.length ≤ 1000) (by simp; omega) (by simp [pat98, bHp] : pat98 (x :: r) = ([.ptr 0 0], [(0, .bld false [.ptr 0 0, .ref 1 0 (r.length + 1) 1 none]), (1, .bld true (vU x :: u8s r))], 2))
  unfold f98
  rw [this]
  simp [out98, bHp]
def pat65 (a : Int × List Int) : List AV × HL × Nat := ([.ptr 0 0, vU a.1], bHp a.2, 1 + outK a.2)
def out65 (a : Int × List Int) : AV × HL × Nat := (.v .nilIface, if a.2 = [] then bHp [a.1] else [(0, .bld false [.ptr 0 0, .ref 2 0 (a.2.length + 1) 1 none]), (2, .bld true (u8s (a.2 ++ [a.1])))], if a.2 = [] then 2 else 3)
theorem pat65_inj (a b : Int × List Int) (h : pat65 a = pat65 b) : out65 a = out65 b := by
  obtain ⟨c, w⟩ := a
  obtain ⟨d, v⟩ := b
  simp only [pat65, Prod.mk.injEq, List.cons.injEq, AV.v.injEq, Value.int.injEq, true_and, and_true] at h
  rw [h.1, bHp_inj h.2.1]
noncomputable def f65 := famF (fun a : Int × List Int => a.2.length ≤ 900) pat65 out65
noncomputable def s65 : Sp := ⟨65, f65⟩
@[simp] theorem s65_g : s65.g = 65 := rfl
@[simp] theorem s65_f : s65.f = f65 := rfl
theorem s65_ok : s65.ok Try.prog := by
  refine famF_ok ?_
  rintro ⟨c, w⟩ hok
  simp only at hok
  cases w with
  | nil =>
    simp only [pat65, out65, hp_eq, bHp, bA_nil, bH_nil, outK_nil, if_true, bA_cons, bH_cons]
    refine P65.rz (ss := [s98]) ⟨s98_ok, trivial⟩ (by simp) fun Q hQ => ?_
    have h98 := f98n
    delta p65 p65_r0 p65_r1 p65_r2 p65_r3
    simp (disch := omega) [oLt, oLe, oLtN, oLeN, nLt, nLe, nLtN, nLeN, h98, effAppB]
    exact hQ _ _ (EndsP_F (fun h => [0, viaB h 0]) (.inl rfl) rfl (by simp))
  | cons x r =>
    simp only [pat65, out65, hp_eq, bHp, bA_cons, bH_cons, outK_cons, reduceCtorEq, if_false]
    refine P65.rz (ss := [s98]) ⟨s98_ok, trivial⟩ (by simp) fun Q hQ => ?_
    have h98 := f98c x r (by simp at hok; omega)
    have hrl : r.length ≤ 900 := by simp at hok; omega
    delta p65 p65_r0 p65_r1 p65_r2 p65_r3
    simp (disch := omega) [oLt, oLe, oLtN, oLeN, nLt, nLe, nLtN, nLeN, h98, effAppB]
    exact hQ _ _ (EndsP_F (fun h => [0, 1, viaB h 0]) (.inl rfl) rfl (by simp))
theorem f65n (c : Int) : f65 [.ptr 0 0, vU c] [(0, .bld false [pN, nS])] 1 = some (.v .nilIface, [(0, .bld false [.ptr 0 0, .ref 1 0 1 1 none]), (1, .bld true [vU c])], 2) := famF_at pat65_inj (c, []) (by simp) rfl
theorem f65c (c x : Int) (r : List Int) (h : r.length ≤ 800) : f65 [.ptr 0 0, vU c] [(0, .bld false [.ptr 0 0, .ref 1 0 (r.length + 1) 1 none]), (1, .bld true (vU x :: u8s r))] 2 = some (.v .nilIface, [(0, .bld false [.ptr 0 0, .ref 2 0 (r.length + 1 + 1) 1 none]), (2, .bld true (vU x :: (u8s r ++ [vU c])))], 3) := by
  have := famF_at pat65_inj (c, x :: r) (ok := fun a : Int × List Int => a.2.length ≤ 900) (by simp; omega) (by simp [pat65, bHp] : pat65 (c, x :: r) = ([.ptr 0 0, vU c], [(0, .bld false [.ptr 0 0, .ref 1 0 (r.length + 1) 1 none]), (1, .bld true (vU x :: u8s r))], 2))
  unfold f65
  rw [this]
  simp [out65]
end
section
set_option maxHeartbeats 4000000
abbrev vS (s : ByteArray) : AV := .v (.string s)
def strB (w : List Int) : ByteArray := ⟨(w.map fun n => n.toNat.toUInt8).toArray⟩
def letB (w : List Int) : Prop := ∀ x ∈ w, 0 ≤ x ∧ x < 256
theorem bytesA_u8s : ∀ {w : List Int}, letB w → bytesA (u8s w) = some (w.map fun n => n.toNat.toUInt8)
  | [], _ => rfl
  | x :: r, h => by
    have h1 := h x (by simp)
    have ih := bytesA_u8s (w := r) (fun y hy => h y (by simp [hy]))
    simp [bytesA, ih, h1]
def pat66 (w : List Int) : List AV × HL × Nat := ([.ptr 0 0], bHp w, 1 + outK w)
def out66 (w : List Int) : AV × HL × Nat := (vS (strB w), [], 1 + outK w)
theorem pat66_inj (a b : List Int) (h : pat66 a = pat66 b) : out66 a = out66 b := by
  simp only [pat66, Prod.mk.injEq] at h
  rw [bHp_inj h.2.1]
noncomputable def f66 := famF (fun w : List Int => w.length ≤ 1000 ∧ w ≠ [] ∧ letB w) pat66 out66
noncomputable def s66 : Sp := ⟨66, f66⟩
@[simp] theorem s66_g : s66.g = 66 := rfl
@[simp] theorem s66_f : s66.f = f66 := rfl
theorem s66_ok : s66.ok Try.prog := by
  refine famF_ok ?_
  rintro w ⟨hl, hne, hb⟩
  cases w with
  | nil => exact absurd rfl hne
  | cons x r =>
    have hby := bytesA_u8s hb
    rw [u8s_cons] at hby
    simp only [pat66, out66, hp_eq, bHp, bA_cons, bH_cons, outK_cons]
    refine P66.rz (ss := []) trivial (by simp) fun Q hQ => ?_
    have hrl : r.length ≤ 1000 := by simp at hl; omega
    delta p66 p66_r0 p66_r1
    simp (disch := omega) [oLt, oLe, oLtN, oLeN, nLt, nLe, nLtN, nLeN, effSdata, effUstr, hby]
    exact hQ _ _ (EndsP_F (fun h => [0, 1]) (.inl rfl) rfl (by simp [strB]))
theorem f66_at (x : Int) (r : List Int) (h : r.length ≤ 900) (hb : letB (x :: r)) : f66 [.ptr 0 0] [(0, .bld false [.ptr 0 0, .ref 1 0 (r.length + 1) 1 none]), (1, .bld true (vU x :: u8s r))] 2 = some (vS (strB (x :: r)), [], 2) := by
  have := famF_at pat66_inj (x :: r) (ok := fun w : List Int => w.length ≤ 1000 ∧ w ≠ [] ∧ letB w) ⟨by simp; omega, by simp, hb⟩ (by simp [pat66, bHp] : pat66 (x :: r) = ([.ptr 0 0], [(0, .bld false [.ptr 0 0, .ref 1 0 (r.length + 1) 1 none]), (1, .bld true (vU x :: u8s r))], 2))
  unfold f66
  rw [this]
  simp [out66]
theorem letB_app {w : List Int} {c : Int} (h : letB w) (hc : 0 ≤ c ∧ c < 256) : letB (w ++ [c]) := fun x hx => by
  rcases List.mem_append.1 hx with hx | hx
  · exact h x hx
  · rw [List.mem_singleton.1 hx]; exact hc
end
section
set_option maxHeartbeats 8000000
@[simp] theorem snd0 (c : Int) : (c, ([] : List Int)).2 = [] := rfl
end
section
set_option maxHeartbeats 4000000
def lvP : Nat → Nat → List Int → List Int → Nat × List Int × List Int
  | 0, came, st, w => (came, st, w)
  | k + 1, came, st, w => lvP k (came + 1) (st ++ [(came : Int)]) (w ++ [105])
def lvR : List Int → Nat × List Int × List Int → Option (List Int)
  | [], s => some s.2.2
  | x :: r, s => match lvP (x.toNat + 1 - s.1) s.1 s.2.1 s.2.2 with
    | (came, st, w) => if st = [] then none else if st.getLastD 0 = x then lvR r (came, st.dropLast, w ++ [111]) else none
def lvF (l : List Int) : Option (List Int) := lvR l (0, [], [])
def hp35 : Bool → List Int → List Int → HL
  | false, _, _ => [(0, .cells [nS]), (1, .bld false [pN, nS])]
  | true, st, w => [(0, .cells [.ref 1 0 st.length 1 none]), (1, .cells (ints st)), (2, .bld false (bA 2 3 w))] ++ bH 3 w
def nx35 : Bool → List Int → Nat
  | false, _ => 2
  | true, w => 3 + outK w
def b35 : Bool → Nat
  | false => 1
  | true => 2
def mk35 (l : List Int) (u p : Bool) (came : Nat) (st w : List Int) (i : Nat) : ST := ⟨[(5, .ptr 0 0), (6, .ptr (b35 p) 0), (7, vI came), (17, .il (ints l) l.length u), (18, vI l.length), (19, vI i)], hp35 p st w, nx35 p w⟩
def mk35b (l : List Int) (u p : Bool) (came x : Nat) (st w : List Int) (i : Nat) : ST := ⟨[(5, .ptr 0 0), (6, .ptr (b35 p) 0), (7, vI came), (9, vI x), (17, .il (ints l) l.length u), (18, vI l.length), (19, vI i)], hp35 p st w, nx35 p w⟩
theorem f67_at {st : List Int} (x : Int) (h : st.length ≤ 1000) : f67 [.ptr 0 0, vI x] [(0, .cells [.ref 1 0 st.length 1 none]), (1, .cells (ints st))] 2 = some (.tup [], [(0, .cells [.ref 2 0 (st.length + 1) 1 none]), (2, .cells (ints (st ++ [x])))], 3) := by
  have : small st = true := by simp [small]; omega
  simp [f67, this]
theorem f68_at {D : List Int} (c : Int) (h : D.length ≤ 1000) : f68 [.ptr 0 0] [(0, .cells [.ref 1 0 (D.length + 1) 1 none]), (1, .cells (ints D ++ [vI c]))] 2 = some (.tup [vI c, vB true], [(0, .cells [.ref 1 0 (D.length + 1) 1 none]), (1, .cells (ints D ++ [vI c]))], 2) := by
  have : small (D ++ [c]) = true := by simp [small]; omega
  simp [f68, this, basH]
theorem f68_nil : f68 [.ptr 0 0] [(0, .cells [.ref 1 0 0 1 none]), (1, .cells [])] 2 = some (.tup [vI 0, vB false], [(0, .cells [.ref 1 0 0 1 none]), (1, .cells [])], 2) := by
  have : small ([] : List Int) = true := rfl
  simp [f68, this, basH]
theorem f69_at {D : List Int} (c : Int) (h : D.length ≤ 1000) : f69 [.ptr 0 0] [(0, .cells [.ref 1 0 (D.length + 1) 1 none]), (1, .cells (ints D ++ [vI c]))] 2 = some (.tup [], [(0, .cells [.ref 1 0 D.length 1 none]), (1, .cells (ints D))], 2) := by
  have : small (D ++ [c]) = true := by simp [small]; omega
  simp [f69, this]
def Inv35 (p : Bool) (came : Nat) (st w : List Int) (i : Nat) : Prop := (p = false → came = 0 ∧ st = [] ∧ w = []) ∧ (p = true → w ≠ []) ∧ st.length ≤ came ∧ w.length ≤ came + i ∧ letB w
theorem inner35 {l : List Int} {u p : Bool} {came x i : Nat} {st w : List Int} {N : ST → Prop} {Q' : Exit → ST → Prop} (hl7 : l.length ≤ 7) (hi : i < l.length) (hx : x < l.length) (hcx : came ≤ x) (hv : Inv35 p came st w i)
    (fin : ∀ s', ChgT 0 s' (mk35b l u true (came + 1) x (st ++ [(came : Int)]) (w ++ [105]) i) → N s') :
    XZ (rZ (spc [s23, s67, s65, s68, s69, s66])) 0 p35_l0 (mk35b l u p came x st w i) (thenE N Q') := by
  obtain ⟨h1, h2, h3, h4, h5⟩ := hv
  have hc : (came : Int) ≤ x := by omega
  cases p with
  | false =>
    obtain ⟨rfl, rfl, rfl⟩ := h1 rfl
    have h65 := f65n 105
    simp only [mk35b, hp35, nx35, b35, List.nil_append, bA_cons, bH_cons, outK_cons, List.cons_append] at fin ⊢
    delta p35_l0 p35_r10 p35_r11 p35_r12 p35_r13
    simp (disch := omega) [oLt, oLe, oLtN, oLeN, nLt, nLe, nLtN, nLeN, hc, f67, h65]
    exact fin _ (.toS (fun s => [ida s 5, via s.heap (ida s 5), ida s 6, viaB s.heap (ida s 6)]) (by simp))
  | true =>
    cases w with
    | nil => exact absurd rfl (h2 rfl)
    | cons y r =>
      have hrl : r.length ≤ 100 := by simp at h4; omega
      have h67 := f67_at (st := st) came (by omega)
      have h65 := f65c 105 y r (by omega)
      simp only [mk35b, hp35, nx35, b35, bA_cons, bH_cons, outK_cons, List.cons_append, List.nil_append] at fin ⊢
      delta p35_l0 p35_r10 p35_r11 p35_r12 p35_r13
      simp (disch := omega) [oLt, oLe, oLtN, oLeN, nLt, nLe, nLtN, nLeN, hc, h67, h65]
      exact fin _ (.toS (fun s => [ida s 5, via s.heap (ida s 5), ida s 6, viaB s.heap (ida s 6)]) (by simp))
def rLv : Option (List Int) → AV
  | some w => .tup [vS (strB w), vI 0]
  | none => .tup [vS ⟨#[]⟩, vI 12]
def s35 : Sp := spT 35 [.l] fun (l : List Int) => res (small l) (if chkF l = 0 then rLv (lvF l) else .tup [vS ⟨#[]⟩, vI (chkF l)])
@[simp] theorem s35_g : s35.g = 35 := rfl
@[simp] theorem s35_f : s35.f = (spT 35 [.l] fun (l : List Int) => res (small l) (if chkF l = 0 then rLv (lvF l) else .tup [vS ⟨#[]⟩, vI (chkF l)])).f := rfl
theorem s35_ok : s35.ok Try.prog := by
  apply spT_ok
  simp only [OkT, Ty.all, List.nil_append, List.cons_append]
  intro (l : List Int) u
  apply okT_res; intro hg
  refine P35.rz (ss := [s23, s67, s65, s68, s69, s66]) ⟨s23_ok, s67_ok, s65_ok, s68_ok, s69_ok, s66_ok, trivial⟩ (by simp) fun Q hQ => ?_
  delta p35 p35_r0 p35_r1 p35_r2 p35_r3 p35_r4 p35_r5 p35_r6 p35_r7
  by_cases hck : chkF l = 0
  rotate_left
  · rw [if_neg hck] at hQ
    simp (disch := omega) [oLt, oLe, oLtN, oLeN, nLt, nLe, nLtN, nLeN, hg, hck]
    exact hQ _ _ (.p (.inl rfl) (by simp) rfl)
  rw [if_pos hck] at hQ
  obtain ⟨hl0, hl7⟩ := chkF_len hck
  have hat := chk_at hck
  simp (disch := omega) [oLt, oLe, oLtN, oLeN, nLt, nLe, nLtN, nLeN, hg, hck, effAllocB]
  refine XZ_for (fun q : Nat × Bool × Nat × List Int × List Int => mk35 l u q.2.1 q.2.2.1 q.2.2.2.1 q.2.2.2.2 q.1) (fun q => l.length - q.1) (fun q => q.1 ≤ l.length ∧ q.2.2.1 ≤ l.length ∧ (q.1 = l.length → q.2.1 = true) ∧ Inv35 q.2.1 q.2.2.1 q.2.2.2.1 q.2.2.2.2 q.1 ∧ lvR (l.drop q.1) (q.2.2.1, q.2.2.2.1, q.2.2.2.2) = lvF l) (0, false, 0, [], []) ⟨by simp, by simp, fun h => by simp only at h; omega, ⟨by simp, by simp, by simp, by simp, fun x h => by simp at h⟩, rfl⟩ (.toS (fun s => [ida s 5, ida s 6]) (by simp [mk35, hp35, nx35, b35])) ?_
  rintro ⟨i, p, came, st, w⟩ ⟨hi, hcl, hpl, hv, hinv⟩ N Q' hN hE
  simp only at hi hcl hpl hv hinv
  rcases Nat.lt_or_ge i l.length with h | h
  · have hic : (i : Int) < l.length := by omega
    obtain ⟨x', r, e1, e2, e3, e4, e5⟩ := drop_split h
    obtain ⟨x, rfl, hxl⟩ := hat i x' e2
    rw [e1, lvR, Int.toNat_natCast] at hinv
    have fin : ∀ came' st' w', came' ≤ l.length → Inv35 true came' st' w' (i + 1) → lvR r (came', st', w') = lvF l → ∀ s', ChgT 0 s' (mk35 l u true came' st' w' (i + 1)) → N s' := fun c' s' w' h1 h2 h3 t hh => hN t (i + 1, true, c', s', w') (by simp only; omega) ⟨h, h1, fun _ => rfl, h2, by rw [e4]; exact h3⟩ hh
    clear hN
    simp only [mk35]
    delta p35_l1 p35_r8 p35_r9
    simp (disch := omega) [oLt, oLe, oLtN, oLeN, nLt, nLe, nLtN, nLeN, hic, h, e2, e3]
    refine XZ_for (fun q : Bool × Nat × List Int × List Int => mk35b l u q.1 q.2.1 x q.2.2.1 q.2.2.2 i) (fun q => x + 1 - q.2.1) (fun q => q.2.1 ≤ l.length ∧ Inv35 q.1 q.2.1 q.2.2.1 q.2.2.2 i ∧ lvP (x + 1 - q.2.1) q.2.1 q.2.2.1 q.2.2.2 = lvP (x + 1 - came) came st w) (p, came, st, w) ⟨hcl, hv, rfl⟩ ?_ ?_
    · cases p with
      | false => exact .toS (fun s => [ida s 5, ida s 6]) (by simp [mk35b, hp35, nx35, b35])
      | true =>
        cases w with
        | nil => exact absurd rfl (hv.2.1 rfl)
        | cons y r' => exact .toS (fun s => [ida s 5, via s.heap (ida s 5), ida s 6, viaB s.heap (ida s 6)]) (by simp [mk35b, hp35, nx35, b35])
    clear hv hcl hpl
    rintro ⟨p, c, T, v⟩ ⟨hcl, hv, hinn⟩ N2 Q2 hN2 hE2
    simp only at hcl hv hinn
    rcases Nat.lt_or_ge x c with hxc | hxc
    · rw [show x + 1 - c = 0 by omega, lvP] at hinn
      rw [← hinn] at hinv
      simp only at hinv
      clear hinn hN2
      have hcc : ¬ (c : Int) ≤ x := by omega
      obtain ⟨v1, v2, v3, v4, v5⟩ := hv
      cases p with
      | false => have := (v1 rfl).1; omega
      | true =>
        cases v with
        | nil => exact absurd rfl (v2 rfl)
        | cons y v =>
          have hvl : v.length ≤ 100 := by simp at v4; omega
          simp only [mk35b, hp35, nx35, b35, bA_cons, bH_cons, outK_cons, List.cons_append, List.nil_append]
          rcases List.eq_nil_or_concat T with rfl | ⟨D, d, rfl⟩
          · rw [if_pos rfl] at hinv
            rw [← hinv, rLv] at hQ
            have h68 := f68_nil
            delta p35_l0 p35_r10 p35_r11 p35_r12 p35_r13
            simp (disch := omega) [oLt, oLe, oLtN, oLeN, nLt, nLe, nLtN, nLeN, hcc]
            refine hE2 _ _ _ .refl ?_
            delta p35_r14 p35_r15 p35_r16 p35_r17 p35_r18 p35_r19
            simp (disch := omega) [oLt, oLe, oLtN, oLeN, nLt, nLe, nLtN, nLeN, h68]
            refine hE _ _ _ .refl ?_
            simp (disch := omega) [oLt, oLe, oLtN, oLeN, nLt, nLe, nLtN, nLeN]
            exact hQ _ _ (.p (.inl rfl) (by simp) rfl)
          · simp only [List.concat_eq_append] at *
            have hdl : D.length ≤ 100 := by simp at v3; omega
            have h68 := f68_at (D := D) d (by omega)
            rw [if_neg (by simp), show (D ++ [d]).getLastD 0 = d by simp, List.dropLast_concat] at hinv
            by_cases hdx : d = x
            · subst hdx
              rw [if_pos rfl] at hinv
              have h69 := f69_at (D := D) (x : Int) (by omega)
              have h65 := f65c 111 y v (by omega)
              have fin := fin c D (y :: v ++ [111]) hcl ⟨by simp, by simp, by simp at v3; omega, by simp at v4 ⊢; omega, letB_app v5 (by omega)⟩ hinv
              simp only [mk35, hp35, nx35, b35, bA_cons, bH_cons, outK_cons, List.cons_append, List.nil_append] at fin
              clear hQ
              delta p35_l0 p35_r10 p35_r11 p35_r12 p35_r13
              simp (disch := omega) [oLt, oLe, oLtN, oLeN, nLt, nLe, nLtN, nLeN, hcc]
              refine hE2 _ _ _ .refl ?_
              delta p35_r14 p35_r15 p35_r16 p35_r17 p35_r18 p35_r19
              simp (disch := omega) [oLt, oLe, oLtN, oLeN, nLt, nLe, nLtN, nLeN, h68, h69, h65]
              exact fin _ (.toS (fun s => [ida s 5, via s.heap (ida s 5), ida s 6, viaB s.heap (ida s 6)]) (by simp))
            · rw [if_neg hdx] at hinv
              rw [← hinv, rLv] at hQ
              delta p35_l0 p35_r10 p35_r11 p35_r12 p35_r13
              simp (disch := omega) [oLt, oLe, oLtN, oLeN, nLt, nLe, nLtN, nLeN, hcc]
              refine hE2 _ _ _ .refl ?_
              delta p35_r14 p35_r15 p35_r16 p35_r17 p35_r18 p35_r19
              simp (disch := omega) [oLt, oLe, oLtN, oLeN, nLt, nLe, nLtN, nLeN, h68, hdx]
              refine hE _ _ _ .refl ?_
              simp (disch := omega) [oLt, oLe, oLtN, oLeN, nLt, nLe, nLtN, nLeN]
              exact hQ _ _ (.p (.inl rfl) (by simp) rfl)
    · refine inner35 hl7 h hxl hxc hv fun s' hh => ?_
      obtain ⟨v1, v2, v3, v4, v5⟩ := hv
      refine hN2 s' (true, c + 1, T ++ [(c : Int)], v ++ [105]) (by simp only; omega) ⟨by simp only; omega, ⟨by simp, by simp, by simp; omega, by simp; omega, letB_app v5 (by omega)⟩, ?_⟩ hh
      simp only
      rw [show x + 1 - c = (x + 1 - (c + 1)) + 1 by omega, lvP] at hinn
      exact hinn
  · obtain rfl : i = l.length := by omega
    have hic : ¬ (l.length : Int) < l.length := by omega
    obtain rfl := hpl rfl
    rw [List.drop_eq_nil_of_le (Nat.le_refl _), lvR] at hinv
    simp only at hinv
    rw [← hinv, rLv] at hQ
    obtain ⟨v1, v2, v3, v4, v5⟩ := hv
    cases w with
    | nil => exact absurd rfl (v2 rfl)
    | cons y w =>
      have h66 := f66_at y w (by simp at v4; omega) v5
      simp only [mk35, hp35, nx35, b35, bA_cons, bH_cons, outK_cons, List.cons_append, List.nil_append]
      delta p35_l1 p35_r8 p35_r9
      simp (disch := omega) [oLt, oLe, oLtN, oLeN, nLt, nLe, nLtN, nLeN, hic]
      refine hE _ _ _ .refl ?_
      delta p35_r20
      simp (disch := omega) [oLt, oLe, oLtN, oLeN, nLt, nLe, nLtN, nLeN, h66]
      exact hQ _ _ (.p (.inl rfl) (by simp) rfl)
end
section
set_option maxHeartbeats 8000000
theorem cat9 (x y : Operand) (a b : ByteArray) (h : a.size + b.size ≤ 100000) : effPlain2 Try.prog (fun u v => do eqGuard .add 9 x y u v; binOp .add 9 u v) (vS a) (vS b) = ret (vS (a ++ b)) := by
  have h' : ¬ ((a.size + b.size : Nat) : Int) > IntKind.i64.max := by
    have : IntKind.i64.max = 9223372036854775807 := by decide
    omega
  have h2 : ¬ (9223372036854775807 : Int) < (a.size : Int) + b.size := by omega
  simp [effPlain2, AV.val, eqGuard, binOp, Op.stringOp, h2, pureRun, ofVal, Value.oneCell', ret]
theorem strB_size (w : List Int) : (strB w).size = w.length := by simp [strB, ByteArray.size]
/-! ### The two say the same of an order -/
end
section
set_option maxHeartbeats 4000000
def lw2 (n : Int) : Nat → Int → List Int → List Int → List Int × Bool
  | 0, _, _, _ => ([], false)
  | _ + 1, _, _, [] => ([], true)
  | f + 1, came, st, x :: r => if st ≠ [] ∧ st.getLastD 0 = x then (111 :: (lw2 n f came st.dropLast r).1, (lw2 n f came st.dropLast r).2)
    else if came = n then ([], false) else (105 :: (lw2 n f (came + 1) (st ++ [came]) (x :: r)).1, (lw2 n f (came + 1) (st ++ [came]) (x :: r)).2)
theorem lw2_len (n : Int) : ∀ (f : Nat) (came : Int) (st out : List Int), (lw2 n f came st out).1.length ≤ f
  | 0, _, _, _ => by simp [lw2]
  | f + 1, _, _, [] => by simp [lw2]
  | f + 1, came, st, x :: r => by
    simp only [lw2]
    have h1 := lw2_len n f came st.dropLast r
    have h2 := lw2_len n f (came + 1) (st ++ [came]) (x :: r)
    split
    · simp; omega
    · split
      · simp
      · simp; omega
theorem strB_cons (c : Int) (w : List Int) : strB (c :: w) = ⟨#[c.toNat.toUInt8]⟩ ++ strB w := by
  apply ByteArray.ext
  simp [strB]
theorem catl (x y : Operand) (c : Int) (b : ByteArray) (hb : b = ⟨#[c.toNat.toUInt8]⟩) (w : List Int) (h : w.length ≤ 1000) : effPlain2 Try.prog (fun u v => do eqGuard .add 9 x y u v; binOp .add 9 u v) (vS b) (vS (strB w)) = ret (vS (strB (c :: w))) := by
  have h1 : b.size = 1 := by rw [hb]; rfl
  rw [cat9 _ _ _ _ (by rw [strB_size, h1]; omega), strB_cons, hb]
def g81 (f : Nat) (n came : Int) (st out : List Int) : Bool := decide (0 ≤ came ∧ came ≤ n ∧ n ≤ 7 ∧ (st.length : Int) ≤ came ∧ out.length ≤ 7 ∧ (n - came).toNat + out.length + 1 ≤ f ∧ f ≤ 100)
def s81 (f : Nat) : Sp := spT 81 [.i, .i, .l, .l] fun (n : Int) (came : Int) (st : List Int) (out : List Int) => res (g81 f n came st out) (.tup [vS (strB (lw2 n f came st out).1), vB (lw2 n f came st out).2])
@[simp] theorem s81_g (f : Nat) : (s81 f).g = 81 := rfl
@[simp] theorem s81_f (f : Nat) : (s81 f).f = (spT 81 [.i, .i, .l, .l] fun (n : Int) (came : Int) (st : List Int) (out : List Int) => res (g81 f n came st out) (.tup [vS (strB (lw2 n f came st out).1), vB (lw2 n f came st out).2])).f := rfl
theorem s81_ok : ∀ f, (s81 f).ok Try.prog
  | 0 => by
    apply spT_ok
    simp only [OkT, Ty.all, List.nil_append, List.cons_append]
    intro (n : Int) (came : Int) (st : List Int) u (out : List Int) v
    apply okT_res; intro hg
    simp [g81] at hg
  | f + 1 => by
    apply spT_ok
    simp only [OkT, Ty.all, List.nil_append, List.cons_append]
    intro (n : Int) (came : Int) (st : List Int) u (out : List Int) v
    apply okT_res; intro hg
    simp only [g81, decide_eq_true_eq] at hg
    obtain ⟨g1, g2, g3, g4, g5, g6, g7⟩ := hg
    refine P81.rz (ss := [s81 f]) ⟨s81_ok f, trivial⟩ (by simp) fun Q hQ => ?_
    cases out with
    | nil =>
      simp only [lw2] at hQ
      delta p81 p81_r0 p81_r1 p81_r2 p81_r3 p81_r4 p81_r5 p81_r6 p81_r7 p81_r8 p81_r9
      simp (disch := omega) [oLt, oLe, oLtN, oLeN, nLt, nLe, nLtN, nLeN]
      exact hQ _ _ (.p (.inl rfl) (by simp [strB]) rfl)
    | cons x r =>
      simp only [List.length_cons] at g5 g6
      simp only [lw2] at hQ
      have hw2 := lw2_len n f (came + 1) (st ++ [came]) (x :: r)
      have hi := fun p q => catl p q 105 ⟨#[105]⟩ rfl (lw2 n f (came + 1) (st ++ [came]) (x :: r)).1 (by omega)
      have push : ¬ came = n → g81 f n (came + 1) (st ++ [came]) (x :: r) = true := fun h => by
        simp only [g81, decide_eq_true_eq, List.length_append, List.length_cons, List.length_nil]
        omega
      rcases List.eq_nil_or_concat st with rfl | ⟨D, c, rfl⟩
      · rw [if_neg (by simp)] at hQ
        by_cases hcn : came = n
        · rw [if_pos hcn] at hQ
          subst hcn
          delta p81 p81_r0 p81_r1 p81_r2 p81_r3 p81_r4 p81_r5 p81_r6 p81_r7 p81_r8 p81_r9
          simp (disch := omega) [oLt, oLe, oLtN, oLeN, nLt, nLe, nLtN, nLeN]
          exact hQ _ _ (.p (.inl rfl) (by simp [strB]) rfl)
        · rw [if_neg hcn] at hQ
          have push := push hcn
          simp only [List.nil_append] at push hi hQ
          delta p81 p81_r0 p81_r1 p81_r2 p81_r3 p81_r4 p81_r5 p81_r6 p81_r7 p81_r8 p81_r9
          simp (disch := omega) [oLt, oLe, oLtN, oLeN, nLt, nLe, nLtN, nLeN, hcn, push, hi, SOp.eff]
          exact hQ _ _ (.p (.inl rfl) (by simp) rfl)
      · simp only [List.concat_eq_append] at *
        have hdl : D.length ≤ 7 := by simp at g4; omega
        have hd1 : (D.length : Int) + 1 - 1 = D.length := by omega
        have hdp : (0 : Int) < (D.length : Int) + 1 := by omega
        have htk : (ints D ++ [vI c]).take D.length = ints D := List.take_left' (by simp)
        have htk2 : (ints D ++ [vI c]).take (D.length + 1) = ints D ++ [vI c] := List.take_of_length_le (by simp)
        have htk3 : (ints D ++ [vI c, vI came]).take (D.length + 1 + 1) = ints D ++ [vI c, vI came] := List.take_of_length_le (by simp)
        have hget : (ints D ++ [vI c])[D.length]? = some (vI c) := by rw [List.getElem?_append_right (by simp)]; simp
        rw [show (D ++ [c]).getLastD 0 = c by simp, List.dropLast_concat] at hQ
        by_cases hcx : c = x
        · subst hcx
          rw [if_pos ⟨by simp, rfl⟩] at hQ
          have pop : g81 f n came D r = true := by
            simp only [g81, decide_eq_true_eq]
            simp at g4
            omega
          have hw := lw2_len n f came D r
          have ho := fun p q => catl p q 111 ⟨#[111]⟩ rfl (lw2 n f came D r).1 (by omega)
          delta p81 p81_r0 p81_r1 p81_r2 p81_r3 p81_r4 p81_r5 p81_r6 p81_r7 p81_r8 p81_r9
          simp (disch := omega) [oLt, oLe, oLtN, oLeN, nLt, nLe, nLtN, nLeN, hdp, hd1, hget, htk, pop, ho, SOp.eff]
          exact hQ _ _ (.p (.inl rfl) (by simp) rfl)
        · rw [if_neg (fun h => hcx h.2)] at hQ
          by_cases hcn : came = n
          · rw [if_pos hcn] at hQ
            subst hcn
            delta p81 p81_r0 p81_r1 p81_r2 p81_r3 p81_r4 p81_r5 p81_r6 p81_r7 p81_r8 p81_r9
            simp (disch := omega) [oLt, oLe, oLtN, oLeN, nLt, nLe, nLtN, nLeN, hdp, hd1, hget, hcx]
            exact hQ _ _ (.p (.inl rfl) (by simp [strB]) rfl)
          · rw [if_neg hcn] at hQ
            have push := push hcn
            simp only [List.append_assoc, List.singleton_append] at push hi hQ
            delta p81 p81_r0 p81_r1 p81_r2 p81_r3 p81_r4 p81_r5 p81_r6 p81_r7 p81_r8 p81_r9
            simp (disch := omega) [oLt, oLe, oLtN, oLeN, nLt, nLe, nLtN, nLeN, hdp, hd1, hget, hcx, hcn, htk2, htk3, hdl, push, hi, SOp.eff]
            exact hQ _ _ (.p (.inl rfl) (by simp) rfl)
def s36 : Sp := spT 36 [.l] fun (l : List Int) => res (small l) (if chk2F l = 0 then (if (lw2 l.length 15 0 [] l).2 = true then .tup [vS (strB (lw2 l.length 15 0 [] l).1), vI 0] else .tup [vS ⟨#[]⟩, vI 12]) else .tup [vS ⟨#[]⟩, vI (chk2F l)])
@[simp] theorem s36_g : s36.g = 36 := rfl
@[simp] theorem s36_f : s36.f = (spT 36 [.l] fun (l : List Int) => res (small l) (if chk2F l = 0 then (if (lw2 l.length 15 0 [] l).2 = true then .tup [vS (strB (lw2 l.length 15 0 [] l).1), vI 0] else .tup [vS ⟨#[]⟩, vI 12]) else .tup [vS ⟨#[]⟩, vI (chk2F l)])).f := rfl
theorem s36_ok : s36.ok Try.prog := by
  apply spT_ok
  simp only [OkT, Ty.all, List.nil_append, List.cons_append]
  intro (l : List Int) u
  apply okT_res; intro hg
  refine P36.rz (ss := [s24, s81 15]) ⟨s24_ok, s81_ok 15, trivial⟩ (by simp) fun Q hQ => ?_
  delta p36 p36_r0 p36_r1 p36_r2 p36_r3 p36_r4 p36_r5 p36_r6 p36_r7
  by_cases hck : chk2F l = 0
  rotate_left
  · rw [if_neg hck] at hQ
    simp (disch := omega) [oLt, oLe, oLtN, oLeN, nLt, nLe, nLtN, nLeN, hg, hck]
    exact hQ _ _ (.p (.inl rfl) (by simp) rfl)
  rw [if_pos hck] at hQ
  obtain ⟨hl0, hl7⟩ := chkF_len ((chk2_eq l).symm.trans hck)
  have hg81 : g81 15 l.length 0 [] l = true := by
    simp only [g81, decide_eq_true_eq, List.length_nil]; omega
  cases hb : (lw2 l.length 15 0 [] l).2 with
  | true =>
    rw [if_pos hb] at hQ
    simp (disch := omega) [oLt, oLe, oLtN, oLeN, nLt, nLe, nLtN, nLeN, hg, hck, hg81, hb]
    exact hQ _ _ (.p (.inl rfl) (by simp) rfl)
  | false =>
    rw [if_neg (by rw [hb]; simp)] at hQ
    simp (disch := omega) [oLt, oLe, oLtN, oLeN, nLt, nLe, nLtN, nLeN, hg, hck, hg81, hb]
    exact hQ _ _ (.p (.inl rfl) (by simp) rfl)
/-! ### The document's moves are the program's -/
theorem lw2_lost (n : Nat) (x : Int) (r : List Int) : ∀ (f came : Nat) (st : List Int), x < came → (st ≠ [] → st.getLastD 0 ≠ x) → came ≤ n → (n - came) + 1 ≤ f → (lw2 n f came st (x :: r)).2 = false
  | 0, came, st, h1, h2, h3, h4 => by omega
  | f + 1, came, st, h1, h2, h3, h4 => by
    simp only [lw2]
    rw [if_neg (fun h => h2 h.1 h.2)]
    by_cases hc : (came : Int) = n
    · rw [if_pos hc]
    · rw [if_neg hc]
      have := lw2_lost n x r f (came + 1) (st ++ [(came : Int)]) (by omega) (fun _ => by simp; omega) (by omega) (by omega)
      simpa using this
theorem lw2_pop (n : Int) (f : Nat) (came x : Int) (st r : List Int) (h : st ≠ [] ∧ st.getLastD 0 = x) : lw2 n (f + 1) came st (x :: r) = (111 :: (lw2 n f came st.dropLast r).1, (lw2 n f came st.dropLast r).2) := by
  simp only [lw2]; rw [if_pos h]
theorem lw2_push (n : Int) (f : Nat) (came x : Int) (st r : List Int) (h : ¬ (st ≠ [] ∧ st.getLastD 0 = x)) (hc : ¬ came = n) : lw2 n (f + 1) came st (x :: r) = (105 :: (lw2 n f (came + 1) (st ++ [came]) (x :: r)).1, (lw2 n f (came + 1) (st ++ [came]) (x :: r)).2) := by
  simp only [lw2]; rw [if_neg h, if_neg hc]
theorem lw2_lv (n : Nat) : ∀ (f : Nat) (out : List Int) (came : Nat) (st w : List Int), (∀ x ∈ out, 0 ≤ x ∧ x < n) → (∀ y ∈ st, y < came) → came ≤ n → (n - came) + out.length + 1 ≤ f →
    lvR out (came, st, w) = if (lw2 n f came st out).2 = true then some (w ++ (lw2 n f came st out).1) else none
  | 0, out, came, st, w, h1, h2, h3, h4 => by omega
  | f + 1, [], came, st, w, h1, h2, h3, h4 => by simp [lvR, lw2]
  | f + 1, x :: r, came, st, w, h1, h2, h3, h4 => by
    obtain ⟨hx0, hxn⟩ := h1 x (by simp)
    obtain ⟨k, rfl⟩ := Int.eq_ofNat_of_zero_le hx0
    simp only [List.length_cons] at h4
    by_cases htop : st ≠ [] ∧ st.getLastD 0 = (k : Int)
    · rw [lw2_pop _ _ _ _ _ _ htop]
      obtain ⟨D, d, rfl⟩ : ∃ D d, st = D ++ [d] := by
        rcases List.eq_nil_or_concat st with h | ⟨D, c, h⟩
        · exact absurd h htop.1
        · exact ⟨D, c, by simpa using h⟩
      have hd : d = (k : Int) := by simpa using htop.2
      subst hd
      have hk := h2 (k : Int) (by simp)
      rw [List.dropLast_concat]
      simp only [lvR, Int.toNat_natCast]
      rw [show k + 1 - came = 0 by omega, lvP]
      simp only
      rw [if_neg (by simp), if_pos (by simp), List.dropLast_concat]
      rw [lw2_lv n f r came D (w ++ [111]) (fun y hy => h1 y (by simp [hy])) (fun y hy => h2 y (by simp [hy])) h3 (by omega)]
      split <;> simp
    · rcases Nat.lt_or_ge k came with hc | hc
      · have hl := lw2_lost n (k : Int) r (f + 1) came st (by omega) (fun h1 h2 => htop ⟨h1, h2⟩) h3 (by omega)
        rw [if_neg (by rw [hl]; simp)]
        simp only [lvR, Int.toNat_natCast]
        rw [show k + 1 - came = 0 by omega, lvP]
        simp only
        by_cases hs : st = []
        · rw [if_pos hs]
        · rw [if_neg hs, if_neg (fun h => htop ⟨hs, h⟩)]
      · have hcn : ¬ (came : Int) = n := by omega
        rw [lw2_push _ _ _ _ _ _ htop hcn]
        have ih := lw2_lv n f ((k : Int) :: r) (came + 1) (st ++ [(came : Int)]) (w ++ [105]) h1 (fun y hy => by
          rcases List.mem_append.1 hy with hy | hy
          · have := h2 y hy; omega
          · rw [List.mem_singleton.1 hy]; omega) (by omega) (by simp only [List.length_cons]; omega)
        simp only [lvR, Int.toNat_natCast] at ih ⊢
        rw [show k + 1 - came = (k + 1 - (came + 1)) + 1 by omega, lvP]
        rw [show ((came + 1 : Nat) : Int) = (came : Int) + 1 by omega] at ih
        rw [ih]
        split <;> simp
theorem lv_eq {l : List Int} (h : chkF l = 0) : lvF l = if (lw2 l.length 15 0 [] l).2 = true then some (lw2 l.length 15 0 [] l).1 else none := by
  have hl := chkF_len h
  have := lw2_lv l.length 15 l 0 [] [] (chk_mem h) (by simp) (by omega) (by omega)
  simpa [lvF] using this
end
section
set_option maxHeartbeats 8000000
/-! ### Strings of one letter -/
theorem eq9 (x y : Operand) (a b : ByteArray) : effPlain2 Try.prog (fun u v => do eqGuard .eql 9 x y u v; binOp .eql 9 u v) (vS a) (vS b) = ret (vB (a.toList == b.toList)) := by
  have heq : ∀ a b, pureRun Try.prog (Op.stringOp .eql a b) = some (.bool (a.toList == b.toList)) := fun a b => rfl
  simp [effPlain2, AV.val, eqGuard, binOp, heq, pureRun, ofVal, Value.oneCell', ret]
/-! ### What a letter does to the counts -/
section
variable {R : Rsv} {l : List Int} {K : List AV} {m came inn i nx : Nat} {w : List Int} {want : Int} {N : ST → Prop} {Q' : Exit → ST → Prop} (hK : ∀ g, renL g K = K)
include hK
end
end
end Go.Sx.Lk
