/- ChartColoured: colours by numbers, whether two points' colours are proper. No conditions. -/
import Derived.Test.YtfiebjbhiflfpaaDoorSxJDYtoDZ
import Derived.Test.YtfiebjbhiflfpaaDoorSxJE
import Derived.Test.YtfiebjbhiflfpaaDoorSxJI
import Derived.Test.YtfiebjbhiflfpaaDoorSxDF
import Derived.Test.YtfiebjbhiflfpaaDoorSxJSttoSd
set_option linter.unusedVariables false
set_option linter.unusedSimpArgs false
set_option maxRecDepth 4000
namespace Go.Sx.Ch
open Go Go.Sx Go.Proofs

noncomputable abbrev ss8 : List Sp := [s16, s24, s26, s28, s30, s49, s50, s51, s52]
set_option maxHeartbeats 4000000
def anc34 : List (List Nat) := [[], [0], [1, 0], [1, 0], [2, 3, 1, 0], [4, 2, 3, 1, 0], [1, 0], [1, 0], [6, 7, 1, 0], [8, 6, 7, 1, 0], [5, 9, 4, 2, 3, 8, 6, 7, 1, 0], [10, 5, 9, 4, 2, 3, 8, 6, 7, 1, 0], [11, 10, 5, 9, 4, 2, 3, 8, 6, 7, 1, 0], [11, 10, 5, 9, 4, 2, 3, 8, 6, 7, 1, 0], [12, 13, 11, 10, 5, 9, 4, 2, 3, 8, 6, 7, 1, 0], [14, 12, 13, 11, 10, 5, 9, 4, 2, 3, 8, 6, 7, 1, 0], [11, 10, 5, 9, 4, 2, 3, 8, 6, 7, 1, 0], [15, 16, 14, 12, 13, 11, 10, 5, 9, 4, 2, 3, 8, 6, 7, 1, 0], [17, 15, 16, 14, 12, 13, 11, 10, 5, 9, 4, 2, 3, 8, 6, 7, 1, 0], [18, 17, 15, 16, 14, 12, 13, 11, 10, 5, 9, 4, 2, 3, 8, 6, 7, 1, 0], [19, 18, 17, 15, 16, 14, 12, 13, 11, 10, 5, 9, 4, 2, 3, 8, 6, 7, 1, 0], [20, 19, 18, 17, 15, 16, 14, 12, 13, 11, 10, 5, 9, 4, 2, 3, 8, 6, 7, 1, 0], [21, 20, 19, 18, 17, 15, 16, 14, 12, 13, 11, 10, 5, 9, 4, 2, 3, 8, 6, 7, 1, 0], [22, 21, 20, 19, 18, 17, 15, 16, 14, 12, 13, 11, 10, 5, 9, 4, 2, 3, 8, 6, 7, 1, 0]]
theorem d34_f {n k m x a p q : Nat} {c l : List Int} {N : List Nat} {M : AV}  {Q : Exit → ST → Prop}
    (hK : ∀ nx, Q .normal ⟨[(3, .ptr 0 0), (5, vI n), (6, vI k), (7, vI 0), (8, .il (ints l) l.length false), (9, vI 0), (10, .il (uws N) N.length false), (11, vI m), (14, .ref 1 0 n 1 (some n)), (16, vB false), (17, vI p), (101, vI a), (102, vI x), (122, vI n), (123, vI p), (126, vI p), (127, vI q)], [(0, .cells [M]), (1, .cells (ints c))], nx⟩) :
    zD (rZ (spc ss8)) (goD anc34 [3, 5, 6, 7, 8, 9, 10, 11, 14, 16, 17, 101, 102, 122, 123, 126, 127] Q) p8_r34 [] ⟨[(3, .ptr 0 0), (5, vI n), (6, vI k), (7, vI 0), (8, .il (ints l) l.length false), (9, vI 0), (10, .il (uws N) N.length false), (11, vI m), (14, .ref 1 0 n 1 (some n)), (16, vB false), (17, vI p), (18, vI q), (101, vI a), (102, vI x), (122, vI n), (123, vI p), (126, vI p), (127, vI q)], [(0, .cells [M]), (1, .cells (ints c))], 5⟩ := by
  delta p8_r34
  refine zD_cut 8 ?_ ?_ (fun K_ hK => ?_) ?_
  rotate_left 2
  · simp only [List.take_succ_cons, List.take_zero]
    simp (disch := omega) [oLt, oLe, oLtN, oLeN, nLt, nLe, nLtN, nLeN]
    exact hK
  simp only [List.drop_succ_cons, List.drop_zero]
  refine zD_cut 8 ?_ ?_ (fun K_ hK => ?_) ?_
  rotate_left 2
  · simp only [List.take_succ_cons, List.take_zero]
    simp (disch := omega) [oLt, oLe, oLtN, oLeN, nLt, nLe, nLtN, nLeN]
    exact hK
  simp only [List.drop_succ_cons, List.drop_zero]
  refine zD_cut 8 ?_ ?_ (fun K_ hK => ?_) ?_
  rotate_left 2
  · simp only [List.take_succ_cons, List.take_zero]
    simp (disch := omega) [oLt, oLe, oLtN, oLeN, nLt, nLe, nLtN, nLeN]
    exact hK
  simp only [List.drop_succ_cons, List.drop_zero]
  refine goD_ok (by decide) ?_
  simp (disch := omega) [oLt, oLe, oLtN, oLeN, nLt, nLe, nLtN, nLeN]
  exact hK _
theorem d34_n {n k m x a p q : Nat} {c l : List Int} {N : List Nat} {M : AV} {u v : Int} (hu : c[p]? = some u) (hv : c[q]? = some v) (hpl : p < c.length) (hql : q < c.length) (hpn : (p : Int) < n) (hqn : (q : Int) < n) (hpn' : p < n) (hqn' : q < n) (huv : ¬ u = v) {Q : Exit → ST → Prop}
    (hK : ∀ nx, Q .normal ⟨[(3, .ptr 0 0), (5, vI n), (6, vI k), (7, vI 0), (8, .il (ints l) l.length false), (9, vI 0), (10, .il (uws N) N.length false), (11, vI m), (14, .ref 1 0 n 1 (some n)), (16, vB true), (17, vI p), (101, vI a), (102, vI x), (122, vI n), (123, vI p), (126, vI p), (127, vI q)], [(0, .cells [M]), (1, .cells (ints c))], nx⟩) :
    zD (rZ (spc ss8)) (goD anc34 [3, 5, 6, 7, 8, 9, 10, 11, 14, 16, 17, 101, 102, 122, 123, 126, 127] Q) p8_r34 [] ⟨[(3, .ptr 0 0), (5, vI n), (6, vI k), (7, vI 0), (8, .il (ints l) l.length false), (9, vI 0), (10, .il (uws N) N.length false), (11, vI m), (14, .ref 1 0 n 1 (some n)), (16, vB true), (17, vI p), (18, vI q), (101, vI a), (102, vI x), (122, vI n), (123, vI p), (126, vI p), (127, vI q)], [(0, .cells [M]), (1, .cells (ints c))], 5⟩ := by
  have hu' := (List.getElem?_eq_some_iff.1 hu).2
  have hv' := (List.getElem?_eq_some_iff.1 hv).2
  delta p8_r34
  refine zD_cut 6 ?_ ?_ (fun K_ hK => ?_) ?_
  rotate_left 2
  · simp only [List.take_succ_cons, List.take_zero]
    simp (disch := omega) [oLt, oLe, oLtN, oLeN, nLt, nLe, nLtN, nLeN, hu, hv, hu', hv', hpl, hql, hpn, hqn, hpn', hqn', huv]
    exact hK
  simp only [List.drop_succ_cons, List.drop_zero]
  refine zD_cut 6 ?_ ?_ (fun K_ hK => ?_) ?_
  rotate_left 2
  · simp only [List.take_succ_cons, List.take_zero]
    simp (disch := omega) [oLt, oLe, oLtN, oLeN, nLt, nLe, nLtN, nLeN, hu, hv, hu', hv', hpl, hql, hpn, hqn, hpn', hqn', huv]
    exact hK
  simp only [List.drop_succ_cons, List.drop_zero]
  refine zD_cut 6 ?_ ?_ (fun K_ hK => ?_) ?_
  rotate_left 2
  · simp only [List.take_succ_cons, List.take_zero]
    simp (disch := omega) [oLt, oLe, oLtN, oLeN, nLt, nLe, nLtN, nLeN, hu, hv, hu', hv', hpl, hql, hpn, hqn, hpn', hqn', huv]
    exact hK
  simp only [List.drop_succ_cons, List.drop_zero]
  refine zD_cut 6 ?_ ?_ (fun K_ hK => ?_) ?_
  rotate_left 2
  · simp only [List.take_succ_cons, List.take_zero]
    simp (disch := omega) [oLt, oLe, oLtN, oLeN, nLt, nLe, nLtN, nLeN, hu, hv, hu', hv', hpl, hql, hpn, hqn, hpn', hqn', huv]
    exact hK
  simp only [List.drop_succ_cons, List.drop_zero]
  refine goD_ok (by decide) ?_
  simp (disch := omega) [oLt, oLe, oLtN, oLeN, nLt, nLe, nLtN, nLeN]
  exact hK _
theorem d34_1 {n k m x a p q : Nat} {c l : List Int} {N : List Nat} {M : AV} {u v : Int} (hu : c[p]? = some u) (hv : c[q]? = some v) (hpl : p < c.length) (hql : q < c.length) (hpn : (p : Int) < n) (hqn : (q : Int) < n) (hpn' : p < n) (hqn' : q < n){b y z : Nat} (hb : N[p]? = some b) (hpN : p < N.length) (hsr : ∀ u v, effPlain2 Tryd.prog (fun u_1 v_1 => do eqGuard .shr 65 u v u_1 v_1; binOp .shr 65 u_1 v_1) (vU b) (vI q) = ret (vU y)) (han : ∀ u v, effPlain2 Tryd.prog (fun u_1 v_1 => do eqGuard .and 65 u v u_1 v_1; binOp .and 65 u_1 v_1) (vU y) (.v (.int .u32 1)) = ret (vU z)) (huv : u = v) (hz : z = 1) {Q : Exit → ST → Prop}
    (hK : ∀ nx, Q .normal ⟨[(3, .ptr 0 0), (5, vI n), (6, vI k), (7, vI 0), (8, .il (ints l) l.length false), (9, vI 0), (10, .il (uws N) N.length false), (11, vI m), (14, .ref 1 0 n 1 (some n)), (16, vB false), (17, vI p), (101, vI a), (102, vI x), (122, vI n), (123, vI p), (126, vI p), (127, vI q)], [(0, .cells [M]), (1, .cells (ints c))], nx⟩) :
    zD (rZ (spc ss8)) (goD anc34 [3, 5, 6, 7, 8, 9, 10, 11, 14, 16, 17, 101, 102, 122, 123, 126, 127] Q) p8_r34 [] ⟨[(3, .ptr 0 0), (5, vI n), (6, vI k), (7, vI 0), (8, .il (ints l) l.length false), (9, vI 0), (10, .il (uws N) N.length false), (11, vI m), (14, .ref 1 0 n 1 (some n)), (16, vB true), (17, vI p), (18, vI q), (101, vI a), (102, vI x), (122, vI n), (123, vI p), (126, vI p), (127, vI q)], [(0, .cells [M]), (1, .cells (ints c))], 5⟩ := by
  subst huv
  subst hz
  have hu' := (List.getElem?_eq_some_iff.1 hu).2
  have hv' := (List.getElem?_eq_some_iff.1 hv).2
  have hb' := (List.getElem?_eq_some_iff.1 hb).2
  delta p8_r34
  refine zD_cut 4 ?_ ?_ (fun K_ hK => ?_) ?_
  rotate_left 2
  · simp only [List.take_succ_cons, List.take_zero]
    simp (disch := omega) [oLt, oLe, oLtN, oLeN, nLt, nLe, nLtN, nLeN, hu, hv, hu', hv', hpl, hql, hpn, hqn, hpn', hqn', hb, hb', hpN, hsr, han]
    exact hK
  simp only [List.drop_succ_cons, List.drop_zero]
  refine zD_cut 4 ?_ ?_ (fun K_ hK => ?_) ?_
  rotate_left 2
  · simp only [List.take_succ_cons, List.take_zero]
    simp (disch := omega) [oLt, oLe, oLtN, oLeN, nLt, nLe, nLtN, nLeN, hu, hv, hu', hv', hpl, hql, hpn, hqn, hpn', hqn', hb, hb', hpN, hsr, han]
    exact hK
  simp only [List.drop_succ_cons, List.drop_zero]
  refine zD_cut 4 ?_ ?_ (fun K_ hK => ?_) ?_
  rotate_left 2
  · simp only [List.take_succ_cons, List.take_zero]
    simp (disch := omega) [oLt, oLe, oLtN, oLeN, nLt, nLe, nLtN, nLeN, hu, hv, hu', hv', hpl, hql, hpn, hqn, hpn', hqn', hb, hb', hpN, hsr, han]
    exact hK
  simp only [List.drop_succ_cons, List.drop_zero]
  refine zD_cut 4 ?_ ?_ (fun K_ hK => ?_) ?_
  rotate_left 2
  · simp only [List.take_succ_cons, List.take_zero]
    simp (disch := omega) [oLt, oLe, oLtN, oLeN, nLt, nLe, nLtN, nLeN, hu, hv, hu', hv', hpl, hql, hpn, hqn, hpn', hqn', hb, hb', hpN, hsr, han]
    exact hK
  simp only [List.drop_succ_cons, List.drop_zero]
  refine zD_cut 4 ?_ ?_ (fun K_ hK => ?_) ?_
  rotate_left 2
  · simp only [List.take_succ_cons, List.take_zero]
    simp (disch := omega) [oLt, oLe, oLtN, oLeN, nLt, nLe, nLtN, nLeN, hu, hv, hu', hv', hpl, hql, hpn, hqn, hpn', hqn', hb, hb', hpN, hsr, han]
    exact hK
  simp only [List.drop_succ_cons, List.drop_zero]
  refine zD_cut 4 ?_ ?_ (fun K_ hK => ?_) ?_
  rotate_left 2
  · simp only [List.take_succ_cons, List.take_zero]
    simp (disch := omega) [oLt, oLe, oLtN, oLeN, nLt, nLe, nLtN, nLeN, hu, hv, hu', hv', hpl, hql, hpn, hqn, hpn', hqn', hb, hb', hpN, hsr, han]
    exact hK
  simp only [List.drop_succ_cons, List.drop_zero]
  refine goD_ok (by decide) ?_
  simp (disch := omega) [oLt, oLe, oLtN, oLeN, nLt, nLe, nLtN, nLeN]
  exact hK _
theorem d34_0 {n k m x a p q : Nat} {c l : List Int} {N : List Nat} {M : AV} {u v : Int} (hu : c[p]? = some u) (hv : c[q]? = some v) (hpl : p < c.length) (hql : q < c.length) (hpn : (p : Int) < n) (hqn : (q : Int) < n) (hpn' : p < n) (hqn' : q < n){b y z : Nat} (hb : N[p]? = some b) (hpN : p < N.length) (hsr : ∀ u v, effPlain2 Tryd.prog (fun u_1 v_1 => do eqGuard .shr 65 u v u_1 v_1; binOp .shr 65 u_1 v_1) (vU b) (vI q) = ret (vU y)) (han : ∀ u v, effPlain2 Tryd.prog (fun u_1 v_1 => do eqGuard .and 65 u v u_1 v_1; binOp .and 65 u_1 v_1) (vU y) (.v (.int .u32 1)) = ret (vU z)) (huv : u = v) (hz : z = 0) {Q : Exit → ST → Prop}
    (hK : ∀ nx, Q .normal ⟨[(3, .ptr 0 0), (5, vI n), (6, vI k), (7, vI 0), (8, .il (ints l) l.length false), (9, vI 0), (10, .il (uws N) N.length false), (11, vI m), (14, .ref 1 0 n 1 (some n)), (16, vB true), (17, vI p), (101, vI a), (102, vI x), (122, vI n), (123, vI p), (126, vI p), (127, vI q)], [(0, .cells [M]), (1, .cells (ints c))], nx⟩) :
    zD (rZ (spc ss8)) (goD anc34 [3, 5, 6, 7, 8, 9, 10, 11, 14, 16, 17, 101, 102, 122, 123, 126, 127] Q) p8_r34 [] ⟨[(3, .ptr 0 0), (5, vI n), (6, vI k), (7, vI 0), (8, .il (ints l) l.length false), (9, vI 0), (10, .il (uws N) N.length false), (11, vI m), (14, .ref 1 0 n 1 (some n)), (16, vB true), (17, vI p), (18, vI q), (101, vI a), (102, vI x), (122, vI n), (123, vI p), (126, vI p), (127, vI q)], [(0, .cells [M]), (1, .cells (ints c))], 5⟩ := by
  subst huv
  subst hz
  have hu' := (List.getElem?_eq_some_iff.1 hu).2
  have hv' := (List.getElem?_eq_some_iff.1 hv).2
  have hb' := (List.getElem?_eq_some_iff.1 hb).2
  delta p8_r34
  refine zD_cut 4 ?_ ?_ (fun K_ hK => ?_) ?_
  rotate_left 2
  · simp only [List.take_succ_cons, List.take_zero]
    simp (disch := omega) [oLt, oLe, oLtN, oLeN, nLt, nLe, nLtN, nLeN, hu, hv, hu', hv', hpl, hql, hpn, hqn, hpn', hqn', hb, hb', hpN, hsr, han]
    exact hK
  simp only [List.drop_succ_cons, List.drop_zero]
  refine zD_cut 4 ?_ ?_ (fun K_ hK => ?_) ?_
  rotate_left 2
  · simp only [List.take_succ_cons, List.take_zero]
    simp (disch := omega) [oLt, oLe, oLtN, oLeN, nLt, nLe, nLtN, nLeN, hu, hv, hu', hv', hpl, hql, hpn, hqn, hpn', hqn', hb, hb', hpN, hsr, han]
    exact hK
  simp only [List.drop_succ_cons, List.drop_zero]
  refine zD_cut 4 ?_ ?_ (fun K_ hK => ?_) ?_
  rotate_left 2
  · simp only [List.take_succ_cons, List.take_zero]
    simp (disch := omega) [oLt, oLe, oLtN, oLeN, nLt, nLe, nLtN, nLeN, hu, hv, hu', hv', hpl, hql, hpn, hqn, hpn', hqn', hb, hb', hpN, hsr, han]
    exact hK
  simp only [List.drop_succ_cons, List.drop_zero]
  refine zD_cut 4 ?_ ?_ (fun K_ hK => ?_) ?_
  rotate_left 2
  · simp only [List.take_succ_cons, List.take_zero]
    simp (disch := omega) [oLt, oLe, oLtN, oLeN, nLt, nLe, nLtN, nLeN, hu, hv, hu', hv', hpl, hql, hpn, hqn, hpn', hqn', hb, hb', hpN, hsr, han]
    exact hK
  simp only [List.drop_succ_cons, List.drop_zero]
  refine zD_cut 4 ?_ ?_ (fun K_ hK => ?_) ?_
  rotate_left 2
  · simp only [List.take_succ_cons, List.take_zero]
    simp (disch := omega) [oLt, oLe, oLtN, oLeN, nLt, nLe, nLtN, nLeN, hu, hv, hu', hv', hpl, hql, hpn, hqn, hpn', hqn', hb, hb', hpN, hsr, han]
    exact hK
  simp only [List.drop_succ_cons, List.drop_zero]
  refine zD_cut 4 ?_ ?_ (fun K_ hK => ?_) ?_
  rotate_left 2
  · simp only [List.take_succ_cons, List.take_zero]
    simp (disch := omega) [oLt, oLe, oLtN, oLeN, nLt, nLe, nLtN, nLeN, hu, hv, hu', hv', hpl, hql, hpn, hqn, hpn', hqn', hb, hb', hpN, hsr, han]
    exact hK
  simp only [List.drop_succ_cons, List.drop_zero]
  refine goD_ok (by decide) ?_
  simp (disch := omega) [oLt, oLe, oLtN, oLeN, nLt, nLe, nLtN, nLeN]
  exact hK _
end Go.Sx.Ch
