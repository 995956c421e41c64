/- What functions of the library return: some lists change places (slices.breakPatternsCmpFunc, 13 to 15 lists). No conditions. Printed by gen/mkBreak.py. -/
import Derived.Test.YtfiebjbhiflfpaaDoorSxJJYetoJYg
set_option linter.unusedVariables false
set_option linter.unusedSimpArgs false
set_option maxRecDepth 4000
namespace Go.Sx.Ch
open Go Go.Sx Go.Proofs
section
variable {cf : Nat}
attribute [local simp] evCall reach idsB idsL ids inA Go.Sx.inL Go.Sx.inM inB allHp enumH gl renB
def oT : Nat → Nat → Nat
  | 13, 0 => 0
  | 13, 1 => 11
  | 13, 2 => 5
  | 14, 0 => 0
  | 14, 1 => 9
  | 14, 2 => 0
  | 15, 0 => 0
  | 15, 1 => 8
  | 15, 2 => 7
  | _, _ => 0
def rT : Nat → Nat → Int
  | 13, 0 => 13
  | 13, 1 => 14069506893
  | 13, 2 => 14988908846326605643
  | 13, 3 => 3428281591454193221
  | 14, 0 => 14
  | 14, 1 => 15151776654
  | 14, 2 => 16141901775903972233
  | 14, 3 => 9417236295700912254
  | 15, 0 => 15
  | 15, 1 => 16234046415
  | 15, 2 => 17294894740109643720
  | 15, 3 => 1850481004178652759
  | _, _ => 0
def bpK (M : List (List Int)) (a l : Nat) : Nat → List (List Int)
  | 0 => M
  | t + 1 => swp (bpK M a l t) (a + 5 + t) (a + oT l t)
theorem oT_lt {l t : Nat} (hl : 13 ≤ l) : oT l t < l := by
  unfold oT; split <;> omega
theorem bpK_rg {M : List (List Int)} {a l : Nat} (hl : 13 ≤ l) (hb : a + l ≤ M.length) : ∀ t, t ≤ 3 → Rg a (a + l) M (bpK M a l t)
  | 0, _ => .refl _ _ _
  | t + 1, h => by
    have h1 := bpK_rg hl hb t (by omega)
    have := oT_lt (t := t) hl
    have hlen := h1.len
    simp only [bpK]
    exact h1.trans (Rg.swp (by omega) ⟨by omega, by omega⟩ ⟨by omega, by omega⟩)
theorem kx130 : f116 [.ptr 0 0] [(0, .cells [.v (.int .u64 13)])] 1 = some (.v (.int .u64 14069506893), [(0, .cells [.v (.int .u64 14069506893)])], 1) := by simp [f116, xsN]
theorem ka130 (x y : Operand) : effPlain2 Tryd.prog (fun u v => do eqGuard .and 110 x y u v; binOp .and 110 u v) (.v (.int .u64 14069506893)) (.v (.int .u64 15)) = ret (.v (.int .u64 13)) := rfl
theorem kx131 : f116 [.ptr 0 0] [(0, .cells [.v (.int .u64 14069506893)])] 1 = some (.v (.int .u64 14988908846326605643), [(0, .cells [.v (.int .u64 14988908846326605643)])], 1) := by simp [f116, xsN]
theorem ka131 (x y : Operand) : effPlain2 Tryd.prog (fun u v => do eqGuard .and 110 x y u v; binOp .and 110 u v) (.v (.int .u64 14988908846326605643)) (.v (.int .u64 15)) = ret (.v (.int .u64 11)) := rfl
theorem kx132 : f116 [.ptr 0 0] [(0, .cells [.v (.int .u64 14988908846326605643)])] 1 = some (.v (.int .u64 3428281591454193221), [(0, .cells [.v (.int .u64 3428281591454193221)])], 1) := by simp [f116, xsN]
theorem ka132 (x y : Operand) : effPlain2 Tryd.prog (fun u v => do eqGuard .and 110 x y u v; binOp .and 110 u v) (.v (.int .u64 3428281591454193221)) (.v (.int .u64 15)) = ret (.v (.int .u64 5)) := rfl
theorem kx140 : f116 [.ptr 0 0] [(0, .cells [.v (.int .u64 14)])] 1 = some (.v (.int .u64 15151776654), [(0, .cells [.v (.int .u64 15151776654)])], 1) := by simp [f116, xsN]
theorem ka140 (x y : Operand) : effPlain2 Tryd.prog (fun u v => do eqGuard .and 110 x y u v; binOp .and 110 u v) (.v (.int .u64 15151776654)) (.v (.int .u64 15)) = ret (.v (.int .u64 14)) := rfl
theorem kx141 : f116 [.ptr 0 0] [(0, .cells [.v (.int .u64 15151776654)])] 1 = some (.v (.int .u64 16141901775903972233), [(0, .cells [.v (.int .u64 16141901775903972233)])], 1) := by simp [f116, xsN]
theorem ka141 (x y : Operand) : effPlain2 Tryd.prog (fun u v => do eqGuard .and 110 x y u v; binOp .and 110 u v) (.v (.int .u64 16141901775903972233)) (.v (.int .u64 15)) = ret (.v (.int .u64 9)) := rfl
theorem kx142 : f116 [.ptr 0 0] [(0, .cells [.v (.int .u64 16141901775903972233)])] 1 = some (.v (.int .u64 9417236295700912254), [(0, .cells [.v (.int .u64 9417236295700912254)])], 1) := by simp [f116, xsN]
theorem ka142 (x y : Operand) : effPlain2 Tryd.prog (fun u v => do eqGuard .and 110 x y u v; binOp .and 110 u v) (.v (.int .u64 9417236295700912254)) (.v (.int .u64 15)) = ret (.v (.int .u64 14)) := rfl
theorem kx150 : f116 [.ptr 0 0] [(0, .cells [.v (.int .u64 15)])] 1 = some (.v (.int .u64 16234046415), [(0, .cells [.v (.int .u64 16234046415)])], 1) := by simp [f116, xsN]
theorem ka150 (x y : Operand) : effPlain2 Tryd.prog (fun u v => do eqGuard .and 110 x y u v; binOp .and 110 u v) (.v (.int .u64 16234046415)) (.v (.int .u64 15)) = ret (.v (.int .u64 15)) := rfl
theorem kx151 : f116 [.ptr 0 0] [(0, .cells [.v (.int .u64 16234046415)])] 1 = some (.v (.int .u64 17294894740109643720), [(0, .cells [.v (.int .u64 17294894740109643720)])], 1) := by simp [f116, xsN]
theorem ka151 (x y : Operand) : effPlain2 Tryd.prog (fun u v => do eqGuard .and 110 x y u v; binOp .and 110 u v) (.v (.int .u64 17294894740109643720)) (.v (.int .u64 15)) = ret (.v (.int .u64 8)) := rfl
theorem kx152 : f116 [.ptr 0 0] [(0, .cells [.v (.int .u64 17294894740109643720)])] 1 = some (.v (.int .u64 1850481004178652759), [(0, .cells [.v (.int .u64 1850481004178652759)])], 1) := by simp [f116, xsN]
theorem ka152 (x y : Operand) : effPlain2 Tryd.prog (fun u v => do eqGuard .and 110 x y u v; binOp .and 110 u v) (.v (.int .u64 1850481004178652759)) (.v (.int .u64 15)) = ret (.v (.int .u64 7)) := rfl
theorem w15 : wrapF IntKind.u64 15 = 15 := rfl
def f106 : List AV → HL → Nat → Option (AV × HL × Nat) := fun args h k => match args, h, k with
  | [.ref 0 0 n 1 none, .v (.int .i64 a), .v (.int .i64 b), .fn (.func cf) [] []], [(0, .cells cs)], 1 => match unlls cs with
    | some M => if cmpN cf = true ∧ n = M.length ∧ gM M = true ∧ 0 ≤ a ∧ a + 13 ≤ b ∧ b ≤ a + 15 ∧ b ≤ n then some (.tup [], [(0, .cells (lls (bpK M a.toNat (b.toNat - a.toNat) 3)))], 1) else none
    | none => none
  | _, _, _ => none
def s106 : Sp := ⟨106, f106⟩
@[simp] theorem s106_g : s106.g = 106 := rfl
@[simp] theorem s106_f : s106.f = f106 := rfl
theorem f106_at {M : List (List Int)} {n a b : Nat} {cf : Nat} (hcm : cmpN cf = true) (hn : n = M.length) (hg : gM M = true) (ha : a + 13 ≤ b) (hb : b ≤ n) (h15 : b ≤ a + 15) :
    f106 [.ref 0 0 n 1 none, vI a, vI b, (fnC cf)] [(0, .cells (lls M))] 1 = some (.tup [], [(0, .cells (lls (bpK M a (b - a) 3)))], 1) := by
  simp only [f106, unlls_lls]
  rw [if_pos ⟨hcm, hn, hg, by omega, by omega, by omega, by omega⟩]
  simp only [Int.toNat_natCast]
set_option maxHeartbeats 8000000
theorem l0_106_13 {a n : Nat} {M : List (List Int)} {s0 : ST} {Q : Exit → ST → Prop} (hg : gM M = true) (hn : M.length = n) (hb : a + 13 ≤ n)
    (hs0 : ChgT 1 s0 ⟨[(0, .ref 0 0 n 1 none), (1, vI a), (8, vI 13), (9, .ptr 1 0), (10, .v (.int .u64 16)), (11, vI ((a + 5 : Nat) : Int))], [(0, .cells (lls M)), (1, .cells [.v (.int .u64 13)])], 2⟩)
    (hq : Q (.exit 0) ⟨[], [(0, .cells (lls (bpK M a 13 3)))], 1⟩) : XZ (rZ (spc [s115, s116])) 1 (.loop p106_l0) s0 Q := by
  refine XZ_for (fun t : Nat => ⟨[(0, .ref 0 0 n 1 none), (1, vI a), (8, vI 13), (9, .ptr 1 0), (10, .v (.int .u64 16)), (11, vI ((a + 5 + t : Nat) : Int))], [(0, .cells (lls (bpK M a 13 t))), (1, .cells [.v (.int .u64 (rT 13 t))])], 2⟩) (fun t => 3 - t) (fun t => t ≤ 3) 0 (Nat.zero_le _) hs0 ?_
  intro t ht N' Q' hN hE
  have h64 : n ≤ 64 := by simp only [gM, Bool.and_eq_true, decide_eq_true_eq] at hg; omega
  have hr := bpK_rg (M := M) (a := a) (l := 13) (by omega) (by omega) t ht
  have hg2 := gM_perm hg hr.perm
  have hn2 : (bpK M a 13 t).length = n := by rw [hr.len, hn]
  rcases (show t = 0 ∨ t = 1 ∨ t = 2 ∨ t = 3 by omega) with rfl | rfl | rfl | rfl
  · have fin : ∀ s', ChgT 1 s' ⟨[(0, .ref 0 0 n 1 none), (1, vI a), (8, vI 13), (9, .ptr 1 0), (10, .v (.int .u64 16)), (11, vI ((a + 5 + 1 : Nat) : Int))], [(0, .cells (lls (swp (bpK M a 13 0) (a + 5 + 0) (a)))), (1, .cells [.v (.int .u64 14069506893)])], 2⟩ → N' s' := fun s' hh => hN s' 1 (by omega) (by omega) hh
    have e11 : ((a + 5 + 1 : Nat) : Int) = ((a + 5 + 0 : Nat) : Int) + 1 := by omega
    rw [e11] at fin
    clear hN hE hq hs0
    simp only [rT]
    obtain ⟨lx, u, lx1, lx2, lx3, lx4, lx5, lx6, lx7, lx8⟩ := gM_at hg2 (i := a + 5 + 0) (by omega)
    obtain ⟨ly, v, ly1, ly2, ly3, ly4, ly5, ly6, ly7, ly8⟩ := gM_at hg2 (i := a) (by omega)
    have lx2' := (List.getElem?_eq_some_iff.1 lx2).2
    have ly2' := (List.getElem?_eq_some_iff.1 ly2).2
    have hsw := lls_swp (i := a + 5 + 0) (j := a) (by omega) (by omega) lx5 ly5
    have hll : (lls (bpK M a 13 0)).length = n := by simp [hn2]
    have hsl : (splice (lls (bpK M a 13 0)) (a + 5 + 0) [.il (ints ly) ly.length false]).length = n := by rw [splice_one (lls _) _ _ (by simp; omega)]; simp [hn2]
    have hc2 : ∀ f, renL f (lls (swp (bpK M a 13 0) (a + 5 + 0) (a))) = lls (swp (bpK M a 13 0) (a + 5 + 0) (a)) := fun f => by simp
    generalize lls (swp (bpK M a 13 0) (a + 5 + 0) (a)) = C2 at *
    obtain ⟨C1, hC1⟩ : ∃ C1, splice (lls (bpK M a 13 0)) (a + 5 + 0) [.il (ints ly) ly.length false] = C1 := ⟨_, rfl⟩
    rw [hC1] at hsw hsl
    have hcond : ((a + 5 + 0 : Nat) : Int) ≤ (a : Int) + 6 + 1 := by omega
    generalize lls (bpK M a 13 0) = C at *
    have x1 : ((a + 5 + 0 : Nat) : Int) < n := by omega
    have x2 : a + 5 + 0 < n := by omega
    generalize a + 5 + 0 = x at *
    have hy : True := trivial
    have y1 : (a : Int) < n := by omega
    have y2 : a < n := by omega
    delta p106_l0
    refine XZ_step ?_ (fun N Q_ hN => ?_) ?_
    rotate_left
    · delta p106_r5
      simp (disch := omega) [oLt, oLe, oLtN, oLeN, nLt, nLe, nLtN, nLeN, hcond]
      exact hN
    refine XZ_seqG (XZ_block9 ?_)
    refine XZ_step ?_ (fun N Q_ hN => ?_) ?_
    rotate_left
    · delta p106_r6; simp (disch := omega) [oLt, oLe, oLtN, oLeN, nLt, nLe, nLtN, nLeN, kx130, w15, ka130, rg2]
      exact hN
    refine XZ_step ?_ (fun N Q_ hN => ?_) ?_
    rotate_left
    · delta p106_r7
      simp (disch := omega) [oLt, oLe, oLtN, oLeN, nLt, nLe, nLtN, nLeN]
      delta p106_r8
      simp (disch := omega) [oLt, oLe, oLtN, oLeN, nLt, nLe, nLtN, nLeN]
      exact hN
    refine XZ_drawG ?_
    delta p106_r9
    refine zD_cut 6 ?_ ?_ (fun K_ hK => ?_) ?_
    rotate_left 2
    · simp only [List.take_succ_cons, List.take_zero]
      simp (disch := omega) [oLt, oLe, oLtN, oLeN, nLt, nLe, nLtN, nLeN, hy]
      exact hK
    simp only [List.drop_succ_cons, List.drop_zero]
    refine zD_cut 4 ?_ ?_ (fun K_ hK => ?_) ?_
    rotate_left 2
    · simp only [List.take_succ_cons, List.take_zero]
      simp (disch := omega) [oLt, oLe, oLtN, oLeN, nLt, nLe, nLtN, nLeN, hy]
      exact hK
    simp only [List.drop_succ_cons, List.drop_zero]
    refine zD_cut 2 ?_ ?_ (fun K_ hK => ?_) ?_
    rotate_left 2
    · simp only [List.take_succ_cons, List.take_zero]
      simp (disch := omega) [oLt, oLe, oLtN, oLeN, nLt, nLe, nLtN, nLeN, y1, y2, ly2, ly2', hll]
      exact hK
    simp only [List.drop_succ_cons, List.drop_zero]
    refine zD_cut 4 ?_ ?_ (fun K_ hK => ?_) ?_
    rotate_left 2
    · simp only [List.take_succ_cons, List.take_zero]
      simp (disch := omega) [oLt, oLe, oLtN, oLeN, nLt, nLe, nLtN, nLeN, x1, x2, lx2, lx2', hll]
      exact hK
    simp only [List.drop_succ_cons, List.drop_zero]
    refine zD_cut 2 ?_ ?_ (fun K_ hK => ?_) ?_
    rotate_left 2
    · simp only [List.take_succ_cons, List.take_zero]
      simp (disch := omega) [oLt, oLe, oLtN, oLeN, nLt, nLe, nLtN, nLeN, x1, x2, hll, hC1]
      exact hK
    simp only [List.drop_succ_cons, List.drop_zero]
    refine zD_cut 2 ?_ ?_ (fun K_ hK => ?_) ?_
    rotate_left 2
    · simp only [List.take_succ_cons, List.take_zero]
      simp (disch := omega) [oLt, oLe, oLtN, oLeN, nLt, nLe, nLtN, nLeN, y1, y2, hsl, hsw]
      exact hK
    simp only [List.drop_succ_cons, List.drop_zero]
    refine goD_ok (by decide) ?_
    simp (disch := omega) [oLt, oLe, oLtN, oLeN, nLt, nLe, nLtN, nLeN]
    delta p106_r10
    simp (disch := omega) [oLt, oLe, oLtN, oLeN, nLt, nLe, nLtN, nLeN]
    exact fin _ (.tot [9] (by simp [hsw, hC1, hc2]))
  · have fin : ∀ s', ChgT 1 s' ⟨[(0, .ref 0 0 n 1 none), (1, vI a), (8, vI 13), (9, .ptr 1 0), (10, .v (.int .u64 16)), (11, vI ((a + 5 + 2 : Nat) : Int))], [(0, .cells (lls (swp (bpK M a 13 1) (a + 5 + 1) (a + 11)))), (1, .cells [.v (.int .u64 14988908846326605643)])], 2⟩ → N' s' := fun s' hh => hN s' 2 (by omega) (by omega) hh
    have e11 : ((a + 5 + 2 : Nat) : Int) = ((a + 5 + 1 : Nat) : Int) + 1 := by omega
    rw [e11] at fin
    clear hN hE hq hs0
    simp only [rT]
    obtain ⟨lx, u, lx1, lx2, lx3, lx4, lx5, lx6, lx7, lx8⟩ := gM_at hg2 (i := a + 5 + 1) (by omega)
    obtain ⟨ly, v, ly1, ly2, ly3, ly4, ly5, ly6, ly7, ly8⟩ := gM_at hg2 (i := a + 11) (by omega)
    have lx2' := (List.getElem?_eq_some_iff.1 lx2).2
    have ly2' := (List.getElem?_eq_some_iff.1 ly2).2
    have hsw := lls_swp (i := a + 5 + 1) (j := a + 11) (by omega) (by omega) lx5 ly5
    have hll : (lls (bpK M a 13 1)).length = n := by simp [hn2]
    have hsl : (splice (lls (bpK M a 13 1)) (a + 5 + 1) [.il (ints ly) ly.length false]).length = n := by rw [splice_one (lls _) _ _ (by simp; omega)]; simp [hn2]
    have hc2 : ∀ f, renL f (lls (swp (bpK M a 13 1) (a + 5 + 1) (a + 11))) = lls (swp (bpK M a 13 1) (a + 5 + 1) (a + 11)) := fun f => by simp
    generalize lls (swp (bpK M a 13 1) (a + 5 + 1) (a + 11)) = C2 at *
    obtain ⟨C1, hC1⟩ : ∃ C1, splice (lls (bpK M a 13 1)) (a + 5 + 1) [.il (ints ly) ly.length false] = C1 := ⟨_, rfl⟩
    rw [hC1] at hsw hsl
    have hcond : ((a + 5 + 1 : Nat) : Int) ≤ (a : Int) + 6 + 1 := by omega
    generalize lls (bpK M a 13 1) = C at *
    have x1 : ((a + 5 + 1 : Nat) : Int) < n := by omega
    have x2 : a + 5 + 1 < n := by omega
    generalize a + 5 + 1 = x at *
    have hy : (a : Int) + 11 = ((a + 11 : Nat) : Int) := by omega
    have y1 : ((a + 11 : Nat) : Int) < n := by omega
    have y2 : a + 11 < n := by omega
    generalize a + 11 = y at *
    delta p106_l0
    refine XZ_step ?_ (fun N Q_ hN => ?_) ?_
    rotate_left
    · delta p106_r5
      simp (disch := omega) [oLt, oLe, oLtN, oLeN, nLt, nLe, nLtN, nLeN, hcond]
      exact hN
    refine XZ_seqG (XZ_block9 ?_)
    refine XZ_step ?_ (fun N Q_ hN => ?_) ?_
    rotate_left
    · delta p106_r6; simp (disch := omega) [oLt, oLe, oLtN, oLeN, nLt, nLe, nLtN, nLeN, kx131, w15, ka131, rg2]
      exact hN
    refine XZ_step ?_ (fun N Q_ hN => ?_) ?_
    rotate_left
    · delta p106_r7
      simp (disch := omega) [oLt, oLe, oLtN, oLeN, nLt, nLe, nLtN, nLeN]
      exact hN
    refine XZ_drawG ?_
    delta p106_r9
    refine zD_cut 6 ?_ ?_ (fun K_ hK => ?_) ?_
    rotate_left 2
    · simp only [List.take_succ_cons, List.take_zero]
      simp (disch := omega) [oLt, oLe, oLtN, oLeN, nLt, nLe, nLtN, nLeN, hy]
      exact hK
    simp only [List.drop_succ_cons, List.drop_zero]
    refine zD_cut 4 ?_ ?_ (fun K_ hK => ?_) ?_
    rotate_left 2
    · simp only [List.take_succ_cons, List.take_zero]
      simp (disch := omega) [oLt, oLe, oLtN, oLeN, nLt, nLe, nLtN, nLeN, hy]
      exact hK
    simp only [List.drop_succ_cons, List.drop_zero]
    refine zD_cut 2 ?_ ?_ (fun K_ hK => ?_) ?_
    rotate_left 2
    · simp only [List.take_succ_cons, List.take_zero]
      simp (disch := omega) [oLt, oLe, oLtN, oLeN, nLt, nLe, nLtN, nLeN, y1, y2, ly2, ly2', hll]
      exact hK
    simp only [List.drop_succ_cons, List.drop_zero]
    refine zD_cut 4 ?_ ?_ (fun K_ hK => ?_) ?_
    rotate_left 2
    · simp only [List.take_succ_cons, List.take_zero]
      simp (disch := omega) [oLt, oLe, oLtN, oLeN, nLt, nLe, nLtN, nLeN, x1, x2, lx2, lx2', hll]
      exact hK
    simp only [List.drop_succ_cons, List.drop_zero]
    refine zD_cut 2 ?_ ?_ (fun K_ hK => ?_) ?_
    rotate_left 2
    · simp only [List.take_succ_cons, List.take_zero]
      simp (disch := omega) [oLt, oLe, oLtN, oLeN, nLt, nLe, nLtN, nLeN, x1, x2, hll, hC1]
      exact hK
    simp only [List.drop_succ_cons, List.drop_zero]
    refine zD_cut 2 ?_ ?_ (fun K_ hK => ?_) ?_
    rotate_left 2
    · simp only [List.take_succ_cons, List.take_zero]
      simp (disch := omega) [oLt, oLe, oLtN, oLeN, nLt, nLe, nLtN, nLeN, y1, y2, hsl, hsw]
      exact hK
    simp only [List.drop_succ_cons, List.drop_zero]
    refine goD_ok (by decide) ?_
    simp (disch := omega) [oLt, oLe, oLtN, oLeN, nLt, nLe, nLtN, nLeN]
    delta p106_r10
    simp (disch := omega) [oLt, oLe, oLtN, oLeN, nLt, nLe, nLtN, nLeN]
    exact fin _ (.tot [9] (by simp [hsw, hC1, hc2]))
  · have fin : ∀ s', ChgT 1 s' ⟨[(0, .ref 0 0 n 1 none), (1, vI a), (8, vI 13), (9, .ptr 1 0), (10, .v (.int .u64 16)), (11, vI ((a + 5 + 3 : Nat) : Int))], [(0, .cells (lls (swp (bpK M a 13 2) (a + 5 + 2) (a + 5)))), (1, .cells [.v (.int .u64 3428281591454193221)])], 2⟩ → N' s' := fun s' hh => hN s' 3 (by omega) (by omega) hh
    have e11 : ((a + 5 + 3 : Nat) : Int) = ((a + 5 + 2 : Nat) : Int) + 1 := by omega
    rw [e11] at fin
    clear hN hE hq hs0
    simp only [rT]
    obtain ⟨lx, u, lx1, lx2, lx3, lx4, lx5, lx6, lx7, lx8⟩ := gM_at hg2 (i := a + 5 + 2) (by omega)
    obtain ⟨ly, v, ly1, ly2, ly3, ly4, ly5, ly6, ly7, ly8⟩ := gM_at hg2 (i := a + 5) (by omega)
    have lx2' := (List.getElem?_eq_some_iff.1 lx2).2
    have ly2' := (List.getElem?_eq_some_iff.1 ly2).2
    have hsw := lls_swp (i := a + 5 + 2) (j := a + 5) (by omega) (by omega) lx5 ly5
    have hll : (lls (bpK M a 13 2)).length = n := by simp [hn2]
    have hsl : (splice (lls (bpK M a 13 2)) (a + 5 + 2) [.il (ints ly) ly.length false]).length = n := by rw [splice_one (lls _) _ _ (by simp; omega)]; simp [hn2]
    have hc2 : ∀ f, renL f (lls (swp (bpK M a 13 2) (a + 5 + 2) (a + 5))) = lls (swp (bpK M a 13 2) (a + 5 + 2) (a + 5)) := fun f => by simp
    generalize lls (swp (bpK M a 13 2) (a + 5 + 2) (a + 5)) = C2 at *
    obtain ⟨C1, hC1⟩ : ∃ C1, splice (lls (bpK M a 13 2)) (a + 5 + 2) [.il (ints ly) ly.length false] = C1 := ⟨_, rfl⟩
    rw [hC1] at hsw hsl
    have hcond : ((a + 5 + 2 : Nat) : Int) ≤ (a : Int) + 6 + 1 := by omega
    generalize lls (bpK M a 13 2) = C at *
    have x1 : ((a + 5 + 2 : Nat) : Int) < n := by omega
    have x2 : a + 5 + 2 < n := by omega
    generalize a + 5 + 2 = x at *
    have hy : (a : Int) + 5 = ((a + 5 : Nat) : Int) := by omega
    have y1 : ((a + 5 : Nat) : Int) < n := by omega
    have y2 : a + 5 < n := by omega
    generalize a + 5 = y at *
    delta p106_l0
    refine XZ_step ?_ (fun N Q_ hN => ?_) ?_
    rotate_left
    · delta p106_r5
      simp (disch := omega) [oLt, oLe, oLtN, oLeN, nLt, nLe, nLtN, nLeN, hcond]
      exact hN
    refine XZ_seqG (XZ_block9 ?_)
    refine XZ_step ?_ (fun N Q_ hN => ?_) ?_
    rotate_left
    · delta p106_r6; simp (disch := omega) [oLt, oLe, oLtN, oLeN, nLt, nLe, nLtN, nLeN, kx132, w15, ka132, rg2]
      exact hN
    refine XZ_step ?_ (fun N Q_ hN => ?_) ?_
    rotate_left
    · delta p106_r7
      simp (disch := omega) [oLt, oLe, oLtN, oLeN, nLt, nLe, nLtN, nLeN]
      exact hN
    refine XZ_drawG ?_
    delta p106_r9
    refine zD_cut 6 ?_ ?_ (fun K_ hK => ?_) ?_
    rotate_left 2
    · simp only [List.take_succ_cons, List.take_zero]
      simp (disch := omega) [oLt, oLe, oLtN, oLeN, nLt, nLe, nLtN, nLeN, hy]
      exact hK
    simp only [List.drop_succ_cons, List.drop_zero]
    refine zD_cut 4 ?_ ?_ (fun K_ hK => ?_) ?_
    rotate_left 2
    · simp only [List.take_succ_cons, List.take_zero]
      simp (disch := omega) [oLt, oLe, oLtN, oLeN, nLt, nLe, nLtN, nLeN, hy]
      exact hK
    simp only [List.drop_succ_cons, List.drop_zero]
    refine zD_cut 2 ?_ ?_ (fun K_ hK => ?_) ?_
    rotate_left 2
    · simp only [List.take_succ_cons, List.take_zero]
      simp (disch := omega) [oLt, oLe, oLtN, oLeN, nLt, nLe, nLtN, nLeN, y1, y2, ly2, ly2', hll]
      exact hK
    simp only [List.drop_succ_cons, List.drop_zero]
    refine zD_cut 4 ?_ ?_ (fun K_ hK => ?_) ?_
    rotate_left 2
    · simp only [List.take_succ_cons, List.take_zero]
      simp (disch := omega) [oLt, oLe, oLtN, oLeN, nLt, nLe, nLtN, nLeN, x1, x2, lx2, lx2', hll]
      exact hK
    simp only [List.drop_succ_cons, List.drop_zero]
    refine zD_cut 2 ?_ ?_ (fun K_ hK => ?_) ?_
    rotate_left 2
    · simp only [List.take_succ_cons, List.take_zero]
      simp (disch := omega) [oLt, oLe, oLtN, oLeN, nLt, nLe, nLtN, nLeN, x1, x2, hll, hC1]
      exact hK
    simp only [List.drop_succ_cons, List.drop_zero]
    refine zD_cut 2 ?_ ?_ (fun K_ hK => ?_) ?_
    rotate_left 2
    · simp only [List.take_succ_cons, List.take_zero]
      simp (disch := omega) [oLt, oLe, oLtN, oLeN, nLt, nLe, nLtN, nLeN, y1, y2, hsl, hsw]
      exact hK
    simp only [List.drop_succ_cons, List.drop_zero]
    refine goD_ok (by decide) ?_
    simp (disch := omega) [oLt, oLe, oLtN, oLeN, nLt, nLe, nLtN, nLeN]
    delta p106_r10
    simp (disch := omega) [oLt, oLe, oLtN, oLeN, nLt, nLe, nLtN, nLeN]
    exact fin _ (.tot [9] (by simp [hsw, hC1, hc2]))
  · have hcond : ¬ ((a + 5 + 3 : Nat) : Int) ≤ (a : Int) + 6 + 1 := by omega
    clear hN
    generalize a + 5 + 3 = x at *
    delta p106_l0 p106_r5 p106_r6 p106_r7 p106_r8 p106_r9 p106_r10
    simp (disch := omega) [oLt, oLe, oLtN, oLeN, nLt, nLe, nLtN, nLeN, hcond]
    exact hE _ _ _ (.to [0] (by simp)) hq
theorem l0_106_14 {a n : Nat} {M : List (List Int)} {s0 : ST} {Q : Exit → ST → Prop} (hg : gM M = true) (hn : M.length = n) (hb : a + 14 ≤ n)
    (hs0 : ChgT 1 s0 ⟨[(0, .ref 0 0 n 1 none), (1, vI a), (8, vI 14), (9, .ptr 1 0), (10, .v (.int .u64 16)), (11, vI ((a + 5 : Nat) : Int))], [(0, .cells (lls M)), (1, .cells [.v (.int .u64 14)])], 2⟩)
    (hq : Q (.exit 0) ⟨[], [(0, .cells (lls (bpK M a 14 3)))], 1⟩) : XZ (rZ (spc [s115, s116])) 1 (.loop p106_l0) s0 Q := by
  refine XZ_for (fun t : Nat => ⟨[(0, .ref 0 0 n 1 none), (1, vI a), (8, vI 14), (9, .ptr 1 0), (10, .v (.int .u64 16)), (11, vI ((a + 5 + t : Nat) : Int))], [(0, .cells (lls (bpK M a 14 t))), (1, .cells [.v (.int .u64 (rT 14 t))])], 2⟩) (fun t => 3 - t) (fun t => t ≤ 3) 0 (Nat.zero_le _) hs0 ?_
  intro t ht N' Q' hN hE
  have h64 : n ≤ 64 := by simp only [gM, Bool.and_eq_true, decide_eq_true_eq] at hg; omega
  have hr := bpK_rg (M := M) (a := a) (l := 14) (by omega) (by omega) t ht
  have hg2 := gM_perm hg hr.perm
  have hn2 : (bpK M a 14 t).length = n := by rw [hr.len, hn]
  rcases (show t = 0 ∨ t = 1 ∨ t = 2 ∨ t = 3 by omega) with rfl | rfl | rfl | rfl
  · have fin : ∀ s', ChgT 1 s' ⟨[(0, .ref 0 0 n 1 none), (1, vI a), (8, vI 14), (9, .ptr 1 0), (10, .v (.int .u64 16)), (11, vI ((a + 5 + 1 : Nat) : Int))], [(0, .cells (lls (swp (bpK M a 14 0) (a + 5 + 0) (a)))), (1, .cells [.v (.int .u64 15151776654)])], 2⟩ → N' s' := fun s' hh => hN s' 1 (by omega) (by omega) hh
    have e11 : ((a + 5 + 1 : Nat) : Int) = ((a + 5 + 0 : Nat) : Int) + 1 := by omega
    rw [e11] at fin
    clear hN hE hq hs0
    simp only [rT]
    obtain ⟨lx, u, lx1, lx2, lx3, lx4, lx5, lx6, lx7, lx8⟩ := gM_at hg2 (i := a + 5 + 0) (by omega)
    obtain ⟨ly, v, ly1, ly2, ly3, ly4, ly5, ly6, ly7, ly8⟩ := gM_at hg2 (i := a) (by omega)
    have lx2' := (List.getElem?_eq_some_iff.1 lx2).2
    have ly2' := (List.getElem?_eq_some_iff.1 ly2).2
    have hsw := lls_swp (i := a + 5 + 0) (j := a) (by omega) (by omega) lx5 ly5
    have hll : (lls (bpK M a 14 0)).length = n := by simp [hn2]
    have hsl : (splice (lls (bpK M a 14 0)) (a + 5 + 0) [.il (ints ly) ly.length false]).length = n := by rw [splice_one (lls _) _ _ (by simp; omega)]; simp [hn2]
    have hc2 : ∀ f, renL f (lls (swp (bpK M a 14 0) (a + 5 + 0) (a))) = lls (swp (bpK M a 14 0) (a + 5 + 0) (a)) := fun f => by simp
    generalize lls (swp (bpK M a 14 0) (a + 5 + 0) (a)) = C2 at *
    obtain ⟨C1, hC1⟩ : ∃ C1, splice (lls (bpK M a 14 0)) (a + 5 + 0) [.il (ints ly) ly.length false] = C1 := ⟨_, rfl⟩
    rw [hC1] at hsw hsl
    have hcond : ((a + 5 + 0 : Nat) : Int) ≤ (a : Int) + 6 + 1 := by omega
    generalize lls (bpK M a 14 0) = C at *
    have x1 : ((a + 5 + 0 : Nat) : Int) < n := by omega
    have x2 : a + 5 + 0 < n := by omega
    generalize a + 5 + 0 = x at *
    have hy : True := trivial
    have y1 : (a : Int) < n := by omega
    have y2 : a < n := by omega
    delta p106_l0
    refine XZ_step ?_ (fun N Q_ hN => ?_) ?_
    rotate_left
    · delta p106_r5
      simp (disch := omega) [oLt, oLe, oLtN, oLeN, nLt, nLe, nLtN, nLeN, hcond]
      exact hN
    refine XZ_seqG (XZ_block9 ?_)
    refine XZ_step ?_ (fun N Q_ hN => ?_) ?_
    rotate_left
    · delta p106_r6; simp (disch := omega) [oLt, oLe, oLtN, oLeN, nLt, nLe, nLtN, nLeN, kx140, w15, ka140, rg2]
      exact hN
    refine XZ_step ?_ (fun N Q_ hN => ?_) ?_
    rotate_left
    · delta p106_r7
      simp (disch := omega) [oLt, oLe, oLtN, oLeN, nLt, nLe, nLtN, nLeN]
      delta p106_r8
      simp (disch := omega) [oLt, oLe, oLtN, oLeN, nLt, nLe, nLtN, nLeN]
      exact hN
    refine XZ_drawG ?_
    delta p106_r9
    refine zD_cut 6 ?_ ?_ (fun K_ hK => ?_) ?_
    rotate_left 2
    · simp only [List.take_succ_cons, List.take_zero]
      simp (disch := omega) [oLt, oLe, oLtN, oLeN, nLt, nLe, nLtN, nLeN, hy]
      exact hK
    simp only [List.drop_succ_cons, List.drop_zero]
    refine zD_cut 4 ?_ ?_ (fun K_ hK => ?_) ?_
    rotate_left 2
    · simp only [List.take_succ_cons, List.take_zero]
      simp (disch := omega) [oLt, oLe, oLtN, oLeN, nLt, nLe, nLtN, nLeN, hy]
      exact hK
    simp only [List.drop_succ_cons, List.drop_zero]
    refine zD_cut 2 ?_ ?_ (fun K_ hK => ?_) ?_
    rotate_left 2
    · simp only [List.take_succ_cons, List.take_zero]
      simp (disch := omega) [oLt, oLe, oLtN, oLeN, nLt, nLe, nLtN, nLeN, y1, y2, ly2, ly2', hll]
      exact hK
    simp only [List.drop_succ_cons, List.drop_zero]
    refine zD_cut 4 ?_ ?_ (fun K_ hK => ?_) ?_
    rotate_left 2
    · simp only [List.take_succ_cons, List.take_zero]
      simp (disch := omega) [oLt, oLe, oLtN, oLeN, nLt, nLe, nLtN, nLeN, x1, x2, lx2, lx2', hll]
      exact hK
    simp only [List.drop_succ_cons, List.drop_zero]
    refine zD_cut 2 ?_ ?_ (fun K_ hK => ?_) ?_
    rotate_left 2
    · simp only [List.take_succ_cons, List.take_zero]
      simp (disch := omega) [oLt, oLe, oLtN, oLeN, nLt, nLe, nLtN, nLeN, x1, x2, hll, hC1]
      exact hK
    simp only [List.drop_succ_cons, List.drop_zero]
    refine zD_cut 2 ?_ ?_ (fun K_ hK => ?_) ?_
    rotate_left 2
    · simp only [List.take_succ_cons, List.take_zero]
      simp (disch := omega) [oLt, oLe, oLtN, oLeN, nLt, nLe, nLtN, nLeN, y1, y2, hsl, hsw]
      exact hK
    simp only [List.drop_succ_cons, List.drop_zero]
    refine goD_ok (by decide) ?_
    simp (disch := omega) [oLt, oLe, oLtN, oLeN, nLt, nLe, nLtN, nLeN]
    delta p106_r10
    simp (disch := omega) [oLt, oLe, oLtN, oLeN, nLt, nLe, nLtN, nLeN]
    exact fin _ (.tot [9] (by simp [hsw, hC1, hc2]))
  · have fin : ∀ s', ChgT 1 s' ⟨[(0, .ref 0 0 n 1 none), (1, vI a), (8, vI 14), (9, .ptr 1 0), (10, .v (.int .u64 16)), (11, vI ((a + 5 + 2 : Nat) : Int))], [(0, .cells (lls (swp (bpK M a 14 1) (a + 5 + 1) (a + 9)))), (1, .cells [.v (.int .u64 16141901775903972233)])], 2⟩ → N' s' := fun s' hh => hN s' 2 (by omega) (by omega) hh
    have e11 : ((a + 5 + 2 : Nat) : Int) = ((a + 5 + 1 : Nat) : Int) + 1 := by omega
    rw [e11] at fin
    clear hN hE hq hs0
    simp only [rT]
    obtain ⟨lx, u, lx1, lx2, lx3, lx4, lx5, lx6, lx7, lx8⟩ := gM_at hg2 (i := a + 5 + 1) (by omega)
    obtain ⟨ly, v, ly1, ly2, ly3, ly4, ly5, ly6, ly7, ly8⟩ := gM_at hg2 (i := a + 9) (by omega)
    have lx2' := (List.getElem?_eq_some_iff.1 lx2).2
    have ly2' := (List.getElem?_eq_some_iff.1 ly2).2
    have hsw := lls_swp (i := a + 5 + 1) (j := a + 9) (by omega) (by omega) lx5 ly5
    have hll : (lls (bpK M a 14 1)).length = n := by simp [hn2]
    have hsl : (splice (lls (bpK M a 14 1)) (a + 5 + 1) [.il (ints ly) ly.length false]).length = n := by rw [splice_one (lls _) _ _ (by simp; omega)]; simp [hn2]
    have hc2 : ∀ f, renL f (lls (swp (bpK M a 14 1) (a + 5 + 1) (a + 9))) = lls (swp (bpK M a 14 1) (a + 5 + 1) (a + 9)) := fun f => by simp
    generalize lls (swp (bpK M a 14 1) (a + 5 + 1) (a + 9)) = C2 at *
    obtain ⟨C1, hC1⟩ : ∃ C1, splice (lls (bpK M a 14 1)) (a + 5 + 1) [.il (ints ly) ly.length false] = C1 := ⟨_, rfl⟩
    rw [hC1] at hsw hsl
    have hcond : ((a + 5 + 1 : Nat) : Int) ≤ (a : Int) + 6 + 1 := by omega
    generalize lls (bpK M a 14 1) = C at *
    have x1 : ((a + 5 + 1 : Nat) : Int) < n := by omega
    have x2 : a + 5 + 1 < n := by omega
    generalize a + 5 + 1 = x at *
    have hy : (a : Int) + 9 = ((a + 9 : Nat) : Int) := by omega
    have y1 : ((a + 9 : Nat) : Int) < n := by omega
    have y2 : a + 9 < n := by omega
    generalize a + 9 = y at *
    delta p106_l0
    refine XZ_step ?_ (fun N Q_ hN => ?_) ?_
    rotate_left
    · delta p106_r5
      simp (disch := omega) [oLt, oLe, oLtN, oLeN, nLt, nLe, nLtN, nLeN, hcond]
      exact hN
    refine XZ_seqG (XZ_block9 ?_)
    refine XZ_step ?_ (fun N Q_ hN => ?_) ?_
    rotate_left
    · delta p106_r6; simp (disch := omega) [oLt, oLe, oLtN, oLeN, nLt, nLe, nLtN, nLeN, kx141, w15, ka141, rg2]
      exact hN
    refine XZ_step ?_ (fun N Q_ hN => ?_) ?_
    rotate_left
    · delta p106_r7
      simp (disch := omega) [oLt, oLe, oLtN, oLeN, nLt, nLe, nLtN, nLeN]
      exact hN
    refine XZ_drawG ?_
    delta p106_r9
    refine zD_cut 6 ?_ ?_ (fun K_ hK => ?_) ?_
    rotate_left 2
    · simp only [List.take_succ_cons, List.take_zero]
      simp (disch := omega) [oLt, oLe, oLtN, oLeN, nLt, nLe, nLtN, nLeN, hy]
      exact hK
    simp only [List.drop_succ_cons, List.drop_zero]
    refine zD_cut 4 ?_ ?_ (fun K_ hK => ?_) ?_
    rotate_left 2
    · simp only [List.take_succ_cons, List.take_zero]
      simp (disch := omega) [oLt, oLe, oLtN, oLeN, nLt, nLe, nLtN, nLeN, hy]
      exact hK
    simp only [List.drop_succ_cons, List.drop_zero]
    refine zD_cut 2 ?_ ?_ (fun K_ hK => ?_) ?_
    rotate_left 2
    · simp only [List.take_succ_cons, List.take_zero]
      simp (disch := omega) [oLt, oLe, oLtN, oLeN, nLt, nLe, nLtN, nLeN, y1, y2, ly2, ly2', hll]
      exact hK
    simp only [List.drop_succ_cons, List.drop_zero]
    refine zD_cut 4 ?_ ?_ (fun K_ hK => ?_) ?_
    rotate_left 2
    · simp only [List.take_succ_cons, List.take_zero]
      simp (disch := omega) [oLt, oLe, oLtN, oLeN, nLt, nLe, nLtN, nLeN, x1, x2, lx2, lx2', hll]
      exact hK
    simp only [List.drop_succ_cons, List.drop_zero]
    refine zD_cut 2 ?_ ?_ (fun K_ hK => ?_) ?_
    rotate_left 2
    · simp only [List.take_succ_cons, List.take_zero]
      simp (disch := omega) [oLt, oLe, oLtN, oLeN, nLt, nLe, nLtN, nLeN, x1, x2, hll, hC1]
      exact hK
    simp only [List.drop_succ_cons, List.drop_zero]
    refine zD_cut 2 ?_ ?_ (fun K_ hK => ?_) ?_
    rotate_left 2
    · simp only [List.take_succ_cons, List.take_zero]
      simp (disch := omega) [oLt, oLe, oLtN, oLeN, nLt, nLe, nLtN, nLeN, y1, y2, hsl, hsw]
      exact hK
    simp only [List.drop_succ_cons, List.drop_zero]
    refine goD_ok (by decide) ?_
    simp (disch := omega) [oLt, oLe, oLtN, oLeN, nLt, nLe, nLtN, nLeN]
    delta p106_r10
    simp (disch := omega) [oLt, oLe, oLtN, oLeN, nLt, nLe, nLtN, nLeN]
    exact fin _ (.tot [9] (by simp [hsw, hC1, hc2]))
  · have fin : ∀ s', ChgT 1 s' ⟨[(0, .ref 0 0 n 1 none), (1, vI a), (8, vI 14), (9, .ptr 1 0), (10, .v (.int .u64 16)), (11, vI ((a + 5 + 3 : Nat) : Int))], [(0, .cells (lls (swp (bpK M a 14 2) (a + 5 + 2) (a)))), (1, .cells [.v (.int .u64 9417236295700912254)])], 2⟩ → N' s' := fun s' hh => hN s' 3 (by omega) (by omega) hh
    have e11 : ((a + 5 + 3 : Nat) : Int) = ((a + 5 + 2 : Nat) : Int) + 1 := by omega
    rw [e11] at fin
    clear hN hE hq hs0
    simp only [rT]
    obtain ⟨lx, u, lx1, lx2, lx3, lx4, lx5, lx6, lx7, lx8⟩ := gM_at hg2 (i := a + 5 + 2) (by omega)
    obtain ⟨ly, v, ly1, ly2, ly3, ly4, ly5, ly6, ly7, ly8⟩ := gM_at hg2 (i := a) (by omega)
    have lx2' := (List.getElem?_eq_some_iff.1 lx2).2
    have ly2' := (List.getElem?_eq_some_iff.1 ly2).2
    have hsw := lls_swp (i := a + 5 + 2) (j := a) (by omega) (by omega) lx5 ly5
    have hll : (lls (bpK M a 14 2)).length = n := by simp [hn2]
    have hsl : (splice (lls (bpK M a 14 2)) (a + 5 + 2) [.il (ints ly) ly.length false]).length = n := by rw [splice_one (lls _) _ _ (by simp; omega)]; simp [hn2]
    have hc2 : ∀ f, renL f (lls (swp (bpK M a 14 2) (a + 5 + 2) (a))) = lls (swp (bpK M a 14 2) (a + 5 + 2) (a)) := fun f => by simp
    generalize lls (swp (bpK M a 14 2) (a + 5 + 2) (a)) = C2 at *
    obtain ⟨C1, hC1⟩ : ∃ C1, splice (lls (bpK M a 14 2)) (a + 5 + 2) [.il (ints ly) ly.length false] = C1 := ⟨_, rfl⟩
    rw [hC1] at hsw hsl
    have hcond : ((a + 5 + 2 : Nat) : Int) ≤ (a : Int) + 6 + 1 := by omega
    generalize lls (bpK M a 14 2) = C at *
    have x1 : ((a + 5 + 2 : Nat) : Int) < n := by omega
    have x2 : a + 5 + 2 < n := by omega
    generalize a + 5 + 2 = x at *
    have hy : True := trivial
    have y1 : (a : Int) < n := by omega
    have y2 : a < n := by omega
    delta p106_l0
    refine XZ_step ?_ (fun N Q_ hN => ?_) ?_
    rotate_left
    · delta p106_r5
      simp (disch := omega) [oLt, oLe, oLtN, oLeN, nLt, nLe, nLtN, nLeN, hcond]
      exact hN
    refine XZ_seqG (XZ_block9 ?_)
    refine XZ_step ?_ (fun N Q_ hN => ?_) ?_
    rotate_left
    · delta p106_r6; simp (disch := omega) [oLt, oLe, oLtN, oLeN, nLt, nLe, nLtN, nLeN, kx142, w15, ka142, rg2]
      exact hN
    refine XZ_step ?_ (fun N Q_ hN => ?_) ?_
    rotate_left
    · delta p106_r7
      simp (disch := omega) [oLt, oLe, oLtN, oLeN, nLt, nLe, nLtN, nLeN]
      delta p106_r8
      simp (disch := omega) [oLt, oLe, oLtN, oLeN, nLt, nLe, nLtN, nLeN]
      exact hN
    refine XZ_drawG ?_
    delta p106_r9
    refine zD_cut 6 ?_ ?_ (fun K_ hK => ?_) ?_
    rotate_left 2
    · simp only [List.take_succ_cons, List.take_zero]
      simp (disch := omega) [oLt, oLe, oLtN, oLeN, nLt, nLe, nLtN, nLeN, hy]
      exact hK
    simp only [List.drop_succ_cons, List.drop_zero]
    refine zD_cut 4 ?_ ?_ (fun K_ hK => ?_) ?_
    rotate_left 2
    · simp only [List.take_succ_cons, List.take_zero]
      simp (disch := omega) [oLt, oLe, oLtN, oLeN, nLt, nLe, nLtN, nLeN, hy]
      exact hK
    simp only [List.drop_succ_cons, List.drop_zero]
    refine zD_cut 2 ?_ ?_ (fun K_ hK => ?_) ?_
    rotate_left 2
    · simp only [List.take_succ_cons, List.take_zero]
      simp (disch := omega) [oLt, oLe, oLtN, oLeN, nLt, nLe, nLtN, nLeN, y1, y2, ly2, ly2', hll]
      exact hK
    simp only [List.drop_succ_cons, List.drop_zero]
    refine zD_cut 4 ?_ ?_ (fun K_ hK => ?_) ?_
    rotate_left 2
    · simp only [List.take_succ_cons, List.take_zero]
      simp (disch := omega) [oLt, oLe, oLtN, oLeN, nLt, nLe, nLtN, nLeN, x1, x2, lx2, lx2', hll]
      exact hK
    simp only [List.drop_succ_cons, List.drop_zero]
    refine zD_cut 2 ?_ ?_ (fun K_ hK => ?_) ?_
    rotate_left 2
    · simp only [List.take_succ_cons, List.take_zero]
      simp (disch := omega) [oLt, oLe, oLtN, oLeN, nLt, nLe, nLtN, nLeN, x1, x2, hll, hC1]
      exact hK
    simp only [List.drop_succ_cons, List.drop_zero]
    refine zD_cut 2 ?_ ?_ (fun K_ hK => ?_) ?_
    rotate_left 2
    · simp only [List.take_succ_cons, List.take_zero]
      simp (disch := omega) [oLt, oLe, oLtN, oLeN, nLt, nLe, nLtN, nLeN, y1, y2, hsl, hsw]
      exact hK
    simp only [List.drop_succ_cons, List.drop_zero]
    refine goD_ok (by decide) ?_
    simp (disch := omega) [oLt, oLe, oLtN, oLeN, nLt, nLe, nLtN, nLeN]
    delta p106_r10
    simp (disch := omega) [oLt, oLe, oLtN, oLeN, nLt, nLe, nLtN, nLeN]
    exact fin _ (.tot [9] (by simp [hsw, hC1, hc2]))
  · have hcond : ¬ ((a + 5 + 3 : Nat) : Int) ≤ (a : Int) + 6 + 1 := by omega
    clear hN
    generalize a + 5 + 3 = x at *
    delta p106_l0 p106_r5 p106_r6 p106_r7 p106_r8 p106_r9 p106_r10
    simp (disch := omega) [oLt, oLe, oLtN, oLeN, nLt, nLe, nLtN, nLeN, hcond]
    exact hE _ _ _ (.to [0] (by simp)) hq
theorem l0_106_15 {a n : Nat} {M : List (List Int)} {s0 : ST} {Q : Exit → ST → Prop} (hg : gM M = true) (hn : M.length = n) (hb : a + 15 ≤ n)
    (hs0 : ChgT 1 s0 ⟨[(0, .ref 0 0 n 1 none), (1, vI a), (8, vI 15), (9, .ptr 1 0), (10, .v (.int .u64 16)), (11, vI ((a + 5 : Nat) : Int))], [(0, .cells (lls M)), (1, .cells [.v (.int .u64 15)])], 2⟩)
    (hq : Q (.exit 0) ⟨[], [(0, .cells (lls (bpK M a 15 3)))], 1⟩) : XZ (rZ (spc [s115, s116])) 1 (.loop p106_l0) s0 Q := by
  refine XZ_for (fun t : Nat => ⟨[(0, .ref 0 0 n 1 none), (1, vI a), (8, vI 15), (9, .ptr 1 0), (10, .v (.int .u64 16)), (11, vI ((a + 5 + t : Nat) : Int))], [(0, .cells (lls (bpK M a 15 t))), (1, .cells [.v (.int .u64 (rT 15 t))])], 2⟩) (fun t => 3 - t) (fun t => t ≤ 3) 0 (Nat.zero_le _) hs0 ?_
  intro t ht N' Q' hN hE
  have h64 : n ≤ 64 := by simp only [gM, Bool.and_eq_true, decide_eq_true_eq] at hg; omega
  have hr := bpK_rg (M := M) (a := a) (l := 15) (by omega) (by omega) t ht
  have hg2 := gM_perm hg hr.perm
  have hn2 : (bpK M a 15 t).length = n := by rw [hr.len, hn]
  rcases (show t = 0 ∨ t = 1 ∨ t = 2 ∨ t = 3 by omega) with rfl | rfl | rfl | rfl
  · have fin : ∀ s', ChgT 1 s' ⟨[(0, .ref 0 0 n 1 none), (1, vI a), (8, vI 15), (9, .ptr 1 0), (10, .v (.int .u64 16)), (11, vI ((a + 5 + 1 : Nat) : Int))], [(0, .cells (lls (swp (bpK M a 15 0) (a + 5 + 0) (a)))), (1, .cells [.v (.int .u64 16234046415)])], 2⟩ → N' s' := fun s' hh => hN s' 1 (by omega) (by omega) hh
    have e11 : ((a + 5 + 1 : Nat) : Int) = ((a + 5 + 0 : Nat) : Int) + 1 := by omega
    rw [e11] at fin
    clear hN hE hq hs0
    simp only [rT]
    obtain ⟨lx, u, lx1, lx2, lx3, lx4, lx5, lx6, lx7, lx8⟩ := gM_at hg2 (i := a + 5 + 0) (by omega)
    obtain ⟨ly, v, ly1, ly2, ly3, ly4, ly5, ly6, ly7, ly8⟩ := gM_at hg2 (i := a) (by omega)
    have lx2' := (List.getElem?_eq_some_iff.1 lx2).2
    have ly2' := (List.getElem?_eq_some_iff.1 ly2).2
    have hsw := lls_swp (i := a + 5 + 0) (j := a) (by omega) (by omega) lx5 ly5
    have hll : (lls (bpK M a 15 0)).length = n := by simp [hn2]
    have hsl : (splice (lls (bpK M a 15 0)) (a + 5 + 0) [.il (ints ly) ly.length false]).length = n := by rw [splice_one (lls _) _ _ (by simp; omega)]; simp [hn2]
    have hc2 : ∀ f, renL f (lls (swp (bpK M a 15 0) (a + 5 + 0) (a))) = lls (swp (bpK M a 15 0) (a + 5 + 0) (a)) := fun f => by simp
    generalize lls (swp (bpK M a 15 0) (a + 5 + 0) (a)) = C2 at *
    obtain ⟨C1, hC1⟩ : ∃ C1, splice (lls (bpK M a 15 0)) (a + 5 + 0) [.il (ints ly) ly.length false] = C1 := ⟨_, rfl⟩
    rw [hC1] at hsw hsl
    have hcond : ((a + 5 + 0 : Nat) : Int) ≤ (a : Int) + 6 + 1 := by omega
    generalize lls (bpK M a 15 0) = C at *
    have x1 : ((a + 5 + 0 : Nat) : Int) < n := by omega
    have x2 : a + 5 + 0 < n := by omega
    generalize a + 5 + 0 = x at *
    have hy : True := trivial
    have y1 : (a : Int) < n := by omega
    have y2 : a < n := by omega
    delta p106_l0
    refine XZ_step ?_ (fun N Q_ hN => ?_) ?_
    rotate_left
    · delta p106_r5
      simp (disch := omega) [oLt, oLe, oLtN, oLeN, nLt, nLe, nLtN, nLeN, hcond]
      exact hN
    refine XZ_seqG (XZ_block9 ?_)
    refine XZ_step ?_ (fun N Q_ hN => ?_) ?_
    rotate_left
    · delta p106_r6; simp (disch := omega) [oLt, oLe, oLtN, oLeN, nLt, nLe, nLtN, nLeN, kx150, w15, ka150, rg2]
      exact hN
    refine XZ_step ?_ (fun N Q_ hN => ?_) ?_
    rotate_left
    · delta p106_r7
      simp (disch := omega) [oLt, oLe, oLtN, oLeN, nLt, nLe, nLtN, nLeN]
      delta p106_r8
      simp (disch := omega) [oLt, oLe, oLtN, oLeN, nLt, nLe, nLtN, nLeN]
      exact hN
    refine XZ_drawG ?_
    delta p106_r9
    refine zD_cut 6 ?_ ?_ (fun K_ hK => ?_) ?_
    rotate_left 2
    · simp only [List.take_succ_cons, List.take_zero]
      simp (disch := omega) [oLt, oLe, oLtN, oLeN, nLt, nLe, nLtN, nLeN, hy]
      exact hK
    simp only [List.drop_succ_cons, List.drop_zero]
    refine zD_cut 4 ?_ ?_ (fun K_ hK => ?_) ?_
    rotate_left 2
    · simp only [List.take_succ_cons, List.take_zero]
      simp (disch := omega) [oLt, oLe, oLtN, oLeN, nLt, nLe, nLtN, nLeN, hy]
      exact hK
    simp only [List.drop_succ_cons, List.drop_zero]
    refine zD_cut 2 ?_ ?_ (fun K_ hK => ?_) ?_
    rotate_left 2
    · simp only [List.take_succ_cons, List.take_zero]
      simp (disch := omega) [oLt, oLe, oLtN, oLeN, nLt, nLe, nLtN, nLeN, y1, y2, ly2, ly2', hll]
      exact hK
    simp only [List.drop_succ_cons, List.drop_zero]
    refine zD_cut 4 ?_ ?_ (fun K_ hK => ?_) ?_
    rotate_left 2
    · simp only [List.take_succ_cons, List.take_zero]
      simp (disch := omega) [oLt, oLe, oLtN, oLeN, nLt, nLe, nLtN, nLeN, x1, x2, lx2, lx2', hll]
      exact hK
    simp only [List.drop_succ_cons, List.drop_zero]
    refine zD_cut 2 ?_ ?_ (fun K_ hK => ?_) ?_
    rotate_left 2
    · simp only [List.take_succ_cons, List.take_zero]
      simp (disch := omega) [oLt, oLe, oLtN, oLeN, nLt, nLe, nLtN, nLeN, x1, x2, hll, hC1]
      exact hK
    simp only [List.drop_succ_cons, List.drop_zero]
    refine zD_cut 2 ?_ ?_ (fun K_ hK => ?_) ?_
    rotate_left 2
    · simp only [List.take_succ_cons, List.take_zero]
      simp (disch := omega) [oLt, oLe, oLtN, oLeN, nLt, nLe, nLtN, nLeN, y1, y2, hsl, hsw]
      exact hK
    simp only [List.drop_succ_cons, List.drop_zero]
    refine goD_ok (by decide) ?_
    simp (disch := omega) [oLt, oLe, oLtN, oLeN, nLt, nLe, nLtN, nLeN]
    delta p106_r10
    simp (disch := omega) [oLt, oLe, oLtN, oLeN, nLt, nLe, nLtN, nLeN]
    exact fin _ (.tot [9] (by simp [hsw, hC1, hc2]))
  · have fin : ∀ s', ChgT 1 s' ⟨[(0, .ref 0 0 n 1 none), (1, vI a), (8, vI 15), (9, .ptr 1 0), (10, .v (.int .u64 16)), (11, vI ((a + 5 + 2 : Nat) : Int))], [(0, .cells (lls (swp (bpK M a 15 1) (a + 5 + 1) (a + 8)))), (1, .cells [.v (.int .u64 17294894740109643720)])], 2⟩ → N' s' := fun s' hh => hN s' 2 (by omega) (by omega) hh
    have e11 : ((a + 5 + 2 : Nat) : Int) = ((a + 5 + 1 : Nat) : Int) + 1 := by omega
    rw [e11] at fin
    clear hN hE hq hs0
    simp only [rT]
    obtain ⟨lx, u, lx1, lx2, lx3, lx4, lx5, lx6, lx7, lx8⟩ := gM_at hg2 (i := a + 5 + 1) (by omega)
    obtain ⟨ly, v, ly1, ly2, ly3, ly4, ly5, ly6, ly7, ly8⟩ := gM_at hg2 (i := a + 8) (by omega)
    have lx2' := (List.getElem?_eq_some_iff.1 lx2).2
    have ly2' := (List.getElem?_eq_some_iff.1 ly2).2
    have hsw := lls_swp (i := a + 5 + 1) (j := a + 8) (by omega) (by omega) lx5 ly5
    have hll : (lls (bpK M a 15 1)).length = n := by simp [hn2]
    have hsl : (splice (lls (bpK M a 15 1)) (a + 5 + 1) [.il (ints ly) ly.length false]).length = n := by rw [splice_one (lls _) _ _ (by simp; omega)]; simp [hn2]
    have hc2 : ∀ f, renL f (lls (swp (bpK M a 15 1) (a + 5 + 1) (a + 8))) = lls (swp (bpK M a 15 1) (a + 5 + 1) (a + 8)) := fun f => by simp
    generalize lls (swp (bpK M a 15 1) (a + 5 + 1) (a + 8)) = C2 at *
    obtain ⟨C1, hC1⟩ : ∃ C1, splice (lls (bpK M a 15 1)) (a + 5 + 1) [.il (ints ly) ly.length false] = C1 := ⟨_, rfl⟩
    rw [hC1] at hsw hsl
    have hcond : ((a + 5 + 1 : Nat) : Int) ≤ (a : Int) + 6 + 1 := by omega
    generalize lls (bpK M a 15 1) = C at *
    have x1 : ((a + 5 + 1 : Nat) : Int) < n := by omega
    have x2 : a + 5 + 1 < n := by omega
    generalize a + 5 + 1 = x at *
    have hy : (a : Int) + 8 = ((a + 8 : Nat) : Int) := by omega
    have y1 : ((a + 8 : Nat) : Int) < n := by omega
    have y2 : a + 8 < n := by omega
    generalize a + 8 = y at *
    delta p106_l0
    refine XZ_step ?_ (fun N Q_ hN => ?_) ?_
    rotate_left
    · delta p106_r5
      simp (disch := omega) [oLt, oLe, oLtN, oLeN, nLt, nLe, nLtN, nLeN, hcond]
      exact hN
    refine XZ_seqG (XZ_block9 ?_)
    refine XZ_step ?_ (fun N Q_ hN => ?_) ?_
    rotate_left
    · delta p106_r6; simp (disch := omega) [oLt, oLe, oLtN, oLeN, nLt, nLe, nLtN, nLeN, kx151, w15, ka151, rg2]
      exact hN
    refine XZ_step ?_ (fun N Q_ hN => ?_) ?_
    rotate_left
    · delta p106_r7
      simp (disch := omega) [oLt, oLe, oLtN, oLeN, nLt, nLe, nLtN, nLeN]
      exact hN
    refine XZ_drawG ?_
    delta p106_r9
    refine zD_cut 6 ?_ ?_ (fun K_ hK => ?_) ?_
    rotate_left 2
    · simp only [List.take_succ_cons, List.take_zero]
      simp (disch := omega) [oLt, oLe, oLtN, oLeN, nLt, nLe, nLtN, nLeN, hy]
      exact hK
    simp only [List.drop_succ_cons, List.drop_zero]
    refine zD_cut 4 ?_ ?_ (fun K_ hK => ?_) ?_
    rotate_left 2
    · simp only [List.take_succ_cons, List.take_zero]
      simp (disch := omega) [oLt, oLe, oLtN, oLeN, nLt, nLe, nLtN, nLeN, hy]
      exact hK
    simp only [List.drop_succ_cons, List.drop_zero]
    refine zD_cut 2 ?_ ?_ (fun K_ hK => ?_) ?_
    rotate_left 2
    · simp only [List.take_succ_cons, List.take_zero]
      simp (disch := omega) [oLt, oLe, oLtN, oLeN, nLt, nLe, nLtN, nLeN, y1, y2, ly2, ly2', hll]
      exact hK
    simp only [List.drop_succ_cons, List.drop_zero]
    refine zD_cut 4 ?_ ?_ (fun K_ hK => ?_) ?_
    rotate_left 2
    · simp only [List.take_succ_cons, List.take_zero]
      simp (disch := omega) [oLt, oLe, oLtN, oLeN, nLt, nLe, nLtN, nLeN, x1, x2, lx2, lx2', hll]
      exact hK
    simp only [List.drop_succ_cons, List.drop_zero]
    refine zD_cut 2 ?_ ?_ (fun K_ hK => ?_) ?_
    rotate_left 2
    · simp only [List.take_succ_cons, List.take_zero]
      simp (disch := omega) [oLt, oLe, oLtN, oLeN, nLt, nLe, nLtN, nLeN, x1, x2, hll, hC1]
      exact hK
    simp only [List.drop_succ_cons, List.drop_zero]
    refine zD_cut 2 ?_ ?_ (fun K_ hK => ?_) ?_
    rotate_left 2
    · simp only [List.take_succ_cons, List.take_zero]
      simp (disch := omega) [oLt, oLe, oLtN, oLeN, nLt, nLe, nLtN, nLeN, y1, y2, hsl, hsw]
      exact hK
    simp only [List.drop_succ_cons, List.drop_zero]
    refine goD_ok (by decide) ?_
    simp (disch := omega) [oLt, oLe, oLtN, oLeN, nLt, nLe, nLtN, nLeN]
    delta p106_r10
    simp (disch := omega) [oLt, oLe, oLtN, oLeN, nLt, nLe, nLtN, nLeN]
    exact fin _ (.tot [9] (by simp [hsw, hC1, hc2]))
  · have fin : ∀ s', ChgT 1 s' ⟨[(0, .ref 0 0 n 1 none), (1, vI a), (8, vI 15), (9, .ptr 1 0), (10, .v (.int .u64 16)), (11, vI ((a + 5 + 3 : Nat) : Int))], [(0, .cells (lls (swp (bpK M a 15 2) (a + 5 + 2) (a + 7)))), (1, .cells [.v (.int .u64 1850481004178652759)])], 2⟩ → N' s' := fun s' hh => hN s' 3 (by omega) (by omega) hh
    have e11 : ((a + 5 + 3 : Nat) : Int) = ((a + 5 + 2 : Nat) : Int) + 1 := by omega
    rw [e11] at fin
    clear hN hE hq hs0
    simp only [rT]
    obtain ⟨lx, u, lx1, lx2, lx3, lx4, lx5, lx6, lx7, lx8⟩ := gM_at hg2 (i := a + 5 + 2) (by omega)
    obtain ⟨ly, v, ly1, ly2, ly3, ly4, ly5, ly6, ly7, ly8⟩ := gM_at hg2 (i := a + 7) (by omega)
    have lx2' := (List.getElem?_eq_some_iff.1 lx2).2
    have ly2' := (List.getElem?_eq_some_iff.1 ly2).2
    have hsw := lls_swp (i := a + 5 + 2) (j := a + 7) (by omega) (by omega) lx5 ly5
    have hll : (lls (bpK M a 15 2)).length = n := by simp [hn2]
    have hsl : (splice (lls (bpK M a 15 2)) (a + 5 + 2) [.il (ints ly) ly.length false]).length = n := by rw [splice_one (lls _) _ _ (by simp; omega)]; simp [hn2]
    have hc2 : ∀ f, renL f (lls (swp (bpK M a 15 2) (a + 5 + 2) (a + 7))) = lls (swp (bpK M a 15 2) (a + 5 + 2) (a + 7)) := fun f => by simp
    generalize lls (swp (bpK M a 15 2) (a + 5 + 2) (a + 7)) = C2 at *
    obtain ⟨C1, hC1⟩ : ∃ C1, splice (lls (bpK M a 15 2)) (a + 5 + 2) [.il (ints ly) ly.length false] = C1 := ⟨_, rfl⟩
    rw [hC1] at hsw hsl
    have hcond : ((a + 5 + 2 : Nat) : Int) ≤ (a : Int) + 6 + 1 := by omega
    generalize lls (bpK M a 15 2) = C at *
    have x1 : ((a + 5 + 2 : Nat) : Int) < n := by omega
    have x2 : a + 5 + 2 < n := by omega
    have hy : (a : Int) + 7 = ((a + 5 + 2 : Nat) : Int) := by omega
    have y1 := x1
    have y2 := x2
    generalize a + 5 + 2 = x at *
    delta p106_l0
    refine XZ_step ?_ (fun N Q_ hN => ?_) ?_
    rotate_left
    · delta p106_r5
      simp (disch := omega) [oLt, oLe, oLtN, oLeN, nLt, nLe, nLtN, nLeN, hcond]
      exact hN
    refine XZ_seqG (XZ_block9 ?_)
    refine XZ_step ?_ (fun N Q_ hN => ?_) ?_
    rotate_left
    · delta p106_r6; simp (disch := omega) [oLt, oLe, oLtN, oLeN, nLt, nLe, nLtN, nLeN, kx152, w15, ka152, rg2]
      exact hN
    refine XZ_step ?_ (fun N Q_ hN => ?_) ?_
    rotate_left
    · delta p106_r7
      simp (disch := omega) [oLt, oLe, oLtN, oLeN, nLt, nLe, nLtN, nLeN]
      exact hN
    refine XZ_drawG ?_
    delta p106_r9
    refine zD_cut 6 ?_ ?_ (fun K_ hK => ?_) ?_
    rotate_left 2
    · simp only [List.take_succ_cons, List.take_zero]
      simp (disch := omega) [oLt, oLe, oLtN, oLeN, nLt, nLe, nLtN, nLeN, hy]
      exact hK
    simp only [List.drop_succ_cons, List.drop_zero]
    refine zD_cut 4 ?_ ?_ (fun K_ hK => ?_) ?_
    rotate_left 2
    · simp only [List.take_succ_cons, List.take_zero]
      simp (disch := omega) [oLt, oLe, oLtN, oLeN, nLt, nLe, nLtN, nLeN, hy]
      exact hK
    simp only [List.drop_succ_cons, List.drop_zero]
    refine zD_cut 2 ?_ ?_ (fun K_ hK => ?_) ?_
    rotate_left 2
    · simp only [List.take_succ_cons, List.take_zero]
      simp (disch := omega) [oLt, oLe, oLtN, oLeN, nLt, nLe, nLtN, nLeN, y1, y2, ly2, ly2', hll]
      exact hK
    simp only [List.drop_succ_cons, List.drop_zero]
    refine zD_cut 4 ?_ ?_ (fun K_ hK => ?_) ?_
    rotate_left 2
    · simp only [List.take_succ_cons, List.take_zero]
      simp (disch := omega) [oLt, oLe, oLtN, oLeN, nLt, nLe, nLtN, nLeN, x1, x2, lx2, lx2', hll]
      exact hK
    simp only [List.drop_succ_cons, List.drop_zero]
    refine zD_cut 2 ?_ ?_ (fun K_ hK => ?_) ?_
    rotate_left 2
    · simp only [List.take_succ_cons, List.take_zero]
      simp (disch := omega) [oLt, oLe, oLtN, oLeN, nLt, nLe, nLtN, nLeN, x1, x2, hll, hC1]
      exact hK
    simp only [List.drop_succ_cons, List.drop_zero]
    refine zD_cut 2 ?_ ?_ (fun K_ hK => ?_) ?_
    rotate_left 2
    · simp only [List.take_succ_cons, List.take_zero]
      simp (disch := omega) [oLt, oLe, oLtN, oLeN, nLt, nLe, nLtN, nLeN, y1, y2, hsl, hsw]
      exact hK
    simp only [List.drop_succ_cons, List.drop_zero]
    refine goD_ok (by decide) ?_
    simp (disch := omega) [oLt, oLe, oLtN, oLeN, nLt, nLe, nLtN, nLeN]
    delta p106_r10
    simp (disch := omega) [oLt, oLe, oLtN, oLeN, nLt, nLe, nLtN, nLeN]
    exact fin _ (.tot [9] (by simp [hsw, hC1, hc2]))
  · have hcond : ¬ ((a + 5 + 3 : Nat) : Int) ≤ (a : Int) + 6 + 1 := by omega
    clear hN
    generalize a + 5 + 3 = x at *
    delta p106_l0 p106_r5 p106_r6 p106_r7 p106_r8 p106_r9 p106_r10
    simp (disch := omega) [oLt, oLe, oLtN, oLeN, nLt, nLe, nLtN, nLeN, hcond]
    exact hE _ _ _ (.to [0] (by simp)) hq
end
section
variable {cf : Nat}
theorem k115 (l : Int) (h1 : 13 ≤ l) (h2 : l ≤ 15) : f115 [.v (.int .i64 l)] [] 0 = some (.v (.int .u64 16), [], 0) := by
  simp only [f115]; rw [if_pos ⟨h1, h2⟩]
set_option maxHeartbeats 4000000
theorem s106_ok : s106.ok Tryd.prog := by
  intro args h k r h' k' hh
  simp only [s106_f, f106] at hh
  split at hh
  · rename_i n a b cf cs
    split at hh
    · rename_i M hl
      split at hh
      · rename_i hc
        obtain ⟨hcm, hn, hg, a1, ab, ab2, bn⟩ := hc
        cases hh
        rw [unlls_inv hl]
        obtain ⟨a, rfl⟩ := Int.eq_ofNat_of_zero_le a1
        obtain ⟨b, rfl⟩ := Int.eq_ofNat_of_zero_le (show 0 ≤ b by omega)
        simp only [Int.toNat_natCast]
        have h64 : n ≤ 64 := by simp only [gM, Bool.and_eq_true, decide_eq_true_eq] at hg; omega
        simp only [hp_eq]
        refine P106.rz (ss := [s115, s116]) ⟨s115_ok, s116_ok, trivial⟩ (by simp) fun Q hQ => ?_
        delta p106
        obtain ⟨l, hl2⟩ : ∃ l, b - a = l := ⟨_, rfl⟩
        rw [hl2] at hQ
        have k1 := k115 13 (by omega) (by omega)
        have k2 := k115 14 (by omega) (by omega)
        have k3 := k115 15 (by omega) (by omega)
        have e5 : (a : Int) + 6 - 1 = ((a + 5 : Nat) : Int) := by omega
        rcases (show l = 13 ∨ l = 14 ∨ l = 15 by omega) with rfl | rfl | rfl
        · have hlc : (b : Int) - a = 13 := by omega
          refine XZ_step ?_ (fun N Q_ hN => ?_) ?_
          rotate_left
          · delta p106_r0; simp (disch := omega) [oLt, oLe, oLtN, oLeN, nLt, nLe, nLtN, nLeN, hlc]
            exact hN
          refine XZ_seqG ?_
          delta p106_r1
          simp (disch := omega) [oLt, oLe, oLtN, oLeN, nLt, nLe, nLtN, nLeN]
          delta p106_r2
          simp (disch := omega) [oLt, oLe, oLtN, oLeN, nLt, nLe, nLtN, nLeN]
          delta p106_r3
          simp (disch := omega) [oLt, oLe, oLtN, oLeN, nLt, nLe, nLtN, nLeN, k1]
          delta p106_r4
          simp (disch := omega) [oLt, oLe, oLtN, oLeN, nLt, nLe, nLtN, nLeN, e5]
          refine l0_106_13 (a := a) (n := n) (M := M) hg hn.symm (by omega) (.tot [9] (by simp; rfl)) ?_
          simp only [inBE, thenE, if_true]
          exact hQ _ _ (EndsP_at [0] (.inr rfl) (by simp) rfl (by simp) rfl (by simp))
        · have hlc : (b : Int) - a = 14 := by omega
          refine XZ_step ?_ (fun N Q_ hN => ?_) ?_
          rotate_left
          · delta p106_r0; simp (disch := omega) [oLt, oLe, oLtN, oLeN, nLt, nLe, nLtN, nLeN, hlc]
            exact hN
          refine XZ_seqG ?_
          delta p106_r1
          simp (disch := omega) [oLt, oLe, oLtN, oLeN, nLt, nLe, nLtN, nLeN]
          delta p106_r2
          simp (disch := omega) [oLt, oLe, oLtN, oLeN, nLt, nLe, nLtN, nLeN]
          delta p106_r3
          simp (disch := omega) [oLt, oLe, oLtN, oLeN, nLt, nLe, nLtN, nLeN, k2]
          delta p106_r4
          simp (disch := omega) [oLt, oLe, oLtN, oLeN, nLt, nLe, nLtN, nLeN, e5]
          refine l0_106_14 (a := a) (n := n) (M := M) hg hn.symm (by omega) (.tot [9] (by simp; rfl)) ?_
          simp only [inBE, thenE, if_true]
          exact hQ _ _ (EndsP_at [0] (.inr rfl) (by simp) rfl (by simp) rfl (by simp))
        · have hlc : (b : Int) - a = 15 := by omega
          refine XZ_step ?_ (fun N Q_ hN => ?_) ?_
          rotate_left
          · delta p106_r0; simp (disch := omega) [oLt, oLe, oLtN, oLeN, nLt, nLe, nLtN, nLeN, hlc]
            exact hN
          refine XZ_seqG ?_
          delta p106_r1
          simp (disch := omega) [oLt, oLe, oLtN, oLeN, nLt, nLe, nLtN, nLeN]
          delta p106_r2
          simp (disch := omega) [oLt, oLe, oLtN, oLeN, nLt, nLe, nLtN, nLeN]
          delta p106_r3
          simp (disch := omega) [oLt, oLe, oLtN, oLeN, nLt, nLe, nLtN, nLeN, k3]
          delta p106_r4
          simp (disch := omega) [oLt, oLe, oLtN, oLeN, nLt, nLe, nLtN, nLeN, e5]
          refine l0_106_15 (a := a) (n := n) (M := M) hg hn.symm (by omega) (.tot [9] (by simp; rfl)) ?_
          simp only [inBE, thenE, if_true]
          exact hQ _ _ (EndsP_at [0] (.inr rfl) (by simp) rfl (by simp) rfl (by simp))
      · cases hh
    · cases hh
  · cases hh
end
section
variable {cf : Nat}
attribute [local simp] evCall reach idsB idsL ids inA Go.Sx.inL Go.Sx.inM inB allHp enumH gl renB
structure Pd (n a b lim : Nat) (M : List (List Int)) : Prop where
  g : gM M = true
  nl : M.length = n
  d : Dst M
  ab : a ≤ b
  bn : b ≤ n
  lw : 0 < a → ∀ p, a ≤ p → p < b → kx M (a - 1) < kx M p
  li : b ≤ a + 12 + lim
  l6 : b ≤ a + 16
  lm : lim ≤ 60
open Classical in
noncomputable def f94 (f : Nat) : List AV → HL → Nat → Option (AV × HL × Nat) := fun args h k => match args, h, k with
  | [.ref 0 0 n 1 none, .v (.int .i64 a), .v (.int .i64 b), .v (.int .i64 lim), .fn (.func cf) [] []], [(0, .cells cs)], 1 => match unlls cs with
    | some M => if cmpN cf = true ∧ 0 ≤ a ∧ 0 ≤ b ∧ 0 ≤ lim ∧ Pd n a.toNat b.toNat lim.toNat M ∧ b.toNat < a.toNat + f then some (.tup [], [(0, .cells (lls (srtOn a.toNat b.toNat M)))], 1) else none
    | none => none
  | _, _, _ => none
noncomputable def s94 (f : Nat) : Sp := ⟨94, f94 f⟩
@[simp] theorem s94_g (f : Nat) : (s94 f).g = 94 := rfl
@[simp] theorem s94_f (f : Nat) : (s94 f).f = f94 f := rfl
theorem f94_at {M : List (List Int)} {f n a b lim : Nat} {cf : Nat} (hcm : cmpN cf = true) (h : Pd n a b lim M) (hf : b < a + f) :
    f94 f [.ref 0 0 n 1 none, vI a, vI b, vI lim, (fnC cf)] [(0, .cells (lls M))] 1 = some (.tup [], [(0, .cells (lls (srtOn a b M)))], 1) := by
  simp only [f94, unlls_lls]
  rw [if_pos ⟨hcm, by omega, by omega, by omega, h, hf⟩]
  simp only [Int.toNat_natCast]
theorem f94_fz {f : Nat} {c : List AV} {n : Nat} {u : Bool} {x y z w : AV} {h : HL} {k : Nat} : f94 f [.il c n u, x, y, z, w] h k = none := rfl
theorem f104_fz {c : List AV} {n : Nat} {u : Bool} {x y z : AV} {h : HL} {k : Nat} : f104 [.il c n u, x, y, z] h k = none := rfl
theorem f106_fz {c : List AV} {n : Nat} {u : Bool} {x y z : AV} {h : HL} {k : Nat} : f106 [.il c n u, x, y, z] h k = none := rfl
theorem f107_fz {c : List AV} {n : Nat} {u : Bool} {x y z : AV} {h : HL} {k : Nat} : f107 [.il c n u, x, y, z] h k = none := rfl
theorem f109_fz {c : List AV} {n : Nat} {u : Bool} {x y z : AV} {h : HL} {k : Nat} : f109 [.il c n u, x, y, z] h k = none := rfl
theorem f111_fz {c : List AV} {n : Nat} {u : Bool} {x y z w : AV} {h : HL} {k : Nat} : f111 [.il c n u, x, y, z, w] h k = none := rfl
theorem Pd.rg {n a b lim lim' : Nat} {M N : List (List Int)} (h : Pd n a b lim M) (r : Rg a b M N) (hl : b ≤ a + 12 + lim') (hm : lim' ≤ 60) : Pd n a b lim' N := by
  refine ⟨gM_perm h.g r.perm, by rw [r.len, h.nl], h.d.of_perm r.perm, h.ab, h.bn, fun h0 p hp hpb => ?_, hl, h.l6, hm⟩
  obtain ⟨j, j1, j2, j3⟩ := r.from h.d (by rw [h.nl]; exact h.bn) ⟨hp, hpb⟩
  rw [kx_of (r.out (a - 1) (by omega)), kx_of j3]
  exact h.lw h0 j j1 j2
theorem chP_in {M : List (List Int)} {a b : Nat} (h : a + 8 ≤ b) : a ≤ (chP M a b).1 ∧ (chP M a b).1 < b := by
  unfold chP
  obtain ⟨o1, -⟩ := med3_or M (a + (b - a) / 4) (a + (b - a) / 4 * 2) (a + (b - a) / 4 * 3) 0
  generalize med3 M (a + (b - a) / 4) (a + (b - a) / 4 * 2) (a + (b - a) / 4 * 3) 0 = x at *
  omega
theorem Pd.parts {n a b lim pv : Nat} {M : List (List Int)} (h : Pd n a b lim M) (hab : a + 12 < b) (hp : a ≤ pv ∧ pv < b) {lim' : Nat} (hl : b ≤ a + 13 + lim') (hm : lim' ≤ 60) :
    a ≤ (parF a b pv M).2.1 ∧ (parF a b pv M).2.1 < b ∧
    Pd n a (parF a b pv M).2.1 lim' (parF a b pv M).1 ∧ Pd n ((parF a b pv M).2.1 + 1) b lim' (srtOn a (parF a b pv M).2.1 (parF a b pv M).1) ∧
    Pd n ((parF a b pv M).2.1 + 1) b lim' (parF a b pv M).1 ∧ Pd n a (parF a b pv M).2.1 lim' (srtOn ((parF a b pv M).2.1 + 1) b (parF a b pv M).1) ∧
    srtOn ((parF a b pv M).2.1 + 1) b (srtOn a (parF a b pv M).2.1 (parF a b pv M).1) = srtOn a b M ∧ srtOn a (parF a b pv M).2.1 (srtOn ((parF a b pv M).2.1 + 1) b (parF a b pv M).1) = srtOn a b M := by
  have hbl : b ≤ M.length := by rw [h.nl]; exact h.bn
  obtain ⟨r, q1, q2, lo, hi⟩ := parF_ok (pv := pv) h.d (show a + 1 < b by omega) hbl hp
  have e := srtOn_rg h.d hbl r
  generalize (parF a b pv M).2.1 = m at *
  generalize (parF a b pv M).1 = N at *
  have hN := h.rg r h.li h.lm
  have hNl : b ≤ N.length := by rw [hN.nl]; exact hN.bn
  obtain ⟨e1, e2⟩ := srtOn_parts hN.d hNl q1 q2 lo hi
  have l6 := h.l6
  have p1 : Pd n a m lim' N := ⟨hN.g, hN.nl, hN.d, q1, by have := hN.bn; omega, fun h0 p hp hpb => hN.lw h0 p hp (by omega), by omega, by omega, hm⟩
  have p2 : Pd n (m + 1) b lim' N := ⟨hN.g, hN.nl, hN.d, by omega, hN.bn, fun h0 p hp hpb => by rw [Nat.add_sub_cancel]; exact hi p (by omega) hpb, by omega, by omega, hm⟩
  obtain ⟨r1, -⟩ := srtOn_ok (a := a) (b := m) hN.d (by omega)
  obtain ⟨r2, -⟩ := srtOn_ok (a := m + 1) (b := b) hN.d hNl
  refine ⟨q1, q2, p1, ?_, p2, ?_, by rw [e1, e], by rw [e2, e]⟩
  · refine ⟨gM_perm hN.g r1.perm, by rw [r1.len, hN.nl], hN.d.of_perm r1.perm, by omega, hN.bn, fun h0 p hp hpb => ?_, by omega, by omega, hm⟩
    rw [Nat.add_sub_cancel, kx_of (r1.out m (by omega)), kx_of (r1.out p (by omega))]
    exact hi p (by omega) hpb
  · refine ⟨gM_perm hN.g r2.perm, by rw [r2.len, hN.nl], hN.d.of_perm r2.perm, q1, by have := hN.bn; omega, fun h0 p hp hpb => ?_, by omega, by omega, hm⟩
    rw [kx_of (r2.out (a - 1) (by omega)), kx_of (r2.out p (by omega))]
    exact hN.lw h0 p hp (by omega)
noncomputable abbrev ss94 (f cf : Nat) : List Sp := [s94 f, s104, s106, s107, s109, s111, sC cf]
end
end Go.Sx.Ch
