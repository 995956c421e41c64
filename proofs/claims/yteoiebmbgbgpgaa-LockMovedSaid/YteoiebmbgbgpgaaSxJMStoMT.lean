/- LockMoved's loop: letters are chosen, and what they lead to is told. No conditions. -/
import Derived.Test.YteoiebmbgbgpgaaSxJLWtoMQ
import Derived.Test.YteoiebmbgbgpgaaSxPLg
set_option linter.unusedVariables false
set_option linter.unusedSimpArgs false
set_option maxRecDepth 4000
namespace Go.Sx.Lk
open Go Go.Sx Go.Proofs
section
set_option maxHeartbeats 8000000
noncomputable def q8 : PCode := (.seq (.seq (.reg p8_r22 [7, 16, 17, 18, 19, 22, 76, 77, 78, 113]) (.cond (Operand.tmp 113) (.exit 1) .skip)) (.block 3 (.seq (.reg p8_r23 [7, 16, 17, 18, 19, 22, 76, 77, 78, 116]) (.cond (Operand.tmp 116) (.reg p8_r24 [7, 16, 17, 18, 19, 76, 77, 78]) (.seq (.reg p8_r25 [7, 16, 17, 18, 19, 22, 76, 77, 78, 119]) (.cond (Operand.tmp 119) (.reg p8_r26 [7, 16, 17, 18, 19, 76, 77, 78]) (.seq (.reg p8_r27 [7, 16, 17, 18, 19, 76, 77, 78, 128]) (.cond (Operand.tmp 128) (.seq (.reg p8_r28 [7, 16, 17, 18, 19, 76, 77, 78]) (.reg p8_r29 [7, 16, 17, 18, 19, 76, 77, 78])) (.seq (.reg p8_r30 [7, 16, 17, 18, 19, 76, 77, 78, 135]) (.cond (Operand.tmp 135) (.reg p8_r31 [7, 16, 17, 18, 19, 76, 77, 78]) (.reg p8_r32 [7, 16, 17, 18, 19, 76, 77, 78])))))))))))
noncomputable def q8c : PCode := (.seq (.block 2 (.seq (.reg p8_r17 [7, 16, 17, 18, 19, 21, 22, 76, 77, 78, 95]) (.cond (Operand.tmp 95) (.reg p8_r18 [7, 16, 17, 18, 19, 22, 76, 77, 78]) (.seq (.reg p8_r19 [7, 16, 17, 18, 19, 21, 22, 76, 77, 78, 102]) (.cond (Operand.tmp 102) (.reg p8_r20 [7, 16, 17, 18, 19, 22, 76, 77, 78]) .skip))))) (.seq (.reg p8_r21 [7, 16, 17, 18, 19, 22, 76, 77, 78]) q8))
theorem p8_l0_q8c : p8_l0 = (.seq (.reg p8_r12 [7, 16, 17, 18, 19, 76, 77, 78, 79]) (.seq (.cond (Operand.tmp 79) .skip (.exit 0)) (.seq (.block 1 (.seq (.reg p8_r13 [7, 16, 17, 18, 19, 21, 76, 77, 78]) (.seq (.reg p8_r14 [7, 16, 17, 18, 19, 21, 22, 76, 77, 78]) (.seq (.seq (.reg p8_r15 [7, 16, 17, 18, 19, 21, 22, 76, 77, 78, 94]) (.cond (Operand.tmp 94) (.reg p8_r16 [7, 16, 17, 18, 19, 21, 22, 76, 77, 78]) .skip)) q8c)))) (.reg p8_r33 [7, 16, 17, 18, 19, 76, 77, 78])))) := rfl
theorem XZ_cF {R : Rsv} {k0 : Nat} {c : Operand} {a b : PCode} {e : List (Nat × AV)} {h : HL} {n : Nat} {Q : Exit → ST → Prop} (hc : evalA (enF e) c = vB false) (hh : XZ R k0 b ⟨e, h, n⟩ Q) : XZ R k0 (.cond c a b) ⟨e, h, n⟩ Q := by
  rw [XZ_cond, hc]; simpa using hh
theorem XZ_cT {R : Rsv} {k0 : Nat} {c : Operand} {a b : PCode} {e : List (Nat × AV)} {h : HL} {n : Nat} {Q : Exit → ST → Prop} (hc : evalA (enF e) c = vB true) (hh : XZ R k0 a ⟨e, h, n⟩ Q) : XZ R k0 (.cond c a b) ⟨e, h, n⟩ Q := by
  rw [XZ_cond, hc]; simpa using hh
/-! ### Strings of one letter -/
theorem cat_x (x y : Operand) (w : List Int) (h : w.length ≤ 1000) : effPlain2 Try.prog (fun u v => do eqGuard .add 9 x y u v; binOp .add 9 u v) (vS (strB w)) (vS ⟨#[120]⟩) = ret (vS (strB (w ++ [120]))) := by
  have h1 : (⟨#[120]⟩ : ByteArray).size = 1 := rfl
  rw [cat9 _ _ _ _ (by rw [strB_size, h1]; omega), strB_app]; rfl
theorem eq9 (x y : Operand) (a b : ByteArray) : effPlain2 Try.prog (fun u v => do eqGuard .eql 9 x y u v; binOp .eql 9 u v) (vS a) (vS b) = ret (vB (a.toList == b.toList)) := by
  have heq : ∀ a b, pureRun Try.prog (Op.stringOp .eql a b) = some (.bool (a.toList == b.toList)) := fun a b => rfl
  simp [effPlain2, AV.val, eqGuard, binOp, heq, pureRun, ofVal, Value.oneCell', ret]
theorem e9ix (x y : Operand) : effPlain2 Try.prog (fun u v => do eqGuard .eql 9 x y u v; binOp .eql 9 u v) (vS ⟨#[105]⟩) (vS ⟨#[120]⟩) = ret (vB false) := by rw [eq9]; kernel_rfl
theorem e9ii (x y : Operand) : effPlain2 Try.prog (fun u v => do eqGuard .eql 9 x y u v; binOp .eql 9 u v) (vS ⟨#[105]⟩) (vS ⟨#[105]⟩) = ret (vB true) := by rw [eq9]; kernel_rfl
theorem e9ox (x y : Operand) : effPlain2 Try.prog (fun u v => do eqGuard .eql 9 x y u v; binOp .eql 9 u v) (vS ⟨#[111]⟩) (vS ⟨#[120]⟩) = ret (vB false) := by rw [eq9]; kernel_rfl
theorem e9oi (x y : Operand) : effPlain2 Try.prog (fun u v => do eqGuard .eql 9 x y u v; binOp .eql 9 u v) (vS ⟨#[111]⟩) (vS ⟨#[105]⟩) = ret (vB false) := by rw [eq9]; kernel_rfl
theorem e9xx (x y : Operand) : effPlain2 Try.prog (fun u v => do eqGuard .eql 9 x y u v; binOp .eql 9 u v) (vS ⟨#[120]⟩) (vS ⟨#[120]⟩) = ret (vB true) := by rw [eq9]; kernel_rfl
theorem sl3_0 : effSlcS Try.prog 9 (vS ⟨#[105, 111, 120]⟩) (some (.v (.int .u8 0))) none = ret (vS ⟨#[105, 111, 120]⟩) := by kernel_rfl
theorem sl3_1 : effSlcS Try.prog 9 (vS ⟨#[105, 111, 120]⟩) (some (.v (.int .u8 1))) none = ret (vS ⟨#[111, 120]⟩) := by kernel_rfl
theorem sl3_2 : effSlcS Try.prog 9 (vS ⟨#[105, 111, 120]⟩) (some (.v (.int .u8 2))) none = ret (vS ⟨#[120]⟩) := by kernel_rfl
theorem sl2_0 : effSlcS Try.prog 9 (vS ⟨#[105, 111]⟩) (some (.v (.int .u8 0))) none = ret (vS ⟨#[105, 111]⟩) := by kernel_rfl
theorem sl2_1 : effSlcS Try.prog 9 (vS ⟨#[105, 111]⟩) (some (.v (.int .u8 1))) none = ret (vS ⟨#[111]⟩) := by kernel_rfl
theorem sf3_0 : effSlcS Try.prog 9 (vS ⟨#[105, 111, 120]⟩) none (some (.v (.int .i64 1))) = ret (vS ⟨#[105]⟩) := by kernel_rfl
theorem sf3_1 : effSlcS Try.prog 9 (vS ⟨#[111, 120]⟩) none (some (.v (.int .i64 1))) = ret (vS ⟨#[111]⟩) := by kernel_rfl
theorem sf3_2 : effSlcS Try.prog 9 (vS ⟨#[120]⟩) none (some (.v (.int .i64 1))) = ret (vS ⟨#[120]⟩) := by kernel_rfl
theorem sf2_0 : effSlcS Try.prog 9 (vS ⟨#[105, 111]⟩) none (some (.v (.int .i64 1))) = ret (vS ⟨#[105]⟩) := by kernel_rfl
theorem sf2_1 : effSlcS Try.prog 9 (vS ⟨#[111]⟩) none (some (.v (.int .i64 1))) = ret (vS ⟨#[111]⟩) := by kernel_rfl
/-! ### What a letter does to the counts -/
def cF (x came inn n : Nat) : Int := if 250 < x then (if x % 3 = 0 then 105 else if x % 3 = 1 then 111 else 120) else if 240 < x then (if x % 2 = 0 then 105 else 111) else if (x % 2 = 1 ∧ 0 < inn) ∨ came = n then 111 else 105
def wF (c want : Int) (came inn n : Nat) : Int := if want ≠ 0 then want else if c = 120 then 10 else if c = 105 then (if came = n then 2 else 0) else (if inn = 0 then 4 else 0)
def caF (c want : Int) (came n : Nat) : Nat := if want = 0 ∧ c = 105 ∧ came ≠ n then came + 1 else came
def inF (c want : Int) (came inn n : Nat) : Nat := if want = 0 ∧ c = 105 ∧ came ≠ n then inn + 1 else if want = 0 ∧ c = 111 then inn - 1 else inn
theorem cF_in (x came inn n : Nat) : cF x came inn n = 105 ∨ cF x came inn n = 111 ∨ cF x came inn n = 120 := by
  unfold cF; repeat' split
  all_goals simp
def mk8 (l : List Int) (K : List AV) (m : Nat) (w : List Int) (came inn : Nat) (want : Int) (i : Nat) : ST :=
  ⟨[(7, .il (ints l) l.length false), (16, vS (strB w)), (17, vI came), (18, vI inn), (19, vI want), (76, .ref 0 0 m 1 (some 14)), (77, vI m), (78, vI i)], [(0, .cells K)], 1⟩
def mk8b (l : List Int) (K : List AV) (m : Nat) (w : List Int) (came inn : Nat) (want : Int) (i : Nat) (s : ByteArray) (nx : Nat) : ST :=
  ⟨[(7, .il (ints l) l.length false), (16, vS (strB w)), (17, vI came), (18, vI inn), (19, vI want), (22, vS s), (76, .ref 0 0 m 1 (some 14)), (77, vI m), (78, vI i)], [(0, .cells K)], nx⟩
section
variable {R : Rsv} {l : List Int} {K : List AV} {m came inn i nx : Nat} {w : List Int} {want : Int} {N : ST → Prop} {Q' : Exit → ST → Prop} (hK : ∀ g, renL g K = K)
include hK
theorem rest_e {s : ByteArray} (hwn : want ≠ 0) (hi : i ≤ 1000) (fin : ∀ s', ChgT 0 s' (mk8 l K m w came inn want (i + 1)) → N s') :
    XZ R 0 q8 (mk8b l K m w came inn want i s nx) (inBE 1 (thenE (fun s' => XZ R 0 (.reg p8_r33 [7, 16, 17, 18, 19, 76, 77, 78]) s' (thenE N Q')) (thenE N Q'))) := by
  simp only [mk8, mk8b] at fin ⊢
  delta q8 p8_r22 p8_r33
  simp (disch := omega) [oLt, oLe, oLtN, oLeN, nLt, nLe, nLtN, nLeN, hwn]
  exact fin _ (.toS (fun s => [ida s 76]) (by simp [hK]))
theorem rest_x (hi : i ≤ 1000) (fin : ∀ s', ChgT 0 s' (mk8 l K m w came inn 10 (i + 1)) → N s') :
    XZ R 0 q8 (mk8b l K m w came inn 0 i ⟨#[120]⟩ nx) (inBE 1 (thenE (fun s' => XZ R 0 (.reg p8_r33 [7, 16, 17, 18, 19, 76, 77, 78]) s' (thenE N Q')) (thenE N Q'))) := by
  simp only [mk8, mk8b] at fin ⊢
  delta q8 p8_r22 p8_r23 p8_r24 p8_r33
  simp (disch := omega) [oLt, oLe, oLtN, oLeN, nLt, nLe, nLtN, nLeN, SOp.eff, e9xx]
  exact fin _ (.toS (fun s => [ida s 76]) (by simp [hK]))
theorem rest_i2 (hi : i ≤ 1000) (hl : l.length ≤ 7) (hcm : came = l.length) (fin : ∀ s', ChgT 0 s' (mk8 l K m w came inn 2 (i + 1)) → N s') :
    XZ R 0 q8 (mk8b l K m w came inn 0 i ⟨#[105]⟩ nx) (inBE 1 (thenE (fun s' => XZ R 0 (.reg p8_r33 [7, 16, 17, 18, 19, 76, 77, 78]) s' (thenE N Q')) (thenE N Q'))) := by
  subst hcm
  simp only [mk8, mk8b] at fin ⊢
  delta q8 p8_r22 p8_r23 p8_r25 p8_r26 p8_r33
  simp (disch := omega) [oLt, oLe, oLtN, oLeN, nLt, nLe, nLtN, nLeN, SOp.eff, e9ix, e9ii]
  exact fin _ (.toS (fun s => [ida s 76]) (by simp [hK]))
theorem rest_i (hi : i ≤ 1000) (hl : l.length ≤ 7) (hin : inn ≤ 1000) (hcm : came < l.length) (fin : ∀ s', ChgT 0 s' (mk8 l K m w (came + 1) (inn + 1) 0 (i + 1)) → N s') :
    XZ R 0 q8 (mk8b l K m w came inn 0 i ⟨#[105]⟩ nx) (inBE 1 (thenE (fun s' => XZ R 0 (.reg p8_r33 [7, 16, 17, 18, 19, 76, 77, 78]) s' (thenE N Q')) (thenE N Q'))) := by
  have hcn : ¬ (came : Int) = l.length := by omega
  simp only [mk8, mk8b] at fin ⊢
  delta q8
  refine XZ_step ?_ (fun N Q_ hN => ?_) ?_
  rotate_left
  · delta p8_r22
    simp (disch := omega) [oLt, oLe, oLtN, oLeN, nLt, nLe, nLtN, nLeN]
    exact hN
  rw [XZ_block]
  refine XZ_step ?_ (fun N Q_ hN => ?_) ?_
  rotate_left
  · delta p8_r23; simp (disch := omega) [oLt, oLe, oLtN, oLeN, nLt, nLe, nLtN, nLeN, SOp.eff, e9ix]
    exact hN
  refine XZ_cF (by simp) ?_
  refine XZ_step ?_ (fun N Q_ hN => ?_) ?_
  rotate_left
  · delta p8_r25; simp (disch := omega) [oLt, oLe, oLtN, oLeN, nLt, nLe, nLtN, nLeN, SOp.eff, e9ii, hcn]
    exact hN
  refine XZ_cF (by simp; omega) ?_
  refine XZ_step ?_ (fun N Q_ hN => ?_) ?_
  rotate_left
  · delta p8_r27; simp (disch := omega) [oLt, oLe, oLtN, oLeN, nLt, nLe, nLtN, nLeN, SOp.eff, e9ii]
    exact hN
  refine XZ_cT (by simp) ?_
  refine XZ_step ?_ (fun N Q_ hN => ?_) ?_
  rotate_left
  · delta p8_r28; simp (disch := omega) [oLt, oLe, oLtN, oLeN, nLt, nLe, nLtN, nLeN]
    exact hN
  delta p8_r29 p8_r33
  simp (disch := omega) [oLt, oLe, oLtN, oLeN, nLt, nLe, nLtN, nLeN]
  exact fin _ (.toS (fun s => [ida s 76]) (by simp [hK]))
theorem rest_o0 (hi : i ≤ 1000) (fin : ∀ s', ChgT 0 s' (mk8 l K m w came 0 4 (i + 1)) → N s') :
    XZ R 0 q8 (mk8b l K m w came 0 0 i ⟨#[111]⟩ nx) (inBE 1 (thenE (fun s' => XZ R 0 (.reg p8_r33 [7, 16, 17, 18, 19, 76, 77, 78]) s' (thenE N Q')) (thenE N Q'))) := by
  simp only [mk8, mk8b] at fin ⊢
  delta q8 p8_r22 p8_r23 p8_r25 p8_r27 p8_r30 p8_r31 p8_r33
  simp (disch := omega) [oLt, oLe, oLtN, oLeN, nLt, nLe, nLtN, nLeN, SOp.eff, e9ox, e9oi]
  exact fin _ (.toS (fun s => [ida s 76]) (by simp [hK]))
theorem rest_o (hi : i ≤ 1000) (hin : inn ≤ 1000) (fin : ∀ s', ChgT 0 s' (mk8 l K m w came inn 0 (i + 1)) → N s') :
    XZ R 0 q8 (mk8b l K m w came (inn + 1) 0 i ⟨#[111]⟩ nx) (inBE 1 (thenE (fun s' => XZ R 0 (.reg p8_r33 [7, 16, 17, 18, 19, 76, 77, 78]) s' (thenE N Q')) (thenE N Q'))) := by
  simp only [mk8, mk8b] at fin ⊢
  delta q8 p8_r22 p8_r23 p8_r25 p8_r27 p8_r30 p8_r32 p8_r33
  simp (disch := omega) [oLt, oLe, oLtN, oLeN, nLt, nLe, nLtN, nLeN, SOp.eff, e9ox, e9oi]
  exact fin _ (.toS (fun s => [ida s 76]) (by simp [hK]))
theorem rest8 (c : Int) (s : ByteArray) (hc : (c = 105 ∧ s = ⟨#[105]⟩) ∨ (c = 111 ∧ s = ⟨#[111]⟩) ∨ (c = 120 ∧ s = ⟨#[120]⟩)) (hi : i ≤ 1000) (hl : l.length ≤ 7) (hin : inn ≤ 1000) (hcm : came ≤ l.length)
    (fin : ∀ s', ChgT 0 s' (mk8 l K m w (caF c want came l.length) (inF c want came inn l.length) (wF c want came inn l.length) (i + 1)) → N s') :
    XZ R 0 q8 (mk8b l K m w came inn want i s nx) (inBE 1 (thenE (fun s' => XZ R 0 (.reg p8_r33 [7, 16, 17, 18, 19, 76, 77, 78]) s' (thenE N Q')) (thenE N Q'))) := by
  by_cases hw : want = 0
  · subst hw
    rcases hc with ⟨rfl, rfl⟩ | ⟨rfl, rfl⟩ | ⟨rfl, rfl⟩
    · by_cases h : came = l.length
      · exact rest_i2 hK hi hl h (by simpa [caF, inF, wF, h] using fin)
      · exact rest_i hK hi hl hin (by omega) (by simpa [caF, inF, wF, h] using fin)
    · cases inn with
      | zero => exact rest_o0 hK hi (by simpa [caF, inF, wF] using fin)
      | succ k => exact rest_o hK hi (by omega) (by simpa [caF, inF, wF] using fin)
    · exact rest_x hK hi (by simpa [caF, inF, wF] using fin)
  · exact rest_e hK hw hi (by simpa [caF, inF, wF, hw] using fin)
end
end
section
set_option maxHeartbeats 8000000
section
variable {R : Rsv} {l : List Int} {K : List AV} {m came inn i nx x : Nat} {w : List Int} {want : Int} {N : ST → Prop} {Q' : Exit → ST → Prop} {tl : List (Nat × AV)}
theorem second8 (hK : ∀ g, renL g K = K) (hx : x ≤ 255) (b : Int) (s : ByteArray) (hb : (b = 105 ∧ s = ⟨#[105]⟩) ∨ (b = 111 ∧ s = ⟨#[111]⟩)) (hbc : (if (x % 2 = 1 ∧ 0 < inn) ∨ came = l.length then (111 : Int) else 105) = b) (hwl : w.length ≤ 100) (hi : i ≤ 1000) (hl : l.length ≤ 7) (hin : inn ≤ 1000) (hcm : came ≤ l.length)
    (fin : ∀ s', ChgT 0 s' (mk8 l K m (w ++ [cF x came inn l.length]) (caF (cF x came inn l.length) want came l.length) (inF (cF x came inn l.length) want came inn l.length) (wF (cF x came inn l.length) want came inn l.length) (i + 1)) → N s') :
    XZ R 0 q8c ⟨(7, .il (ints l) l.length false) :: (16, vS (strB w)) :: (17, vI came) :: (18, vI inn) :: (19, vI want) :: (21, .v (.int .u8 x)) :: (22, vS s) :: (76, .ref 0 0 m 1 (some 14)) :: (77, vI m) :: (78, vI i) :: tl, [(0, .cells K)], nx⟩ (inBE 1 (thenE (fun s' => XZ R 0 (.reg p8_r33 [7, 16, 17, 18, 19, 76, 77, 78]) s' (thenE N Q')) (thenE N Q'))) := by
  by_cases h1 : 250 < x
  · have h1c : (250 : Int) < x := by omega
    have h3 : x % 3 = 0 ∨ x % 3 = 1 ∨ x % 3 = 2 := by omega
    rcases h3 with h3 | h3 | h3
    · have hm3 : (x : Int) % 3 = 0 := by omega
      have hc : cF x came inn l.length = 105 := by simp [cF, h1, h3]
      rw [hc] at fin
      delta q8c p8_r17 p8_r18 p8_r21
      simp (disch := omega) [oLt, oLe, oLtN, oLeN, nLt, nLe, nLtN, nLeN, h1c, hm3, sl3_0, sf3_0, SOp.eff, cat_i]
      exact rest8 hK 105 _ (by simp) hi hl hin hcm fin
    · have hm3 : (x : Int) % 3 = 1 := by omega
      have hc : cF x came inn l.length = 111 := by simp [cF, h1, h3]
      rw [hc] at fin
      delta q8c p8_r17 p8_r18 p8_r21
      simp (disch := omega) [oLt, oLe, oLtN, oLeN, nLt, nLe, nLtN, nLeN, h1c, hm3, sl3_1, sf3_1, SOp.eff, cat_o]
      exact rest8 hK 111 _ (by simp) hi hl hin hcm fin
    · have hm3 : (x : Int) % 3 = 2 := by omega
      have hc : cF x came inn l.length = 120 := by simp [cF, h1, h3]
      rw [hc] at fin
      delta q8c p8_r17 p8_r18 p8_r21
      simp (disch := omega) [oLt, oLe, oLtN, oLeN, nLt, nLe, nLtN, nLeN, h1c, hm3, sl3_2, sf3_2, SOp.eff, cat_x]
      exact rest8 hK 120 _ (by simp) hi hl hin hcm fin
  · have h1c : ¬ (250 : Int) < x := by omega
    by_cases h2 : 240 < x
    · have h2c : (240 : Int) < x := by omega
      have h3 : x % 2 = 0 ∨ x % 2 = 1 := by omega
      rcases h3 with h3 | h3
      · have hm3 : (x : Int) % 2 = 0 := by omega
        have hc : cF x came inn l.length = 105 := by simp [cF, h1, h2, h3]
        rw [hc] at fin
        delta q8c p8_r17 p8_r19 p8_r20 p8_r21
        simp (disch := omega) [oLt, oLe, oLtN, oLeN, nLt, nLe, nLtN, nLeN, h1c, h2c, hm3, sl2_0, sf2_0, SOp.eff, cat_i]
        exact rest8 hK 105 _ (by simp) hi hl hin hcm fin
      · have hm3 : (x : Int) % 2 = 1 := by omega
        have hc : cF x came inn l.length = 111 := by simp [cF, h1, h2, h3]
        rw [hc] at fin
        delta q8c p8_r17 p8_r19 p8_r20 p8_r21
        simp (disch := omega) [oLt, oLe, oLtN, oLeN, nLt, nLe, nLtN, nLeN, h1c, h2c, hm3, sl2_1, sf2_1, SOp.eff, cat_o]
        exact rest8 hK 111 _ (by simp) hi hl hin hcm fin
    · have h2c : ¬ (240 : Int) < x := by omega
      have hc : cF x came inn l.length = b := by rw [← hbc, cF, if_neg h1, if_neg h2]
      rw [hc] at fin
      rcases hb with ⟨rfl, rfl⟩ | ⟨rfl, rfl⟩
      · delta q8c p8_r17 p8_r19 p8_r21
        simp (disch := omega) [oLt, oLe, oLtN, oLeN, nLt, nLe, nLtN, nLeN, h1c, h2c, SOp.eff, cat_i]
        exact rest8 hK 105 _ (by simp) hi hl hin hcm fin
      · delta q8c p8_r17 p8_r19 p8_r21
        simp (disch := omega) [oLt, oLe, oLtN, oLeN, nLt, nLe, nLtN, nLeN, h1c, h2c, SOp.eff, cat_o]
        exact rest8 hK 111 _ (by simp) hi hl hin hcm fin
theorem step8 (hK : ∀ g, renL g K = K) (hx : x ≤ 255) (hk : K[i]? = some (.v (.int .u8 x))) (him : i < m) (hwl : w.length ≤ 100) (hi : i ≤ 1000) (hl : l.length ≤ 7) (hin : inn ≤ 1000) (hcm : came ≤ l.length)
    (fin : ∀ s', ChgT 0 s' (mk8 l K m (w ++ [cF x came inn l.length]) (caF (cF x came inn l.length) want came l.length) (inF (cF x came inn l.length) want came inn l.length) (wF (cF x came inn l.length) want came inn l.length) (i + 1)) → N s') :
    XZ R 0 p8_l0 (mk8 l K m w came inn want i) (thenE N Q') := by
  rw [p8_l0_q8c]
  simp only [mk8]
  have hk' := (List.getElem?_eq_some_iff.1 hk).2
  have hic : (i : Int) < m := by omega
  have h3 : x % 2 = 0 ∨ x % 2 = 1 := by omega
  have hcn : came = l.length ∨ came < l.length := by omega
  rcases h3 with h3 | h3
  · have hm3 : (x : Int) % 2 = 0 := by omega
    rcases hcn with hcn | hcn
    · have hcc : (came : Int) = l.length := by omega
      delta p8_r12 p8_r13 p8_r14 p8_r15 p8_r16
      simp (disch := omega) [oLt, oLe, oLtN, oLeN, nLt, nLe, nLtN, nLeN, hic, him, hk, hk', hm3, hcc]
      rw [← hcc]
      exact second8 (tl := []) hK hx 111 _ (by simp) (by simp [hcn]) hwl hi hl hin hcm fin
    · have hcc : ¬ (came : Int) = l.length := by omega
      delta p8_r12 p8_r13 p8_r14 p8_r15 p8_r16
      simp (disch := omega) [oLt, oLe, oLtN, oLeN, nLt, nLe, nLtN, nLeN, hic, him, hk, hk', hm3, hcc]
      exact second8 hK hx 105 _ (by simp) (by simp [h3]; omega) hwl hi hl hin hcm fin
  · have hm3 : (x : Int) % 2 = 1 := by omega
    by_cases h0 : 0 < inn
    · have h0c : (0 : Int) < inn := by omega
      delta p8_r12 p8_r13 p8_r14 p8_r15 p8_r16
      simp (disch := omega) [oLt, oLe, oLtN, oLeN, nLt, nLe, nLtN, nLeN, hic, him, hk, hk', hm3, h0c]
      exact second8 (tl := []) hK hx 111 _ (by simp) (by simp [h3, h0]) hwl hi hl hin hcm fin
    · have h0c : ¬ (0 : Int) < inn := by omega
      rcases hcn with hcn | hcn
      · have hcc : (came : Int) = l.length := by omega
        delta p8_r12 p8_r13 p8_r14 p8_r15 p8_r16
        simp (disch := omega) [oLt, oLe, oLtN, oLeN, nLt, nLe, nLtN, nLeN, hic, him, hk, hk', hm3, hcc, h0c]
        rw [← hcc]
        exact second8 (tl := []) hK hx 111 _ (by simp) (by simp [hcn]) hwl hi hl hin hcm fin
      · have hcc : ¬ (came : Int) = l.length := by omega
        delta p8_r12 p8_r13 p8_r14 p8_r15 p8_r16
        simp (disch := omega) [oLt, oLe, oLtN, oLeN, nLt, nLe, nLtN, nLeN, hic, him, hk, hk', hm3, hcc, h0c]
        exact second8 hK hx 105 _ (by simp) (by simp [h3, h0]; omega) hwl hi hl hin hcm fin
end
/-! ### The invariant -/
structure Inv8 (l w : List Int) (came inn : Nat) (want : Int) : Prop where
  let_ : letB w
  want_ : (rE w ([], [], l)).1 = want
  ok : want = 0 → came + (rE w ([], [], l)).2.2.2.length = l.length ∧ inn = (rE w ([], [], l)).2.1.length
  cl : came ≤ l.length
  il : inn ≤ l.length
theorem Inv8.step {l w : List Int} {came inn : Nat} {want c : Int} (h : Inv8 l w came inn want) (hc : c = 105 ∨ c = 111 ∨ c = 120) :
    Inv8 l (w ++ [c]) (caF c want came l.length) (inF c want came inn l.length) (wF c want came inn l.length) := by
  obtain ⟨h1, h2, h3, h4, h5⟩ := h
  have hl : letB (w ++ [c]) := letB_app h1 (by rcases hc with rfl | rfl | rfl <;> omega)
  have hsz := rE_sz w ([], [], l)
  have happ := rE_app w [c] ([], [], l)
  generalize rE w ([], [], l) = q at *
  obtain ⟨e, st, out, left⟩ := q
  simp only [bsz, List.length_nil] at *
  by_cases hw : want = 0
  · subst hw
    rw [if_pos h2] at happ
    obtain ⟨h6, h7⟩ := h3 rfl
    subst h2
    rcases hc with rfl | rfl | rfl
    · cases left with
      | nil =>
        simp only [List.length_nil] at h6
        have : came = l.length := by omega
        refine ⟨hl, by rw [happ]; simp [rE, wF, this], by simp [wF, this], by simp [caF, this], by simp [inF, this]; omega⟩
      | cons y r =>
        simp only [List.length_cons] at h6
        have hne : came ≠ l.length := by omega
        refine ⟨hl, by rw [happ]; simp [rE, wF, hne], fun _ => ?_, by simp [caF, hne]; omega, by simp [inF, hne]; omega⟩
        rw [happ]
        simp [rE, caF, inF, hne]
        omega
    · by_cases hs : st = []
      · subst hs
        have : inn = 0 := by simpa using h7
        refine ⟨hl, by rw [happ]; simp [rE, wF, this], by simp [wF, this], by simp [caF]; omega, by simp [inF]; omega⟩
      · have hp : 0 < st.length := List.length_pos_iff.2 hs
        have : inn ≠ 0 := by omega
        refine ⟨hl, by rw [happ]; simp [rE, wF, hs, this], fun _ => ?_, by simp [caF]; omega, by simp [inF]; omega⟩
        rw [happ]
        simp [rE, caF, inF, hs]
        omega
    · refine ⟨hl, by rw [happ]; simp [rE, wF], by simp [wF], by simp [caF]; omega, by simp [inF]; omega⟩
  · have he : ¬ e = 0 := fun h => hw (by rw [← h2, h])
    rw [if_neg he] at happ
    refine ⟨hl, by rw [happ]; simp [wF, hw, h2], fun h => absurd h (by simp [wF, hw]), by simp [caF, hw]; omega, by simp [inF, hw]; omega⟩
theorem Inv8.fin {l w : List Int} {came inn : Nat} {want : Int} (h : Inv8 l w came inn want) :
    (want ≠ 0 ∧ rnF (strB w) l = (want, [])) ∨ (want = 0 ∧ (came < l.length ∨ 0 < inn) ∧ rnF (strB w) l = (21, [])) ∨ (want = 0 ∧ came = l.length ∧ inn = 0 ∧ ∃ out, rnF (strB w) l = (0, out) ∧ out.length ≤ l.length) := by
  obtain ⟨h1, h2, h3, h4, h5⟩ := h
  have hsz := rE_sz w ([], [], l)
  rw [rnF_rE h1]
  generalize rE w ([], [], l) = q at *
  obtain ⟨e, st, out, left⟩ := q
  simp only [bsz, List.length_nil] at *
  subst h2
  by_cases hw : e = 0
  · obtain ⟨h6, h7⟩ := h3 hw
    subst hw
    by_cases hh : came < l.length ∨ 0 < inn
    · exact .inr (.inl ⟨rfl, hh, by rw [rEnd, if_pos rfl, if_pos (by simp only; omega)]⟩)
    · exact .inr (.inr ⟨rfl, by omega, by omega, out, by rw [rEnd, if_pos rfl, if_neg (by simp only; omega)], by omega⟩)
  · exact .inl ⟨hw, by rw [rEnd, if_neg hw]⟩
theorem strB_small {w : List Int} (h : w.length ≤ 100) : g20 (strB w) = true := by simp [g20, strB_size]; omega
theorem lockMoved_runs {s : Int} {O L : List Int} {many : Int} (hg : gTr s O 7 = true) (hL : L.length = 14) (hLb : ∀ x ∈ L, 0 ≤ x ∧ x ≤ 255) (hm : 0 ≤ many ∧ many ≤ 255) :
    Runs Try.prog 8 0 [.agg (trA s O), .agg (u8s L), .v (.int .u8 many)] (hpF []) (vB true) 0 (hpF []) := by
  obtain ⟨l, K, hK, hf, hck, hmo, hKl, htk, hKr, hKf, hKc, hKfl⟩ := made_pack hg
  rw [← hK]
  clear hK
  obtain ⟨hl0, hl7⟩ := chkF_len hck
  have hsm : small l = true := by simp [small]; omega
  have hml := mvF_len l
  have hmv := rnF_mvF hck
  have hsg : g20 (strB (mvF l)) = true := strB_small (by omega)
  have hg46 : ∀ w : List Int, (rnF (strB w) l).1 = 0 → g46 (strB w) l = true := fun w h => by simp [g46, h, hl7]; omega
  have hgm := hg46 (mvF l) (by rw [hmv])
  have hps : (psd l).length = l.length := (ck_facts hck).len
  have hpsm : small (psd l) = true := by simp [small]; omega
  obtain ⟨M, hM⟩ : ∃ M, u8s L = M := ⟨_, rfl⟩
  have hMr : ∀ f, renL f M = M := fun f => by rw [← hM]; simp
  have hMf : ∀ id cs, frL id cs M = M := fun id cs => by rw [← hM]; simp
  have hMc : cloL M = true := by rw [← hM]; simp
  have hMl : M.length = 14 := by rw [← hM]; simp [u8s, hL]
  have hMg : ∀ i : Nat, i < 14 → ∃ x : Nat, x ≤ 255 ∧ M[i]? = some (.v (.int .u8 x)) := fun i hi => by
    have hb := hLb L[i] (List.getElem_mem (by omega))
    obtain ⟨x, hx⟩ := Int.eq_ofNat_of_zero_le hb.1
    exact ⟨x, by omega, by rw [← hM, u8s, List.getElem?_map, List.getElem?_eq_getElem (by omega), hx]; rfl⟩
  rw [hM]
  clear hM hLb
  obtain ⟨many, rfl⟩ := Int.eq_ofNat_of_zero_le hm.1
  obtain ⟨m, hmm⟩ : ∃ m, many % 15 = m := ⟨_, rfl⟩
  have hmc : (many : Int) % 15 = (m : Int) := by omega
  have hm14 : m ≤ 14 := by omega
  refine P8.rz (ss := [s45, s18, s16, s20, s46, s22, s15]) ⟨s45_ok, s18_ok, s16_ok, s20_ok, s46_ok, s22_ok, s15_ok, trivial⟩ (by simp) fun Q hQ => ?_
  delta p8
  refine XZ_step ?_ (fun N Q_ hN => ?_) ?_
  rotate_left
  · delta p8_r0; simp (disch := omega) [oLt, oLe, oLtN, oLeN, nLt, nLe, nLtN, nLeN, hKl, htk, hKr, hKf, hKc, hKfl, hf, hsm, hck, hsg, hmv, rnA, hgm, hpsm, hmc, hm14, hMl, hMc, hMf, effSlcA, bnd]
    exact hN
  refine XZ_step ?_ (fun N Q_ hN => ?_) ?_
  rotate_left
  · delta p8_r1; simp (disch := omega) [oLt, oLe, oLtN, oLeN, nLt, nLe, nLtN, nLeN, hKl, htk, hKr, hKf, hKc, hKfl, hf, hsm, hck, hsg, hmv, rnA, hgm, hpsm, hmc, hm14, hMl, hMc, hMf, effSlcA, bnd]
    exact hN
  refine XZ_step ?_ (fun N Q_ hN => ?_) ?_
  rotate_left
  · delta p8_r2; simp (disch := omega) [oLt, oLe, oLtN, oLeN, nLt, nLe, nLtN, nLeN, hKl, htk, hKr, hKf, hKc, hKfl, hf, hsm, hck, hsg, hmv, rnA, hgm, hpsm, hmc, hm14, hMl, hMc, hMf, effSlcA, bnd]
    exact hN
  refine XZ_step ?_ (fun N Q_ hN => ?_) ?_
  rotate_left
  · delta p8_r3; simp (disch := omega) [oLt, oLe, oLtN, oLeN, nLt, nLe, nLtN, nLeN, hKl, htk, hKr, hKf, hKc, hKfl, hf, hsm, hck, hsg, hmv, rnA, hgm, hpsm, hmc, hm14, hMl, hMc, hMf, effSlcA, bnd]
    exact hN
  refine XZ_step ?_ (fun N Q_ hN => ?_) ?_
  rotate_left
  · delta p8_r4; simp (disch := omega) [oLt, oLe, oLtN, oLeN, nLt, nLe, nLtN, nLeN, hKl, htk, hKr, hKf, hKc, hKfl, hf, hsm, hck, hsg, hmv, rnA, hgm, hpsm, hmc, hm14, hMl, hMc, hMf, effSlcA, bnd]
    exact hN
  refine XZ_step ?_ (fun N Q_ hN => ?_) ?_
  rotate_left
  · delta p8_r5; simp (disch := omega) [oLt, oLe, oLtN, oLeN, nLt, nLe, nLtN, nLeN, hKl, htk, hKr, hKf, hKc, hKfl, hf, hsm, hck, hsg, hmv, rnA, hgm, hpsm, hmc, hm14, hMl, hMc, hMf, effSlcA, bnd]
    exact hN
  delta p8_r6 p8_r7 p8_r8 p8_r9 p8_r10 p8_r11
  simp (disch := omega) [oLt, oLe, oLtN, oLeN, nLt, nLe, nLtN, nLeN, hKl, htk, hKr, hKf, hKc, hKfl, hf, hsm, hck, hsg, hmv, rnA, hgm, hpsm, hmc, hm14, hMl, hMc, hMf, effSlcA, bnd]
  refine XZ_for (fun p : Nat × List Int × Nat × Nat × Int => mk8 l M m p.2.1 p.2.2.1 p.2.2.2.1 p.2.2.2.2 p.1) (fun p => m - p.1) (fun p => p.1 ≤ m ∧ p.2.1.length = p.1 ∧ Inv8 l p.2.1 p.2.2.1 p.2.2.2.1 p.2.2.2.2) (0, [], 0, 0, 0) ⟨by simp, by simp, ⟨fun x h => by simp at h, rfl, fun _ => by simp [rE], by simp, by simp⟩⟩ (.toS (fun s => [ida s 76]) (by simp [mk8, hMr, strB_nil])) ?_
  rintro ⟨i, w, came, inn, want⟩ ⟨hi, hwl, hinv⟩ N Q' hN hE
  simp only at hi hwl hinv ⊢
  rcases Nat.lt_or_ge i m with h | h
  · obtain ⟨x, hx, hk⟩ := hMg i (by omega)
    refine step8 hMr hx hk h (by omega) (by omega) hl7 (by have := hinv.il; omega) hinv.cl fun s' hh => ?_
    exact hN s' (i + 1, w ++ [cF x came inn l.length], _, _, _) (by simp only; omega) ⟨h, by simp [hwl], hinv.step (cF_in _ _ _ _)⟩ hh
  · obtain rfl : i = m := by omega
    have hic : ¬ (i : Int) < i := by omega
    have hws : g20 (strB w) = true := strB_small (by omega)
    clear hN
    simp only [mk8]
    delta p8_l0 p8_r12 p8_r13 p8_r14 p8_r15 p8_r16 p8_r17 p8_r18 p8_r19 p8_r20 p8_r21 p8_r22 p8_r23 p8_r24 p8_r25 p8_r26 p8_r27 p8_r28 p8_r29 p8_r30 p8_r31 p8_r32 p8_r33
    simp (disch := omega) [oLt, oLe, oLtN, oLeN, nLt, nLe, nLtN, nLeN, hic]
    refine hE _ _ _ .refl ?_
    clear hE
    rcases hinv.fin with ⟨hw, hr⟩ | ⟨hw, hh, hr⟩ | ⟨hw, h1, h2, out, hr, ho⟩
    · delta p8_r34 p8_r35 p8_r36 p8_r37 p8_r38 p8_r39 p8_r40
      simp (disch := omega) [oLt, oLe, oLtN, oLeN, nLt, nLe, nLtN, nLeN, hw, hsm, hck, hws, hr, rnA]
      exact hQ _ _ (.p (.inl rfl) (by simp) rfl)
    · subst hw
      rcases hh with hh | hh
      · have hc1 : (came : Int) < l.length := by omega
        delta p8_r34 p8_r35 p8_r36 p8_r37 p8_r38 p8_r39 p8_r40
        simp (disch := omega) [oLt, oLe, oLtN, oLeN, nLt, nLe, nLtN, nLeN, hsm, hck, hws, hr, rnA, hc1]
        exact hQ _ _ (.p (.inl rfl) (by simp) rfl)
      · have hc2 : (0 : Int) < inn := by omega
        by_cases hc : came < l.length
        · have hc1 : (came : Int) < l.length := by omega
          delta p8_r34 p8_r35 p8_r36 p8_r37 p8_r38 p8_r39 p8_r40
          simp (disch := omega) [oLt, oLe, oLtN, oLeN, nLt, nLe, nLtN, nLeN, hsm, hck, hws, hr, rnA, hc1, hc2]
          exact hQ _ _ (.p (.inl rfl) (by simp) rfl)
        · have hc1 : ¬ (came : Int) < l.length := by omega
          delta p8_r34 p8_r35 p8_r36 p8_r37 p8_r38 p8_r39 p8_r40
          simp (disch := omega) [oLt, oLe, oLtN, oLeN, nLt, nLe, nLtN, nLeN, hsm, hck, hws, hr, rnA, hc1, hc2]
          exact hQ _ _ (.p (.inl rfl) (by simp) rfl)
    · subst hw h1 h2
      have hgw := hg46 w (by rw [hr])
      have hos : small out = true := by simp [small]; omega
      delta p8_r34 p8_r35 p8_r36 p8_r37 p8_r38 p8_r39 p8_r40
      simp (disch := omega) [oLt, oLe, oLtN, oLeN, nLt, nLe, nLtN, nLeN, hsm, hck, hws, hr, rnA, hgw, hos]
      exact hQ _ _ (.p (.inl rfl) (by simp) rfl)
end
end Go.Sx.Lk
