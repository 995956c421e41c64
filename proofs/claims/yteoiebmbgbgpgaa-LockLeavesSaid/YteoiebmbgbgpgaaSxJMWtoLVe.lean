/- What functions of the lock layer return: Repeat of -1; who goes into which basin (the closure Two$1, which holds itself). No conditions. -/
import Derived.Test.YteoiebmbgbgpgaaSxJLAtoNA
import Derived.Test.YteoiebmbgbgpgaaSxJPLbtoPLt
import Derived.KernelRfl
set_option linter.unusedVariables false
set_option linter.unusedSimpArgs false
namespace Go.Sx.Lk
open Go Go.Sx Go.Proofs
section
set_option maxRecDepth 4000
set_option maxHeartbeats 4000000
/-! ### Repeat -/
def rpA (n : Nat) : AV × HL × Nat := (.ref 0 0 n 1 (some n), [(0, .cells (List.replicate n (vI (-1))))], 1)
def s84 : Sp := ⟨84, fun args h k => match args, h, k with
  | [.il [.v (.int .i64 x)] 1 false, .v (.int .i64 n)], [], 0 => if x = -1 ∧ 1 ≤ n ∧ n ≤ 7 then some (rpA n.toNat) else none
  | _, _, _ => none⟩
@[simp] theorem s84_g : s84.g = 84 := rfl
@[simp] theorem s84_f : s84.f = fun args h k => match args, h, k with
  | [.il [.v (.int .i64 x)] 1 false, .v (.int .i64 n)], [], 0 => if x = -1 ∧ 1 ≤ n ∧ n ≤ 7 then some (rpA n.toNat) else none
  | _, _, _ => none := rfl
set_option maxRecDepth 100000 in
theorem rp1 : runP tab 200 60 84 [.il [vI (-1)] 1 false, vI 1] [] 0 = some (rpA 1) := by kernel_rfl
set_option maxRecDepth 100000 in
theorem rp2 : runP tab 200 60 84 [.il [vI (-1)] 1 false, vI 2] [] 0 = some (rpA 2) := by kernel_rfl
set_option maxRecDepth 100000 in
theorem rp3 : runP tab 200 60 84 [.il [vI (-1)] 1 false, vI 3] [] 0 = some (rpA 3) := by kernel_rfl
set_option maxRecDepth 100000 in
theorem rp4 : runP tab 200 60 84 [.il [vI (-1)] 1 false, vI 4] [] 0 = some (rpA 4) := by kernel_rfl
set_option maxRecDepth 100000 in
theorem rp5 : runP tab 200 60 84 [.il [vI (-1)] 1 false, vI 5] [] 0 = some (rpA 5) := by kernel_rfl
set_option maxRecDepth 100000 in
theorem rp6 : runP tab 200 60 84 [.il [vI (-1)] 1 false, vI 6] [] 0 = some (rpA 6) := by kernel_rfl
set_option maxRecDepth 100000 in
theorem rp7 : runP tab 200 60 84 [.il [vI (-1)] 1 false, vI 7] [] 0 = some (rpA 7) := by kernel_rfl
theorem s84_ok : s84.ok Try.prog := by
  intro args h k r h' k' hh
  simp only [s84_f] at hh
  split at hh
  · rename_i x n
    split at hh
    · rename_i hc
      obtain ⟨rfl, h1, h7⟩ := hc
      obtain ⟨n, rfl⟩ := Int.eq_ofNat_of_zero_le (show 0 ≤ n by omega)
      simp only [Int.toNat_natCast] at hh
      refine runP_ok tab_ok 200 60 84 _ _ _ _ _ _ ?_
      rw [← hh]
      have : n = 1 ∨ n = 2 ∨ n = 3 ∨ n = 4 ∨ n = 5 ∨ n = 6 ∨ n = 7 := by omega
      rcases this with rfl | rfl | rfl | rfl | rfl | rfl | rfl
      · exact rp1
      · exact rp2
      · exact rp3
      · exact rp4
      · exact rp5
      · exact rp6
      · exact rp7
    · cases hh
  · cases hh
/-! ### Into which basin: the plain function -/
def ptF (L : List Nat) : Nat → Nat → Int → List Int × Bool → List Int × Bool
  | 0, _, _, s => s
  | f + 1, x, w, s => if 0 ≤ s.1.getD x 0 then (s.1, s.2 && decide (s.1.getD x 0 = w))
    else (List.range' 0 L.length).foldl (fun s y => if (L.getD x 0).testBit y = true then ptF L f y (1 - w) s else s) (s.1.set x w, s.2)
def cn (I : List Int) : Nat := I.countP (· < 0)
structure GdI (n : Nat) (I : List Int) : Prop where
  len : I.length = n
  b : ∀ v ∈ I, -1 ≤ v ∧ v ≤ 1
theorem GdI.set {n : Nat} {I : List Int} (h : GdI n I) (x : Nat) {w : Int} (hw : w = 0 ∨ w = 1) : GdI n (I.set x w) :=
  ⟨by simp [h.len], fun v hv => by
    rcases List.mem_or_eq_of_mem_set hv with hv | rfl
    · exact h.b v hv
    · omega⟩
theorem cn_set : ∀ (I : List Int) (x : Nat) (w : Int), 0 ≤ w → I.getD x 0 < 0 → cn (I.set x w) + 1 = cn I
  | [], x, w, _, h => by simp at h
  | a :: I, 0, w, hw, h => by
    have ha : a < 0 := by simpa using h
    simp only [cn, List.set_cons_zero, List.countP_cons]
    have h1 : decide (w < 0) = false := by simpa using hw
    simp [h1, ha]
  | a :: I, x + 1, w, hw, h => by
    have ih := cn_set I x w hw (by simpa using h)
    simp only [cn, List.set_cons_succ, List.countP_cons] at ih ⊢
    omega
theorem cn_le (I : List Int) : cn I ≤ I.length := List.countP_le_length
theorem foldl_inv {α β : Type} {P : β → Prop} {g : β → α → β} : ∀ (l : List α) (s : β), P s → (∀ s y, P s → P (g s y)) → P (l.foldl g s)
  | [], s, h, _ => h
  | y :: l, s, h, hg => foldl_inv l _ (hg s y h) hg
theorem ptF_inv (L : List Nat) (n : Nat) : ∀ (f x : Nat) (w : Int) (s : List Int × Bool) (c : Nat), (w = 0 ∨ w = 1) → GdI n s.1 → cn s.1 ≤ c → GdI n (ptF L f x w s).1 ∧ cn (ptF L f x w s).1 ≤ c
  | 0, x, w, s, c, hw, hs, hc => ⟨hs, hc⟩
  | f + 1, x, w, s, c, hw, hs, hc => by
    simp only [ptF]
    split
    · exact ⟨hs, hc⟩
    · rename_i hn
      refine foldl_inv (P := fun s : List Int × Bool => GdI n s.1 ∧ cn s.1 ≤ c) _ _ ⟨hs.set x hw, ?_⟩ fun s y h => ?_
      · have := cn_set s.1 x w (by omega) (by omega)
        simp only
        omega
      · split
        · exact ptF_inv L n f y (1 - w) s c (by omega) h.1 h.2
        · exact h
/-! ### The closure -/
def hp85 (b : Nat) (I : List Int) (ok : Bool) (L : List Nat) : HL := [(b, .cells [.ref (b + 1) 0 L.length 1 (some L.length)]), (b + 1, .cells (ints I)), (b + 2, .cells [vB ok]), (b + 3, .cells [.il (qws L) L.length false]), (b + 4, .cells [.fn (.func 85) [] [.ptr b 0, .ptr (b + 2) 0, .ptr (b + 3) 0, .ptr (b + 4) 0]])]
structure A85 where
  x : Nat
  w : Int
  I : List Int
  ok : Bool
  L : List Nat
def pat85 (a : A85) : List AV × HL × Nat := ([vI a.x, vI a.w, .ptr 0 0, .ptr 2 0, .ptr 3 0, .ptr 4 0], hp85 0 a.I a.ok a.L, 5)
def out85 (f : Nat) (a : A85) : AV × HL × Nat := (.tup [], hp85 0 (ptF a.L f a.x a.w (a.I, a.ok)).1 (ptF a.L f a.x a.w (a.I, a.ok)).2 a.L, 5)
structure Ok85 (f : Nat) (a : A85) : Prop where
  w : a.w = 0 ∨ a.w = 1
  x : a.x < a.L.length
  n : a.L.length ≤ 7
  I : GdI a.L.length a.I
  c : cn a.I + 1 ≤ f
  L : ∀ y ∈ a.L, y < 128
theorem qws_inj : ∀ {a b : List Nat}, qws a = qws b → a = b
  | [], [], _ => rfl
  | [], y :: b, h => by simp at h
  | x :: a, [], h => by simp at h
  | x :: a, y :: b, h => by
    simp only [qws_cons, List.cons.injEq, AV.v.injEq, Value.int.injEq, true_and] at h
    rw [Int.ofNat.inj h.1, qws_inj h.2]
theorem pat85_inj (f : Nat) (a b : A85) (h : pat85 a = pat85 b) : out85 f a = out85 f b := by
  obtain ⟨x, w, I, ok, L⟩ := a
  obtain ⟨x', w', I', ok', L'⟩ := b
  simp only [pat85, hp85, Prod.mk.injEq, List.cons.injEq, AV.v.injEq, Value.int.injEq, Value.bool.injEq, AV.il.injEq, Blk.cells.injEq, true_and, and_true] at h
  obtain ⟨⟨h1, h2⟩, h3, h6, h4, h5⟩ := h
  have e1 : x = x' := by omega
  have e2 := ints_inj h6
  have e3 := qws_inj h5.1
  subst e1 h2 h4 e2 e3
  rfl
noncomputable def f85 (f : Nat) := famF (Ok85 f) pat85 (out85 f)
noncomputable def s85 (f : Nat) : Sp := ⟨85, f85 f⟩
@[simp] theorem s85_g (f : Nat) : (s85 f).g = 85 := rfl
@[simp] theorem s85_f (f : Nat) : (s85 f).f = f85 f := rfl
theorem f85_at {f x : Nat} {w : Int} {I : List Int} {ok : Bool} {L : List Nat} (h : Ok85 f ⟨x, w, I, ok, L⟩) : f85 f [vI x, vI w, .ptr 0 0, .ptr 2 0, .ptr 3 0, .ptr 4 0] (hp85 0 I ok L) 5 = some (.tup [], hp85 0 (ptF L f x w (I, ok)).1 (ptF L f x w (I, ok)).2 L, 5) :=
  famF_at (pat85_inj f) ⟨x, w, I, ok, L⟩ h rfl
def mk85 (x : Nat) (w : Int) (I : List Int) (ok : Bool) (L : List Nat) (y : Nat) : ST := ⟨[(0, vI x), (1, vI w), (4, .ptr 3 0), (5, .ptr 4 0), (28, vI L.length), (29, vI y)], hp85 0 I ok L, 5⟩
theorem s85_ok : ∀ f, (s85 f).ok Try.prog
  | 0 => famF_ok fun a h => absurd h.c (by omega)
  | f + 1 => by
    refine famF_ok ?_
    rintro ⟨x, w, I, ok, L⟩ ⟨hw, hx, hn, hI, hc, hL⟩
    simp only at hw hx hn hI hc hL
    simp only [pat85, out85, hp_eq]
    refine P85.rz (ss := [s85 f]) ⟨s85_ok f, trivial⟩ (by simp) fun Q hQ => ?_
    have hIl := hI.len
    have hxI : x < I.length := by omega
    obtain ⟨v, hv⟩ : ∃ v, I[x]? = some v := ⟨_, List.getElem?_eq_getElem hxI⟩
    have hv' := (List.getElem?_eq_some_iff.1 hv).2
    have hvd : I.getD x 0 = v := by rw [List.getD_eq_getElem?_getD, hv]; rfl
    obtain ⟨m, hm⟩ : ∃ m, L[x]? = some m := ⟨_, List.getElem?_eq_getElem hx⟩
    have hm' := (List.getElem?_eq_some_iff.1 hm).2
    have hmd : L.getD x 0 = m := by rw [List.getD_eq_getElem?_getD, hm]; rfl
    have hm128 : m < 128 := by rw [← hm']; exact hL _ (List.getElem_mem _)
    simp only [ptF, hvd, hmd] at hQ
    by_cases h0 : 0 ≤ v
    · rw [if_pos h0] at hQ
      simp only [hp85] at hQ ⊢
      cases ok with
      | false =>
        delta p85 p85_r0 p85_r1 p85_r2 p85_r3
        simp (disch := omega) [oLt, oLe, oLtN, oLeN, nLt, nLe, nLtN, nLeN, hx, hxI, hv, hv', h0]
        exact hQ _ _ (EndsP_F (fun h => [0, 1, 2, 3, 4]) (.inl rfl) rfl (by simp))
      | true =>
        delta p85 p85_r0 p85_r1 p85_r2 p85_r3
        simp (disch := omega) [oLt, oLe, oLtN, oLeN, nLt, nLe, nLtN, nLeN, hx, hxI, hv, hv', h0]
        exact hQ _ _ (EndsP_F (fun h => [0, 1, 2, 3, 4]) (.inl rfl) rfl (by simp; rfl))
    · rw [if_neg h0] at hQ
      have hcs := cn_set I x w (by omega) (by omega)
      have hIs := hI.set x hw
      have hst : I.set x w = I.set x w := rfl
      simp only [hp85]
      delta p85 p85_r0 p85_r1 p85_r2 p85_r3
      simp (disch := omega) [oLt, oLe, oLtN, oLeN, nLt, nLe, nLtN, nLeN, hx, hxI, hv, hv', h0]
      refine XZ_for (fun p : Nat × List Int × Bool => mk85 x w p.2.1 p.2.2 L p.1) (fun p => L.length - p.1) (fun p => p.1 ≤ L.length ∧ GdI L.length p.2.1 ∧ cn p.2.1 + 1 ≤ f ∧ (List.range' p.1 (L.length - p.1)).foldl (fun s y => if m.testBit y = true then ptF L f y (1 - w) s else s) p.2 = (List.range' 0 L.length).foldl (fun s y => if m.testBit y = true then ptF L f y (1 - w) s else s) (I.set x w, ok)) (0, I.set x w, ok) ⟨by simp, hIs, by simp only; omega, by simp⟩ (.toS (fun s => [0, 1, 2, 3, 4]) (by simp [mk85, hp85])) ?_
      rintro ⟨y, J, o⟩ ⟨hy, hJ, hcJ, hinv⟩ N Q' hN hE
      simp only at hy hJ hcJ hinv
      rcases Nat.lt_or_ge y L.length with h | h
      · have hyc : (y : Int) < L.length := by omega
        rw [show L.length - y = (L.length - (y + 1)) + 1 by omega, List.range'_succ, List.foldl_cons] at hinv
        have fin : ∀ J' o', GdI L.length J' → cn J' + 1 ≤ f → (List.range' (y + 1) (L.length - (y + 1))).foldl (fun s y => if m.testBit y = true then ptF L f y (1 - w) s else s) (J', o') = (List.range' 0 L.length).foldl (fun s y => if m.testBit y = true then ptF L f y (1 - w) s else s) (I.set x w, ok) → ∀ s', ChgT 5 s' (mk85 x w J' o' L (y + 1)) → N s' := fun J' o' h1 h2 h3 s' hh => hN s' (y + 1, J', o') (by simp only; omega) ⟨h, h1, h2, h3⟩ hh
        clear hN hE hQ
        have hbit := bit_at m y
        have hdl : m / 2 ^ y ≤ m := Nat.div_le_self _ _
        have hand := fun p q => and64 p q (a := m / 2 ^ y) (by omega)
        by_cases hb : m.testBit y = true
        · rw [if_pos hb] at hinv
          have hbc : ((m / 2 ^ y % 2 : Nat) : Int) = 1 := by have := hbit.2 hb; omega
          have hbn : m / 2 ^ y % 2 = 1 := hbit.2 hb
          have hcall := f85_at (f := f) (x := y) (w := 1 - w) (I := J) (ok := o) (L := L) ⟨by simp only; omega, h, hn, hJ, hcJ, hL⟩
          have hpi := ptF_inv L L.length f y (1 - w) (J, o) (cn J) (by omega) hJ (Nat.le_refl _)
          have fin := fin _ _ hpi.1 (Nat.le_trans (Nat.succ_le_succ hpi.2) hcJ) hinv
          generalize ptF L f y (1 - w) (J, o) = q at *
          obtain ⟨J', o'⟩ := q
          simp only [mk85, hp85] at fin hcall ⊢
          delta p85_l0 p85_r4 p85_r5 p85_r6 p85_r7 p85_r8
          simp (disch := omega) [oLt, oLe, oLtN, oLeN, nLt, nLe, nLtN, nLeN, hyc, h, hx, hm, hm', shr64, hand, SOp.eff, hbn, hcall]
          exact fin _ (.toS (fun s => [0, 1, 2, 3, 4]) (by simp))
        · rw [if_neg hb] at hinv
          have hbn : ¬ m / 2 ^ y % 2 = 1 := fun e => hb (hbit.1 e)
          have hbz : m / 2 ^ y % 2 = 0 := by omega
          have fin := fin _ _ hJ hcJ hinv
          simp only [mk85, hp85] at fin ⊢
          delta p85_l0 p85_r4 p85_r5 p85_r6 p85_r7 p85_r8
          simp (disch := omega) [oLt, oLe, oLtN, oLeN, nLt, nLe, nLtN, nLeN, hyc, h, hx, hm, hm', shr64, hand, SOp.eff, hbz]
          exact fin _ (.toS (fun s => [0, 1, 2, 3, 4]) (by simp))
      · obtain rfl : y = L.length := by omega
        have hyc : ¬ (L.length : Int) < L.length := by omega
        rw [Nat.sub_self] at hinv
        simp only [List.range'_zero, List.foldl_nil] at hinv
        rw [← hinv] at hQ
        simp only [mk85, hp85] at hQ ⊢
        clear hN
        delta p85_l0 p85_r4 p85_r5 p85_r6 p85_r7 p85_r8
        simp (disch := omega) [oLt, oLe, oLtN, oLeN, nLt, nLe, nLtN, nLeN, hyc]
        refine hE _ _ _ .refl ?_
        simp (disch := omega) [oLt, oLe, oLtN, oLeN, nLt, nLe, nLtN, nLeN]
        exact hQ _ _ (EndsP_F (fun h => [0, 1, 2, 3, 4]) (.inr rfl) rfl (by simp))
end
section
set_option maxRecDepth 4000
set_option maxHeartbeats 4000000
def stpT (L : List Nat) (x : Nat) (s : List Int × Bool) : List Int × Bool := if s.1.getD x 0 < 0 then ptF L 8 x 0 s else s
def twR (L : List Nat) : List Int → List Int × Bool → List Int → (List Int × Bool) × List Int
  | [], s, out => (s, out)
  | x :: r, s, out => twR L r (stpT L x.toNat s) (out ++ [(stpT L x.toNat s).1.getD x.toNat 0])
def twF (l : List Int) : (List Int × Bool) × List Int := twR (clF l) l (List.replicate l.length (-1), true) []
theorem stpT_inv {L : List Nat} {n x : Nat} {s : List Int × Bool} (h : GdI n s.1) : GdI n (stpT L x s).1 := by
  unfold stpT
  split
  · exact (ptF_inv L n 8 x 0 s _ (.inl rfl) h (Nat.le_refl _)).1
  · exact h
theorem twR_len (L : List Nat) : ∀ (l : List Int) (s : List Int × Bool) (out : List Int), (twR L l s out).2.length = out.length + l.length
  | [], s, out => rfl
  | x :: r, s, out => by simp only [twR]; rw [twR_len L r]; simp; omega
theorem twF_len (l : List Int) : (twF l).2.length = l.length := by rw [twF, twR_len]; simp
def viaFn (h : HL) (i c : Nat) : Nat := match hpF h i with
  | some (.cells (.fn _ _ cs :: _)) => idOf (cs.getD c .any)
  | _ => 0
attribute [simp] viaFn
def mk39 (l : List Int) (u : Bool) (I : List Int) (ok : Bool) (L : List Nat) (out : List Int) (i : Nat) : ST :=
  ⟨[(6, .ptr 0 0), (7, .ptr 2 0), (8, .ptr 4 0), (9, outA 5 out), (24, .il (ints l) l.length u), (25, vI l.length), (26, vI i)], hp85 0 I ok L ++ outH 5 out, 5 + outK out⟩
theorem neg_row (n : Nat) : List.replicate n (vI (-1)) = ints (List.replicate n (-1)) := by simp [ints]
@[simp] theorem s84_at {n : Nat} (h1 : 1 ≤ n) (h7 : n ≤ 7) : s84.f [.il [vI (-1)] 1 false, vI n] [] 0 = some (.ref 0 0 n 1 (some n), [(0, .cells (ints (List.replicate n (-1))))], 1) := by
  have h1' : (1 : Int) ≤ n := by omega
  have h7' : (n : Int) ≤ 7 := by omega
  simp only [s84_f]
  simp only [h1', h7', and_self, if_true]
  simp [rpA, neg_row]
def s39 : Sp := spT 39 [.l] fun (l : List Int) => res (small l) (if chkF l = 0 then (if (twF l).1.2 = true then .tup [.il (ints (twF l).2) (twF l).2.length false, vI 0] else .tup [.il [] 0 false, vI 12]) else .tup [.il [] 0 false, vI (chkF l)])
@[simp] theorem s39_g : s39.g = 39 := rfl
@[simp] theorem s39_f : s39.f = (spT 39 [.l] fun (l : List Int) => res (small l) (if chkF l = 0 then (if (twF l).1.2 = true then .tup [.il (ints (twF l).2) (twF l).2.length false, vI 0] else .tup [.il [] 0 false, vI 12]) else .tup [.il [] 0 false, vI (chkF l)])).f := rfl
theorem s39_ok : s39.ok Try.prog := by
  apply spT_ok
  simp only [OkT, Ty.all, List.nil_append, List.cons_append]
  intro (l : List Int) u
  apply okT_res; intro hg
  refine P39.rz (ss := [s23, s82, s84, s85 8]) ⟨s23_ok, s82_ok, s84_ok, s85_ok 8, trivial⟩ (by simp) fun Q hQ => ?_
  delta p39 p39_r0 p39_r1 p39_r2 p39_r3 p39_r4 p39_r5 p39_r6 p39_r7 p39_r8 p39_r9 p39_r10
  by_cases hck : chkF l = 0
  rotate_left
  · rw [if_neg hck] at hQ
    simp (disch := omega) [oLt, oLe, oLtN, oLeN, nLt, nLe, nLtN, nLeN, hg, hck]
    exact hQ _ _ (.fz [2, 3] _ (.inl rfl) (by simp; rfl) (by simp) (by simp))
  rw [if_pos hck] at hQ
  obtain ⟨hl0, hl7⟩ := chkF_len hck
  have hat := chk_at hck
  have hgd := clF_gd hck
  have h84 := s84_at (n := l.length) (by omega) hl7
  have hLl := hgd.len
  obtain ⟨L, hL⟩ : ∃ L, clF l = L := ⟨_, rfl⟩
  have htw : twF l = twR L l (List.replicate l.length (-1), true) [] := by rw [← hL]; rfl
  have htl := twF_len l
  rw [hL] at hgd hLl
  simp only [← hLl] at h84
  simp (disch := omega) [oLt, oLe, oLtN, oLeN, nLt, nLe, nLtN, nLeN, hg, hck, hL, h84, effMkfn, hLl]
  refine XZ_for (fun p : Nat × List Int × Bool × List Int => mk39 l u p.2.1 p.2.2.1 L p.2.2.2 p.1) (fun p => l.length - p.1) (fun p => p.1 ≤ l.length ∧ GdI l.length p.2.1 ∧ p.2.2.2.length = p.1 ∧ twR L (l.drop p.1) (p.2.1, p.2.2.1) p.2.2.2 = twF l) (0, List.replicate l.length (-1), true, []) ⟨by simp, ⟨by simp, fun v hv => by rw [List.eq_of_mem_replicate hv]; omega⟩, rfl, htw.symm⟩ (.toS (fun s => [ida s 6, via s.heap (ida s 6), ida s 7, viaFn s.heap (ida s 8) 2, ida s 8]) (by simp [mk39, hp85, hLl])) ?_
  rintro ⟨i, I, ok, out⟩ ⟨hi, hI, hol, hinv⟩ N Q' hN hE
  simp only at hi hI hol hinv
  simp only [mk39]
  rcases Nat.lt_or_ge i l.length with h | h
  · have hic : (i : Int) < l.length := by omega
    obtain ⟨x', r, e1, e2, e3, e4, e5⟩ := drop_split h
    obtain ⟨x, rfl, hxl⟩ := hat i x' e2
    rw [e1, twR, Int.toNat_natCast] at hinv
    have hst := stpT_inv (L := L) (x := x) (s := (I, ok)) hI
    have fin : ∀ J o v, (J, o) = stpT L x (I, ok) → J[x]? = some v → ∀ s', ChgT 0 s' (mk39 l u J o L (out ++ [v]) (i + 1)) → N s' := fun J o v h1 h2 s' hh => hN s' (i + 1, J, o, out ++ [v]) (by simp only; omega) ⟨h, by simp only; rw [← h1] at hst; exact hst, by simp [hol], by
      rw [← h1] at hinv
      simp only [List.getD_eq_getElem?_getD, h2, Option.getD_some] at hinv
      simp only [e4]; exact hinv⟩ hh
    clear hN hE hQ hinv
    have hIl := hI.len
    have hxI : x < I.length := by omega
    have hxL : x < L.length := by omega
    obtain ⟨v, hv⟩ : ∃ v, I[x]? = some v := ⟨_, List.getElem?_eq_getElem hxI⟩
    have hv' := (List.getElem?_eq_some_iff.1 hv).2
    have hvd : I.getD x 0 = v := by rw [List.getD_eq_getElem?_getD, hv]; rfl
    by_cases hneg : v < 0
    · have hstp : stpT L x (I, ok) = ptF L 8 x 0 (I, ok) := by unfold stpT; rw [if_pos (by simp only; omega)]
      have hcn := cn_le I
      have hcall := f85_at (f := 8) (x := x) (w := 0) (I := I) (ok := ok) (L := L) ⟨.inl rfl, hxL, by simp only; omega, by rw [hLl]; exact hI, by simp only; omega, hgd.lt⟩
      rw [hstp] at fin hst
      generalize ptF L 8 x 0 (I, ok) = q at *
      obtain ⟨J, o⟩ := q
      have hJl := hst.len
      simp only at hJl
      have hxJ : x < J.length := by omega
      obtain ⟨w, hw⟩ : ∃ w, J[x]? = some w := ⟨_, List.getElem?_eq_getElem hxJ⟩
      have hw' := (List.getElem?_eq_some_iff.1 hw).2
      have fin := fin J o w rfl hw
      cases out with
      | nil =>
        simp only [mk39, hp85, outA_nil, outH_nil, outK_nil, List.nil_append, outA_cons, outH_cons, outK_cons] at fin hcall ⊢
        delta p39_l0 p39_r11 p39_r12 p39_r13 p39_r14 p39_r15 p39_r16
        simp (disch := omega) [oLt, oLe, oLtN, oLeN, nLt, nLe, nLtN, nLeN, hic, e2, e3, h, hxL, hxI, hv, hv', hneg, hcall, hw, hw', hxJ]
        exact fin _ (.toS (fun s => [ida s 6, via s.heap (ida s 6), ida s 7, viaFn s.heap (ida s 8) 2, ida s 8, ida s 9]) (by simp))
      | cons y o' =>
        have hol7 : o'.length ≤ 7 := by simp at hol; omega
        simp only [mk39, hp85, outA_cons, outH_cons, outK_cons, List.cons_append] at fin hcall ⊢
        delta p39_l0 p39_r11 p39_r12 p39_r13 p39_r14 p39_r15 p39_r16
        simp (disch := omega) [oLt, oLe, oLtN, oLeN, nLt, nLe, nLtN, nLeN, hic, e2, e3, h, hxL, hxI, hv, hv', hneg, hcall, hw, hw', hxJ, hol7]
        exact fin _ (.toS (fun s => [ida s 6, via s.heap (ida s 6), ida s 7, viaFn s.heap (ida s 8) 2, ida s 8, ida s 9]) (by simp))
    · have hstp : stpT L x (I, ok) = (I, ok) := by unfold stpT; rw [if_neg (by simp only; omega)]
      have fin := fin I ok v hstp.symm hv
      cases out with
      | nil =>
        simp only [mk39, hp85, outA_nil, outH_nil, outK_nil, List.nil_append, outA_cons, outH_cons, outK_cons] at fin ⊢
        delta p39_l0 p39_r11 p39_r12 p39_r13 p39_r14 p39_r15 p39_r16
        simp (disch := omega) [oLt, oLe, oLtN, oLeN, nLt, nLe, nLtN, nLeN, hic, e2, e3, h, hxL, hxI, hv, hv', hneg]
        exact fin _ (.toS (fun s => [ida s 6, via s.heap (ida s 6), ida s 7, viaFn s.heap (ida s 8) 2, ida s 8, ida s 9]) (by simp))
      | cons y o' =>
        have hol7 : o'.length ≤ 7 := by simp at hol; omega
        simp only [mk39, hp85, outA_cons, outH_cons, outK_cons, List.cons_append] at fin ⊢
        delta p39_l0 p39_r11 p39_r12 p39_r13 p39_r14 p39_r15 p39_r16
        simp (disch := omega) [oLt, oLe, oLtN, oLeN, nLt, nLe, nLtN, nLeN, hic, e2, e3, h, hxL, hxI, hv, hv', hneg, hol7]
        exact fin _ (.toS (fun s => [ida s 6, via s.heap (ida s 6), ida s 7, viaFn s.heap (ida s 8) 2, ida s 8, ida s 9]) (by simp))
  · obtain rfl : i = l.length := by omega
    have hic : ¬ (l.length : Int) < l.length := by omega
    rw [List.drop_eq_nil_of_le (Nat.le_refl _)] at hinv
    simp only [twR] at hinv
    rw [← hinv] at hQ
    simp only at hQ
    cases out with
    | nil => simp at hol; omega
    | cons y o' =>
      have hos : (ints (y :: o')).take (o'.length + 1) = ints (y :: o') := List.take_of_length_le (by simp)
      simp only [hp85, outA_cons, outH_cons, outK_cons, List.cons_append]
      cases ok with
      | true =>
        rw [if_pos rfl] at hQ
        delta p39_l0 p39_r11 p39_r12 p39_r13 p39_r14 p39_r15 p39_r16
        simp (disch := omega) [oLt, oLe, oLtN, oLeN, nLt, nLe, nLtN, nLeN, hic]
        refine hE _ _ _ .refl ?_
        delta p39_r17 p39_r18 p39_r19
        simp (disch := omega) [oLt, oLe, oLtN, oLeN, nLt, nLe, nLtN, nLeN]
        exact hQ _ _ (.fz [2, 3] _ (.inl rfl) (by simp; rfl) (by simp) (by simp))
      | false =>
        rw [if_neg (by simp)] at hQ
        delta p39_l0 p39_r11 p39_r12 p39_r13 p39_r14 p39_r15 p39_r16
        simp (disch := omega) [oLt, oLe, oLtN, oLeN, nLt, nLe, nLtN, nLeN, hic]
        refine hE _ _ _ .refl ?_
        delta p39_r17 p39_r18 p39_r19
        simp (disch := omega) [oLt, oLe, oLtN, oLeN, nLt, nLe, nLtN, nLeN]
        exact hQ _ _ (.fz [2, 3] _ (.inl rfl) (by simp; rfl) (by simp) (by simp))
end
section
set_option maxRecDepth 4000
/-! ### Trying -/
def fre (adj : Int → Int → Bool) (past : List (Int × Int)) (k x : Int) : Bool := past.all fun p => !(decide (p.2 = x) && adj p.1 k)
def bt (adj : Int → Int → Bool) : List Int → List (Int × Int) → Option (List Int)
  | [], past => some (past.reverse.map Prod.snd)
  | k :: r, past => match (if fre adj past k 0 = true then bt adj r ((k, 0) :: past) else none) with
    | some c => some c
    | none => if fre adj past k 1 = true then bt adj r ((k, 1) :: past) else none
def okx (adj : Int → Int → Bool) : List (Int × Int) → List Int → List Int → Prop
  | _, [], [] => True
  | past, k :: r, x :: xs => fre adj past k x = true ∧ (x = 0 ∨ x = 1) ∧ okx adj ((k, x) :: past) r xs
  | _, _, _ => False
def lexLe : List Int → List Int → Prop
  | [], _ => True
  | _ :: _, [] => False
  | x :: xs, y :: ys => x < y ∨ (x = y ∧ lexLe xs ys)
theorem bt_spec (adj : Int → Int → Bool) : ∀ (rest : List Int) (past : List (Int × Int)),
    (∀ c, bt adj rest past = some c → ∃ xs, c = past.reverse.map Prod.snd ++ xs ∧ okx adj past rest xs ∧ ∀ ys, okx adj past rest ys → lexLe xs ys) ∧ (bt adj rest past = none → ∀ ys, ¬ okx adj past rest ys)
  | [], past => ⟨fun c h => by
      simp only [bt, Option.some.injEq] at h
      exact ⟨[], by simp [h], trivial, fun ys _ => trivial⟩, fun h => by simp [bt] at h⟩
  | k :: r, past => by
    have h0 := bt_spec adj r ((k, 0) :: past)
    have h1 := bt_spec adj r ((k, 1) :: past)
    have none0 : (if fre adj past k 0 = true then bt adj r ((k, 0) :: past) else none) = none → ∀ xs, ¬ okx adj past (k :: r) (0 :: xs) := fun h xs ⟨hf, _, hx⟩ => by
      rw [if_pos hf] at h; exact h0.2 h xs hx
    have none1 : (if fre adj past k 1 = true then bt adj r ((k, 1) :: past) else none) = none → ∀ xs, ¬ okx adj past (k :: r) (1 :: xs) := fun h xs ⟨hf, _, hx⟩ => by
      rw [if_pos hf] at h; exact h1.2 h xs hx
    refine ⟨fun c hc => ?_, fun hc ys hy => ?_⟩
    · simp only [bt] at hc
      split at hc
      · rename_i c0 hc0
        cases hc
        split at hc0
        · rename_i hf
          obtain ⟨xs, e1, e2, e3⟩ := h0.1 _ hc0
          refine ⟨0 :: xs, by rw [e1]; simp, ⟨hf, .inl rfl, e2⟩, fun ys hy => ?_⟩
          cases ys with
          | nil => exact hy.elim
          | cons y ys =>
            obtain ⟨q1, q2, q3⟩ := hy
            rcases q2 with rfl | rfl
            · exact .inr ⟨rfl, e3 ys q3⟩
            · exact .inl (by omega)
        · cases hc0
      · rename_i hc0
        split at hc
        · rename_i hf
          obtain ⟨xs, e1, e2, e3⟩ := h1.1 _ hc
          refine ⟨1 :: xs, by rw [e1]; simp, ⟨hf, .inr rfl, e2⟩, fun ys hy => ?_⟩
          cases ys with
          | nil => exact hy.elim
          | cons y ys =>
            have hy' := hy
            obtain ⟨q1, q2, q3⟩ := hy
            rcases q2 with rfl | rfl
            · exact absurd hy' (none0 hc0 ys)
            · exact .inr ⟨rfl, e3 ys q3⟩
        · cases hc
    · simp only [bt] at hc
      split at hc
      · cases hc
      · rename_i hc0
        cases ys with
        | nil => exact hy.elim
        | cons y ys =>
          have hy' := hy
          obtain ⟨q1, q2, q3⟩ := hy
          rcases q2 with rfl | rfl
          · exact none0 hc0 ys hy'
          · exact none1 hc ys hy'
def Apt (adj : Int → Int → Bool) (p q : Int × Int) : Prop := ¬ (p.2 = q.2 ∧ (adj p.1 q.1 = true ∨ adj q.1 p.1 = true))
theorem Apt.symm {adj : Int → Int → Bool} {p q : Int × Int} (h : Apt adj p q) : Apt adj q p := fun ⟨h1, h2⟩ => h ⟨h1.symm, h2.symm⟩
/-! ### By small numbers -/
def mnN : Nat → List Nat → Nat
  | m, [] => m
  | m, y :: r => mnN (cond (Nat.blt y m) y m) r
theorem mnN_eq : ∀ (l : List Nat) (m : Nat), mnR m (zs l) = mnN m l
  | [], m => rfl
  | y :: r, m => by
    simp only [zs_cons, mnR, mnN]
    by_cases h : y < m
    · rw [if_pos (by omega), blt_iff.2 h]; exact mnN_eq r y
    · have hb' : Nat.blt y m = false := by
        cases h' : Nat.blt y m
        · rfl
        · exact absurd (blt_iff.1 h') h
      rw [if_neg (by omega), hb']; exact mnN_eq r m
def clIN (a : Nat) : List Nat → List Nat → List Nat
  | [], M => M
  | b :: r, M => clIN a r (cond (Nat.blt a b && Nat.blt (mnN b r) a) (setB (setB M a b) b a) M)
def clON : List Nat → List Nat → List Nat
  | [], M => M
  | a :: r, M => clON r (clIN a r M)
def clN (m : List Nat) : List Nat := clON m (List.replicate m.length 0)
theorem clIN_eq (a : Nat) : ∀ (r M : List Nat), clI a (zs r) M = clIN a r M
  | [], M => rfl
  | b :: r, M => by
    simp only [zs_cons, clI, clIN, mnL, mnN_eq, Int.toNat_natCast]
    rw [clIN_eq a r]
    congr 1
    by_cases h : a < b ∧ mnN b r < a
    · rw [if_pos (by omega), blt_iff.2 h.1, blt_iff.2 h.2]; rfl
    · rw [if_neg (by omega)]
      have : (Nat.blt a b && Nat.blt (mnN b r) a) = false := by
        rw [Bool.and_eq_false_iff]
        by_cases h1 : a < b
        · right
          cases h' : Nat.blt (mnN b r) a
          · rfl
          · exact absurd ⟨h1, blt_iff.1 h'⟩ h
        · left
          cases h' : Nat.blt a b
          · rfl
          · exact absurd (blt_iff.1 h') h1
      rw [this]; rfl
theorem clON_eq : ∀ (r M : List Nat), clO (zs r) M = clON r M
  | [], M => rfl
  | a :: r, M => by simp only [zs_cons, clO, clON, clIN_eq, clON_eq r]
theorem clN_eq (m : List Nat) : clF (zs m) = clN m := by unfold clF clN; rw [clON_eq, zs_len]
def dec (n : Nat) : Int := (n : Int) - 1
theorem dec_get (J : List Nat) (x : Nat) : (J.map dec).getD x 0 = dec (J.getD x 1) := by
  rw [List.getD_eq_getElem?_getD, List.getD_eq_getElem?_getD, List.getElem?_map]
  cases J[x]? <;> rfl
def ptN (L ys : List Nat) : Nat → Nat → Nat → List Nat × Bool → List Nat × Bool
  | 0, _, _, s => s
  | f + 1, x, w, s => match s.1.getD x 1 with
    | 0 => ys.foldl (fun s y => cond ((L.getD x 0).testBit y) (ptN L ys f y (3 - w) s) s) (s.1.set x w, s.2)
    | v + 1 => (s.1, s.2 && Nat.beq (v + 1) w)
def decS (s : List Nat × Bool) : List Int × Bool := (s.1.map dec, s.2)
theorem ptN_eq (L : List Nat) : ∀ (f x w : Nat) (s : List Nat × Bool), (w = 1 ∨ w = 2) → ptF L f x (dec w) (decS s) = decS (ptN L (List.range' 0 L.length) f x w s)
  | 0, x, w, s, hw => rfl
  | f + 1, x, w, s, hw => by
    simp only [ptF, ptN, decS, dec_get]
    cases hv : s.1.getD x 1 with
    | zero =>
      rw [if_neg (by simp [dec])]
      simp only
      have hset : (s.1.map dec).set x (dec w) = (s.1.set x w).map dec := by rw [List.map_set]
      rw [hset]
      have : ∀ (ys : List Nat) (t : List Nat × Bool), ys.foldl (fun s y => if (L.getD x 0).testBit y = true then ptF L f y (1 - dec w) s else s) (decS t) = decS (ys.foldl (fun s y => cond ((L.getD x 0).testBit y) (ptN L (List.range' 0 L.length) f y (3 - w) s) s) t) := by
        intro ys
        induction ys with
        | nil => intro t; rfl
        | cons y ys ih =>
          intro t
          simp only [List.foldl_cons]
          cases hb : (L.getD x 0).testBit y with
          | true =>
            have e1 : ptF L f y (1 - dec w) (decS t) = decS (ptN L (List.range' 0 L.length) f y (3 - w) t) := by
              rw [show 1 - dec w = dec (3 - w) by unfold dec; omega]
              exact ptN_eq L f y (3 - w) t (by omega)
            rw [if_pos rfl, e1]
            exact ih _
          | false =>
            rw [if_neg (by simp)]
            exact ih t
      exact this _ (s.1.set x w, s.2)
    | succ v =>
      rw [if_pos (by unfold dec; omega)]
      simp only
      congr 2
      rw [Bool.eq_iff_iff, decide_eq_true_eq, Nat.beq_eq]
      unfold dec; omega
def stpN (L ys : List Nat) (x : Nat) (s : List Nat × Bool) : List Nat × Bool := match s.1.getD x 1 with
  | 0 => ptN L ys 8 x 1 s
  | _ + 1 => s
theorem stpN_eq (L : List Nat) (x : Nat) (s : List Nat × Bool) : stpT L x (decS s) = decS (stpN L (List.range' 0 L.length) x s) := by
  unfold stpT stpN
  have e : (decS s).1.getD x 0 = dec (s.1.getD x 1) := dec_get _ _
  rw [e]
  cases hv : s.1.getD x 1 with
  | zero =>
    rw [if_pos (by simp [dec])]
    exact ptN_eq L 8 x 1 s (.inl rfl)
  | succ v => rw [if_neg (by unfold dec; omega)]
def twRN (L ys : List Nat) : List Nat → List Nat × Bool → List Nat → (List Nat × Bool) × List Nat
  | [], s, out => (s, out)
  | x :: r, s, out => match stpN L ys x s with
    | t => twRN L ys r t (out ++ [t.1.getD x 1])
theorem twRN_eq (L : List Nat) : ∀ (l : List Nat) (s : List Nat × Bool) (out : List Nat), twR L (zs l) (decS s) (out.map dec) = (decS (twRN L (List.range' 0 L.length) l s out).1, (twRN L (List.range' 0 L.length) l s out).2.map dec)
  | [], s, out => rfl
  | x :: r, s, out => by
    simp only [zs_cons, twR, twRN, Int.toNat_natCast, stpN_eq]
    have e : (decS (stpN L (List.range' 0 L.length) x s)).1.getD x 0 = dec ((stpN L (List.range' 0 L.length) x s).1.getD x 1) := dec_get _ _
    rw [e, show out.map dec ++ [dec ((stpN L (List.range' 0 L.length) x s).1.getD x 1)] = (out ++ [(stpN L (List.range' 0 L.length) x s).1.getD x 1]).map dec by simp]
    exact twRN_eq L r _ _
def twN (L m : List Nat) : (List Nat × Bool) × List Nat := twRN L (List.range' 0 m.length) m (List.replicate m.length 0, true) []
theorem clON_len : ∀ (r M : List Nat), (clON r M).length = M.length
  | [], M => rfl
  | a :: r, M => by rw [clON, clON_len r, ← clIN_eq, clI_len]
theorem clN_len (m : List Nat) : (clN m).length = m.length := by unfold clN; rw [clON_len]; simp
theorem twN_eq (m : List Nat) : twF (zs m) = (decS (twN (clN m) m).1, (twN (clN m) m).2.map dec) := by
  unfold twF twN
  rw [clN_eq]
  have := twRN_eq (clN m) m (List.replicate m.length 0, true) []
  rw [clN_len] at this
  rw [← this]
  simp [decS, dec]
def freN (L : List Nat) (past : List (Nat × Nat)) (k x : Nat) : Bool := past.all fun p => !(Nat.beq p.2 x && (L.getD p.1 0).testBit k)
def btN (L : List Nat) : List Nat → List (Nat × Nat) → Option (List Nat)
  | [], past => some (past.reverse.map Prod.snd)
  | k :: r, past => match cond (freN L past k 0) (btN L r ((k, 0) :: past)) none with
    | some c => some c
    | none => cond (freN L past k 1) (btN L r ((k, 1) :: past)) none
def adjF (l : List Int) (a b : Int) : Bool := ((clF l).getD a.toNat 0).testBit b.toNat
def adjL (L : List Nat) (a b : Int) : Bool := (L.getD a.toNat 0).testBit b.toNat
def zp (p : Nat × Nat) : Int × Int := ((p.1 : Int), (p.2 : Int))
theorem zp_eq (p : Nat × Nat) (x : Nat) : decide ((zp p).2 = (x : Int)) = Nat.beq p.2 x := by
  rw [Bool.eq_iff_iff, decide_eq_true_eq, Nat.beq_eq]
  simp only [zp]; omega
theorem freN_eq (L : List Nat) (past : List (Nat × Nat)) (k x : Nat) : fre (adjL L) (past.map zp) k x = freN L past k x := by
  unfold fre freN
  rw [List.all_map]
  congr 1
  funext p
  show (!(decide ((zp p).2 = (x : Int)) && adjL L (zp p).1 k)) = _
  rw [zp_eq]
  rfl
theorem btN_eq (L : List Nat) : ∀ (l : List Nat) (past : List (Nat × Nat)), bt (adjL L) (zs l) (past.map zp) = (btN L l past).map zs
  | [], past => by
    simp [bt, btN, zs, zp, ← List.map_reverse, Function.comp_def]
  | k :: r, past => by
    have h0 := freN_eq L past k 0
    have h1 := freN_eq L past k 1
    have i0 := btN_eq L r ((k, 0) :: past)
    have i1 := btN_eq L r ((k, 1) :: past)
    simp only [List.map_cons, zp, Int.natCast_zero, Int.natCast_one] at i0 i1 h0 h1
    simp only [zs_cons, bt, btN]
    rw [h0, h1, i0, i1]
    cases freN L past k 0 with
    | true =>
      simp only [if_true, cond_true]
      cases btN L r ((k, 0) :: past) with
      | some c => rfl
      | none =>
        simp only [Option.map_none]
        cases freN L past k 1 <;> rfl
    | false =>
      simp only [Bool.false_eq_true, if_false, cond_false]
      cases freN L past k 1 <;> rfl
def cktw : (List Nat × Bool) × List Nat → Option (List Nat) → Bool
  | ((_, ok), out), some c => ok && eqN out (c.map Nat.succ)
  | ((_, ok), _), none => !ok
def eqBt : Bool → Bool → Bool
  | true, b => b
  | false, b => !b
theorem eqBt_eq : ∀ {a b : Bool}, eqBt a b = true → a = b
  | true, true, _ => rfl
  | false, false, _ => rfl
def ckt1 (L m : List Nat) : Bool := cktw (twN L m) (btN L m []) && eqBt (srtN (psdN m)) (L.all (Nat.beq 0))
def ckt (m : List Nat) : Bool := ckt1 (clN m) m
end
section
set_option maxRecDepth 100000
theorem kt0 : (perN 0).all ckt = true := by kernel_rfl
theorem kt1 : (perN 1).all ckt = true := by kernel_rfl
theorem kt2 : (perN 2).all ckt = true := by kernel_rfl
theorem kt3 : (perN 3).all ckt = true := by kernel_rfl
theorem kt4 : (perN 4).all ckt = true := by kernel_rfl
theorem kt5 : (perN 5).all ckt = true := by kernel_rfl
theorem kt6 : (perN 6).all ckt = true := by kernel_rfl
theorem kt70 : (allN 6 [1, 2, 3, 4, 5, 6] [0]).all ckt = true := by kernel_rfl
theorem kt71 : (allN 6 [0, 2, 3, 4, 5, 6] [1]).all ckt = true := by kernel_rfl
theorem kt72 : (allN 6 [0, 1, 3, 4, 5, 6] [2]).all ckt = true := by kernel_rfl
end
section
set_option maxRecDepth 100000
theorem kt73 : (allN 6 [0, 1, 2, 4, 5, 6] [3]).all ckt = true := by kernel_rfl
theorem kt74 : (allN 6 [0, 1, 2, 3, 5, 6] [4]).all ckt = true := by kernel_rfl
theorem kt75 : (allN 6 [0, 1, 2, 3, 4, 6] [5]).all ckt = true := by kernel_rfl
theorem kt76 : (allN 6 [0, 1, 2, 3, 4, 5] [6]).all ckt = true := by kernel_rfl
end
section
set_option maxRecDepth 100000
theorem per7 {p : List Nat → Bool} (h0 : (allN 6 [1, 2, 3, 4, 5, 6] [0]).all p = true) (h1 : (allN 6 [0, 2, 3, 4, 5, 6] [1]).all p = true) (h2 : (allN 6 [0, 1, 3, 4, 5, 6] [2]).all p = true) (h3 : (allN 6 [0, 1, 2, 4, 5, 6] [3]).all p = true)
    (h4 : (allN 6 [0, 1, 2, 3, 5, 6] [4]).all p = true) (h5 : (allN 6 [0, 1, 2, 3, 4, 6] [5]).all p = true) (h6 : (allN 6 [0, 1, 2, 3, 4, 5] [6]).all p = true) : (perN 7).all p = true := by
  have e : perN 7 = (List.range 7).flatMap fun k => allN 6 ((List.range 7).eraseIdx k) ([] ++ [(List.range 7).getD k 0]) := rfl
  rw [e, List.all_flatMap, List.all_eq_true]
  intro k hk
  have hk' : k < 7 := List.mem_range.1 hk
  have : k = 0 ∨ k = 1 ∨ k = 2 ∨ k = 3 ∨ k = 4 ∨ k = 5 ∨ k = 6 := by omega
  rcases this with rfl | rfl | rfl | rfl | rfl | rfl | rfl
  · exact h0
  · exact h1
  · exact h2
  · exact h3
  · exact h4
  · exact h5
  · exact h6
end
end Go.Sx.Lk
