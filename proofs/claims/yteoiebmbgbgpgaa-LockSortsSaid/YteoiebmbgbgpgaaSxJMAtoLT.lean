/- What functions of the document's lock layer return: places, an order checked; the check is the program's. No conditions. -/
import Derived.Test.YteoiebmbgbgpgaaSxJLAtoLU
import Derived.Test.YteoiebmbgbgpgaaSxPLd
set_option linter.unusedVariables false
set_option linter.unusedSimpArgs false
set_option maxRecDepth 4000
namespace Go.Sx.Lk
open Go Go.Sx Go.Proofs
section
set_option maxHeartbeats 4000000
def s71 : Sp := spT 71 [.i, .i, .i] fun (n : Int) (a : Int) (b : Int) => res true (vB (decide (a ≤ n) && decide (n ≤ b)))
@[simp] theorem s71_g : s71.g = 71 := rfl
@[simp] theorem s71_f : s71.f = (spT 71 [.i, .i, .i] fun (n : Int) (a : Int) (b : Int) => res true (vB (decide (a ≤ n) && decide (n ≤ b)))).f := rfl
theorem s71_ok : s71.ok Try.prog := by
  apply spT_ok
  simp only [OkT, Ty.all, List.nil_append, List.cons_append]
  intro (n : Int) (a : Int) (b : Int)
  apply okT_res; intro _
  refine P71.rz (ss := []) trivial (by simp) fun Q hQ => ?_
  delta p71 p71_r0 p71_r1
  by_cases h : a ≤ n
  · by_cases h' : n ≤ b
    · simp (disch := omega) [oLt, oLe, oLtN, oLeN, nLt, nLe, nLtN, nLeN, h, h']
      exact hQ _ _ (.p (.inl rfl) (by simp [h, h']) rfl)
    · simp (disch := omega) [oLt, oLe, oLtN, oLeN, nLt, nLe, nLtN, nLeN, h, h']
      exact hQ _ _ (.p (.inl rfl) (by simp [h, h']) rfl)
  · simp (disch := omega) [oLt, oLe, oLtN, oLeN, nLt, nLe, nLtN, nLeN, h]
    exact hQ _ _ (.p (.inl rfl) (by simp [h]) rfl)
def s72 : Sp := spT 72 [.l, .i] fun (l : List Int) (x : Int) => res (small l) (vI (idxL l x))
@[simp] theorem s72_g : s72.g = 72 := rfl
@[simp] theorem s72_f : s72.f = (spT 72 [.l, .i] fun (l : List Int) (x : Int) => res (small l) (vI (idxL l x))).f := rfl
theorem s72_ok : s72.ok Try.prog := by
  apply spT_ok
  simp only [OkT, Ty.all, List.nil_append, List.cons_append]
  intro (l : List Int) u (x : Int)
  apply okT_res; intro hg
  refine P72.rz (ss := []) trivial (by simp) fun Q hQ => ?_
  delta p72 p72_r0 p72_r1
  simp only [small, decide_eq_true_eq] at hg
  simp (disch := omega) [oLt, oLe, oLtN, oLeN, nLt, nLe, nLtN, nLeN]
  refine XZ_for (fun i : Nat => ⟨[(0, .il (ints l) l.length u), (1, vI x), (5, vI i)], [], 0⟩) (fun i => l.length - i) (fun i => i ≤ l.length ∧ idxR x (l.drop i) i = idxL l x) 0 ⟨by simp, by simp [idxL]⟩ (.to [] (by simp)) ?_
  rintro i ⟨hi, hinv⟩ N Q' hN hE
  rcases Nat.lt_or_ge i l.length with h | h
  · have hic : (i : Int) < l.length := by omega
    obtain ⟨y, r, e1, e2, e3, e4, e5⟩ := drop_split h
    rw [e1] at hinv
    simp only [idxR] at hinv
    by_cases hy : y = x
    · rw [if_pos hy] at hinv
      rw [← hinv] at hQ
      subst hy
      delta p72_l0 p72_r2 p72_r3 p72_r4 p72_r5
      simp (disch := omega) [oLt, oLe, oLtN, oLeN, nLt, nLe, nLtN, nLeN, hic, h, e2, e3]
      exact hE _ _ _ .refl (hQ _ _ (.p (.inl rfl) (by simp) rfl))
    · rw [if_neg hy] at hinv
      have hy' : ¬ x = y := fun h => hy h.symm
      delta p72_l0 p72_r2 p72_r3 p72_r4 p72_r5
      simp (disch := omega) [oLt, oLe, oLtN, oLeN, nLt, nLe, nLtN, nLeN, hic, h, e2, e3, hy, hy']
      exact hN _ (i + 1) (by omega) ⟨h, by rw [e4]; simpa using hinv⟩ (.to [] (by simp))
  · obtain rfl : i = l.length := by omega
    have hic : ¬ (l.length : Int) < l.length := by omega
    rw [List.drop_eq_nil_of_le (Nat.le_refl _)] at hinv
    simp only [idxR] at hinv
    rw [← hinv] at hQ
    delta p72_l0 p72_r2 p72_r3 p72_r4 p72_r5
    simp (disch := omega) [oLt, oLe, oLtN, oLeN, nLt, nLe, nLtN, nLeN, hic]
    refine hE _ _ _ .refl ?_
    delta p72_r6
    simp (disch := omega) [oLt, oLe, oLtN, oLeN, nLt, nLe, nLtN, nLeN]
    exact hQ _ _ (.p (.inl rfl) (by simp) rfl)
def chk2R (n : Nat) : List Int → List Int → Int
  | _, [] => 0
  | pre, x :: r => if 0 ≤ x ∧ x ≤ (n : Int) - 1 then (if 0 ≤ idxL pre x then 6 else chk2R n (pre ++ [x]) r) else 2
def chk2F (l : List Int) : Int := if 1 ≤ l.length ∧ l.length ≤ 7 then chk2R l.length [] l else 1
def s24 : Sp := spT 24 [.l] fun (l : List Int) => res (small l) (vI (chk2F l))
@[simp] theorem s24_g : s24.g = 24 := rfl
@[simp] theorem s24_f : s24.f = (spT 24 [.l] fun (l : List Int) => res (small l) (vI (chk2F l))).f := rfl
theorem s24_ok : s24.ok Try.prog := by
  apply spT_ok
  simp only [OkT, Ty.all, List.nil_append, List.cons_append]
  intro (l : List Int) u
  apply okT_res; intro hg
  refine P24.rz (ss := [s71, s72]) ⟨s71_ok, s72_ok, trivial⟩ (by simp) fun Q hQ => ?_
  delta p24 p24_r0 p24_r1 p24_r2 p24_r3 p24_r4
  simp only [small, decide_eq_true_eq] at hg
  by_cases h1 : 1 ≤ l.length
  rotate_left
  · have h1c : ¬ (1 : Int) ≤ l.length := by omega
    have hr : chk2F l = 1 := by unfold chk2F; rw [if_neg (by omega)]
    rw [hr] at hQ
    simp (disch := omega) [oLt, oLe, oLtN, oLeN, nLt, nLe, nLtN, nLeN, h1c]
    exact hQ _ _ (.p (.inl rfl) (by simp) rfl)
  by_cases h7 : l.length ≤ 7
  rotate_left
  · have h1c : (1 : Int) ≤ l.length := by omega
    have h7c : ¬ (l.length : Int) ≤ 7 := by omega
    have hr : chk2F l = 1 := by unfold chk2F; rw [if_neg (by omega)]
    rw [hr] at hQ
    simp (disch := omega) [oLt, oLe, oLtN, oLeN, nLt, nLe, nLtN, nLeN, h1c, h7c]
    exact hQ _ _ (.p (.inl rfl) (by simp) rfl)
  have h1c : (1 : Int) ≤ l.length := by omega
  have h7c : (l.length : Int) ≤ 7 := by omega
  have hr : chk2F l = chk2R l.length [] l := by unfold chk2F; rw [if_pos ⟨h1, h7⟩]
  simp (disch := omega) [oLt, oLe, oLtN, oLeN, nLt, nLe, nLtN, nLeN, h1c, h7c]
  refine XZ_for (fun i : Nat => ⟨[(0, .il (ints l) l.length u), (3, vI l.length), (4, vI i)], [], 0⟩) (fun i => l.length - i) (fun i => i ≤ l.length ∧ chk2R l.length (l.take i) (l.drop i) = chk2F l) 0 ⟨by simp, by simp [hr]⟩ (.to [] (by simp)) ?_
  rintro i ⟨hi, hinv⟩ N Q' hN hE
  rcases Nat.lt_or_ge i l.length with h | h
  · have hic : (i : Int) < l.length := by omega
    obtain ⟨x, r, e1, e2, e3, e4, e5⟩ := drop_split h
    have htk : l.take (i + 1) = l.take i ++ [x] := by rw [List.take_succ_eq_append_getElem h, e3]
    rw [e1] at hinv
    simp only [chk2R] at hinv
    have hst : small (l.take i) = true := by simp [small]; omega
    have hm : min i l.length = i := by omega
    have hil : i ≤ l.length := hi
    by_cases hx : 0 ≤ x ∧ x ≤ (l.length : Int) - 1
    · rw [if_pos hx] at hinv
      by_cases hp : 0 ≤ idxL (l.take i) x
      · rw [if_pos hp] at hinv
        rw [← hinv] at hQ
        delta p24_l0 p24_r5 p24_r6 p24_r7 p24_r8 p24_r9 p24_r10
        simp (disch := omega) [oLt, oLe, oLtN, oLeN, nLt, nLe, nLtN, nLeN, hic, h, e2, e3, hx.1, hx.2, hst, hm, hil, hp]
        exact hE _ _ _ .refl (hQ _ _ (.p (.inl rfl) (by simp) rfl))
      · rw [if_neg hp, ← htk, ← e4] at hinv
        delta p24_l0 p24_r5 p24_r6 p24_r7 p24_r8 p24_r9 p24_r10
        simp (disch := omega) [oLt, oLe, oLtN, oLeN, nLt, nLe, nLtN, nLeN, hic, h, e2, e3, hx.1, hx.2, hst, hm, hil, hp]
        exact hN _ (i + 1) (by omega) ⟨h, hinv⟩ (.to [] (by simp))
    · rw [if_neg hx] at hinv
      rw [← hinv] at hQ
      by_cases hx1 : 0 ≤ x
      · have hx2 : ¬ x ≤ (l.length : Int) - 1 := fun hh => hx ⟨hx1, hh⟩
        delta p24_l0 p24_r5 p24_r6 p24_r7 p24_r8 p24_r9 p24_r10
        simp (disch := omega) [oLt, oLe, oLtN, oLeN, nLt, nLe, nLtN, nLeN, hic, h, e2, e3, hx1, hx2]
        exact hE _ _ _ .refl (hQ _ _ (.p (.inl rfl) (by simp) rfl))
      · delta p24_l0 p24_r5 p24_r6 p24_r7 p24_r8 p24_r9 p24_r10
        simp (disch := omega) [oLt, oLe, oLtN, oLeN, nLt, nLe, nLtN, nLeN, hic, h, e2, e3, hx1]
        exact hE _ _ _ .refl (hQ _ _ (.p (.inl rfl) (by simp) rfl))
  · obtain rfl : i = l.length := by omega
    have hic : ¬ (l.length : Int) < l.length := by omega
    rw [List.drop_eq_nil_of_le (Nat.le_refl _)] at hinv
    simp only [chk2R] at hinv
    rw [← hinv] at hQ
    delta p24_l0 p24_r5 p24_r6 p24_r7 p24_r8 p24_r9 p24_r10
    simp (disch := omega) [oLt, oLe, oLtN, oLeN, nLt, nLe, nLtN, nLeN, hic]
    refine hE _ _ _ .refl ?_
    delta p24_r11
    simp (disch := omega) [oLt, oLe, oLtN, oLeN, nLt, nLe, nLtN, nLeN]
    exact hQ _ _ (.p (.inl rfl) (by simp) rfl)
/-! ### The two checks say the same -/
theorem idxR_not {x : Int} : ∀ {l : List Int} {i : Int}, x ∉ l → idxR x l i = -1
  | [], i, _ => rfl
  | y :: r, i, h => by
    simp only [List.mem_cons, not_or] at h
    simp only [idxR]
    rw [if_neg (fun e => h.1 e.symm)]
    exact idxR_not h.2
theorem idxL_pos {x : Int} {l : List Int} : 0 ≤ idxL l x ↔ x ∈ l := by
  constructor
  · intro h
    by_cases hm : x ∈ l
    · exact hm
    · unfold idxL at h
      rw [idxR_not hm] at h
      omega
  · intro h
    obtain ⟨k, _, h2, _⟩ := idxL_mem h
    omega
theorem chk_same {n : Nat} (hn : n ≤ 7) : ∀ (r pre : List Int) (M : List Bool), M.length = 7 → (∀ k : Nat, k < n → (M.getD k false = true ↔ (k : Int) ∈ pre)) → chk2R n pre r = chkR n r M
  | [], pre, M, _, _ => rfl
  | x :: r, pre, M, hM, h => by
    simp only [chk2R, chkR]
    by_cases hx : 0 ≤ x ∧ x < n
    · rw [if_pos hx, if_pos ⟨hx.1, by omega⟩]
      obtain ⟨k, rfl⟩ := Int.eq_ofNat_of_zero_le hx.1
      have hk : k < n := by omega
      have hh := h k hk
      rw [Int.toNat_natCast]
      by_cases hp : 0 ≤ idxL pre (k : Int)
      · rw [if_pos hp, if_pos (hh.2 (idxL_pos.1 hp))]
      · rw [if_neg hp, if_neg (fun e => hp (idxL_pos.2 (hh.1 e)))]
        refine chk_same hn r _ _ (by simpa using hM) fun j hj => ?_
        by_cases e : k = j
        · subst e
          rw [List.getD_eq_getElem?_getD, List.getElem?_set_self (by omega)]
          simp
        · rw [List.getD_eq_getElem?_getD, List.getElem?_set_ne e, ← List.getD_eq_getElem?_getD, h j hj]
          simp only [List.mem_append, List.mem_singleton]
          constructor
          · exact .inl
          · rintro (h | h)
            · exact h
            · omega
    · rw [if_neg hx, if_neg (fun e => hx ⟨e.1, by omega⟩)]
theorem chk2_eq (l : List Int) : chk2F l = chkF l := by
  unfold chk2F chkF
  by_cases h : 1 ≤ l.length ∧ l.length ≤ 7
  · rw [if_pos h, if_neg (by omega)]
    refine chk_same h.2 l [] Fl7 rfl fun k hk => ?_
    have : ∀ x, Fl7.getD x false = false := fun x => by
      rcases x with _ | _ | _ | _ | _ | _ | _ | x <;> rfl
    rw [this]; simp
  · rw [if_neg h, if_pos (by omega)]
end
section
def outA (id : Nat) (out : List Int) : AV := if out = [] then nS else .ref id 0 out.length 1 none
def outH (id : Nat) (out : List Int) : HL := if out = [] then [] else [(id, .cells (ints out))]
def outK (out : List Int) : Nat := if out = [] then 0 else 1
@[simp] theorem outA_nil (id : Nat) : outA id [] = nS := rfl
@[simp] theorem outA_cons (id : Nat) (x : Int) (r : List Int) : outA id (x :: r) = .ref id 0 (r.length + 1) 1 none := by simp [outA]
@[simp] theorem outH_nil (id : Nat) : outH id [] = [] := rfl
@[simp] theorem outH_cons (id : Nat) (x : Int) (r : List Int) : outH id (x :: r) = [(id, .cells (vI x :: ints r))] := by simp [outH]
@[simp] theorem outK_nil : outK [] = 0 := rfl
@[simp] theorem outK_cons (x : Int) (r : List Int) : outK (x :: r) = 1 := by simp [outK]
def popR (b : Int) : Nat → List Int → List Int → List Int × List Int
  | 0, st, out => (st, out)
  | n + 1, st, out => if st = [] then (st, out) else if st.getLastD 0 < b then popR b n st.dropLast (out ++ [st.getLastD 0]) else (st, out)
def hpP (j : Nat) (st out : List Int) : HL := [(0, .cells [.ref 1 0 st.length 1 none]), (1, .cells (ints st)), (2, .cells [.fn (.func 96) [] [.ptr 3 0]]), (3, .cells [outA j out])] ++ outH j out
def hpN : HL := [(0, .cells [nS]), (1, .cells [.fn (.func 96) [] [.ptr 2 0]]), (2, .cells [nS])]
def newJ (out out' : List Int) : Nat := if out = [] then 4 else if out'.length = out.length then 4 else 5
def pat97 : Int × Option (List Int × List Int) → List AV × HL × Nat
  | (b, some (st, out)) => ([vI b, .ptr 0 0, .ptr 2 0], hpP 4 st out, 4 + outK out)
  | (b, none) => ([vI b, .ptr 0 0, .ptr 1 0], hpN, 3)
def out97 : Int × Option (List Int × List Int) → AV × HL × Nat
  | (b, some (st, out)) => (.tup [], hpP (newJ out (popR b st.length st out).2) (popR b st.length st out).1 (popR b st.length st out).2, newJ out (popR b st.length st out).2 + outK (popR b st.length st out).2)
  | (b, none) => (.tup [], hpN, 3)
def ok97 : Int × Option (List Int × List Int) → Prop
  | (_, some (st, out)) => st.length + out.length ≤ 1000
  | (_, none) => True
theorem hpP_inj {j : Nat} {st out st' out' : List Int} (h : hpP j st out = hpP j st' out') : st = st' ∧ out = out' := by
  simp only [hpP, List.cons_append, List.nil_append, List.cons.injEq, Prod.mk.injEq, Blk.cells.injEq, true_and, and_true] at h
  obtain ⟨h1, h2, h3, h4⟩ := h
  refine ⟨ints_inj h2, ?_⟩
  cases out with
  | nil => cases out' with
    | nil => rfl
    | cons y r => simp at h4
  | cons x r => cases out' with
    | nil => simp at h4
    | cons y r' =>
      simp only [outH_cons, List.cons.injEq, Prod.mk.injEq, Blk.cells.injEq, true_and, and_true, AV.v.injEq, Value.int.injEq] at h4
      rw [h4.1, ints_inj h4.2]
theorem pat97_inj (a b : Int × Option (List Int × List Int)) (h : pat97 a = pat97 b) : out97 a = out97 b := by
  obtain ⟨x, a⟩ := a
  obtain ⟨y, b⟩ := b
  cases a with
  | none => cases b with
    | none => rfl
    | some q => obtain ⟨st, out⟩ := q; simp [pat97] at h
  | some p =>
    obtain ⟨st, out⟩ := p
    cases b with
    | none => simp [pat97] at h
    | some q =>
      obtain ⟨st', out'⟩ := q
      simp only [pat97, Prod.mk.injEq, List.cons.injEq, AV.v.injEq, Value.int.injEq, true_and, and_true] at h
      obtain ⟨rfl, h2, h3⟩ := h
      obtain ⟨rfl, rfl⟩ := hpP_inj h2
      rfl
noncomputable def f97 := famF ok97 pat97 out97
noncomputable def s97 : Sp := ⟨97, f97⟩
@[simp] theorem s97_g : s97.g = 97 := rfl
@[simp] theorem s97_f : s97.f = f97 := rfl
theorem popR_le (b : Int) : ∀ n st out, (popR b n st out).1.length ≤ st.length
  | 0, st, out => Nat.le_refl _
  | n + 1, st, out => by
    simp only [popR]
    split
    · exact Nat.le_refl _
    · split
      · have := popR_le b n st.dropLast (out ++ [st.getLastD 0])
        have e : st.dropLast.length = st.length - 1 := by simp
        omega
      · exact Nat.le_refl _
theorem popR_len (b : Int) : ∀ n st out, (popR b n st out).1.length + (popR b n st out).2.length = st.length + out.length
  | 0, st, out => rfl
  | n + 1, st, out => by
    simp only [popR]
    split
    · rfl
    · rename_i h
      have : 0 < st.length := List.length_pos_iff.2 h
      split
      · rw [popR_len b n]; simp; omega
      · rfl
def mk97 (b : Int) (j : Nat) (st out : List Int) : ST := ⟨[(0, vI b), (1, .ptr 0 0), (2, .ptr 2 0), (4, vI (st.getLastD 0)), (5, vB (!st.isEmpty))], hpP j st out, j + outK out⟩
theorem f96n (c : Int) : f96 [.v (.int .u8 111), vI c, .ptr 0 0] [(0, .cells [nS])] 1 = some (.tup [], [(0, .cells [.ref 1 0 1 1 none]), (1, .cells [vI c])], 2) := by simp [f96, f67]
theorem f96c (c x : Int) (r : List Int) (h : r.length ≤ 1000) : f96 [.v (.int .u8 111), vI c, .ptr 0 0] [(0, .cells [.ref 1 0 (r.length + 1) 1 none]), (1, .cells (vI x :: ints r))] 2 = some (.tup [], [(0, .cells [.ref 2 0 (r.length + 1 + 1) 1 none]), (2, .cells (vI x :: (ints r ++ [vI c])))], 3) := by
  have : small (x :: r) = true := by simp [small]; omega
  simp [f96, f67, this]
theorem step97 (T : List Int) {n : Nat} (hl : T.length + n ≤ 1000) : T = [] ∨ ∃ c D, T ≠ [] ∧ T.dropLast = D ∧ T.getLastD 0 = c ∧ T.length = D.length + 1 ∧ T.isEmpty = false ∧
    f69 [.ptr 0 0] [(0, .cells [.ref 1 0 T.length 1 none]), (1, .cells (ints T))] 2 = some (.tup [], basH D, 2) ∧
    f68 [.ptr 0 0] [(0, .cells [.ref 1 0 D.length 1 none]), (1, .cells (ints D))] 2 = some (.tup [vI (D.getLastD 0), vB (!D.isEmpty)], basH D, 2) := by
  by_cases h : T = []
  · exact .inl h
  · have hp : 0 < T.length := List.length_pos_iff.2 h
    have e : T.dropLast.length = T.length - 1 := by simp
    refine .inr ⟨_, _, h, rfl, rfl, by omega, by simpa using h, ?_, ?_⟩
    · have hs : small T = true := by simp [small]; omega
      simp [f69, hs, h, basH]
    · have hs : small T.dropLast = true := by simp only [small, e, decide_eq_true_eq]; omega
      simp [f68, hs, basH]
set_option maxHeartbeats 4000000 in
theorem s97_ok : s97.ok Try.prog := by
  refine famF_ok ?_
  rintro ⟨b, _ | ⟨st, out⟩⟩ hok
  · simp only [pat97, out97, hp_eq, hpN]
    refine P97.rz (ss := [s68, s69, s96]) ⟨s68_ok, s69_ok, s96_ok, trivial⟩ (by simp) fun Q hQ => ?_
    delta p97 p97_r0
    simp (disch := omega) [oLt, oLe, oLtN, oLeN, nLt, nLe, nLtN, nLeN, f68]
    refine XZ_for (fun _ : Nat => ⟨[(0, vI b), (1, .ptr 0 0), (2, .ptr 1 0), (4, vI 0), (5, vB false)], hpN, 3⟩) (fun i => i) (fun i => True) 0 trivial (.to [0, 1, 2] (by simp [hpN])) ?_
    rintro i _ N Q' hN hE
    delta p97_l0 p97_r1 p97_r2 p97_r3 p97_r4
    simp (disch := omega) [oLt, oLe, oLtN, oLeN, nLt, nLe, nLtN, nLeN]
    exact hE _ _ _ .refl (hQ _ _ (EndsP_at [0, 1, 2] (.inr rfl) (by simp) rfl (by simp) rfl (by simp [hpN])))
  · simp only [ok97] at hok
    simp only [pat97, out97, hp_eq]
    refine P97.rz (ss := [s68, s69, s96]) ⟨s68_ok, s69_ok, s96_ok, trivial⟩ (by simp) fun Q hQ => ?_
    have hss : small st = true := by simp [small]; omega
    have h1 : f68 [.ptr 0 0] [(0, .cells [.ref 1 0 st.length 1 none]), (1, .cells (ints st))] 2 = some (.tup [vI (st.getLastD 0), vB (!st.isEmpty)], basH st, 2) := by simp [f68, hss]
    cases out with
    | nil =>
      simp only [hpP, outA_nil, outH_nil, List.append_nil, outK_nil]
      delta p97 p97_r0
      simp (disch := omega) [oLt, oLe, oLtN, oLeN, nLt, nLe, nLtN, nLeN, h1, basH]
      refine XZ_for (fun p : List Int × List Int => mk97 b 4 p.1 p.2) (fun p => p.1.length) (fun p => p.1.length + p.2.length ≤ 1000 ∧ popR b p.1.length p.1 p.2 = popR b st.length st []) (st, []) ⟨by simpa using hok, rfl⟩ (.to [0, 1, 2, 3] (by simp [mk97, hpP])) ?_
      rintro ⟨T, O⟩ ⟨hl, hinv⟩ N Q' hN hE
      simp only at hl hinv
      simp only [mk97]
      have stop : popR b T.length T O = (T, O) → XZ (rZ (spc [s68, s69, s96])) 4 p97_l0 ⟨[(0, vI b), (1, .ptr 0 0), (2, .ptr 2 0), (4, vI (T.getLastD 0)), (5, vB (!T.isEmpty))], hpP 4 T O, 4 + outK O⟩ (thenE N Q') := fun e => by
        have hj : newJ [] O = 4 := rfl
        rw [← hinv, e] at hQ
        simp only [hj] at hQ
        have hcb : T.isEmpty = true ∨ (T.isEmpty = false ∧ ¬ T.getLastD 0 < b) := by
          rcases step97 T hl with rfl | ⟨c, D, hne, hD, hc, hlen, hem, h4, h5⟩
          · exact .inl rfl
          · refine .inr ⟨hem, fun hlt => ?_⟩
            rw [hlen] at e
            simp only [popR] at e
            rw [if_neg hne, if_pos hlt] at e
            have := congrArg (fun q => q.1.length + q.2.length) e
            have h2 := congrArg (fun q => q.1.length) e
            have h3 := popR_le b D.length T.dropLast (O ++ [T.getLastD 0])
            simp only at h2
            rw [hD] at h2 h3
            omega
        rcases hcb with hem | ⟨hem, hnb⟩
        · cases O with
          | nil =>
            simp only [hpP, outA_nil, outH_nil, List.append_nil, outK_nil] at hQ ⊢
            delta p97_l0 p97_r1 p97_r2 p97_r3 p97_r4
            simp (disch := omega) [oLt, oLe, oLtN, oLeN, nLt, nLe, nLtN, nLeN, hem]
            exact hE _ _ _ .refl (hQ _ _ (EndsP_at [0, 1, 2, 3] (.inr rfl) (by simp) rfl (by simp) rfl (by simp)))
          | cons x r =>
            simp only [hpP, outA_cons, outH_cons, List.append_nil, outK_cons] at hQ ⊢
            delta p97_l0 p97_r1 p97_r2 p97_r3 p97_r4
            simp (disch := omega) [oLt, oLe, oLtN, oLeN, nLt, nLe, nLtN, nLeN, hem]
            exact hE _ _ _ .refl (hQ _ _ (EndsP_at [0, 1, 2, 3, 4] (.inr rfl) (by simp) rfl (by simp) rfl (by simp)))
        · obtain ⟨c, hc⟩ : ∃ c, T.getLastD 0 = c := ⟨_, rfl⟩
          rw [hc] at hnb ⊢
          cases O with
          | nil =>
            simp only [hpP, outA_nil, outH_nil, List.append_nil, outK_nil] at hQ ⊢
            delta p97_l0 p97_r1 p97_r2 p97_r3 p97_r4
            simp (disch := omega) [oLt, oLe, oLtN, oLeN, nLt, nLe, nLtN, nLeN, hem, hnb]
            exact hE _ _ _ .refl (hQ _ _ (EndsP_at [0, 1, 2, 3] (.inr rfl) (by simp) rfl (by simp) rfl (by simp)))
          | cons x r =>
            simp only [hpP, outA_cons, outH_cons, List.append_nil, outK_cons] at hQ ⊢
            delta p97_l0 p97_r1 p97_r2 p97_r3 p97_r4
            simp (disch := omega) [oLt, oLe, oLtN, oLeN, nLt, nLe, nLtN, nLeN, hem, hnb]
            exact hE _ _ _ .refl (hQ _ _ (EndsP_at [0, 1, 2, 3, 4] (.inr rfl) (by simp) rfl (by simp) rfl (by simp)))
      rcases step97 T hl with rfl | ⟨c, D, hne, hD, hc, hlen, hem, h4, h5⟩
      · exact stop rfl
      · by_cases hcb : c < b
        · have hst : popR b T.length T O = popR b D.length D (O ++ [c]) := by
            rw [hlen, popR, if_neg hne, hc, if_pos hcb, hD]
          rw [hst] at hinv
          have fin : ∀ s', ChgT 4 s' (mk97 b 4 D (O ++ [c])) → N s' := fun s' hh => hN s' (D, O ++ [c]) (by simp only; omega) ⟨by simp; omega, hinv⟩ hh
          clear stop hN hE hQ
          rw [hc]
          have h6 := f96n c
          cases O with
          | nil =>
            simp only [hpP, outA_nil, outH_nil, List.append_nil, outK_nil]
            delta p97_l0 p97_r1 p97_r2 p97_r3 p97_r4
            simp (disch := omega) [oLt, oLe, oLtN, oLeN, nLt, nLe, nLtN, nLeN, hem, hcb, h4, h5, h6, basH]
            exact fin _ (.to [0, 1, 2, 3, 12] (by simp [mk97, hpP]))
          | cons x r =>
            have h7 := f96c c x r (by simp at hl; omega)
            simp only [hpP, outA_cons, outH_cons, List.append_nil, outK_cons]
            delta p97_l0 p97_r1 p97_r2 p97_r3 p97_r4
            simp (disch := omega) [oLt, oLe, oLtN, oLeN, nLt, nLe, nLtN, nLeN, hem, hcb, h4, h5, h7, basH]
            exact fin _ (.to [0, 1, 2, 3, 13] (by simp [mk97, hpP]))
        · refine stop ?_
          rw [hlen, popR, if_neg hne, hc, if_neg hcb]
    | cons y out =>
      simp only [hpP, outA_cons, outH_cons, List.cons_append, List.nil_append, outK_cons]
      delta p97 p97_r0
      simp (disch := omega) [oLt, oLe, oLtN, oLeN, nLt, nLe, nLtN, nLeN, h1, basH]
      refine XZ_for (fun p : Nat × List Int × List Int => mk97 b p.1 p.2.1 p.2.2) (fun p => p.2.1.length) (fun p => p.2.1.length + p.2.2.length ≤ 1000 ∧ popR b p.2.1.length p.2.1 p.2.2 = popR b st.length st (y :: out) ∧ ((p.1 = 4 ∧ p.2.2.length = out.length + 1) ∨ (p.1 = 5 ∧ out.length + 1 < p.2.2.length))) (4, st, y :: out) ⟨by simpa using hok, rfl, .inl ⟨rfl, rfl⟩⟩ (.to [0, 1, 2, 3, 4] (by simp [mk97, hpP])) ?_
      rintro ⟨j, T, O⟩ ⟨hl, hinv, hj⟩ N Q' hN hE
      simp only at hl hinv hj
      simp only [mk97]
      obtain ⟨x, r, rfl⟩ : ∃ x r, O = x :: r := by
        cases O with
        | nil => simp at hj
        | cons x r => exact ⟨x, r, rfl⟩
      have stop : popR b T.length T (x :: r) = (T, x :: r) → XZ (rZ (spc [s68, s69, s96])) 5 p97_l0 ⟨[(0, vI b), (1, .ptr 0 0), (2, .ptr 2 0), (4, vI (T.getLastD 0)), (5, vB (!T.isEmpty))], hpP j T (x :: r), j + outK (x :: r)⟩ (thenE N Q') := fun e => by
        have hjn : newJ (y :: out) (x :: r) = j := by
          simp only [newJ, List.length_cons]
          rcases hj with ⟨rfl, h⟩ | ⟨rfl, h⟩
          · rw [if_neg (by simp), if_pos (by simpa using h)]
          · rw [if_neg (by simp), if_neg (by simp at h; omega)]
        rw [← hinv, e] at hQ
        simp only [hjn] at hQ
        have hcb : T.isEmpty = true ∨ (T.isEmpty = false ∧ ¬ T.getLastD 0 < b) := by
          rcases step97 T hl with rfl | ⟨c, D, hne, hD, hc, hlen, hem, h4, h5⟩
          · exact .inl rfl
          · refine .inr ⟨hem, fun hlt => ?_⟩
            rw [hlen] at e
            simp only [popR] at e
            rw [if_neg hne, if_pos hlt] at e
            have h2 := congrArg (fun q => q.1.length) e
            have h3 := popR_le b D.length T.dropLast (x :: r ++ [T.getLastD 0])
            simp only at h2
            rw [hD] at h2 h3
            omega
        rcases hcb with hem | ⟨hem, hnb⟩
        · rcases hj with ⟨rfl, h⟩ | ⟨rfl, h⟩
          · simp only [hpP, outA_cons, outH_cons, List.append_nil, outK_cons] at hQ ⊢
            delta p97_l0 p97_r1 p97_r2 p97_r3 p97_r4
            simp (disch := omega) [oLt, oLe, oLtN, oLeN, nLt, nLe, nLtN, nLeN, hem]
            exact hE _ _ _ .refl (hQ _ _ (EndsP_at [0, 1, 2, 3, 4] (.inr rfl) (by simp) rfl (by simp) rfl (by simp)))
          · simp only [hpP, outA_cons, outH_cons, List.append_nil, outK_cons] at hQ ⊢
            delta p97_l0 p97_r1 p97_r2 p97_r3 p97_r4
            simp (disch := omega) [oLt, oLe, oLtN, oLeN, nLt, nLe, nLtN, nLeN, hem]
            exact hE _ _ _ .refl (hQ _ _ (EndsP_at [0, 1, 2, 3, 4, 5] (.inr rfl) (by simp) rfl (by simp) rfl (by simp)))
        · obtain ⟨c, hc⟩ : ∃ c, T.getLastD 0 = c := ⟨_, rfl⟩
          rw [hc] at hnb ⊢
          rcases hj with ⟨rfl, h⟩ | ⟨rfl, h⟩
          · simp only [hpP, outA_cons, outH_cons, List.append_nil, outK_cons] at hQ ⊢
            delta p97_l0 p97_r1 p97_r2 p97_r3 p97_r4
            simp (disch := omega) [oLt, oLe, oLtN, oLeN, nLt, nLe, nLtN, nLeN, hem, hnb]
            exact hE _ _ _ .refl (hQ _ _ (EndsP_at [0, 1, 2, 3, 4] (.inr rfl) (by simp) rfl (by simp) rfl (by simp)))
          · simp only [hpP, outA_cons, outH_cons, List.append_nil, outK_cons] at hQ ⊢
            delta p97_l0 p97_r1 p97_r2 p97_r3 p97_r4
            simp (disch := omega) [oLt, oLe, oLtN, oLeN, nLt, nLe, nLtN, nLeN, hem, hnb]
            exact hE _ _ _ .refl (hQ _ _ (EndsP_at [0, 1, 2, 3, 4, 5] (.inr rfl) (by simp) rfl (by simp) rfl (by simp)))
      rcases step97 T hl with rfl | ⟨c, D, hne, hD, hc, hlen, hem, h4, h5⟩
      · exact stop rfl
      · by_cases hcb : c < b
        · have hst : popR b T.length T (x :: r) = popR b D.length D (x :: r ++ [c]) := by
            rw [hlen, popR, if_neg hne, hc, if_pos hcb, hD]
          rw [hst] at hinv
          have fin : ∀ s', ChgT 5 s' (mk97 b 5 D (x :: r ++ [c])) → N s' := fun s' hh => hN s' (5, D, x :: r ++ [c]) (by simp only; omega) ⟨by simp at hl ⊢; omega, hinv, .inr ⟨rfl, by simp at hj ⊢; omega⟩⟩ hh
          clear stop hN hE hQ
          rw [hc]
          have h7 := f96c c x r (by simp at hl; omega)
          rcases hj with ⟨rfl, h⟩ | ⟨rfl, h⟩
          · simp only [hpP, outA_cons, outH_cons, List.append_nil, outK_cons]
            delta p97_l0 p97_r1 p97_r2 p97_r3 p97_r4
            simp (disch := omega) [oLt, oLe, oLtN, oLeN, nLt, nLe, nLtN, nLeN, hem, hcb, h4, h5, h7, basH]
            exact fin _ (.to [0, 1, 2, 3, 4, 13] (by simp [mk97, hpP]))
          · simp only [hpP, outA_cons, outH_cons, List.append_nil, outK_cons]
            delta p97_l0 p97_r1 p97_r2 p97_r3 p97_r4
            simp (disch := omega) [oLt, oLe, oLtN, oLeN, nLt, nLe, nLtN, nLeN, hem, hcb, h4, h5, h7, basH]
            exact fin _ (.to [0, 1, 2, 3, 4, 14] (by simp [mk97, hpP]))
        · refine stop ?_
          rw [hlen, popR, if_neg hne, hc, if_neg hcb]
theorem f97_at {b : Int} {st out : List Int} (h : st.length + out.length ≤ 1000) {args : List AV} {H : HL} {k : Nat} (e : pat97 (b, some (st, out)) = (args, H, k)) : f97 args H k = some (out97 (b, some (st, out))) := famF_at pat97_inj (b, some (st, out)) h e
theorem f97_nil (b : Int) : f97 [vI b, .ptr 0 0, .ptr 1 0] hpN 3 = some (.tup [], hpN, 3) := famF_at pat97_inj (b, none) trivial rfl
end
section
def psR : List Int → List Int → List Int → List Int × List Int
  | [], st, out => (st, out)
  | x :: r, st, out => psR r ((popR x st.length st out).1 ++ [x]) (popR x st.length st out).2
def psd (l : List Int) : List Int := (popR l.length (psR l [] []).1.length (psR l [] []).1 (psR l [] []).2).2
def pat63 (a : List Int × Bool) : List AV × HL × Nat := ([.il (ints a.1) a.1.length a.2, .fn (.func 96) [] [.ptr 0 0]], [(0, .cells [nS])], 1)
def out63 (a : List Int × Bool) : AV × HL × Nat := (.tup [], (0, .cells [outA 1 (psd a.1)]) :: outH 1 (psd a.1), 1 + outK (psd a.1))
theorem pat63_inj (a b : List Int × Bool) (h : pat63 a = pat63 b) : out63 a = out63 b := by
  obtain ⟨a, u⟩ := a
  obtain ⟨b, v⟩ := b
  simp only [pat63, Prod.mk.injEq, List.cons.injEq, AV.il.injEq, true_and, and_true] at h
  rw [ints_inj h.1]
  rfl
noncomputable def f63 := famF (fun a : List Int × Bool => a.1.length ≤ 1000) pat63 out63
noncomputable def s63 : Sp := ⟨63, f63⟩
@[simp] theorem s63_g : s63.g = 63 := rfl
@[simp] theorem s63_f : s63.f = f63 := rfl
def mk63 (l : List Int) (u : Bool) (st out : List Int) : Nat → ST
  | 0 => ⟨[(0, .il (ints l) l.length u), (3, .ptr 1 0), (4, .ptr 2 0), (5, .fn (.func 97) [] [.ptr 2 0, .ptr 1 0]), (9, .il (ints l) l.length u), (10, vI l.length), (11, vI (0 : Nat))], [(0, .cells [nS]), (1, .cells [.fn (.func 96) [] [.ptr 0 0]]), (2, .cells [nS])], 3⟩
  | i + 1 => ⟨[(0, .il (ints l) l.length u), (3, .ptr 1 0), (4, .ptr 2 0), (5, .fn (.func 97) [] [.ptr 2 0, .ptr 1 0]), (9, .il (ints l) l.length u), (10, vI l.length), (11, vI (i + 1 : Nat))], [(0, .cells [outA 4 out]), (1, .cells [.fn (.func 96) [] [.ptr 0 0]]), (2, .cells [.ref 3 0 st.length 1 none]), (3, .cells (ints st))] ++ outH 4 out, 4 + outK out⟩
set_option maxHeartbeats 4000000 in
theorem s63_ok : s63.ok Try.prog := by
  refine famF_ok ?_
  rintro ⟨l, u⟩ hok
  simp only at hok
  simp only [pat63, out63, hp_eq]
  refine P63.rz (ss := [s97, s67, s96]) ⟨s97_ok, s67_ok, s96_ok, trivial⟩ (by simp) fun Q hQ => ?_
  delta p63 p63_r0 p63_r1 p63_r2 p63_r3
  simp (disch := omega) [oLt, oLe, oLtN, oLeN, nLt, nLe, nLtN, nLeN, effMkfn]
  refine XZ_for (fun p : Nat × List Int × List Int => mk63 l u p.2.1 p.2.2 p.1) (fun p => l.length - p.1) (fun p => p.1 ≤ l.length ∧ p.2.1.length + p.2.2.length ≤ p.1 ∧ psR (l.drop p.1) p.2.1 p.2.2 = psR l [] []) (0, [], []) ⟨by simp, by simp, rfl⟩ (.to [0, 1, 2] ?_) ?_
  · simp [mk63]
  rintro ⟨i, st, out⟩ ⟨hi, hle, hinv⟩ N Q' hN hE
  simp only at hi hle hinv
  simp only
  rcases Nat.lt_or_ge i l.length with h | h
  · have hic : (i : Int) < l.length := by omega
    obtain ⟨x, r, e1, e2, e3, e4, e5⟩ := drop_split h
    rw [e1] at hinv
    simp only [psR] at hinv
    have hpl := popR_len x st.length st out
    obtain ⟨S, O, hSO⟩ : ∃ S O, popR x st.length st out = (S, O) := ⟨_, _, rfl⟩
    have hfa : st.length + out.length ≤ 1000 → ∀ {args : List AV} {H : HL} {k : Nat}, pat97 (x, some (st, out)) = (args, H, k) → f97 args H k = some (.tup [], hpP (newJ out O) S O, newJ out O + outK O) := fun h1 args H k e => by
      have := f97_at h1 e; simpa only [out97, hSO] using this
    rw [hSO] at hinv hpl
    simp only at hinv hpl
    have fin := fun s' hh => hN s' (i + 1, S ++ [x], O) (by simp only; omega) ⟨h, by simp; omega, by rw [e4]; exact hinv⟩ hh
    clear hN hE hQ hinv
    have hf : ∀ S : List Int, S.length ≤ 1000 → f67 [.ptr 0 0, vI x] [(0, .cells [.ref 1 0 S.length 1 none]), (1, .cells (ints S))] 2 = some (.tup [], [(0, .cells [.ref 2 0 (S.length + 1) 1 none]), (2, .cells (ints (S ++ [x])))], 3) := fun S h => by
      have : small S = true := by simp [small]; omega
      simp [f67, this]
    have hfn : f67 [.ptr 0 0, vI x] [(0, .cells [nS])] 1 = some (.tup [], [(0, .cells [.ref 1 0 1 1 none]), (1, .cells [vI x])], 2) := by simp [f67]
    have hgn : f96 [.v (.int .u8 105), vI x, .ptr 0 0] [(0, .cells [nS])] 1 = some (.tup [], [(0, .cells [nS])], 1) := by simp [f96, f67]
    have hg : ∀ (y : Int) (O : List Int), O.length ≤ 1000 → f96 [.v (.int .u8 105), vI x, .ptr 0 0] [(0, .cells [.ref 1 0 (O.length + 1) 1 none]), (1, .cells (vI y :: ints O))] 2 = some (.tup [], [(0, .cells [.ref 1 0 (O.length + 1) 1 none]), (1, .cells (vI y :: ints O))], 2) := fun y O h => by
      have : small (y :: O) = true := by simp [small]; omega
      simp [f96, f67, this]
    rcases i with _ | i
    · have h1 : st = [] := List.length_eq_zero_iff.1 (by omega)
      have h2 : out = [] := List.length_eq_zero_iff.1 (by omega)
      subst h1 h2
      have h3 : ([] : List Int) = S ∧ ([] : List Int) = O := by simpa [popR] using hSO
      obtain ⟨rfl, rfl⟩ := h3
      simp only [mk63, outA_nil, outH_nil, outK_nil] at fin ⊢
      have hf97 := f97_nil x
      simp only [hpN] at hf97
      delta p63_l0 p63_r4 p63_r5 p63_r6 p63_r7 p63_r8 p63_r9
      simp (disch := omega) [oLt, oLe, oLtN, oLeN, nLt, nLe, nLtN, nLeN, hic, h, e2, e3, hf97, hfn, hgn]
      exact fin _ (.to [0, 1, 2, 10] (by simp))
    · have hls : st.length + out.length ≤ 1000 := by omega
      cases out with
      | nil =>
        have hf97 := hfa hls (rfl : pat97 (x, some (st, [])) = ([vI x, .ptr 0 0, .ptr 2 0], hpP 4 st [], 4 + outK []))
        have hj : newJ [] O = 4 := rfl
        have hp := hf S (by omega)
        cases O with
        | nil =>
          simp only [hj, hpP, outA_nil, outH_nil, outK_nil, List.append_nil, List.cons_append, List.nil_append, mk63] at hf97 fin ⊢
          delta p63_l0 p63_r4 p63_r5 p63_r6 p63_r7 p63_r8 p63_r9
          simp (disch := omega) [oLt, oLe, oLtN, oLeN, nLt, nLe, nLtN, nLeN, hic, h, e2, e3, hf97, hp, hgn]
          exact fin _ (.toF (fun h => [0, 1, 2, via h 2]) (by simp))
        | cons y O =>
          have hgy := hg y O (by simp at hpl; omega)
          simp only [hj, hpP, outA_nil, outH_nil, outK_nil, outA_cons, outH_cons, outK_cons, List.append_nil, List.cons_append, List.nil_append, mk63] at hf97 fin ⊢
          delta p63_l0 p63_r4 p63_r5 p63_r6 p63_r7 p63_r8 p63_r9
          simp (disch := omega) [oLt, oLe, oLtN, oLeN, nLt, nLe, nLtN, nLeN, hic, h, e2, e3, hf97, hp, hgy]
          exact fin _ (.toF (fun h => [0, 1, 2, via h 2, via h 0]) (by simp))
      | cons z o =>
        have hf97 := hfa hls (rfl : pat97 (x, some (st, z :: o)) = ([vI x, .ptr 0 0, .ptr 2 0], hpP 4 st (z :: o), 4 + outK (z :: o)))
        have hp := hf S (by omega)
        have hpe := popR_le x st.length st (z :: o)
        rw [hSO] at hpe
        simp only [List.length_cons] at hpe hpl hls
        cases O with
        | nil => simp at hpl; omega
        | cons y O =>
          simp only [List.length_cons] at hpl
          have hgy := hg y O (by omega)
          by_cases hjl : (y :: O).length = (z :: o).length
          · have hj : newJ (z :: o) (y :: O) = 4 := by simp only [newJ]; rw [if_neg (by simp), if_pos hjl]
            simp only [hj, hpP, outA_nil, outH_nil, outK_nil, outA_cons, outH_cons, outK_cons, List.append_nil, List.cons_append, List.nil_append, mk63] at hf97 fin ⊢
            delta p63_l0 p63_r4 p63_r5 p63_r6 p63_r7 p63_r8 p63_r9
            simp (disch := omega) [oLt, oLe, oLtN, oLeN, nLt, nLe, nLtN, nLeN, hic, h, e2, e3, hf97, hp, hgy]
            exact fin _ (.toF (fun h => [0, 1, 2, via h 2, via h 0]) (by simp))
          · have hj : newJ (z :: o) (y :: O) = 5 := by simp only [newJ]; rw [if_neg (by simp), if_neg hjl]
            simp only [hj, hpP, outA_nil, outH_nil, outK_nil, outA_cons, outH_cons, outK_cons, List.append_nil, List.cons_append, List.nil_append, mk63] at hf97 fin ⊢
            delta p63_l0 p63_r4 p63_r5 p63_r6 p63_r7 p63_r8 p63_r9
            simp (disch := omega) [oLt, oLe, oLtN, oLeN, nLt, nLe, nLtN, nLeN, hic, h, e2, e3, hf97, hp, hgy]
            exact fin _ (.toF (fun h => [0, 1, 2, via h 2, via h 0]) (by simp))
  · obtain rfl : i = l.length := by omega
    have hic : ¬ (l.length : Int) < l.length := by omega
    rw [List.drop_eq_nil_of_le (Nat.le_refl _)] at hinv
    simp only [psR] at hinv
    have hpd : psd l = (popR l.length st.length st out).2 := by unfold psd; rw [← hinv]
    rw [hpd] at hQ
    clear hpd hinv
    rcases hl0 : l.length with _ | i
    · have hlc : (l.length : Int) = 0 := by omega
      have h1 : st = [] := List.length_eq_zero_iff.1 (by omega)
      have h2 : out = [] := List.length_eq_zero_iff.1 (by omega)
      subst h1 h2
      have hf97 := f97_nil 0
      simp only [hpN] at hf97
      simp only [popR, List.length_nil, outA_nil, outH_nil, outK_nil] at hQ
      simp only [mk63]
      delta p63_l0 p63_r4 p63_r5 p63_r6 p63_r7 p63_r8 p63_r9
      simp (disch := omega) [oLt, oLe, oLtN, oLeN, nLt, nLe, nLtN, nLeN, hlc]
      refine hE _ _ _ .refl ?_
      delta p63_r10
      simp (disch := omega) [oLt, oLe, oLtN, oLeN, nLt, nLe, nLtN, nLeN, hf97, hlc]
      exact hQ _ _ (EndsP_F (fun h => [0]) (.inr rfl) rfl (by simp))
    · have hlc : (l.length : Int) = i + 1 := by omega
      have hpl := popR_len l.length st.length st out
      obtain ⟨S, O, hSO⟩ : ∃ S O, popR l.length st.length st out = (S, O) := ⟨_, _, rfl⟩
      have hfa : st.length + out.length ≤ 1000 → ∀ {args : List AV} {H : HL} {k : Nat}, pat97 ((l.length : Int), some (st, out)) = (args, H, k) → f97 args H k = some (.tup [], hpP (newJ out O) S O, newJ out O + outK O) := fun h1 args H k e => by
        have := f97_at h1 e; simpa only [out97, hSO] using this
      rw [hSO] at hQ hpl
      simp only at hQ hpl
      have hls : st.length + out.length ≤ 1000 := by omega
      cases out with
      | nil =>
        have hf97 := hfa hls (rfl : pat97 ((l.length : Int), some (st, [])) = ([vI l.length, .ptr 0 0, .ptr 2 0], hpP 4 st [], 4 + outK []))
        have hj : newJ [] O = 4 := rfl
        cases O with
        | nil =>
          simp only [hj, hpP, outA_nil, outH_nil, outK_nil, List.append_nil, List.cons_append, List.nil_append, mk63] at hf97 hQ ⊢
          delta p63_l0 p63_r4 p63_r5 p63_r6 p63_r7 p63_r8 p63_r9
          simp (disch := omega) [oLt, oLe, oLtN, oLeN, nLt, nLe, nLtN, nLeN, hlc]
          refine hE _ _ _ .refl ?_
          delta p63_r10
          rw [hlc] at hf97
          simp (disch := omega) [oLt, oLe, oLtN, oLeN, nLt, nLe, nLtN, nLeN, hf97, hlc]
          exact hQ _ _ (EndsP_F (fun h => [0]) (.inr rfl) rfl (by simp))
        | cons y O =>
          simp only [hj, hpP, outA_nil, outH_nil, outK_nil, outA_cons, outH_cons, outK_cons, List.append_nil, List.cons_append, List.nil_append, mk63] at hf97 hQ ⊢
          delta p63_l0 p63_r4 p63_r5 p63_r6 p63_r7 p63_r8 p63_r9
          simp (disch := omega) [oLt, oLe, oLtN, oLeN, nLt, nLe, nLtN, nLeN, hlc]
          refine hE _ _ _ .refl ?_
          delta p63_r10
          rw [hlc] at hf97
          simp (disch := omega) [oLt, oLe, oLtN, oLeN, nLt, nLe, nLtN, nLeN, hf97, hlc]
          exact hQ _ _ (EndsP_F (fun h => [0, via h 0]) (.inr rfl) rfl (by simp))
      | cons z o =>
        have hf97 := hfa hls (rfl : pat97 ((l.length : Int), some (st, z :: o)) = ([vI l.length, .ptr 0 0, .ptr 2 0], hpP 4 st (z :: o), 4 + outK (z :: o)))
        have hpe := popR_le l.length st.length st (z :: o)
        rw [hSO] at hpe
        simp only [List.length_cons] at hpe hpl hls
        cases O with
        | nil => simp at hpl; omega
        | cons y O =>
          by_cases hjl : (y :: O).length = (z :: o).length
          · have hj : newJ (z :: o) (y :: O) = 4 := by simp only [newJ]; rw [if_neg (by simp), if_pos hjl]
            simp only [hj, hpP, outA_nil, outH_nil, outK_nil, outA_cons, outH_cons, outK_cons, List.append_nil, List.cons_append, List.nil_append, mk63] at hf97 hQ ⊢
            delta p63_l0 p63_r4 p63_r5 p63_r6 p63_r7 p63_r8 p63_r9
            simp (disch := omega) [oLt, oLe, oLtN, oLeN, nLt, nLe, nLtN, nLeN, hlc]
            refine hE _ _ _ .refl ?_
            delta p63_r10
            rw [hlc] at hf97
            simp (disch := omega) [oLt, oLe, oLtN, oLeN, nLt, nLe, nLtN, nLeN, hf97, hlc]
            exact hQ _ _ (EndsP_F (fun h => [0, via h 0]) (.inr rfl) rfl (by simp))
          · have hj : newJ (z :: o) (y :: O) = 5 := by simp only [newJ]; rw [if_neg (by simp), if_neg hjl]
            simp only [hj, hpP, outA_nil, outH_nil, outK_nil, outA_cons, outH_cons, outK_cons, List.append_nil, List.cons_append, List.nil_append, mk63] at hf97 hQ ⊢
            delta p63_l0 p63_r4 p63_r5 p63_r6 p63_r7 p63_r8 p63_r9
            simp (disch := omega) [oLt, oLe, oLtN, oLeN, nLt, nLe, nLtN, nLeN, hlc]
            refine hE _ _ _ .refl ?_
            delta p63_r10
            rw [hlc] at hf97
            simp (disch := omega) [oLt, oLe, oLtN, oLeN, nLt, nLe, nLtN, nLeN, hf97, hlc]
            exact hQ _ _ (EndsP_F (fun h => [0, via h 0]) (.inr rfl) rfl (by simp))
end
section
set_option maxHeartbeats 2000000
theorem f63_at (l : List Int) (u : Bool) (h : l.length ≤ 1000) : f63 [.il (ints l) l.length u, .fn (.func 96) [] [.ptr 0 0]] [(0, .cells [nS])] 1 = some (.tup [], (0, .cells [outA 1 (psd l)]) :: outH 1 (psd l), 1 + outK (psd l)) := famF_at pat63_inj (l, u) h rfl
def sml (l : List Int) : Bool := decide (l.length ≤ 1000)
theorem small_of_sml {l : List Int} (h : sml l = true) : small l = true := by simp [sml, small] at *; omega
theorem psR_len : ∀ l st out, (psR l st out).1.length + (psR l st out).2.length = l.length + st.length + out.length
  | [], st, out => by simp [psR]
  | x :: r, st, out => by
    have h := popR_len x st.length st out
    simp only [psR]; rw [psR_len r]; simp; omega
theorem psd_len (l : List Int) : (psd l).length ≤ l.length := by
  have h1 := psR_len l [] []
  have h2 := popR_len l.length (psR l [] []).1.length (psR l [] []).1 (psR l [] []).2
  simp at h1
  unfold psd
  omega
theorem psd_sml {l : List Int} (h : sml l = true) : sml (psd l) = true := by have := psd_len l; simp [sml] at *; omega
@[simp] theorem f63_il (a b c d e f : AV) (h : HL) (k : Nat) : f63 [a] h k = none := by
  unfold f63 famF
  rw [dif_neg]
  rintro ⟨a, _, e⟩
  simp [pat63] at e
def s61 : Sp := spT 61 [.l] fun (l : List Int) => res (sml l) (.il (ints (psd l)) (psd l).length false)
@[simp] theorem s61_g : s61.g = 61 := rfl
@[simp] theorem s61_f : s61.f = (spT 61 [.l] fun (l : List Int) => res (sml l) (.il (ints (psd l)) (psd l).length false)).f := rfl
theorem s61_ok : s61.ok Try.prog := by
  apply spT_ok
  simp only [OkT, Ty.all, List.nil_append, List.cons_append]
  intro (l : List Int) u
  apply okT_res; intro hg
  refine P61.rz (ss := [s63, s96]) ⟨s63_ok, s96_ok, trivial⟩ (by simp) fun Q hQ => ?_
  delta p61 p61_r0 p61_r1 p61_r2 p61_r3
  have hf := f63_at l u (by simpa [sml] using hg)
  cases hp : psd l with
  | nil =>
    rw [hp] at hf
    simp only [outA_nil, outH_nil, outK_nil] at hf
    simp (disch := omega) [oLt, oLe, oLtN, oLeN, nLt, nLe, nLtN, nLeN, hf]
    exact hQ _ _ (.fz [2] _ (.inl rfl) (by simp; rfl) (by simp [hp]) (by simp))
  | cons x r =>
    rw [hp] at hf
    simp only [outA_cons, outH_cons, outK_cons] at hf
    simp (disch := omega) [oLt, oLe, oLtN, oLeN, nLt, nLe, nLtN, nLeN, hf]
    exact hQ _ _ (.fz [2] _ (.inl rfl) (by simp; rfl) (by simp [hp]) (by simp))
theorem chkF_len {l : List Int} (h : chkF l = 0) : 0 < l.length ∧ l.length ≤ 7 := by
  unfold chkF at h
  split at h
  · simp at h
  · omega
theorem chkF_sml {l : List Int} (h : chkF l = 0) : sml l = true := by have := chkF_len h; simp [sml]; omega
def s16 : Sp := spT 16 [.l] fun (l : List Int) => res (small l) (if chkF l = 0 then .tup [.il (ints (psd l)) (psd l).length false, vI 0] else .tup [.il [] 0 false, vI (chkF l)])
@[simp] theorem s16_g : s16.g = 16 := rfl
@[simp] theorem s16_f : s16.f = (spT 16 [.l] fun (l : List Int) => res (small l) (if chkF l = 0 then .tup [.il (ints (psd l)) (psd l).length false, vI 0] else .tup [.il [] 0 false, vI (chkF l)])).f := rfl
theorem s16_ok : s16.ok Try.prog := by
  apply spT_ok
  simp only [OkT, Ty.all, List.nil_append, List.cons_append]
  intro (l : List Int) u
  apply okT_res; intro hg
  refine P16.rz (ss := [s23, s61]) ⟨s23_ok, s61_ok, trivial⟩ (by simp) fun Q hQ => ?_
  delta p16 p16_r0 p16_r1 p16_r2 p16_r3 p16_r4
  by_cases h : chkF l = 0
  · have hs := chkF_sml h
    rw [if_pos h] at hQ
    simp (disch := omega) [oLt, oLe, oLtN, oLeN, nLt, nLe, nLtN, nLeN, hg, h, hs]
    exact hQ _ _ (.p (.inl rfl) (by simp) rfl)
  · rw [if_neg h] at hQ
    simp (disch := omega) [oLt, oLe, oLtN, oLeN, nLt, nLe, nLtN, nLeN, hg, h]
    exact hQ _ _ (.fz [2, 3] _ (.inl rfl) (by simp; rfl) (by simp) (by simp))
def s25 : Sp := spT 25 [.l] fun (l : List Int) => res (small l) (.tup [vB (decide (chkF l = 0) && srtB (psd l)), vI (chkF l)])
@[simp] theorem s25_g : s25.g = 25 := rfl
@[simp] theorem s25_f : s25.f = (spT 25 [.l] fun (l : List Int) => res (small l) (.tup [vB (decide (chkF l = 0) && srtB (psd l)), vI (chkF l)])).f := rfl
theorem s25_ok : s25.ok Try.prog := by
  apply spT_ok
  simp only [OkT, Ty.all, List.nil_append, List.cons_append]
  intro (l : List Int) u
  apply okT_res; intro hg
  refine P25.rz (ss := [s16, s52]) ⟨s16_ok, s52_ok, trivial⟩ (by simp) fun Q hQ => ?_
  delta p25 p25_r0 p25_r1 p25_r2
  by_cases h : chkF l = 0
  · have hs := small_of_sml (psd_sml (chkF_sml h))
    cases hb : srtB (psd l) with
    | true =>
      simp (disch := omega) [oLt, oLe, oLtN, oLeN, nLt, nLe, nLtN, nLeN, hg, h, hs, hb]
      exact hQ _ _ (.p (.inl rfl) (by simp [h, hb]) rfl)
    | false =>
      simp (disch := omega) [oLt, oLe, oLtN, oLeN, nLt, nLe, nLtN, nLeN, hg, h, hs, hb]
      exact hQ _ _ (.p (.inl rfl) (by simp [h, hb]) rfl)
  · simp (disch := omega) [oLt, oLe, oLtN, oLeN, nLt, nLe, nLtN, nLeN, hg, h]
    exact hQ _ _ (.p (.inl rfl) (by simp [h]) rfl)
def pssR : Nat → List Int → Nat → Option Nat
  | 0, _, _ => none
  | f + 1, l, n => if srtB l = true then some n else pssR f (psd l) (n + 1)
def pssF (l : List Int) : Option Nat := pssR (l.length + 1) l 0
def s76 : Sp := spT 76 [.l] fun (l : List Int) => res (sml l && (pssF l).isSome) (vI ((pssF l).getD 0))
@[simp] theorem s76_g : s76.g = 76 := rfl
@[simp] theorem s76_f : s76.f = (spT 76 [.l] fun (l : List Int) => res (sml l && (pssF l).isSome) (vI ((pssF l).getD 0))).f := rfl
theorem s76_ok : s76.ok Try.prog := by
  apply spT_ok
  simp only [OkT, Ty.all, List.nil_append, List.cons_append]
  intro (l : List Int) u
  apply okT_res; intro hg
  refine P76.rz (ss := [s52, s61]) ⟨s52_ok, s61_ok, trivial⟩ (by simp) fun Q hQ => ?_
  delta p76 p76_r0 p76_r1
  simp only [Bool.and_eq_true, Option.isSome_iff_exists] at hg
  obtain ⟨hs, m, hm⟩ := hg
  simp (disch := omega) [oLt, oLe, oLtN, oLeN, nLt, nLe, nLtN, nLeN]
  refine XZ_for (fun p : Nat × List Int × Nat × Bool => ⟨[(0, .il (ints p.2.1) p.2.1.length p.2.2.2), (3, vI p.2.2.1)], [], 0⟩) (fun p => p.1) (fun p => sml p.2.1 = true ∧ p.1 + p.2.2.1 ≤ 1001 ∧ pssR p.1 p.2.1 p.2.2.1 = some m) (l.length + 1, l, 0, u) ⟨hs, by simp [sml] at hs; simp only; omega, hm⟩ (.to [] (by simp)) ?_
  rintro ⟨f, L, n, v⟩ ⟨h1, h2, hinv⟩ N Q' hN hE
  simp only at h1 h2 hinv ⊢
  have h1' := small_of_sml h1
  rcases f with _ | f
  · simp [pssR] at hinv
  simp only [pssR] at hinv
  cases hb : srtB L with
  | true =>
    rw [if_pos hb] at hinv
    cases hinv
    delta p76_l0 p76_r2 p76_r3 p76_r4
    simp (disch := omega) [oLt, oLe, oLtN, oLeN, nLt, nLe, nLtN, nLeN, h1', hb]
    refine hE _ _ _ .refl ?_
    delta p76_r5
    simp (disch := omega) [oLt, oLe, oLtN, oLeN, nLt, nLe, nLtN, nLeN]
    exact hQ _ _ (.p (.inl rfl) (by simp [hm]) rfl)
  | false =>
    rw [if_neg (by simp [hb])] at hinv
    delta p76_l0 p76_r2 p76_r3 p76_r4
    simp (disch := omega) [oLt, oLe, oLtN, oLeN, nLt, nLe, nLtN, nLeN, h1', h1, hb]
    exact hN _ (f, psd L, n + 1, false) (by simp) ⟨psd_sml h1, by simp only; omega, hinv⟩ (.to [] (by simp))
def s29 : Sp := spT 29 [.l] fun (l : List Int) => res (small l && (decide (chkF l ≠ 0) || (pssF l).isSome)) (.tup [vI (if chkF l = 0 then (pssF l).getD 0 else 0), vI (chkF l)])
@[simp] theorem s29_g : s29.g = 29 := rfl
@[simp] theorem s29_f : s29.f = (spT 29 [.l] fun (l : List Int) => res (small l && (decide (chkF l ≠ 0) || (pssF l).isSome)) (.tup [vI (if chkF l = 0 then (pssF l).getD 0 else 0), vI (chkF l)])).f := rfl
theorem s29_ok : s29.ok Try.prog := by
  apply spT_ok
  simp only [OkT, Ty.all, List.nil_append, List.cons_append]
  intro (l : List Int) u
  apply okT_res; intro hg
  refine P29.rz (ss := [s23, s76]) ⟨s23_ok, s76_ok, trivial⟩ (by simp) fun Q hQ => ?_
  delta p29 p29_r0 p29_r1 p29_r2 p29_r3 p29_r4
  simp only [Bool.and_eq_true, Bool.or_eq_true, decide_eq_true_eq] at hg
  obtain ⟨hg, h2⟩ := hg
  by_cases h : chkF l = 0
  · have hs := chkF_sml h
    have hp : (pssF l).isSome = true := by rcases h2 with h2 | h2; exact absurd h h2; exact h2
    simp (disch := omega) [oLt, oLe, oLtN, oLeN, nLt, nLe, nLtN, nLeN, hg, h, hs, hp]
    exact hQ _ _ (.p (.inl rfl) (by simp [h]) rfl)
  · simp (disch := omega) [oLt, oLe, oLtN, oLeN, nLt, nLe, nLtN, nLeN, hg, h]
    exact hQ _ _ (.p (.inl rfl) (by simp [h]) rfl)
end
end Go.Sx.Lk
