/- What functions of the chart layer return: near, looped. No conditions. -/
import Derived.Test.YtfiebjbhiflfpaaDoorSxJDStoDU
set_option linter.unusedVariables false
set_option linter.unusedSimpArgs false
set_option maxRecDepth 4000
namespace Go.Sx.Ch
open Go Go.Sx Go.Proofs

def g80 (C : List Int) : Bool := t34 C && within 0 (endsC C) 16 && within 0 (ptsC C) 16 && (List.range (endsC C).toNat).all fun (e : Nat) => within 0 (atC C e) (ptsC C - 1) && within 0 (atC C (othI e)) (ptsC C - 1)
theorem get_of34 {C : List Int} {i : Nat} {n : Int} (h : C.length = 34) (hi : i < 34) (hn : C.getD i 0 = n) : C[i]? = some n := by
  rw [← hn, List.getD_eq_getElem?_getD, List.getElem?_eq_getElem (by omega)]; rfl
theorem g80_facts {C : List Int} (hg : g80 C = true) : ∃ n P : Nat, C.length = 34 ∧ n ≤ 16 ∧ P ≤ 16 ∧ C[0]? = some (n : Int) ∧ C[33]? = some (P : Int) ∧ endsC C = n ∧ ptsC C = P ∧
    ∀ e : Nat, e < n → ∃ o a b : Nat, o < 16 ∧ a < P ∧ b < P ∧ oth[e]? = some (o : Int) ∧ C[17 + e]? = some (a : Int) ∧ C[17 + o]? = some (b : Int) ∧ atC C e = a ∧ atC C (othI e) = b := by
  simp only [g80, Bool.and_eq_true, t34, decide_eq_true_eq, within_iff, List.all_eq_true, List.mem_range] at hg
  obtain ⟨⟨⟨h34, h0, h1⟩, h2, h3⟩, h4⟩ := hg
  obtain ⟨n, hn⟩ := Int.eq_ofNat_of_zero_le h0
  obtain ⟨P, hP⟩ := Int.eq_ofNat_of_zero_le h2
  refine ⟨n, P, h34, by omega, by omega, get_of34 h34 (by omega) hn, get_of34 h34 (by omega) hP, hn, hP, fun e he => ?_⟩
  obtain ⟨⟨a0, a1⟩, b0, b1⟩ := h4 e (by omega)
  obtain ⟨a, ha⟩ := Int.eq_ofNat_of_zero_le a0
  obtain ⟨b, hb⟩ := Int.eq_ofNat_of_zero_le b0
  obtain ⟨o, ho, o0, o1⟩ := oth_get (e := e) ⟨by omega, by omega⟩
  obtain ⟨o, rfl⟩ := Int.eq_ofNat_of_zero_le o0
  rw [Int.toNat_natCast] at ho
  have ho' : othI e = o := by simp [othI, List.getD_eq_getElem?_getD, ho]
  refine ⟨o, a, b, by omega, by omega, by omega, ho, get_of34 h34 (by omega) ?_, get_of34 h34 (by omega) ?_, ha, hb⟩
  · have := ha; unfold atC at this; simpa using this
  · have := hb; rw [ho'] at this; unfold atC at this; simpa using this
set_option maxHeartbeats 2000000
def s80 : Sp := spT 80 [.tb] fun (C : List Int) => res (g80 C) (.il (uws (nearF C)) (nearF C).length false)
@[simp] theorem s80_g : s80.g = 80 := rfl
@[simp] theorem s80_f : s80.f = (spT 80 [.tb] fun (C : List Int) => res (g80 C) (.il (uws (nearF C)) (nearF C).length false)).f := rfl
theorem s80_ok : s80.ok Tryd.prog := by
  apply spT_ok
  simp only [OkT, Ty.all, List.nil_append, List.cons_append]
  intro (C : List Int)
  apply okT_res; intro hg
  refine P80.rz (ss := []) trivial (by simp) fun Q hQ => ?_
  delta p80 p80_r0 p80_r1 p80_r2
  obtain ⟨n, P, h34, hn, hP, h0, h33, en, eP, hf⟩ := g80_facts hg
  have h0' := (List.getElem?_eq_some_iff.1 h0).2
  have h33' := (List.getElem?_eq_some_iff.1 h33).2
  have hr : nearF C = nearN C n := by unfold nearF; rw [en]; simp
  have hz : nearN C 0 = List.replicate P 0 := by simp [nearN, eP]
  have hlen : ∀ k, (nearN C k).length = P := fun k => by rw [nearN_len, eP]; simp
  have hlt : ∀ k, k ≤ n → ∀ i, (nearN C k).getD i 0 < 65536 := fun k hk => nearN_lt k fun e he => by
    obtain ⟨o, a, b, -, -, hb, -, -, -, -, e2⟩ := hf e (by omega)
    rw [e2]; simp; omega
  have hPc : (P : Int) * 5 ≤ 1099511627776 := by omega
  rw [hr] at hQ
  simp (disch := omega) [oLt, oLe, oLtN, oLeN, nLt, nLe, nLtN, nLeN, h34, h0, h0', h33, h33']
  rw [uws_rep, ← hz]
  refine XZ_for (fun k : Nat => ⟨[(1, .ptr 0 0), (3, .ref 1 0 P 1 (some P)), (9, vI n), (10, vI k)], [(0, .cells (ints C)), (1, .cells (uws (nearN C k)))], 2⟩) (fun k => n - k) (fun k => k ≤ n) 0 (by simp) (.tot [1, 3] (by simp)) ?_
  intro k hk N Q' hN hE
  rcases Nat.lt_or_ge k n with h | h
  · have hkc : (k : Int) < n := by omega
    have hk16 : (k : Int) < 16 := by omega
    have hk16' : k < 16 := by omega
    obtain ⟨o, a, b, o16, ha, hb, q1, q2, q3, q4, q5⟩ := hf k h
    have q1' := (List.getElem?_eq_some_iff.1 q1).2
    have q2' := (List.getElem?_eq_some_iff.1 q2).2
    have q3' := (List.getElem?_eq_some_iff.1 q3).2
    have o16c : (o : Int) < 16 := by omega
    have hac : (a : Int) < P := by omega
    have hl := hlen k
    have hla : a < (nearN C k).length := by omega
    have hnx : nearN C (k + 1) = (nearN C k).set a ((nearN C k).getD a 0 ||| 2 ^ b) := by rw [nearN_succ]; unfold nrI; rw [q4, q5]; simp
    obtain ⟨x, hx⟩ : ∃ x, (nearN C k)[a]? = some x := ⟨(nearN C k)[a], by rw [List.getElem?_eq_getElem]⟩
    have hx' := (List.getElem?_eq_some_iff.1 hx).2
    have hxd : (nearN C k).getD a 0 = x := by rw [List.getD_eq_getElem?_getD, hx]; rfl
    have hx6 : x < 65536 := by rw [← hxd]; exact hlt k hk a
    have hb16 : b < 16 := by omega
    have h2b : 2 ^ b < 2 ^ 16 := Nat.pow_lt_pow_right (by omega) hb16
    rw [hxd] at hnx
    have hsh := fun u v => shl32 u v hb16
    obtain ⟨B, hB⟩ : ∃ B, 2 ^ b = B := ⟨_, rfl⟩
    rw [hB] at hnx h2b hsh
    have hor := fun u v => or32 u v hx6 (show B < 65536 by omega)
    obtain ⟨y, hy⟩ : ∃ y, x ||| B = y := ⟨_, rfl⟩
    rw [hy] at hnx hor
    have fin : ∀ s', ChgT 0 s' ⟨[(1, .ptr 0 0), (3, .ref 1 0 P 1 (some P)), (9, vI n), (10, vI ((k + 1 : Nat) : Int))], [(0, .cells (ints C)), (1, .cells (uws ((nearN C k).set a y)))], 2⟩ → N s' := fun s' hh => hN s' (k + 1) (by omega) h (by rw [hnx]; exact hh)
    clear hN hnx hE
    generalize nearN C k = M at *
    delta p80_l0 p80_r3 p80_r4 p80_r5 p80_r6
    simp (disch := omega) [oLt, oLe, oLtN, oLeN, nLt, nLe, nLtN, nLeN, h34, hkc, hk16, hk16', q1, q2, q3, q1', q2', q3', o16, o16c, hac, ha, hl, hla, hx, hx', hsh, hor]
    exact fin _ (.tot [1, 3] (by simp))
  · obtain rfl : k = n := by omega
    have hkc : ¬ (k : Int) < k := by omega
    have hl := hlen k
    rw [hl] at hQ
    generalize nearN C k = M at *
    delta p80_l0 p80_r3 p80_r4 p80_r5 p80_r6
    simp (disch := omega) [oLt, oLe, oLtN, oLeN, nLt, nLe, nLtN, nLeN, hkc]
    refine hE _ _ _ .refl ?_
    delta p80_r7
    have hMt : M.take P = M := List.take_of_length_le (by omega)
    simp (disch := omega) [oLt, oLe, oLtN, oLeN, nLt, nLe, nLtN, nLeN]
    exact hQ _ _ (.fz [2] _ (.inl rfl) (by simp [hl, hMt]; rfl) (by simp [hl]) (by simp))
/-- Whether a point is joined with itself, by the bits. -/
def loopF (C : List Int) : Bool := (List.range (nearF C).length).any fun p => ((nearF C).getD p 0).testBit p
def s79 : Sp := spT 79 [.tb] fun (C : List Int) => res (g80 C) (vB (loopF C))
@[simp] theorem s79_g : s79.g = 79 := rfl
@[simp] theorem s79_f : s79.f = (spT 79 [.tb] fun (C : List Int) => res (g80 C) (vB (loopF C))).f := rfl
theorem s79_ok : s79.ok Tryd.prog := by
  apply spT_ok
  simp only [OkT, Ty.all, List.nil_append, List.cons_append]
  intro (C : List Int)
  apply okT_res; intro hg
  refine P79.rz (ss := [s80]) ⟨s80_ok, trivial⟩ (by simp) fun Q hQ => ?_
  delta p79 p79_r0 p79_r1
  obtain ⟨n, P, h34, hn, hP, h0, h33, en, eP, hf⟩ := g80_facts hg
  have hl : (nearF C).length = P := by unfold nearF; rw [nearN_len, eP]; simp
  have hlt : ∀ i, (nearF C).getD i 0 < 65536 := nearN_lt _ fun e he => by
    rw [en] at he
    obtain ⟨o, a, b, -, -, hb, -, -, -, -, e2⟩ := hf e (by simpa using he)
    rw [e2]; simp; omega
  have ht : C.take 34 = C := List.take_of_length_le (by omega)
  have hr : loopF C = (List.range (nearF C).length).any fun p => ((nearF C).getD p 0).testBit p := rfl
  rw [hr] at hQ
  obtain ⟨M, hM⟩ : ∃ M, nearF C = M := ⟨_, rfl⟩
  rw [hM] at hQ hl hlt
  simp (disch := omega) [oLt, oLe, oLtN, oLeN, nLt, nLe, nLtN, nLeN, hg, h34, ht, hM]
  refine XZ_for (fun i : Nat => ⟨[(6, .il (uws M) M.length false), (7, vI M.length), (8, vI i)], [], 0⟩) (fun i => M.length - i) (fun i => i ≤ M.length ∧ ∀ p, p < i → (M.getD p 0).testBit p = false) 0 ⟨by simp, fun p hp => by omega⟩ (.to [] (by simp)) ?_
  rintro i ⟨hi, hinv⟩ N Q' hN hE
  rcases Nat.lt_or_ge i M.length with h | h
  · have hic : (i : Int) < M.length := by omega
    obtain ⟨x, hx⟩ : ∃ x, M[i]? = some x := ⟨M[i], by rw [List.getElem?_eq_getElem h]⟩
    have hx' := (List.getElem?_eq_some_iff.1 hx).2
    have hxd : M.getD i 0 = x := by rw [List.getD_eq_getElem?_getD, hx]; rfl
    have hx6 : x < 65536 := by rw [← hxd]; exact hlt i
    have hsr := fun u v => shr32 u v hx6 (show i < 16 by omega)
    have hbit := bit_at x i
    have hy6 : x / 2 ^ i < 65536 := Nat.lt_of_le_of_lt (Nat.div_le_self _ _) hx6
    have han := fun u v => and32 u v hy6
    obtain ⟨y, hy⟩ : ∃ y, x / 2 ^ i = y := ⟨_, rfl⟩
    rw [hy] at hsr hbit han
    obtain ⟨z, hz⟩ : ∃ z, y % 2 = z := ⟨_, rfl⟩
    rw [hz] at hbit han
    by_cases hz1 : z = 1
    · subst hz1
      have hb := hbit.1 rfl
      delta p79_l0 p79_r2 p79_r3 p79_r4 p79_r5 p79_r6
      simp (disch := omega) [oLt, oLe, oLtN, oLeN, nLt, nLe, nLtN, nLeN, hic, h, hx, hx', hsr, han]
      refine hE _ _ _ .refl (hQ _ _ (.p (.inl rfl) ?_ rfl))
      have : ((List.range M.length).any fun p => (M.getD p 0).testBit p) = true := List.any_eq_true.2 ⟨i, List.mem_range.2 h, by rw [hxd]; exact hb⟩
      rw [this]; simp
    · have hb : x.testBit i = false := by
        cases hh : x.testBit i with
        | false => rfl
        | true => exact absurd (hbit.2 hh) hz1
      have hzc : ¬ (z : Int) = 1 := by omega
      delta p79_l0 p79_r2 p79_r3 p79_r4 p79_r5 p79_r6
      simp (disch := omega) [oLt, oLe, oLtN, oLeN, nLt, nLe, nLtN, nLeN, hic, h, hx, hx', hsr, han, hz1, hzc]
      exact hN _ (i + 1) (by omega) ⟨h, fun p hp => by
        by_cases e : p = i
        · rw [e, hxd]; exact hb
        · exact hinv p (by omega)⟩ (.to [] (by simp))
  · obtain rfl : i = M.length := by omega
    have hic : ¬ (M.length : Int) < M.length := by omega
    delta p79_l0 p79_r2 p79_r3 p79_r4 p79_r5 p79_r6
    simp (disch := omega) [oLt, oLe, oLtN, oLeN, nLt, nLe, nLtN, nLeN, hic]
    refine hE _ _ _ .refl ?_
    delta p79_r7
    simp (disch := omega) [oLt, oLe, oLtN, oLeN, nLt, nLe, nLtN, nLeN]
    refine hQ _ _ (.p (.inl rfl) ?_ rfl)
    have : ((List.range M.length).any fun p => (M.getD p 0).testBit p) = false := List.any_eq_false.2 fun p hp => by rw [hinv p (List.mem_range.1 hp)]; simp
    rw [this]; simp
end Go.Sx.Ch
set_option maxRecDepth 4000
namespace Go.Sx.Ch
open Go Go.Sx Go.Proofs

/-- What a map's table says of points. -/
theorem tab_pts {L : List (List Int)} (hc : chk L = 0) : (tabF L).length = 34 ∧ total L ≤ 16 ∧ total L % 2 = 0 ∧ L.length ≤ 16 ∧ (tabF L)[0]? = some ((total L : Nat) : Int) ∧ (tabF L)[33]? = some ((L.length : Nat) : Int) ∧
    ∀ m : Nat, m < total L → ∃ k : Nat, k < L.length ∧ (tabF L)[17 + m]? = some (k : Int) ∧ atC (tabF L) m = k ∧ ptL L m = k := by
  have hcv := chk_cov hc
  have h0 := chk_ne hc
  obtain ⟨h1, -, h3⟩ := chk_zero hc
  obtain ⟨h34, he, -, -⟩ := tabF_facts hcv.h16
  have hp : (tabF L).getD 33 0 = L.length := pts_eq hcv.h16 h0
  have hLl : ∀ M : List (List Int), (∀ l ∈ M, l.length ≠ 0) → M.length ≤ total M := by
    intro M
    induction M with
    | nil => simp
    | cons a M ih =>
      intro h
      have := ih fun l hl => h l (List.mem_cons_of_mem _ hl)
      have ha := h a List.mem_cons_self
      simp only [total, List.map_cons, List.sum_cons, List.length_cons] at this ⊢
      omega
  have := hLl L h0
  refine ⟨h34, h1, h3, by omega, get_of34 h34 (by omega) he, get_of34 h34 (by omega) hp, fun m hm => ?_⟩
  obtain ⟨k, l, e1, e2, e3, e4⟩ := hcv.pnt h0 hm
  exact ⟨k, (List.getElem?_eq_some_iff.1 e1).1, get_of34 h34 (by omega) (by have := e3; unfold atC at this; simpa using this), e3, e4⟩
theorem g80_tab {L : List (List Int)} (hc : chk L = 0) : g80 (tabF L) = true := by
  obtain ⟨h34, h16, hev, hl, h0, h33, hp⟩ := tab_pts hc
  have e0 : endsC (tabF L) = total L := by unfold endsC; rw [List.getD_eq_getElem?_getD, h0]; rfl
  have e33 : ptsC (tabF L) = L.length := by unfold ptsC; rw [List.getD_eq_getElem?_getD, h33]; rfl
  simp only [g80, Bool.and_eq_true, t34, decide_eq_true_eq, within_iff, List.all_eq_true, List.mem_range, e0, e33]
  refine ⟨⟨⟨h34, by omega, by omega⟩, by omega, by omega⟩, fun e he => ?_⟩
  have he' : e < total L := by omega
  obtain ⟨k, k1, -, k2, -⟩ := hp e he'
  obtain ⟨k', k1', -, k2', -⟩ := hp (onat e) (onat_lt (by omega) he')
  rw [oth_onat e (by omega), k2, k2']
  omega
def inL (l : List Int) : Bool := l.all (within 0 · 1000)
def inM (L : List (List Int)) : Bool := L.all inL
theorem inM_get {L : List (List Int)} (h : inM L = true) {p : Nat} (hp : p < L.length) : ∃ l, L[p]? = some l ∧ inL l = true :=
  ⟨L[p], List.getElem?_eq_getElem hp, List.all_eq_true.1 h _ (List.getElem_mem hp)⟩
end Go.Sx.Ch
