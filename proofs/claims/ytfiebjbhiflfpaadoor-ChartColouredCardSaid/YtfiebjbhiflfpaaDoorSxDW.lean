/- What functions of the chart layer return: ContainsFunc, Proper. No conditions. -/
import Derived.Test.YtfiebjbhiflfpaaDoorSxJDVtoDV0
set_option linter.unusedVariables false
set_option linter.unusedSimpArgs false
set_option maxRecDepth 4000
namespace Go.Sx.Ch
open Go Go.Sx Go.Proofs

set_option maxHeartbeats 2000000
def s74 : Sp := spT 74 [.i] fun (c : Int) => res true (vB (decide (c < 0)))
@[simp] theorem s74_g : s74.g = 74 := rfl
@[simp] theorem s74_f : s74.f = (spT 74 [.i] fun (c : Int) => res true (vB (decide (c < 0)))).f := rfl
theorem s74_ok : s74.ok Tryd.prog := by
  apply spT_ok
  simp only [OkT, Ty.all, List.nil_append, List.cons_append]
  intro (c : Int)
  apply okT_res; intro _
  refine P74.rz (ss := []) trivial (by simp) fun Q hQ => ?_
  delta p74 p74_r0 p74_r1
  by_cases h : c < 0
  · simp (disch := omega) [oLt, oLe, oLtN, oLeN, nLt, nLe, nLtN, nLeN, h]
    exact hQ _ _ (.p (.inl rfl) (by simp [h]) rfl)
  · simp (disch := omega) [oLt, oLe, oLtN, oLeN, nLt, nLe, nLtN, nLeN, h]
    exact hQ _ _ (.p (.inl rfl) (by simp [h]) rfl)
/-- The place of the first number below 0, from i on; or -1. -/
def negR : List Int → Int → Int
  | [], _ => -1
  | y :: r, i => if y < 0 then i else negR r (i + 1)
theorem negR_iff : ∀ {l : List Int} {i : Int}, 0 ≤ i → (0 ≤ negR l i ↔ ∃ y ∈ l, y < 0)
  | [], i, _ => by simp [negR]
  | y :: r, i, h => by
    unfold negR
    split
    · rename_i e; exact ⟨fun _ => ⟨y, List.mem_cons_self, e⟩, fun _ => h⟩
    · rename_i e
      rw [negR_iff (by omega)]
      constructor
      · rintro ⟨z, h1, h2⟩; exact ⟨z, List.mem_cons_of_mem _ h1, h2⟩
      · rintro ⟨z, h1, h2⟩
        rcases List.mem_cons.1 h1 with rfl | h1
        · exact absurd h2 e
        · exact ⟨z, h1, h2⟩
def f74 : AV → Bool
  | .fn (.func 74) [] [] => true
  | _ => false
theorem f74_inv {x : AV} (h : f74 x = true) : x = .fn (.func 74) [] [] := by
  unfold f74 at h
  split at h
  · rfl
  · cases h
@[simp] theorem f74_fn : f74 (.fn (.func 74) [] []) = true := rfl
def s99 : Sp := spT 99 [.l, .av] fun (l : List Int) (f : AV) => res (small l && f74 f) (vI (negR l 0))
@[simp] theorem s99_g : s99.g = 99 := rfl
@[simp] theorem s99_f : s99.f = (spT 99 [.l, .av] fun (l : List Int) (f : AV) => res (small l && f74 f) (vI (negR l 0))).f := rfl
theorem s99_ok : s99.ok Tryd.prog := by
  apply spT_ok
  simp only [OkT, Ty.all, List.nil_append, List.cons_append]
  intro (l : List Int) u (f : AV)
  apply okT_res; intro hg
  refine P99.rz (ss := [s74]) ⟨s74_ok, trivial⟩ (by simp) fun Q hQ => ?_
  delta p99 p99_r0 p99_r1
  simp only [small, Bool.and_eq_true, decide_eq_true_eq] at hg
  obtain ⟨hg, hf⟩ := hg
  obtain rfl := f74_inv hf
  simp (disch := omega) [oLt, oLe, oLtN, oLeN, nLt, nLe, nLtN, nLeN]
  refine XZ_for (fun i : Nat => ⟨[(0, .il (ints l) l.length u), (1, .fn (.func 74) [] []), (7, vI l.length), (8, vI i)], [], 0⟩) (fun i => l.length - i) (fun i => i ≤ l.length ∧ negR (l.drop i) i = negR l 0) 0 ⟨by simp, by simp⟩ (.to [] (by simp)) ?_
  rintro i ⟨hi, hinv⟩ N Q' hN hE
  rcases Nat.lt_or_ge i l.length with h | h
  · have hic : (i : Int) < l.length := by omega
    obtain ⟨x, r, e1, e2, e3, e4, e5⟩ := drop_split h
    rw [e1, negR] at hinv
    by_cases hx : x < 0
    · rw [if_pos hx] at hinv
      delta p99_l0 p99_r2 p99_r3 p99_r4 p99_r5 p99_r6
      simp (disch := omega) [oLt, oLe, oLtN, oLeN, nLt, nLe, nLtN, nLeN, hic, h, e2, e3, hx]
      exact hE _ _ _ .refl (hQ _ _ (.p (.inl rfl) (by simp [hinv]) rfl))
    · rw [if_neg hx] at hinv
      delta p99_l0 p99_r2 p99_r3 p99_r4 p99_r5 p99_r6
      simp (disch := omega) [oLt, oLe, oLtN, oLeN, nLt, nLe, nLtN, nLeN, hic, h, e2, e3, hx]
      exact hN _ (i + 1) (by omega) ⟨h, by rw [e4, ← hinv]; congr 1⟩ (.to [] (by simp))
  · obtain rfl : i = l.length := by omega
    have hic : ¬ (l.length : Int) < l.length := by omega
    rw [List.drop_eq_nil_of_le (Nat.le_refl _)] at hinv
    delta p99_l0 p99_r2 p99_r3 p99_r4 p99_r5 p99_r6
    simp (disch := omega) [oLt, oLe, oLtN, oLeN, nLt, nLe, nLtN, nLeN, hic]
    refine hE _ _ _ .refl ?_
    delta p99_r7
    simp (disch := omega) [oLt, oLe, oLtN, oLeN, nLt, nLe, nLtN, nLeN]
    exact hQ _ _ (.p (.inl rfl) (by simp [← hinv, negR]) rfl)
def s73 : Sp := spT 73 [.l, .av] fun (l : List Int) (f : AV) => res (small l && f74 f) (vB (decide (0 ≤ negR l 0)))
@[simp] theorem s73_g : s73.g = 73 := rfl
@[simp] theorem s73_f : s73.f = (spT 73 [.l, .av] fun (l : List Int) (f : AV) => res (small l && f74 f) (vB (decide (0 ≤ negR l 0)))).f := rfl
theorem s73_ok : s73.ok Tryd.prog := by
  apply spT_ok
  simp only [OkT, Ty.all, List.nil_append, List.cons_append]
  intro (l : List Int) u (f : AV)
  apply okT_res; intro hg
  refine P73.rz (ss := [s99]) ⟨s99_ok, trivial⟩ (by simp) fun Q hQ => ?_
  delta p73 p73_r0 p73_r1
  simp only [Bool.and_eq_true] at hg
  obtain ⟨hg, hf⟩ := hg
  obtain rfl := f74_inv hf
  by_cases h : 0 ≤ negR l 0
  · simp (disch := omega) [oLt, oLe, oLtN, oLeN, nLt, nLe, nLtN, nLeN, hg, h]
    exact hQ _ _ (.p (.inl rfl) (by simp [h]) rfl)
  · simp (disch := omega) [oLt, oLe, oLtN, oLeN, nLt, nLe, nLtN, nLeN, hg, h]
    exact hQ _ _ (.p (.inl rfl) (by simp [h]) rfl)
/-- The error, and whether the colours are proper. -/
def propE (L : List (List Int)) (cs : List Int) : Int := if ¬ chk L = 0 then chk L else if ¬ cs.length = L.length then 5 else if 0 ≤ negR cs 0 then 1 else 0
def okAt (L : List (List Int)) (cs : List Int) (k : Nat) : Bool := decide (¬ cs.getD (ptL L ((2 * k : Nat) : Int)).toNat 0 = cs.getD (ptL L ((2 * k + 1 : Nat) : Int)).toNat 0)
def propB (L : List (List Int)) (cs : List Int) : Bool := decide (propE L cs = 0) && (List.range (total L / 2)).all (okAt L cs)
def propV (L : List (List Int)) (cs : List Int) : AV := .tup [vB (propB L cs), vI (propE L cs)]
def s24 : Sp := spT 24 [.mp, .l] fun (L : List (List Int)) (cs : List Int) => res (smM L && small cs) (propV L cs)
@[simp] theorem s24_g : s24.g = 24 := rfl
@[simp] theorem s24_f : s24.f = (spT 24 [.mp, .l] fun (L : List (List Int)) (cs : List Int) => res (smM L && small cs) (propV L cs)).f := rfl
theorem s24_ok : s24.ok Tryd.prog := by
  apply spT_ok
  simp only [OkT, Ty.all, List.nil_append, List.cons_append]
  intro (L : List (List Int)) u (cs : List Int) v
  apply okT_res; intro hg
  refine P24.rz (ss := [s67, s73]) ⟨s67_ok, s73_ok, trivial⟩ (by simp) fun Q hQ => ?_
  delta p24 p24_r0 p24_r1 p24_r2 p24_r3 p24_r4 p24_r5 p24_r6 p24_r7 p24_r8
  simp only [Bool.and_eq_true] at hg
  obtain ⟨hs, hsm⟩ := hg
  by_cases hc : chk L = 0
  · obtain ⟨h34, h16, hev, hl, h0, h33, hp⟩ := tab_pts hc
    have h0' := (List.getElem?_eq_some_iff.1 h0).2
    have h33' := (List.getElem?_eq_some_iff.1 h33).2
    have ht : (tabF L).take 34 = tabF L := List.take_of_length_le (by omega)
    have hv : openV L = .tup [.agg (ints (tabF L)), vI 0] := by unfold openV; rw [hc]; rfl
    have hsp : splice (ints Z34) 0 (ints (tabF L)) = ints (tabF L) := splice_all (by simp [h34, z34_len])
    by_cases hn : cs.length = L.length
    · by_cases hng : 0 ≤ negR cs 0
      · have hr : propV L cs = .tup [vB false, vI 1] := by unfold propV propB propE; simp [hc, hn, hng]
        rw [hr] at hQ
        generalize tabF L = C at *
        simp (disch := omega) [oLt, oLe, oLtN, oLeN, nLt, nLe, nLtN, nLeN, hs, hv, zl, zz, hsp, h34, z34_len, ht, h0, h0', h33, h33', hn, hsm, hng]
        exact hQ _ _ (.p (.inl rfl) (by simp) rfl)
      · have hE0 : propE L cs = 0 := by unfold propE; simp [hc, hn, hng]
        have hr : propV L cs = .tup [vB ((List.range (total L / 2)).all (okAt L cs)), vI 0] := by unfold propV propB; rw [hE0]; simp
        rw [hr] at hQ
        have hat : ∀ e : Nat, e % 2 = 0 → e < total L → ∃ a b : Nat, a < cs.length ∧ b < cs.length ∧ (tabF L)[17 + e]? = some (a : Int) ∧ (tabF L)[17 + (e + 1)]? = some (b : Int) ∧ okAt L cs (e / 2) = decide (¬ cs.getD a 0 = cs.getD b 0) := fun e he hk => by
          obtain ⟨a, a1, a2, -, a3⟩ := hp e (by omega)
          obtain ⟨b, b1, b2, -, b3⟩ := hp (e + 1) (by omega)
          have e1 : 2 * (e / 2) = e := by omega
          exact ⟨a, b, by omega, by omega, a2, b2, by unfold okAt; rw [e1, a3, b3]; simp⟩
        generalize hCe : tabF L = C at *
        generalize hne : total L = n at *
        simp (disch := omega) [oLt, oLe, oLtN, oLeN, nLt, nLe, nLtN, nLeN, hs, hv, zl, zz, hsp, h34, z34_len, ht, h0, h0', h33, h33', hn, hsm, hng]
        rw [← hn]
        refine XZ_for (fun e : Nat => ⟨[(1, .il (ints cs) cs.length v), (6, .ptr 0 0), (8, vI e)], [(0, .cells (ints C))], 1⟩) (fun e => n - e) (fun e => e ≤ n ∧ e % 2 = 0 ∧ ∀ j, 2 * j < e → okAt L cs j = true) 0 ⟨by simp, rfl, fun j hj => by omega⟩ (.tot [6] (by simp)) ?_
        rintro e ⟨hi, hev2, hinv⟩ N Q' hN hE
        rcases Nat.lt_or_ge e n with h | h
        · have hec : (e : Int) < n := by omega
          have h16c : (e : Int) < 16 := by omega
          have h16c1 : (e : Int) + 1 < 16 := by omega
          have h16' : e < 16 := by omega
          have h16'' : e + 1 < 16 := by omega
          obtain ⟨a, b, ha, hb, q1, q2, q3⟩ := hat e hev2 h
          have q1' := (List.getElem?_eq_some_iff.1 q1).2
          have q2' := (List.getElem?_eq_some_iff.1 q2).2
          obtain ⟨x, hx⟩ : ∃ x, cs[a]? = some x := ⟨cs[a], by rw [List.getElem?_eq_getElem]⟩
          have hx' := (List.getElem?_eq_some_iff.1 hx).2
          obtain ⟨y, hy⟩ : ∃ y, cs[b]? = some y := ⟨cs[b], by rw [List.getElem?_eq_getElem]⟩
          have hy' := (List.getElem?_eq_some_iff.1 hy).2
          rw [List.getD_eq_getElem?_getD, List.getD_eq_getElem?_getD, hx, hy, Option.getD_some, Option.getD_some] at q3
          have hac : (a : Int) < cs.length := by omega
          have hbc : (b : Int) < cs.length := by omega
          by_cases hxy : x = y
          · have hno : ((List.range (n / 2)).all (okAt L cs)) = false := by
              rw [List.all_eq_false]
              exact ⟨e / 2, List.mem_range.2 (by omega), by rw [q3]; simp [hxy]⟩
            delta p24_l0 p24_r9 p24_r10 p24_r11 p24_r12
            simp (disch := omega) [oLt, oLe, oLtN, oLeN, nLt, nLe, nLtN, nLeN, hec, h0, h0', h34, h16c, h16c1, h16', h16'', q1, q2, q1', q2', ha, hb, hac, hbc, hx, hx', hy, hy', hxy]
            exact hE _ _ _ .refl (hQ _ _ (.p (.inl rfl) (by simp [hno]) rfl))
          · delta p24_l0 p24_r9 p24_r10 p24_r11 p24_r12
            simp (disch := omega) [oLt, oLe, oLtN, oLeN, nLt, nLe, nLtN, nLeN, hec, h0, h0', h34, h16c, h16c1, h16', h16'', q1, q2, q1', q2', ha, hb, hac, hbc, hx, hx', hy, hy', hxy]
            exact hN _ (e + 2) (by omega) ⟨by omega, by omega, fun j hj => by
              by_cases ej : 2 * j < e
              · exact hinv j ej
              · have : j = e / 2 := by omega
                rw [this, q3]; simp [hxy]⟩ (.tot [6] (by simp))
        · obtain rfl : e = n := by omega
          have hec : ¬ (e : Int) < e := by omega
          have hyes : ((List.range (e / 2)).all (okAt L cs)) = true := by
            rw [List.all_eq_true]
            exact fun j hj => hinv j (by have := List.mem_range.1 hj; omega)
          rw [hyes] at hQ
          delta p24_l0 p24_r9 p24_r10 p24_r11 p24_r12
          simp (disch := omega) [oLt, oLe, oLtN, oLeN, nLt, nLe, nLtN, nLeN, hec, h0, h0', h34]
          refine hE _ _ _ .refl ?_
          delta p24_r13
          simp (disch := omega) [oLt, oLe, oLtN, oLeN, nLt, nLe, nLtN, nLeN]
          exact hQ _ _ (.p (.inl rfl) (by simp) rfl)
    · have hr : propV L cs = .tup [vB false, vI 5] := by unfold propV propB propE; simp [hc, hn]
      rw [hr] at hQ
      generalize tabF L = C at *
      have hnc : ¬ (cs.length : Int) = L.length := by omega
      simp (disch := omega) [oLt, oLe, oLtN, oLeN, nLt, nLe, nLtN, nLeN, hs, hv, zl, zz, hsp, h34, z34_len, ht, h0, h0', h33, h33', hn, hnc]
      exact hQ _ _ (.p (.inl rfl) (by simp) rfl)
  · have hv : openV L = .tup [.agg (ints Z34), vI (chk L)] := by unfold openV; rw [if_neg hc]
    have hr : propV L cs = .tup [vB false, vI (chk L)] := by unfold propV propB propE; simp [hc]
    rw [hr] at hQ
    generalize chk L = c at *
    simp (disch := omega) [oLt, oLe, oLtN, oLeN, nLt, nLe, nLtN, nLeN, hs, hv, zl, zz, z34_len, hc]
    exact hQ _ _ (.p (.inl rfl) (by simp) rfl)
end Go.Sx.Ch
