/- ChartColoured: colours by numbers, the loops of the law's own walk. No conditions. -/
import Derived.Test.YtfiebjbhiflfpaaDoorSxJJ0
import Derived.Test.YtfiebjbhiflfpaaDoorSxJH
set_option linter.unusedVariables false
set_option linter.unusedSimpArgs false
set_option maxRecDepth 4000
namespace Go.Sx.Ch
open Go Go.Sx Go.Proofs

set_option maxHeartbeats 4000000
/-- The digits of a number. -/
theorem l2_8 {n k m x a : Nat} {c9 l : List Int} {N : List Nat} {M : AV} {s0 : ST} {Q : Exit → ST → Prop} (hn : n ≤ 6) (hm0 : 0 < n → 0 < m) (hm : m ≤ 6) (hx : x ≤ 100000) (hMr : ∀ f, ren f M = M) (hMc : clo M = true)
    (hs0 : ChgT 0 s0 ⟨[(3, .ptr 0 0), (5, vI n), (6, vI k), (7, vI 0), (8, .il (ints l) l.length false), (9, vI 0), (10, .il (uws N) N.length false), (11, vI m), (13, vI x), (14, .ref 1 0 n 1 (some n)), (15, vI ((n : Int) - 1)), (101, vI a), (102, vI x)], [(0, .cells [M]), (1, .cells (ints (List.replicate n 0)))], 2⟩)
    (hq : Q (.exit 8) ⟨[(3, .ptr 0 0), (5, vI n), (6, vI k), (7, vI 0), (8, .il (ints l) l.length false), (9, vI 0), (10, .il (uws N) N.length false), (11, vI m), (14, .ref 1 0 n 1 (some n)), (101, vI a), (102, vI x)], [(0, .cells [M]), (1, .cells (ints (digT m x n)))], 2⟩) :
    XZ (rZ (spc ss8)) 0 (.loop p8_l2) s0 Q := by
  refine XZ_for (fun j : Nat => ⟨[(3, .ptr 0 0), (5, vI n), (6, vI k), (7, vI 0), (8, .il (ints l) l.length false), (9, vI 0), (10, .il (uws N) N.length false), (11, vI m), (13, vI (x / m ^ j : Nat)), (14, .ref 1 0 n 1 (some n)), (15, vI ((n : Int) - 1 - j)), (101, vI a), (102, vI x)], [(0, .cells [M]), (1, .cells (ints (List.replicate (n - j) 0 ++ digT m x j)))], 2⟩) (fun j => n - j) (fun j => j ≤ n) 0 (Nat.zero_le _) (by simpa [digT] using hs0) ?_
  intro j hj N' Q' hN hE
  rcases Nat.lt_or_ge j n with h | h
  · obtain ⟨p, rfl⟩ : ∃ p, n = j + 1 + p := ⟨n - (j + 1), by omega⟩
    have e15 : ((j + 1 + p : Nat) : Int) - 1 - j = p := by omega
    have e15' : ((j + 1 + p : Nat) : Int) - 1 - ((j + 1 : Nat) : Int) = (p : Int) - 1 := by omega
    have fin := fun s' hh => hN s' (j + 1) (by omega) h hh
    clear hN hE hq hs0
    have er : List.replicate (j + 1 + p - j) (0 : Int) ++ digT m x j = List.replicate p 0 ++ 0 :: digT m x j := by
      rw [show j + 1 + p - j = p + 1 by omega, List.replicate_succ']; simp
    have er2 : List.replicate (j + 1 + p - (j + 1)) (0 : Int) ++ digT m x (j + 1) = List.replicate p 0 ++ ((x / m ^ j % m : Nat) : Int) :: digT m x j := by
      rw [show j + 1 + p - (j + 1) = p by omega]; rfl
    have ed : x / m ^ (j + 1) = x / m ^ j / m := by rw [Nat.pow_succ, Nat.div_div_eq_div_mul]
    have hy : x / m ^ j ≤ 100000 := Nat.le_trans (Nat.div_le_self _ _) hx
    simp only [e15', er2, ed] at fin
    simp only [e15, er]
    generalize x / m ^ j = y at *
    have hmod : (y : Int) % (m : Int) = ((y % m : Nat) : Int) := by simp
    have hdiv : (y : Int) / (m : Int) = ((y / m : Nat) : Int) := by simp
    have hz9 : y / m ≤ 100000 := Nat.le_trans (Nat.div_le_self _ _) hy
    have hm0 := hm0 (by omega)
    have hmc : ¬ (m : Int) = 0 := by omega
    have hmn : ¬ m = 0 := by omega
    generalize y % m = r at *
    generalize y / m = z at *
    have hwz : wrapF IntKind.i64 (z : Int) = z := wrapF_i64 (by omega) (by omega)
    generalize digT m x j = D at *
    have hp0 : (0 : Int) ≤ p := by omega
    have hpn : (p : Int) < ((j + 1 + p : Nat) : Int) := by omega
    have hpn' : p < j + 1 + p := by omega
    generalize j + 1 + p = n at *
    have hsp : splice (ints (List.replicate p 0 ++ 0 :: D)) p [vI r] = ints (List.replicate p 0 ++ (r : Int) :: D) := by
      rw [splice_one _ _ _ (by simp)]
      simp [ints]
    have hlen : p < (List.replicate p (0 : Int) ++ 0 :: D).length := by simp
    generalize List.replicate p (0 : Int) ++ 0 :: D = X at *
    delta p8_l2 p8_r23 p8_r24 p8_r25 p8_r26
    simp (disch := omega) [oLt, oLe, oLtN, oLeN, nLt, nLe, nLtN, nLeN, hp0, hpn, hpn', hmc, hmn, hmod, hdiv, hsp, hlen, hwz]
    exact fin _ (.tot [3, 14] (by simp [hMr, hMc, hsp]))
  · obtain rfl : j = n := by omega
    have e15 : (j : Int) - 1 - j = -1 := by omega
    simp only [e15]
    have er : List.replicate (j - j) (0 : Int) ++ digT m x j = digT m x j := by simp
    rw [er]
    clear hN
    delta p8_l2 p8_r23 p8_r24 p8_r25 p8_r26
    simp (disch := omega) [oLt, oLe, oLtN, oLeN, nLt, nLe, nLtN, nLeN]
    exact hE _ _ _ (.tot [3, 14] (by simp [hMr, hMc])) hq
/-- Whether the colours are proper. -/
theorem l3_8 {n k m x a p : Nat} {c l : List Int} {N : List Nat} {M : AV} {g : Bool} {s0 : ST} {Q : Exit → ST → Prop} (hn : n ≤ 6) (hp : p < n) (hcl : c.length = n) (hNl : N.length = n) (hN6 : ∀ i, N.getD i 0 < 65536) (hMr : ∀ f, ren f M = M) (hMc : clo M = true)
    (hs0 : ChgT 0 s0 ⟨[(3, .ptr 0 0), (5, vI n), (6, vI k), (7, vI 0), (8, .il (ints l) l.length false), (9, vI 0), (10, .il (uws N) N.length false), (11, vI m), (14, .ref 1 0 n 1 (some n)), (16, vB g), (17, vI p), (101, vI a), (102, vI x), (122, vI n), (123, vI p), (126, vI p), (127, vI (0 : Nat))], [(0, .cells [M]), (1, .cells (ints c))], 2⟩)
    (hq : Q (.exit 12) ⟨[(3, .ptr 0 0), (5, vI n), (6, vI k), (7, vI 0), (8, .il (ints l) l.length false), (9, vI 0), (10, .il (uws N) N.length false), (11, vI m), (14, .ref 1 0 n 1 (some n)), (16, vB (g && gdQ N c p p)), (101, vI a), (102, vI x), (122, vI n), (123, vI p)], [(0, .cells [M]), (1, .cells (ints c))], 2⟩) :
    XZ (rZ (spc ss8)) 0 (.loop p8_l3) s0 Q := by
  refine XZ_for (fun q : Nat => ⟨[(3, .ptr 0 0), (5, vI n), (6, vI k), (7, vI 0), (8, .il (ints l) l.length false), (9, vI 0), (10, .il (uws N) N.length false), (11, vI m), (14, .ref 1 0 n 1 (some n)), (16, vB (g && gdQ N c p q)), (17, vI p), (101, vI a), (102, vI x), (122, vI n), (123, vI p), (126, vI p), (127, vI q)], [(0, .cells [M]), (1, .cells (ints c))], 2⟩) (fun q => p - q) (fun q => q ≤ p) 0 (Nat.zero_le _) (by simpa [gdQ] using hs0) ?_
  intro q hq0 N' Q' hN hE
  rcases Nat.lt_or_ge q p with h | h
  · have hqc : (q : Int) < p := by omega
    have fin := fun s' hh => hN s' (q + 1) (by omega) h hh
    simp only [gdQ_succ, ← Bool.and_assoc] at fin
    clear hN hE hq hs0
    obtain ⟨u, hu⟩ : ∃ u, c[p]? = some u := ⟨c[p], List.getElem?_eq_getElem (by omega)⟩
    obtain ⟨v, hv⟩ : ∃ v, c[q]? = some v := ⟨c[q], List.getElem?_eq_getElem (by omega)⟩
    obtain ⟨b, hb⟩ : ∃ b, N[p]? = some b := ⟨N[p], List.getElem?_eq_getElem (by omega)⟩
    have hu' := (List.getElem?_eq_some_iff.1 hu).2
    have hv' := (List.getElem?_eq_some_iff.1 hv).2
    have hb' := (List.getElem?_eq_some_iff.1 hb).2
    have eok : okN N c p q = !(decide (u = v) && b.testBit q) := by unfold okN; simp [List.getD_eq_getElem?_getD, hu, hv, hb]
    have hb6 : b < 65536 := by have := hN6 p; rw [List.getD_eq_getElem?_getD, hb] at this; exact this
    have hq16 : q < 16 := by omega
    have hsr := fun u v => shr32 u v hb6 hq16
    have hbit := bit_at b q
    have hy6 : b / 2 ^ q < 65536 := Nat.lt_of_le_of_lt (Nat.div_le_self _ _) hb6
    have han := fun u v => and32 u v hy6
    obtain ⟨y, hy⟩ : ∃ y, b / 2 ^ q = y := ⟨_, rfl⟩
    rw [hy] at hsr hbit han
    obtain ⟨z, hz⟩ : ∃ z, y % 2 = z := ⟨_, rfl⟩
    rw [hz] at hbit han
    have hz2 : z < 2 := by rw [← hz]; exact Nat.mod_lt _ (by omega)
    rw [eok] at fin
    have hpl : p < c.length := by omega
    have hql : q < c.length := by omega
    have hpn : (p : Int) < n := by omega
    have hqn : (q : Int) < n := by omega
    have hqn' : q < n := by omega
    have hpN : p < N.length := by omega
    clear hy hz hN6
    generalize gdQ N c p q = w at *
    have key : ∀ s', ChgT 0 s' ⟨[(3, .ptr 0 0), (5, vI n), (6, vI k), (7, vI 0), (8, .il (ints l) l.length false), (9, vI 0), (10, .il (uws N) N.length false), (11, vI m), (14, .ref 1 0 n 1 (some n)), (16, vB (g && w && !(decide (u = v) && b.testBit q))), (17, vI p), (101, vI a), (102, vI x), (122, vI n), (123, vI p), (126, vI p), (127, vI ((q : Int) + 1))], [(0, .cells [M]), (1, .cells (ints c))], 2⟩ → N' s' := fun s' hh => fin s' (by simpa using hh)
    have fin2 : ∀ r nx, r = (g && w && !(decide (u = v) && b.testBit q)) → XZ (rZ (spc ss8)) 0 (.reg p8_r35 [3, 5, 6, 7, 8, 9, 10, 11, 14, 16, 17, 101, 102, 122, 123, 126, 127]) ⟨[(3, .ptr 0 0), (5, vI n), (6, vI k), (7, vI 0), (8, .il (ints l) l.length false), (9, vI 0), (10, .il (uws N) N.length false), (11, vI m), (14, .ref 1 0 n 1 (some n)), (16, vB r), (17, vI p), (101, vI a), (102, vI x), (122, vI n), (123, vI p), (126, vI p), (127, vI q)], [(0, .cells [M]), (1, .cells (ints c))], nx⟩ (thenE N' Q') := by
      intro r nx hr
      delta p8_r35
      simp (disch := omega) [oLt, oLe, oLtN, oLeN, nLt, nLe, nLtN, nLeN]
      exact key _ (.tot [3, 14] (by simp [hMr, hMc, hr]))
    delta p8_l3 p8_r32 p8_r33
    simp (disch := omega) [oLt, oLe, oLtN, oLeN, nLt, nLe, nLtN, nLeN, hqc]
    clear fin key
    cases hgw : (g && w) with
    | false => exact d34_f fun nx => fin2 _ nx (by simp [hgw])
    | true =>
      by_cases huv : u = v
      · by_cases hz1 : z = 1
        · exact d34_1 hu hv hpl hql hpn hqn hp hqn' hb hpN hsr han huv hz1 fun nx => fin2 _ nx (by simp [hgw, huv, hbit.1 hz1])
        · have hbt : b.testBit q = false := by
            cases hh : b.testBit q with
            | false => rfl
            | true => exact absurd (hbit.2 hh) hz1
          exact d34_0 hu hv hpl hql hpn hqn hp hqn' hb hpN hsr han huv (by omega) fun nx => fin2 _ nx (by simp [hgw, hbt])
      · exact d34_n hu hv hpl hql hpn hqn hp hqn' huv fun nx => fin2 _ nx (by simp [hgw, huv])
  · obtain rfl : q = p := by omega
    have hqc : ¬ (q : Int) < q := by omega
    clear hN
    delta p8_l3 p8_r32 p8_r33 p8_r34 p8_r35
    simp (disch := omega) [oLt, oLe, oLtN, oLeN, nLt, nLe, nLtN, nLeN, hqc]
    exact hE _ _ _ (.tot [3, 14] (by simp [hMr, hMc])) hq
theorem l4_8 {n k m x a : Nat} {c l : List Int} {N : List Nat} {M : AV} {s0 : ST} {Q : Exit → ST → Prop} (hn : n ≤ 6) (hcl : c.length = n) (hNl : N.length = n) (hN6 : ∀ i, N.getD i 0 < 65536) (hMr : ∀ f, ren f M = M) (hMc : clo M = true)
    (hs0 : ChgT 0 s0 ⟨[(3, .ptr 0 0), (5, vI n), (6, vI k), (7, vI 0), (8, .il (ints l) l.length false), (9, vI 0), (10, .il (uws N) N.length false), (11, vI m), (14, .ref 1 0 n 1 (some n)), (16, vB true), (101, vI a), (102, vI x), (122, vI n), (123, vI (0 : Nat))], [(0, .cells [M]), (1, .cells (ints c))], 2⟩)
    (hq : Q (.exit 10) ⟨[(3, .ptr 0 0), (5, vI n), (6, vI k), (7, vI 0), (8, .il (ints l) l.length false), (9, vI 0), (10, .il (uws N) N.length false), (11, vI m), (14, .ref 1 0 n 1 (some n)), (16, vB (gdP N c n)), (101, vI a), (102, vI x)], [(0, .cells [M]), (1, .cells (ints c))], 2⟩) :
    XZ (rZ (spc ss8)) 0 (.loop p8_l4) s0 Q := by
  refine XZ_for (fun p : Nat => ⟨[(3, .ptr 0 0), (5, vI n), (6, vI k), (7, vI 0), (8, .il (ints l) l.length false), (9, vI 0), (10, .il (uws N) N.length false), (11, vI m), (14, .ref 1 0 n 1 (some n)), (16, vB (gdP N c p)), (101, vI a), (102, vI x), (122, vI n), (123, vI p)], [(0, .cells [M]), (1, .cells (ints c))], 2⟩) (fun p => n - p) (fun p => p ≤ n) 0 (Nat.zero_le _) (by simpa [gdP] using hs0) ?_
  intro p hp0 N' Q' hN hE
  rcases Nat.lt_or_ge p n with h | h
  · have hpc : (p : Int) < n := by omega
    have fin := fun s' hh => hN s' (p + 1) (by omega) h hh
    simp only [gdP_succ] at fin
    clear hN hE hq hs0
    delta p8_l4 p8_r29 p8_r30 p8_r31
    simp (disch := omega) [oLt, oLe, oLtN, oLeN, nLt, nLe, nLtN, nLeN, hpc]
    refine l3_8 (p := p) (g := gdP N c p) (c := c) (l := l) (N := N) (M := M) (n := n) (k := k) (m := m) (x := x) (a := a) hn h hcl hNl hN6 hMr hMc (.tot [3, 14] (by simp [hMr, hMc])) ?_
    simp only [inBE, thenE, if_true]
    delta p8_r36
    simp (disch := omega) [oLt, oLe, oLtN, oLeN, nLt, nLe, nLtN, nLeN]
    exact fin _ (.tot [3, 14] (by simp [hMr, hMc]))
  · obtain rfl : p = n := by omega
    have hpc : ¬ (p : Int) < p := by omega
    clear hN
    delta p8_l4 p8_r29 p8_r30 p8_r31
    simp (disch := omega) [oLt, oLe, oLtN, oLeN, nLt, nLe, nLtN, nLeN, hpc]
    exact hE _ _ _ (.tot [3, 14] (by simp [hMr, hMc])) hq
end Go.Sx.Ch
