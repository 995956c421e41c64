/- What functions of the chart layer's own statements return: made. No conditions. -/
import Derived.Test.YtfiebjbhiflfpaaDoorSxJD
set_option linter.unusedVariables false
set_option linter.unusedSimpArgs false
set_option maxRecDepth 4000
namespace Go.Sx.Ch
open Go Go.Sx Go.Proofs

attribute [simp] evCall reach idsB idsL ids inA Go.Sx.inL Go.Sx.inM inB allHp enumH gl renB
@[simp] theorem idsL_app9 : ∀ a b : List AV, idsL (a ++ b) = idsL a ++ idsL b
  | [], b => rfl
  | x :: a, b => by cases x <;> simp [idsL, idsL_app9 a b]
@[simp] theorem inL_app9 (p : Nat → Bool) : ∀ a b : List AV, Go.Sx.inL p (a ++ b) = (Go.Sx.inL p a && Go.Sx.inL p b)
  | [], b => by simp
  | x :: a, b => by rw [List.cons_append, Go.Sx.inL, Go.Sx.inL, inL_app9 p a b, Bool.and_assoc]
@[simp] theorem idsL_ints9 : ∀ l : List Int, idsL (ints l) = []
  | [] => rfl
  | x :: l => by rw [ints_cons, idsL, idsL_ints9 l]
@[simp] theorem inL_ints9 (p : Nat → Bool) : ∀ l : List Int, Go.Sx.inL p (ints l) = true
  | [] => rfl
  | x :: l => by rw [ints_cons, Go.Sx.inL, inL_ints9 p l]; rfl
/-- The states of the two loops. -/
def md1 (K : List AV) (n : Nat) : Nat → ST
  | 0 => ⟨[(2, .ptr 0 0), (4, .ptr 1 0), (5, vI n), (6, .v (.slice none 0 0)), (19, vI n), (20, vI (0 : Nat))], [(0, .cells K), (1, .cells [.v (.slice none 0 0)])], 2⟩
  | i + 1 => ⟨[(2, .ptr 0 0), (4, .ptr 1 0), (5, vI n), (6, .ref 2 0 (i + 1) 1 none), (19, vI n), (20, vI (i + 1 : Nat))], [(0, .cells K), (1, .cells [.v (.slice none 0 0)]), (2, .cells (ints (iota (i + 1))))], 3⟩
def mdE (n i m : Nat) : List (Nat × AV) := [(2, .ptr 0 0), (4, .ptr 1 0), (6, .ref 2 0 m 1 none), (8, .ptr 3 0), (28, vI n), (29, vI i)]
def mdH (K : List AV) (l : List Int) (i : Nat) (x : AV) : HL := [(0, .cells K), (1, .cells [.v (.slice none 0 0)]), (2, .cells (ints (l ++ List.replicate i 0))), (3, .cells [x])]
/-- Nothing yet; all points told; the last point open. -/
def mdN (K : List AV) (n : Nat) (l : List Int) : ST := ⟨mdE n 0 l.length, mdH K l 0 (.v (.slice none 0 0)), 4⟩
def mdC (K : List AV) (n i : Nat) (l : List Int) (L : List (List Int)) : ST := ⟨mdE n i l.length, mdH K l i (.ref 4 0 L.length 1 none) ++ [(4, .cells (lls L))], 5⟩
def mdO (K : List AV) (n i : Nat) (l : List Int) (D : List (List Int)) (c : List Int) : ST := ⟨mdE n i l.length, mdH K l i (.ref 4 0 (D.length + 1) 1 none) ++ [(4, .cells (lls D ++ [.ref 5 0 c.length 1 none])), (5, .cells (ints c))], 6⟩
def md2 (K : List AV) (g n i : Nat) (l : List Int) (L : List (List Int)) : ST :=
  if i = 0 then mdN K n l else if i = n ∨ beg g i = true then mdC K n i l L else mdO K n i l L.dropLast (L.getLastD [])
theorem close_pt {K : List AV} {n i : Nat} {l : List Int} {D : List (List Int)} {c : List Int} (hKr : ∀ f, renL f K = K) (hKf : ∀ id cs, frL id cs K = K) : ChgT 0 (mdO K n i l D c) (mdC K n i l (D ++ [c])) :=
  .frz 5 (cs := ints c) rfl (by simp) (.to [0, 1, 2, 3, 4] (by simp [mdO, mdC, mdE, mdH, hKr, hKf, frzS]))
set_option maxHeartbeats 8000000 in
theorem s49_ok : s49.ok Tryd.prog := by
  intro args h k r h' k' hh
  simp only [s49_f, f49] at hh
  split at hh
  · rename_i K most
    split at hh
    · rename_i hc
      cases hh
      obtain ⟨hK, hg⟩ := hc
      generalize skS K = s at *
      generalize skO K = O at *
      generalize skG K = g at *
      simp only [gSk, Bool.and_eq_true, decide_eq_true_eq, within_iff, List.all_eq_true] at hg
      obtain ⟨⟨⟨⟨hs, hO⟩, hOb⟩, hgb⟩, hm⟩ := hg
      obtain ⟨s, rfl⟩ := Int.eq_ofNat_of_zero_le hs.1
      obtain ⟨g, rfl⟩ := Int.eq_ofNat_of_zero_le hgb.1
      obtain ⟨most, rfl⟩ := Int.eq_ofNat_of_zero_le hm.1
      simp only [Int.toNat_natCast]
      obtain ⟨n, hn⟩ : ∃ n, 2 * (s % (most + 1)) = n := ⟨_, rfl⟩
      have hsm : s % (most + 1) < most + 1 := Nat.mod_lt _ (by omega)
      have hn16 : n ≤ 16 := by omega
      have k0 : K[0]? = some (.v (.int .u8 s)) := by rw [hK]; rfl
      have k17 : K[17]? = some (vH g) := by rw [hK, skA, List.getElem?_append_right (by simp [u8s, hO])]; simp [u8s, hO, vH]
      have kO : ∀ i : Nat, i < 16 → ∃ x : Nat, x ≤ 255 ∧ O.getD i 0 = x ∧ K[1 + i]? = some (.v (.int .u8 x)) := fun i hi => by
        have hb := hOb O[i] (List.getElem_mem (by omega))
        obtain ⟨x, hx⟩ := Int.eq_ofNat_of_zero_le hb.1
        refine ⟨x, by omega, by rw [List.getD_eq_getElem?_getD, List.getElem?_eq_getElem (by omega), hx]; rfl, ?_⟩
        rw [hK, skA, List.getElem?_append_left (by simp [u8s, hO]; omega), Nat.add_comm, List.getElem?_cons_succ, u8s, List.getElem?_map, List.getElem?_eq_getElem (by omega), hx]; rfl
      have hKr : ∀ f, renL f K = K := fun f => by rw [hK]; simp [skA, renL_app]
      have hKf : ∀ id cs, frL id cs K = K := fun id cs => by rw [hK]; simp [skA]
      have hKl : K.length = 18 := by rw [hK]; simp [skA, u8s, hO]
      have hmod : (s : Int) % ((most : Int) + 1) = ((s % (most + 1) : Nat) : Int) := by simp
      have hmne : ¬ (most : Int) + 1 = 0 := by omega
      have hmul : (2 : Int) * ((s % (most + 1) : Nat) : Int) = (n : Int) := by omega
      have hml : mdL s O g most = (mdS O g n n).2 := by unfold mdL; rw [hn]
      rw [hml]
      clear hK hml
      obtain ⟨q, hq⟩ : ∃ q, s % (most + 1) = q := ⟨_, rfl⟩
      rw [hq] at hmod hmul hn
      have hq8 : q ≤ 8 := by omega
      simp only [hp_eq]
      refine P49.rz (ss := [s89]) ⟨s89_ok, trivial⟩ (by simp) fun Q hQ => ?_
      delta p49 p49_r0 p49_r1 p49_r2 p49_r3
      have k17' := (List.getElem?_eq_some_iff.1 k17).2
      have k0' := (List.getElem?_eq_some_iff.1 k0).2
      simp (disch := omega) [oLt, oLe, oLtN, oLeN, nLt, nLe, nLtN, nLeN, k0, k0', hmod, hmne, hmul]
      refine XZ_for (fun i : Nat => md1 K n i) (fun i => n - i) (fun i => i ≤ n) 0 (by simp) (.tot [2, 4] (by simp [md1, hKr])) ?_
      intro i hi N Q' hN hE
      rcases Nat.lt_or_ge i n with h | h
      · have hic : (i : Int) < n := by omega
        have fin : ∀ s', ChgT 0 s' (md1 K n (i + 1)) → N s' := fun s' hh => hN s' (i + 1) (by omega) h hh
        clear hN hE hQ
        rcases i with _ | i
        · simp only [md1] at fin ⊢
          delta p49_l0 p49_r4 p49_r5 p49_r6 p49_r7
          simp (disch := omega) [oLt, oLe, oLtN, oLeN, nLt, nLe, nLtN, nLeN, hic, h]
          exact fin _ (.tot [2, 4, 6] (by simp [hKr, iota]))
        · simp only [md1] at fin ⊢
          delta p49_l0 p49_r4 p49_r5 p49_r6 p49_r7
          simp (disch := omega) [oLt, oLe, oLtN, oLeN, nLt, nLe, nLtN, nLeN, hic, h]
          have htk : (iota (i + 1)).take (i + 1) = iota (i + 1) := List.take_of_length_le (by simp)
          exact fin _ (.tot [2, 4, 6] (by simp [hKr, iota_succ (i + 1), htk]))
      · obtain rfl : i = n := by omega
        have hic : ¬ (i : Int) < i := by omega
        clear hN
        rcases i with _ | i
        · simp only [md1]
          delta p49_l0 p49_r4 p49_r5 p49_r6 p49_r7
          simp (disch := omega) [oLt, oLe, oLtN, oLeN, nLt, nLe, nLtN, nLeN, hic]
          refine hE _ _ _ .refl ?_
          delta p49_r8 p49_r9
          simp (disch := omega) [oLt, oLe, oLtN, oLeN, nLt, nLe, nLtN, nLeN]
          refine XZ_for (fun _ : Nat => ⟨[(2, .ptr 0 0), (4, .ptr 1 0), (6, .v (.slice none 0 0)), (8, .ptr 2 0), (28, vI (0 : Nat)), (29, vI (0 : Nat))], [(0, .cells K), (1, .cells [.v (.slice none 0 0)]), (2, .cells [.v (.slice none 0 0)])], 3⟩) (fun _ => 0) (fun _ => True) 0 trivial (.tot [2, 4, 8] (by simp [hKr])) ?_
          intro j _ N Q2 _ hE2
          delta p49_l1 p49_r10 p49_r11 p49_r12 p49_r13 p49_r14 p49_r15 p49_r16 p49_r17 p49_r18
          simp (disch := omega) [oLt, oLe, oLtN, oLeN, nLt, nLe, nLtN, nLeN]
          refine hE2 _ _ _ .refl ?_
          delta p49_r19
          simp (disch := omega) [oLt, oLe, oLtN, oLeN, nLt, nLe, nLtN, nLeN]
          exact hQ _ _ (.p (.inl rfl) (by simp [Eff.exec, hpF, mdV, mdS]; rfl) (by simp [mdV, mdS]))
        · simp only [md1]
          delta p49_l0 p49_r4 p49_r5 p49_r6 p49_r7
          simp (disch := omega) [oLt, oLe, oLtN, oLeN, nLt, nLe, nLtN, nLeN, hic]
          refine hE _ _ _ .refl ?_
          delta p49_r8 p49_r9
          simp (disch := omega) [oLt, oLe, oLtN, oLeN, nLt, nLe, nLtN, nLeN]
          have hcast : (i : Int) + 1 = ((i + 1 : Nat) : Int) := by simp
          rw [hcast]
          clear hcast hE hic h hi
          have hn0 : ¬ i + 1 = 0 := by omega
          generalize i + 1 = n at *
          refine XZ_for (fun j : Nat => md2 K g n j (mdS O g n j).1 (mdS O g n j).2) (fun j => n - j) (fun j => j ≤ n) 0 (by simp) (.tot [2, 4, 6, 8] (by simp [md2, mdN, mdE, mdH, hKr, mdS])) ?_
          intro j hj N Q2 hN hE2
          have hl := mdS_len O g n hj
          rcases Nat.lt_or_ge j n with h | h
          · obtain ⟨x, hx1, hx2, hx3⟩ := kO j (by omega)
            have hx3' := (List.getElem?_eq_some_iff.1 hx3).2
            have hjc : (j : Int) < n := by omega
            have hj16 : j < 16 := by omega
            have hj16c : (j : Int) < 16 := by omega
            have hnext : mdS O g n (j + 1) = ((mdS O g n j).1.eraseIdx (x % (mdS O g n j).1.length), if beg g j = true then (mdS O g n j).2 ++ [[(mdS O g n j).1.getD (x % (mdS O g n j).1.length) 0]] else (mdS O g n j).2.dropLast ++ [(mdS O g n j).2.getLastD [] ++ [(mdS O g n j).1.getD (x % (mdS O g n j).1.length) 0]]) := by
              simp only [mdS, hx2, Int.toNat_natCast]
            have finO : ∀ D c, (mdS O g n (j + 1)).2 = D ++ [c] → ∀ s', ChgT 0 s' (mdO K n (j + 1) (mdS O g n (j + 1)).1 D c) → N s' := fun D c he s' hh => by
              refine hN s' (j + 1) (by omega) h ?_
              unfold md2
              rw [if_neg (by omega), he]
              split
              · exact hh.trans (close_pt hKr hKf)
              · simpa using hh
            rw [hnext] at finO
            clear hN hE2 hQ hnext
            have hLne := fun h0 : 0 < j => mdS_ne O g n h0
            have hbd := mdS_bd O g n j
            have hL0 : j = 0 → (mdS O g n j).2 = [] := fun e => by rw [e]; rfl
            generalize (mdS O g n j).1 = l at *
            generalize (mdS O g n j).2 = L at *
            have hlp : 0 < l.length := by omega
            obtain ⟨k, hk⟩ : ∃ k, x % l.length = k := ⟨_, rfl⟩
            have hkl : k < l.length := by rw [← hk]; exact Nat.mod_lt _ hlp
            rw [hk] at finO
            obtain ⟨y, hy⟩ : ∃ y, l[k]? = some y := ⟨l[k], List.getElem?_eq_getElem hkl⟩
            have hy' := (List.getElem?_eq_some_iff.1 hy).2
            have hyd : l.getD k 0 = y := by rw [List.getD_eq_getElem?_getD, hy]; rfl
            rw [hyd] at finO
            have hmodl : (x : Int) % (l.length : Int) = (k : Int) := by rw [← hk]; simp
            have hlne : ¬ (l.length : Int) = 0 := by omega
            have hlnil : ¬ l = [] := fun e => by rw [e] at hlp; simp at hlp
            have hkc : (k : Int) < l.length := by omega
            have hl16 : l.length ≤ 16 := by omega
            have hf89 : f89 [.ref 0 0 l.length 1 none, vI k, vI ((k : Int) + 1)] [(0, .cells (ints (l ++ List.replicate j 0)))] 1 = some (.ref 0 0 (l.length - 1) 1 none, [(0, .cells (ints (l.eraseIdx k ++ List.replicate (j + 1) 0)))], 1) := by
              have hu : unints (ints (l ++ List.replicate j 0)) = some (l ++ List.replicate j 0) := by simp
              have hs2 : small (l ++ List.replicate j 0) = true := by simp [small]; omega
              simp only [f89, hu]
              rw [if_pos ⟨by simp, hs2, by omega, by simpa using hkl, trivial⟩]
              simp [List.replicate_succ]
            have hf89n : ∀ a b c x y h k, f89 [.il a b c, x, y] h k = none := fun _ _ _ _ _ _ _ => rfl
            have hel : (l.eraseIdx k).length = l.length - 1 := List.length_eraseIdx_of_lt hkl
            have hge : (l ++ List.replicate j 0)[k]? = some y := by rw [List.getElem?_append_left hkl]; exact hy
            have hgx : g / 2 ^ j < 65536 := Nat.lt_of_le_of_lt (Nat.div_le_self _ _) (by omega)
            have hsr := fun u v => shr16 u v (show g < 65536 by omega) hj16
            have han := fun u v => and16 u v hgx
            have hbeg : beg g j = decide (j = 0 ∨ g / 2 ^ j % 2 = 1) := rfl
            obtain ⟨w, hw⟩ : ∃ w, g / 2 ^ j = w := ⟨_, rfl⟩
            rw [hw] at hsr han hbeg
            obtain ⟨z, hz⟩ : ∃ z, w % 2 = z := ⟨_, rfl⟩
            rw [hz] at han hbeg
            clear hw hz hgx
            obtain ⟨M, hM⟩ : ∃ M, l ++ List.replicate j 0 = M := ⟨_, rfl⟩
            obtain ⟨M', hM'⟩ : ∃ M', l.eraseIdx k ++ List.replicate (j + 1) 0 = M' := ⟨_, rfl⟩
            have hkM : k < M.length := by rw [← hM]; simp; omega
            have hlM : l.length ≤ M.length := by rw [← hM]; simp
            rw [hM] at hge
            have hge' := (List.getElem?_eq_some_iff.1 hge).2
            rw [hM, hM'] at hf89
            by_cases hj0 : j = 0
            · subst hj0
              obtain rfl : L = [] := hL0 rfl
              have fin := finO [] [y] (by simp [hbeg])
              simp only [mdO, mdE, mdH, hM', hel] at fin
              simp only [md2, mdN, if_true, mdE, mdH, hM]
              clear finO hLne hL0
              delta p49_l1 p49_r10 p49_r11 p49_r12 p49_r13 p49_r14 p49_r15 p49_r16 p49_r17 p49_r18
              simp (disch := omega) [oLt, oLe, oLtN, oLeN, nLt, nLe, nLtN, nLeN, hjc, hj16, hj16c, hx3, hx3', hmodl, hlne, hlnil, hkc, hkl, hkM, hlM, hge, hge', hf89, hf89n, hl16]
              exact fin _ (.to [0, 1, 2, 3, 23, 44] (by simp [hKr]))
            · have hj0c : ¬ (j : Int) = 0 := by omega
              have hjn : ¬ j = n := by omega
              by_cases hz1 : z = 1
              · have fin := finO L [y] (by simp [hbeg, hz1])
                have hLl : L.length ≤ 16 := by have := hbd.1; omega
                simp only [mdO, mdE, mdH, hM', hel] at fin
                simp only [md2, mdC, if_neg hj0, hbeg, hz1, or_true, decide_true, if_true, mdE, mdH, hM]
                clear finO hLne hL0 hbd
                subst hz1
                obtain ⟨W, hW⟩ : ∃ W, lls L = W := ⟨_, rfl⟩
                have hWl : W.length = L.length := by rw [← hW]; simp [lls]
                have hWr : ∀ f, renL f W = W := fun f => by rw [← hW]; simp
                rw [hW] at fin ⊢
                generalize L.length = p at *
                have w1 : W.take p = W := List.take_of_length_le (by omega)
                have w2 : ∀ x : AV, (W ++ [x])[p]? = some x := fun x => by rw [List.getElem?_append_right (by omega), hWl]; simp
                have w3 : ∀ x y : AV, splice (W ++ [x]) p [y] = W ++ [y] := fun x y => by rw [splice_one _ _ _ (by simp; omega), List.set_append_right _ _ (by omega), hWl]; simp
                have w4 : ∀ x : AV, (W ++ [x]).length = p + 1 := fun x => by simp [hWl]
                delta p49_l1 p49_r10 p49_r11 p49_r12 p49_r13 p49_r14 p49_r15 p49_r16 p49_r17 p49_r18
                simp (disch := omega) [oLt, oLe, oLtN, oLeN, nLt, nLe, nLtN, nLeN, hjc, hj16, hj16c, hj0, hj0c, hx3, hx3', hmodl, hlne, hlnil, hkc, hkl, hkM, hlM, hge, hge', hf89, hf89n, hl16, hsr, han, k17, k17', hLl, w1, w2, w3, w4, hWl]
                exact fin _ (.to [0, 1, 2, 3, 30, 51] (by simp [hKr, hWr]))
              · obtain ⟨D, c, rfl⟩ := hLne (by omega)
                have fin := finO D (c ++ [y]) (by simp [hbeg, hz1, hj0])
                have hDl : D.length ≤ 16 := by have := hbd.1; simp at this; omega
                have hcl : c.length ≤ 16 := by have := hbd.2 c (by simp); omega
                have hzc : ¬ (z : Int) = 1 := by omega
                have hnb : ¬ (j = n ∨ beg g j = true) := by simp [hbeg, hz1, hj0, hjn]
                simp only [mdO, mdE, mdH, hM', hel, List.length_append, List.length_singleton] at fin
                simp only [md2, if_neg hj0, if_neg hnb]
                simp only [mdO, mdE, mdH, hM, List.dropLast_concat, List.getLastD_concat]
                clear finO hLne hL0 hbd hnb
                obtain ⟨W, hW⟩ : ∃ W, lls D = W := ⟨_, rfl⟩
                have hWl : W.length = D.length := by rw [← hW]; simp [lls]
                have hWr : ∀ f, renL f W = W := fun f => by rw [← hW]; simp
                rw [hW] at fin ⊢
                generalize D.length = p at *
                have w2 : ∀ x : AV, (W ++ [x])[p]? = some x := fun x => by rw [List.getElem?_append_right (by omega), hWl]; simp
                have w3 : ∀ x y : AV, splice (W ++ [x]) p [y] = W ++ [y] := fun x y => by rw [splice_one _ _ _ (by simp; omega), List.set_append_right _ _ (by omega), hWl]; simp
                have w4 : ∀ x : AV, (W ++ [x]).length = p + 1 := fun x => by simp [hWl]
                have hct : c.take c.length = c := List.take_length
                delta p49_l1 p49_r10 p49_r11 p49_r12 p49_r13 p49_r14 p49_r15 p49_r16 p49_r17 p49_r18
                simp (disch := omega) [oLt, oLe, oLtN, oLeN, nLt, nLe, nLtN, nLeN, hjc, hj16, hj16c, hj0, hj0c, hx3, hx3', hmodl, hlne, hlnil, hkc, hkl, hkM, hlM, hge, hge', hf89, hf89n, hl16, hsr, han, k17, k17', hDl, hcl, w2, w3, w4, hWl, hz1, hzc, hct]
                exact fin _ (.to [0, 1, 2, 3, 4, 46] (by simp [hKr, hWr]))
          · obtain rfl : j = n := by omega
            have hjc : ¬ (j : Int) < j := by omega
            have hL : ¬ (mdS O g j j).2.length = 0 := by
              obtain ⟨D, c, e⟩ := mdS_ne O g j (i := j) (by omega)
              rw [e]; simp
            clear hN
            generalize (mdS O g j j).2 = L at *
            generalize (mdS O g j j).1 = l at *
            simp only [md2, if_neg hn0, mdC, true_or, if_true, mdE, mdH]
            delta p49_l1 p49_r10 p49_r11 p49_r12 p49_r13 p49_r14 p49_r15 p49_r16 p49_r17 p49_r18
            simp (disch := omega) [oLt, oLe, oLtN, oLeN, nLt, nLe, nLtN, nLeN, hjc]
            refine hE2 _ _ _ .refl ?_
            delta p49_r19
            simp (disch := omega) [oLt, oLe, oLtN, oLeN, nLt, nLe, nLtN, nLeN]
            have ht : (lls L).take L.length = lls L := List.take_of_length_le (by simp [lls])
            refine hQ _ _ (.chg (.frz 4 (cs := lls L) rfl (by simp) .refl) (.p (.inl rfl) ?_ (by simp [mdV, hL])))
            first | (simp [Eff.exec, hpF, frzS, mdV, hL, ht]; done) | (simp [Eff.exec, hpF, frzS, mdV, hL, ht]; rfl)
    · cases hh
  · cases hh
end Go.Sx.Ch
