/- What functions of the outright laws return: how long walks are. No conditions. -/
import Derived.Test.YtmakepdccccmaaaSxJL4toL6
set_option linter.unusedVariables false
set_option linter.unusedSimpArgs false
set_option maxRecDepth 4000
namespace Go.Sx.Wk
open Go Go.Sx Go.Proofs

theorem unbls_cons (n : Bool) (r : List AV) : unbls (.v (.bool n) :: r) = match unbls r with | some l => some (n :: l) | none => none := rfl
theorem notG_gone {t : List Int} {all : List (List Int)} {k : Nat} {own : List Int} : own.any (notG (goneL t all k)) = own.any fun j => !(((goneL t all k)[j.toNat]?).getD true) := rfl
/-- A list that is filled: so many are done. -/
def mixL (A B : List Bool) (i : Nat) : List Bool := A.take i ++ B.drop i
theorem mixL_len {A B : List Bool} {i : Nat} (h : A.length = B.length) (hi : i ≤ A.length) : (mixL A B i).length = A.length := by simp [mixL]; omega
theorem mixL_set {A B : List Bool} {i : Nat} {b : Bool} (h : A.length = B.length) (hb : A[i]? = some b) : (mixL A B i).set i b = mixL A B (i + 1) := by
  have hi : i < A.length := (List.getElem?_eq_some_iff.1 hb).1
  have hiB : i < B.length := by omega
  unfold mixL
  rw [List.set_append_right _ _ (by simp; omega)]
  simp only [List.length_take, show min i A.length = i by omega, Nat.sub_self]
  rw [List.drop_eq_getElem_cons hiB, List.set_cons_zero, List.take_add_one, hb]
  simp
theorem mixL_zero (A B : List Bool) : mixL A B 0 = B := by simp [mixL]
theorem mixL_all {A B : List Bool} (h : A.length = B.length) : mixL A B A.length = A := by
  unfold mixL
  rw [List.take_length, List.drop_eq_nil_of_le (by omega), List.append_nil]
set_option maxHeartbeats 4000000 in
/-- The second half of the search: tide by tide. -/
theorem l4_loop {t : List Int} {all beh : List (List Int)} {s0 : ST} {Q : Exit → ST → Prop} {u0 : Bool} (ht : ok8 t = true) (h4 : t.length ≤ 4) (hB : BInv t all beh) (how : ∀ own ∈ beh, own.length ≤ 4) (hlen : beh.length = all.length)
    (hs0 : ChgT 0 s0 ⟨[(6, .il (lls beh) beh.length false), (15, .ptr 0 0), (16, vI ((0 : Nat) : Int))], [(0, .cells [.il (bls (goneL t all 0)) (goneL t all 0).length u0])], 1⟩)
    (hQ : ∀ nx h, Q .ret ⟨[(2, vI (aliveF t).2)], h, nx⟩) :
    XZ (rZ (spc [s58g, s73, s75])) 0 (.loop p46_l4) s0 (inBE 6 Q) := by
  have hal := hB.ai.len ht h4
  have ha0 : 0 < all.length := (List.getElem?_eq_some_iff.1 hB.ai.fst).1
  have hgl : ∀ k, (goneL t all k).length = all.length := fun k => by simp [goneL]
  have hg0 : ∀ k, (goneL t all k)[0]? = some (!canK t k t) := fun k => by simp [goneL, hB.ai.fst]
  refine XZ_for (fun p : Nat × Bool => ⟨[(6, .il (lls beh) beh.length false), (15, .ptr 0 0), (16, vI p.1)], [(0, .cells [.il (bls (goneL t all p.1)) (goneL t all p.1).length p.2])], 1⟩) (fun p => 5000 - p.1)
    (fun p => canK t p.1 t = true ∧ p.1 + all.countP (canK t p.1) ≤ all.length) (0, u0) ⟨rfl, by simp; exact List.countP_le_length⟩ hs0 ?_
  rintro ⟨k, u⟩ ⟨hk, hcnt⟩ N Q' hN hE
  simp only at hk hcnt ⊢
  obtain ⟨e1, e2⟩ := lng_end ht h4 hB hlen hk
  have hg0k := hg0 (k + 1)
  have hAB : (goneL t all (k + 1)).length = (goneL t all k).length := by rw [hgl, hgl]
  have hnext : ∀ (i : Nat) l own, all[i]? = some l → beh[i]? = some own → (!(own.any (notG (goneL t all k)))) = !canK t (k + 1) l := fun i l own h1 h2 => by
    rw [notG_gone]; exact gone_next hB hlen h1 h2
  have hgk1 := hgl (k + 1)
  have hgk := hgl k
  have hget : ∀ i l, all[i]? = some l → (goneL t all (k + 1))[i]? = some (!canK t (k + 1) l) := fun i l h => by unfold goneL; rw [List.getElem?_map, h]; rfl
  have hdec : ¬ goneL t all (k + 1) = goneL t all k → all.countP (canK t (k + 1)) < all.countP (canK t k) := fun hne => by
    refine cnt_lt_aux (fun x => canK_anti) fun e => hne ?_
    have : ∀ k, goneL t all k = (all.map (canK t k)).map (!·) := fun k => by simp [goneL]
    rw [this, this, e]
  have hcm : all.countP (canK t k) ≤ all.length := List.countP_le_length
  have hown : ∀ (i : Nat) own, beh[i]? = some own → own.length ≤ 1000000 ∧ own.all (fun x => within 0 x ((goneL t all k).length - 1)) = true := fun i own h => by
    have hi := (List.getElem?_eq_some_iff.1 h).1
    have ho := how own (List.mem_of_getElem? h)
    refine ⟨by omega, List.all_eq_true.2 fun x hx => ?_⟩
    have hia : i < all.length := by omega
    obtain ⟨n, e, q, s, -, hq, -⟩ := (hB.bh i all[i] own (List.getElem?_eq_getElem hia) h).1 x hx
    have := (List.getElem?_eq_some_iff.1 hq).1
    rw [within_iff, hgl]; omega
  have hNk : ¬ goneL t all (k + 1) = goneL t all k → canK t (k + 1) t = true → ∀ s' u', ChgT 0 s' ⟨[(6, .il (lls beh) beh.length false), (15, .ptr 0 0), (16, vI ((k + 1 : Nat) : Int))], [(0, .cells [.il (bls (goneL t all (k + 1))) (goneL t all (k + 1)).length u'])], 1⟩ → N s' := fun hne hc s' u' hh => by
    have := hdec hne
    exact hN s' (k + 1, u') (by simp only; omega) ⟨hc, by simp only; omega⟩ hh
  have hk4 : k ≤ 4096 := by omega
  clear hN hdec hcnt hcm
  generalize hA : goneL t all (k + 1) = A at *
  generalize hGB : goneL t all k = B at *
  obtain ⟨g0, gr, hBc⟩ : ∃ g0 gr, B = g0 :: gr := by
    cases B with
    | nil => simp at hgk; omega
    | cons a r => exact ⟨a, r, rfl⟩
  have hgr : gr.length + 1 ≤ 4096 := by rw [hBc] at hgk; simp only [List.length_cons] at hgk; omega
  have hbn : 0 < beh.length := by omega
  -- one tide
  have inner : ∀ (s0 : ST) (Q2 : Exit → ST → Prop), ChgT 0 s0 ⟨[(6, .il (lls beh) beh.length false), (15, .ptr 0 0), (16, vI k), (17, .ref 1 0 B.length 1 none), (105, .il (lls beh) beh.length false), (106, vI beh.length), (107, vI ((0 : Nat) : Int))], [(0, .cells [.il (bls B) B.length u]), (1, .cells (bls B))], 2⟩ →
      (Q2 (.exit 8) ⟨[(6, .il (lls beh) beh.length false), (15, .ptr 0 0), (16, vI k), (17, .ref 1 0 B.length 1 none)], [(0, .cells [.il (bls B) B.length u]), (1, .cells (bls A))], 2⟩) → XZ (rZ (spc [s58g, s73, s75])) 0 (.loop p46_l3) s0 Q2 := by
    intro s0 Q2 hs0 hq
    refine XZ_for (fun i : Nat => ⟨[(6, .il (lls beh) beh.length false), (15, .ptr 0 0), (16, vI k), (17, .ref 1 0 B.length 1 none), (105, .il (lls beh) beh.length false), (106, vI beh.length), (107, vI i)], [(0, .cells [.il (bls B) B.length u]), (1, .cells (bls (mixL A B i)))], 2⟩) (fun i => beh.length - i) (fun i => i ≤ beh.length) 0 (by simp) (by rw [mixL_zero]; exact hs0) ?_
    rintro i hi N2 Q3 hN2 hE2
    rcases Nat.lt_or_ge i beh.length with h | h
    · obtain ⟨own, ho⟩ : ∃ own, beh[i]? = some own := ⟨beh[i], by simp [h]⟩
      have ho' : beh[i] = own := (List.getElem?_eq_some_iff.1 ho).2
      have hia : i < all.length := by omega
      have hli := List.getElem?_eq_getElem hia
      obtain ⟨o1, o2⟩ := hown i own ho
      have hn := hnext i _ own hli ho
      have hgt := hget i _ hli
      have hset := mixL_set (B := B) hAB hgt
      rw [← hn] at hset
      have hany := first_lt (notG B) own
      have hml := mixL_len (i := i) hAB (by omega)
      have hiB : i < B.length := by omega
      have hiM : i < (mixL A B i).length := by omega
      delta p46_l3 p46_r35 p46_r36 p46_r37 p46_r38
      simp (disch := omega) [oLt, oLe, oLtN, oLeN, nLt, nLe, nLtN, nLeN, h, ho, ho', effMkfn, f58g, o1, o2, hany, hiB, hiM, hset, -within_iff, -List.all_eq_true]
      exact hN2 _ (i + 1) (by omega) h (.to [0, 1] (by simp))
    · have hib : i = beh.length := by omega
      subst hib
      have hmx := mixL_all hAB
      rw [hgk1, ← hlen] at hmx
      rw [hmx]
      delta p46_l3 p46_r35 p46_r36 p46_r37 p46_r38
      simp (disch := omega) [oLt, oLe, oLtN, oLeN, nLt, nLe, nLtN, nLeN]
      exact hE2 _ _ _ (.to [0, 1] (by simp)) hq
  subst hBc
  simp only [List.length_cons] at inner hgk hAB hgk1 hNk ⊢
  have hgr' : gr.length + 1 ≤ 1000000 := by omega
  have hAl : A.length = gr.length + 1 := by omega
  have hA6 : A.length ≤ 1000000 := by omega
  delta p46_l4 p46_r33 p46_r34
  simp (disch := omega) [oLt, oLe, oLtN, oLeN, nLt, nLe, nLtN, nLeN, f73, hgr', unbls_cons]
  refine inner _ _ (.to [0, 2] (by simp)) ?_
  clear inner
  delta p46_r39 p46_r40 p46_r41 p46_r42 p46_r43 p46_r44
  cases hck : canK t (k + 1) t with
  | false =>
    rw [hck] at hg0k
    have he := e1 hck
    have hA0 : A[0] = true := (List.getElem?_eq_some_iff.1 hg0k).2
    simp (disch := omega) [oLt, oLe, oLtN, oLeN, nLt, nLe, nLtN, nLeN, hg0k, hA0]
    rw [he] at hQ
    exact hE _ _ _ .refl (hQ _ _)
  | true =>
    rw [hck] at hg0k
    have hA0 : A[0] = false := (List.getElem?_eq_some_iff.1 hg0k).2
    have hAt : A.take (gr.length + 1) = A := List.take_of_length_le (by omega)
    by_cases hAB' : A = g0 :: gr
    · have he := e2 hAB'
      rw [he] at hQ
      subst hAB'
      have hg0f : g0 = false := by simpa using hA0
      subst hg0f
      clear hA0 hg0k hAt
      simp (disch := omega) [oLt, oLe, oLtN, oLeN, nLt, nLe, nLtN, nLeN, hAl, hA6, hgr', unbls_cons]
      exact hE _ _ _ .refl (hQ _ _)
    · have hNN := hNk hAB' hck
      simp (disch := omega) [oLt, oLe, oLtN, oLeN, nLt, nLe, nLtN, nLeN, hg0k, hA0, hAl, hA6, hgr', hAB', unbls_cons, hAt]
      exact hNN _ false (.frz 1 (by simp; rfl) (by simp) (.to [0] (by simp [hAl, hAt])))

def s46 : Sp := spT 46 [.l] fun (t : List Int) => res (g78 t && decide (0 < t.length)) (vI (aliveF t).2)
@[simp] theorem s46_g : s46.g = 46 := rfl
@[simp] theorem s46_f : s46.f = (spT 46 [.l] fun (t : List Int) => res (g78 t && decide (0 < t.length)) (vI (aliveF t).2)).f := rfl
set_option maxHeartbeats 4000000 in
theorem s46_ok : s46.ok Try.prog := by
  apply spT_ok
  simp only [OkT, Ty.all, List.nil_append, List.cons_append]
  intro (t : List Int) ut
  apply okT_res; intro hs
  simp only [Bool.and_eq_true, decide_eq_true_eq, g78] at hs
  obtain ⟨⟨ht, h4⟩, hpos⟩ := hs
  have ht8 := ok8_iff.1 ht
  have h1 : ∀ y ∈ t, 1 ≤ y := fun y hy => (ht8 y hy).1
  have hvt := val_self ht8
  have hp4 := pad_len (a := t) rfl h4
  have hpt : (pad t t).take 4 = pad t t := List.take_of_length_le (by omega)
  have hpk := kS_ok hp4
  have hpv := val_ints (pad t t)
  have hsp := splice4 h4
  have hk0 : keysOk (.ar 4 .i64) [] = true := rfl
  have hput0 : putK (kS (pad t t)) (AV.v (.int .i64 0)) [] = mI (numA t [t] 0) := rfl
  have hB0 : BInv t [t] [] := by
    refine ⟨⟨fun x hx => by simp at hx; subst hx; exact hvt, rfl, ?_⟩, by simp, fun i l own _ h => by simp at h⟩
    have := unl_lt (ls := []) (mem_st hvt) (by simp)
    have h0 : unl t [] ≤ (stL t).length := List.countP_le_length
    simp only [List.nil_append] at this
    simp only [List.length_cons, List.length_nil]; omega
  refine P46.rz (ss := [s58g, s73, s75]) ⟨s58g_ok, s73_ok, s75_ok, trivial⟩ (by simp) fun Q hQ => ?_
  delta p46 p46_r0 p46_r1 p46_r2 p46_r3 p46_r4 p46_r5 p46_r6
  simp only [vI] at hsp
  simp (disch := omega) [oLt, oLe, oLtN, oLeN, nLt, nLe, nLtN, nLeN, hsp, hp4, hpt, hpk, hpv, hk0, hput0]
  refine l2_loop ht h4 hB0 (cap := some 1) (.inr rfl) (ut := ut) (.to [6, 8, 1000, 1001] (by simp [so46, hp46, bwL])) fun all beh cap' hB how hlen => ?_
  have hal := hB.ai.len ht h4
  have ha0 : 0 < all.length := (List.getElem?_eq_some_iff.1 hB.ai.fst).1
  have hrep : ∀ n : Nat, n = all.length → List.replicate n (AV.v (.bool false)) = bls (goneL t all 0) := fun n hn => by
    subst hn
    rw [rep_bls]
    congr 1
    apply List.ext_getElem
    · simp [goneL]
    · intro i h1 h2; simp [goneL, canK]
  have hgl : (goneL t all 0).length = all.length := by simp [goneL]
  rcases beh with _ | ⟨b0, br⟩
  · simp at hlen; omega
  show XZ _ _ _ (so46 t ut all (b0 :: br) cap') Q
  simp only [so46, hp46, bwL]
  delta p46_r31 p46_r32
  simp (disch := omega) [oLt, oLe, oLtN, oLeN, nLt, nLe, nLtN, nLeN, hal, hrep]
  refine l4_loop (u0 := true) ht h4 hB how hlen ?_ (fun nx h => hQ _ _ (.p (.inl rfl) rfl rfl))
  refine .trans (.to [2, 6, 7] (s' := ⟨[(6, .ref 0 0 (br.length + 1) 1 none), (15, .ptr 2 0), (16, vI 0)], [(0, .cells (lls (b0 :: br))), (1, .cells (bls (goneL t all 0))), (2, .cells [.ref 1 0 all.length 1 (some all.length)])], 3⟩) (by simp)) ?_
  refine .frz 0 (cs := lls (b0 :: br)) (by simp) (by simp) ?_
  refine .frz 1 (cs := bls (goneL t all 0)) (by simp) (by simp) ?_
  have hgt : List.take all.length (goneL t all 0) = goneL t all 0 := List.take_of_length_le (by omega)
  exact .to [2] (by simp [hgl, hgt])
end Go.Sx.Wk
