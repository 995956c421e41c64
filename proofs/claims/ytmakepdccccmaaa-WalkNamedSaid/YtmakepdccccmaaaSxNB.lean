/- How many inspectors are needed, for other numbers: plain facts. No conditions. -/
import Derived.Test.YtmakepdccccmaaaSxNA
import Derived.Test.YtmakepdccccmaaaSxJO9toO3
import Derived.Test.YtmakepdccccmaaaSxR1
set_option linter.unusedVariables false
set_option linter.unusedSimpArgs false
set_option maxRecDepth 100000
namespace Go.Sx.Wk
open Go Go.Sx Go.Proofs

theorem best_facts {t : List Int} (ht : ok8 t = true) (h4 : t.length ≤ 4) (hne : t ≠ []) :
    (best t).1 ∈ divs t.length [] ∧ fit canB t (best t).1 = true ∧ (best t).2 = nextL (best t).1 ∧ ∀ e ∈ divs t.length [], fit canB t e = true → (best t).2 ≤ nextL e := by
  have ht8 := ok8_iff.1 ht
  obtain ⟨d1, d2, d3⟩ := divs_ok t.length (n14 hne h4)
  have hb : best t = bstG (fit canB t) nextL (divs t.length []) ([], (t.length : Int) + 1) := bst_G fun d hd => ⟨(d1 d hd).1, (d1 d hd).2.2.2⟩
  have hfit : fit canB t (gs t.length) = true := fit_all h4 fun x hx => canB_one (ht8 x hx)
  rcases bstG_spec (F := fit canB t) (M := nextL) (divs t.length []) ([], (t.length : Int) + 1) (best t) hb.symm with ⟨h1, h2⟩ | ⟨h1, hm, h2, h3, h5⟩
  · have := h2 _ d2 hfit
    rw [d3] at this; simp only at this; omega
  · have hf := List.find?_some h5
    simp only [Bool.and_eq_true] at hf
    exact ⟨hm, hf.1, h2, h3⟩
/-- Any list of names of inspectors can be numbered in the order of their first ones. -/
def canonB : Bool := [1, 2, 3, 4].all fun n => (allL [0, 1, 2, 3] n).all fun e => (divs n []).any fun d =>
  ([1, 2, 3, 4].all fun (m : Int) => !(e.all fun x => decide (x < m)) || decide (nextL d ≤ m)) && (gs n).all fun g => (grpL d (gs n) g == []) || (gs 4).any fun g' => grpL d (gs n) g == grpL e (gs n) g'
theorem canon_ok : canonB = true := by decide +kernel
theorem canon {n : Nat} (hn : n ∈ [1, 2, 3, 4]) {e : List Int} (hl : e.length = n) (he : ∀ x ∈ e, 0 ≤ x ∧ x < 4) : ∃ d ∈ divs n [], (∀ m : Int, 1 ≤ m → m ≤ 4 → (∀ x ∈ e, x < m) → nextL d ≤ m) ∧ ∀ g : Int, 0 ≤ g → g < n → grpL d (gs n) g = [] ∨ ∃ g' : Int, grpL d (gs n) g = grpL e (gs n) g' := by
  have h := canon_ok
  simp only [canonB, List.all_eq_true, List.any_eq_true, Bool.and_eq_true, Bool.or_eq_true, Bool.not_eq_true', decide_eq_true_eq, beq_iff_eq] at h
  have hm : e ∈ allL [0, 1, 2, 3] n := by
    rw [← hl]
    exact mem_allL fun x hx => by have := he x hx; simp; omega
  obtain ⟨d, d1, d2, d3⟩ := h n hn e hm
  refine ⟨d, d1, fun m m1 m4 hx => ?_, fun g g0 g1 => ?_⟩
  · have hm4 : m ∈ [1, 2, 3, 4] := by simp; omega
    rcases d2 m hm4 with h | h
    · exfalso
      have : (e.all fun x => decide (x < m)) = true := List.all_eq_true.2 fun x hx' => decide_eq_true (hx x hx')
      rw [this] at h; cases h
    · exact h
  · rcases d3 g (gs_mem.2 ⟨g0, g1⟩) with h | ⟨g', -, h⟩
    · exact .inl h
    · exact .inr ⟨g', h⟩
theorem own_idx {g : Int} : ∀ {d t : List Int}, d.length = t.length → t.length ≤ 4 → grpL d t g = (grpL d (gs t.length) g).map fun i => (t[i.toNat]?).getD 0
  | [], [], _, _ => rfl
  | [a], [x], _, _ => by by_cases ha : a = g <;> simp [grpL, gs, List.range_succ, ha]
  | [a, b], [x, y], _, _ => by by_cases ha : a = g <;> by_cases hb : b = g <;> simp [grpL, gs, List.range_succ, ha, hb]
  | [a, b, c], [x, y, z], _, _ => by by_cases ha : a = g <;> by_cases hb : b = g <;> by_cases hc : c = g <;> simp [grpL, gs, List.range_succ, ha, hb, hc]
  | [a, b, c, d], [x, y, z, w], _, _ => by by_cases ha : a = g <;> by_cases hb : b = g <;> by_cases hc : c = g <;> by_cases hd : d = g <;> simp [grpL, gs, List.range_succ, ha, hb, hc, hd]
  | _ :: _ :: _ :: _ :: _ :: _, _ :: _ :: _ :: _ :: _ :: _, _, h => by simp at h
theorem fewest_le {t e : List Int} {m : Int} (ht : ok8 t = true) (h4 : t.length ≤ 4) (hne : t ≠ []) (hl : e.length = t.length) (h0 : ∀ x ∈ e, 0 ≤ x ∧ x < m) (hm : 1 ≤ m ∧ m ≤ 4) (hf : ∀ g : Int, grpL e t g = [] ∨ canB (grpL e t g) = true) : (best t).2 ≤ m := by
  obtain ⟨d, d1, d2, d3⟩ := canon (n14 hne h4) hl fun x hx => by have := h0 x hx; omega
  obtain ⟨q1, -, -⟩ := divs_ok t.length (n14 hne h4)
  obtain ⟨-, -, -, hdl⟩ := q1 d d1
  have hfit : fit canB t d = true := by
    rw [fit_iff]
    intro g g0 g1
    rw [own_idx hdl h4]
    rcases d3 g g0 g1 with h | ⟨g', h⟩
    · left; rw [h]; rfl
    · rw [h, ← own_idx hl h4]; exact hf g'
  exact Int.le_trans ((best_facts ht h4 hne).2.2.2 d d1 hfit) (d2 m hm.1 hm.2 fun x hx => (h0 x hx).2)
theorem grp_filter {g : Int} : ∀ {d t : List Int}, d.length = t.length → grpL d t g = ((d.zip t).filter fun p => decide (p.1 = g)).map (·.2)
  | [], [], _ => rfl
  | a :: d, x :: t, h => by
    have ih := grp_filter (g := g) (d := d) (t := t) (by simpa using h)
    by_cases ha : a = g <;> simp [grpL, ha, ih]
theorem divs_mem : ∀ n ∈ [1, 2, 3, 4], ∀ d ∈ divs n [], ∀ y ∈ d, 0 ≤ y ∧ y < nextL d := by decide +kernel
theorem lift_perm {t u : List Int} (h : t.Perm u) : ∀ {Z : List (Int × Int)}, Z.map (·.2) = t → ∃ W, Z.Perm W ∧ W.map (·.2) = u := by
  induction h with
  | nil => intro Z h; exact ⟨Z, .refl _, h⟩
  | @cons x l₁ l₂ _ ih =>
    intro Z h
    rcases Z with _ | ⟨p, Z⟩
    · cases h
    · simp only [List.map_cons, List.cons.injEq] at h
      obtain ⟨W, h1, h2⟩ := ih h.2
      exact ⟨p :: W, h1.cons p, by simp [h.1, h2]⟩
  | swap x y l =>
    intro Z h
    rcases Z with _ | ⟨p, _ | ⟨q, Z⟩⟩
    · cases h
    · simp at h
    · simp only [List.map_cons, List.cons.injEq] at h
      exact ⟨q :: p :: Z, .swap q p Z, by simp [h]⟩
  | trans _ _ ih1 ih2 =>
    intro Z h
    obtain ⟨W, h1, h2⟩ := ih1 h
    obtain ⟨V, h3, h4⟩ := ih2 h2
    exact ⟨V, h1.trans h3, h4⟩
/-- A stretch less, or another order: no more inspectors. -/
theorem fewest_part {t u r : List Int} (h : t.Perm (u ++ r)) (hu : u ≠ []) (ht : ok8 t = true) (h4 : t.length ≤ 4) : (best u).2 ≤ (best t).2 := by
  have hlen := h.length_eq
  rw [List.length_append] at hlen
  have htne : t ≠ [] := fun e => by
    have := List.length_pos_iff.2 hu
    rw [e] at hlen; simp at hlen; omega
  have t8 := ok8_iff.1 ht
  have hu8 : ok8 u = true := ok8_iff.2 fun y hy => t8 y (h.symm.subset (List.mem_append_left _ hy))
  obtain ⟨b1, b2, b3, -⟩ := best_facts ht h4 htne
  obtain ⟨q1, -, -⟩ := divs_ok t.length (n14 htne h4)
  obtain ⟨-, n1, n2, hdl⟩ := q1 _ b1
  have hn4 : nextL (best t).1 ≤ 4 := by omega
  rw [b3]
  generalize (best t).1 = d at *
  have hZ : (d.zip t).map (·.2) = t := by
    rw [List.map_snd_zip]; omega
  obtain ⟨W, w1, w2⟩ := lift_perm h hZ
  have hWl : W.length = u.length + r.length := by
    have := congrArg List.length w2
    simpa using this
  obtain ⟨A, B, rfl, hA⟩ : ∃ A B, W = A ++ B ∧ A.length = u.length := ⟨W.take u.length, W.drop u.length, by simp, by rw [List.length_take]; omega⟩
  rw [List.map_append] at w2
  obtain ⟨hA2, hB2⟩ := List.append_inj w2 (by simpa using hA)
  have hAz : (A.map (·.1)).zip u = A := by rw [← hA2]; exact zip_of A
  have hel : (A.map (·.1)).length = u.length := by simpa using hA
  refine fewest_le hu8 (by omega) hu hel (fun x hx => ?_) ⟨n1, hn4⟩ fun g => ?_
  · obtain ⟨p, hp, rfl⟩ := List.mem_map.1 hx
    have hpz : p ∈ d.zip t := w1.symm.subset (List.mem_append_left _ hp)
    have hpd : p.1 ∈ d := (List.of_mem_zip (a := p.1) (b := p.2) hpz).1
    exact divs_mem _ (n14 htne h4) d b1 _ hpd
  · by_cases hg : grpL (A.map (·.1)) u g = []
    · exact .inl hg
    · right
      have e1 := grp_filter (g := g) hdl
      have e2 := grp_filter (g := g) hel
      rw [hAz] at e2
      have hp : (grpL d t g).Perm (grpL (A.map (·.1)) u g ++ (B.filter fun p => decide (p.1 = g)).map (·.2)) := by
        rw [e1, e2, ← List.map_append, ← List.filter_append]
        exact (w1.filter _).map _
      have hgl : (grpL d t g).length ≤ 4 := Nat.le_trans own_len h4
      have hg8 : ok8 (grpL d t g) = true := ok8_iff.2 fun y hy => t8 y (own_mem hy)
      have hgne : grpL d t g ≠ [] := fun h => by
        rw [h] at hp
        exact hg (List.append_eq_nil_iff.1 hp.symm.eq_nil).1
      have hgd : g ∈ d := List.contains_iff_mem.1 ((own_ne hdl).1 hgne)
      obtain ⟨g0, g1⟩ := divs_mem _ (n14 htne h4) d b1 g hgd
      have hgc : canB (grpL d t g) = true := by
        rcases fit_iff.1 b2 g g0 (by omega) with h | h
        · exact absurd h hgne
        · exact h
      exact can_part hp hg hg8 hgl hgc
end Go.Sx.Wk
