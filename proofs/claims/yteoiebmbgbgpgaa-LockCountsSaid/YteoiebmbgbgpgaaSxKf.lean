/- A block that nobody writes to any more is taken out of the heap. No conditions. -/
import Derived.Test.YteoiebmbgbgpgaaSxKd
set_option linter.unusedVariables false
set_option linter.unusedSimpArgs false
namespace Go.Sx
mutual
def clo : AV → Bool
  | .ref _ _ _ _ _ => false
  | .ptr _ _ => false
  | .map _ => false
  | .fn _ a b => cloL a && cloL b
  | .agg cs => cloL cs
  | .tup vs => cloL vs
  | .ifc _ x => clo x
  | .any => true
  | .v _ => true
  | .il _ _ _ => true
  | .elt _ _ => true
def cloL : List AV → Bool
  | [] => true
  | x :: r => clo x && cloL r
end
mutual
theorem clo_bel : ∀ x : AV, clo x = true → bel 0 x
  | .ref _ _ _ _ _, h => by simp [clo] at h
  | .ptr _ _, h => by simp [clo] at h
  | .map _, h => by simp [clo] at h
  | .fn _ a b, h => by simp only [clo, Bool.and_eq_true] at h; exact ⟨cloL_bel a h.1, cloL_bel b h.2⟩
  | .agg cs, h => by simp only [clo] at h; exact cloL_bel cs h
  | .tup vs, h => by simp only [clo] at h; exact cloL_bel vs h
  | .ifc _ x, h => by simp only [clo] at h; exact clo_bel x h
  | .any, _ => trivial
  | .v _, _ => trivial
  | .il _ _ _, _ => trivial
  | .elt _ _, _ => trivial
theorem cloL_bel : ∀ x : List AV, cloL x = true → belL 0 x
  | [], _ => trivial
  | x :: r, h => by simp only [cloL, Bool.and_eq_true] at h; exact ⟨clo_bel x h.1, cloL_bel r h.2⟩
end
mutual
def frA (id : Nat) (cs : List AV) : AV → AV
  | .ref i off len esz cap => if i = id then .il ((cs.drop off).take (len * esz)) len (decide (cap = some len)) else .ref i off len esz cap
  | .ptr i off => if i = id then .elt cs off else .ptr i off
  | .fn g a b => .fn g (frL id cs a) (frL id cs b)
  | .agg c => .agg (frL id cs c)
  | .tup v => .tup (frL id cs v)
  | .ifc t x => .ifc t (frA id cs x)
  | .any => .any
  | .v x => .v x
  | .il c l u => .il c l u
  | .elt c o => .elt c o
  | .map i => .map i
def frL (id : Nat) (cs : List AV) : List AV → List AV
  | [] => []
  | x :: r => frA id cs x :: frL id cs r
end
theorem frL_eq (id : Nat) (cs : List AV) : ∀ l, frL id cs l = l.map (frA id cs)
  | [] => rfl
  | x :: r => by rw [frL, frL_eq id cs r]; rfl
def frB (id : Nat) (cs : List AV) : Blk → Blk
  | .cells c => .cells (frL id cs c)
  | .map es => .map (es.map fun p => (p.1, frA id cs p.2))
  | .bld u c => .bld u (frL id cs c)
theorem rep_fr {S S' : Nat → Prop} {w : World} {id : Nat} {cs : List AV} {l : Loc} {vals : List Value} (hS : ∀ b, S b → S' b) (hSl : S' l.b) (hV : vals.length = cs.length)
    (hc0 : ∀ (i : Nat) x, vals[i]? = some x → w.cell? ⟨l.b, l.base + i, none⟩ = some x) (h10 : ∀ v ∈ vals, v.oneCell' = true)
    (hr0 : ∀ (i : Nat) x y, cs[i]? = some x → vals[i]? = some y → Rep S' w (fun _ => none) x y) {f : Place} {x : AV} {y : Value} (h : Rep S w f x y) : (∀ l', f id = some l' → l' = l) → Rep S' w f (frA id cs x) y := by
  induction h with
  | any => intro _; exact .any
  | v u => intro _; exact .v u
  | nil => intro _; exact .nil
  | emp => intro _; exact .emp
  | il hl hS1 hc h1 hr hn hf ih => intro _; exact (Rep.il hl hS1 hc h1 hr hn hf).mono hS (fun _ _ => rfl) (fun _ _ h => h)
  | @ref f i off len esz cap c L hf h1 h2 h3 h4 =>
    intro hid
    simp only [frA]
    split
    · rename_i e
      subst e
      have := hid L hf
      subst this
      refine .il (vals := (vals.drop off).take (len * esz)) (by simp [hV]) (fun _ => hSl) (fun j x hx => ?_) (fun v hv => h10 v (List.mem_of_mem_drop (List.mem_of_mem_take hv))) (fun j x y hx hy => ?_) h4 (fun hfull => h1 _ (by simpa using hfull))
      · rw [List.getElem?_take] at hx
        split at hx
        · rw [List.getElem?_drop] at hx
          rw [Nat.add_assoc]; exact hc0 _ x hx
        · cases hx
      · rw [List.getElem?_take] at hx hy
        split at hx
        · rename_i hlt
          rw [if_pos hlt] at hy
          rw [List.getElem?_drop] at hx hy
          exact hr0 _ x y hx hy
        · cases hx
    · exact .ref hf h1 h2 h3 h4
  | @ptr f i off L hf =>
    intro hid
    simp only [frA]
    split
    · rename_i e
      subst e
      have := hid L hf
      subst this
      exact .elt hV (fun _ => hSl) hc0 h10 hr0
    · exact .ptr hf
  | elt hl hS1 hc h1 hr ih => intro _; exact (Rep.elt hl hS1 hc h1 hr).mono hS (fun _ _ => rfl) (fun _ _ h => h)
  | map h0 => intro _; exact .map h0
  | fn h1 h2 hr1 hr2 ih1 ih2 =>
    intro hid
    refine .fn (by rw [frL_eq, List.length_map]; exact h1) (by rw [frL_eq, List.length_map]; exact h2) (fun i x y hx hy => ?_) (fun i x y hx hy => ?_)
    · rw [frL_eq, List.getElem?_map] at hx
      obtain ⟨x0, h3, rfl⟩ := Option.map_eq_some_iff.1 hx
      exact ih1 i x0 y h3 hy hid
    · rw [frL_eq, List.getElem?_map] at hx
      obtain ⟨x0, h3, rfl⟩ := Option.map_eq_some_iff.1 hx
      exact ih2 i x0 y h3 hy hid
  | agg hl h1 hr ih =>
    intro hid
    refine .agg (by rw [frL_eq, List.length_map]; exact hl) h1 (fun i x y hx hy => ?_)
    rw [frL_eq, List.getElem?_map] at hx
    obtain ⟨x0, h3, rfl⟩ := Option.map_eq_some_iff.1 hx
    exact ih i x0 y h3 hy hid
  | tup hl hr ih =>
    intro hid
    refine .tup (by rw [frL_eq, List.length_map]; exact hl) (fun i x y hx hy => ?_)
    rw [frL_eq, List.getElem?_map] at hx
    obtain ⟨x0, h3, rfl⟩ := Option.map_eq_some_iff.1 hx
    exact ih i x0 y h3 hy hid
  | ifc h ih => intro hid; exact .ifc (ih hid)
structure Frz (σ σ' : St) : Prop where
  ex : ∃ id cs, σ.heap id = some (.cells cs) ∧ cloL cs = true ∧ σ'.heap id = none ∧ (∀ i, i ≠ id → σ'.heap i = (σ.heap i).map (frB id cs)) ∧ (∀ t, σ'.env t = frA id cs (σ.env t)) ∧ σ'.nx = σ.nx
theorem Frz.after {K : Nat → Prop} {N S w f} {σ σ' : St} {a : Go.Act} (c : Frz σ σ') (hr : Real N S w f (σ.nx ≤ ·) σ.env σ.heap a) :
    ∃ S', Real N S' w f (σ'.nx ≤ ·) σ'.env σ'.heap a ∧ Step K S w f σ.heap S' w f σ'.heap := by
  obtain ⟨id, cs, h1, h2, h3, h4, h5, h6⟩ := c.ex
  obtain ⟨l, hl, hB⟩ := hr.wf.hp.live id _ h1
  obtain ⟨vals, v1, v2, v3, v4⟩ := hB.take 0 cs.length (by simp)
  have hbel := cloL_bel cs h2
  have hfr : ∀ {x y}, Rep S w f x y → Rep (fun b => S b ∨ b = l.b) w f (frA id cs x) y := fun {x y} h =>
    rep_fr (S' := fun b => S b ∨ b = l.b) (vals := vals) (fun b hb => .inl hb) (.inr rfl) v1 (fun i x hx => by have := v4 i x hx; simpa using this) v2 (fun i x y hx hy => by
      have hrep := v3.2 i x y (by simpa [List.getElem?_take, (List.getElem?_eq_some_iff.1 hx).1] using hx) hy
      exact (rep_bel hrep (belL_get hbel hx) (fun i l hi => absurd hi (Nat.not_lt_zero i))).mono (fun b hb => .inl hb) (fun _ _ => rfl) (fun _ _ h => h)) h (fun l' hl' => by rw [hl] at hl'; cases hl'; rfl)
  have live : ∀ j, σ'.heap j ≠ none → j ≠ id ∧ σ.heap j ≠ none := fun j hj => by
    have hne : j ≠ id := fun e => hj (by rw [e]; exact h3)
    refine ⟨hne, fun e => hj ?_⟩
    rw [h4 j hne, e]; rfl
  have hown : ∀ b, Own f σ'.heap b → Own f σ.heap b := fun b ⟨j, lj, q1, q2, q3⟩ => ⟨j, lj, (live j q1).2, q2, q3⟩
  refine ⟨fun b => S b ∨ b = l.b, ⟨fun t => by rw [h5]; exact hfr (hr.env t), ⟨⟨fun i b hb => ?_, fun i j li lj hi hj => hr.wf.hp.inj i j li lj (live i hi).2 (live j hj).2⟩, fun b hb => ?_, hr.wf.gl.mono (fun _ h => .inl h) (fun _ _ => rfl)⟩, fun i hi => hr.fresh i (by rw [← h6]; exact hi), hr.size, hr.defers⟩,
    ⟨.refl _ _, fun b hb => .inl (hown b hb), fun b hb => .inl hb, fun b hb => ?_, fun _ _ _ h => h⟩⟩
  · have hne := (live i (by rw [hb]; simp)).1
    rw [h4 i hne] at hb
    obtain ⟨b0, hb0, rfl⟩ := Option.map_eq_some_iff.1 hb
    obtain ⟨li, hli, hBi⟩ := hr.wf.hp.live i b0 hb0
    refine ⟨li, hli, ?_⟩
    cases b0 with
    | cells c =>
      obtain ⟨arr, t, q1, q2, q3, q4, q5⟩ := hBi
      refine ⟨arr, t, q1, q2, by rw [frL_eq, List.length_map]; exact q3, q4, fun j x y hx hy => ?_⟩
      rw [frL_eq, List.getElem?_map] at hx
      obtain ⟨x0, h7, rfl⟩ := Option.map_eq_some_iff.1 hx
      exact hfr (q5 j x0 y h7 hy)
    | bld u c =>
      obtain ⟨arr, t, q1, q2, q3, q4, q5, q6⟩ := hBi
      refine ⟨arr, t, q1, q2, by rw [frL_eq, List.length_map]; exact q3, q4, fun j x y hx hy => ?_, by rw [frL_eq, List.length_map]; exact q6⟩
      rw [frL_eq, List.getElem?_map] at hx
      obtain ⟨x0, h7, rfl⟩ := Option.map_eq_some_iff.1 hx
      exact hfr (q5 j x0 y h7 hy)
    | map es =>
      obtain ⟨en, q1, q2, q3, q4⟩ := hBi
      refine ⟨en, by simpa using q1, q2, by simpa using q3, fun j k x e hx he => ?_⟩
      rw [List.getElem?_map] at hx
      obtain ⟨p, h7, h8⟩ := Option.map_eq_some_iff.1 hx
      cases h8
      obtain ⟨q5, q6, q7⟩ := q4 j p.1 p.2 e h7 he
      exact ⟨q5, q6, hfr q7⟩
  · rcases hb with hb | rfl
    · exact ⟨(hr.wf.st b hb).1, fun ho => (hr.wf.st b hb).2 (hown b ho)⟩
    · refine ⟨hB.lt, fun ⟨j, lj, q1, q2, q3⟩ => ?_⟩
      obtain ⟨hne, hj⟩ := live j q1
      exact hne (hr.wf.hp.inj j id lj l hj (by rw [h1]; simp) q2 hl q3)
  · rcases hb with hb | rfl
    · exact .inl hb
    · exact .inr (.inl ⟨id, l, by rw [h1]; simp, hl, rfl⟩)
def WkA (x y : AV) : Prop := ∀ S w f v, Rep S w f x v → Rep S w f y v
def WkB : Blk → Blk → Prop
  | .cells c, .cells d => d.length ≤ c.length ∧ ∀ (i : Nat) x y, c[i]? = some x → d[i]? = some y → WkA x y
  | .map e, .map g => g.length = e.length ∧ ∀ (i : Nat) x y, e[i]? = some x → g[i]? = some y → x.1 = y.1 ∧ WkA x.2 y.2
  | .bld u c, .bld v d => u = v ∧ d.length = c.length ∧ ∀ (i : Nat) x y, c[i]? = some x → d[i]? = some y → WkA x y
  | _, _ => False
structure Wkn (σ σ' : St) : Prop where
  env : ∀ t, WkA (σ.env t) (σ'.env t)
  heap : ∀ i b', σ'.heap i = some b' → ∃ b, σ.heap i = some b ∧ WkB b b'
  nx : σ'.nx = σ.nx
theorem brep_wk {S w f b b' l} (h : BRep S w f b l) (hw : WkB b b') : BRep S w f b' l := by
  cases b with
  | cells c =>
    cases b' with
    | cells d =>
      obtain ⟨arr, t, h1, h2, h3, h4, h5⟩ := h
      obtain ⟨w1, w2⟩ := hw
      refine ⟨arr, t, h1, h2, by omega, h4, fun i x y hx hy => ?_⟩
      have hi : i < c.length := by exact Nat.lt_of_lt_of_le (List.getElem?_eq_some_iff.1 hx).1 w1
      exact w2 i c[i] x (by simp [hi]) hx _ _ _ _ (h5 i _ y (by simp [hi]) hy)
    | map g => exact hw.elim
    | bld u g => exact hw.elim
  | bld u c =>
    cases b' with
    | bld u d =>
      obtain ⟨arr, t, h1, h2, h3, h4, h5, h6, h7, h8⟩ := h
      obtain ⟨rfl, w1, w2⟩ := hw
      refine ⟨arr, t, h1, h2, by omega, h4, fun i x y hx hy => ?_, h6, h7, fun hu => by have := h8 hu; omega⟩
      have hi : i < c.length := by rw [← w1]; exact (List.getElem?_eq_some_iff.1 hx).1
      exact w2 i c[i] x (by simp [hi]) hx _ _ _ _ (h5 i _ y (by simp [hi]) hy)
    | map g => exact hw.elim
    | cells g => exact hw.elim
  | map e =>
    cases b' with
    | cells d => exact hw.elim
    | bld u d => exact hw.elim
    | map g =>
      obtain ⟨en, h1, h2, h3, h4⟩ := h
      obtain ⟨w1, w2⟩ := hw
      refine ⟨en, by rw [w1]; exact h1, h2, by rw [w1]; exact h3, fun i k x z hx hz => ?_⟩
      have hi : i < e.length := by rw [← w1]; exact (List.getElem?_eq_some_iff.1 hx).1
      obtain ⟨e1, e2⟩ := w2 i e[i] (k, x) (by simp [hi]) hx
      obtain ⟨q1, q2, q3⟩ := h4 i e[i].1 e[i].2 z (by simp [hi]) hz
      exact ⟨by rw [q1]; exact e1, q2, e2 _ _ _ _ q3⟩
theorem Wkn.after {K : Nat → Prop} {N S w f} {σ σ' : St} {a : Go.Act} (c : Wkn σ σ') (hr : Real N S w f (σ.nx ≤ ·) σ.env σ.heap a) :
    Real N S w f (σ'.nx ≤ ·) σ'.env σ'.heap a ∧ Step K S w f σ.heap S w f σ'.heap := by
  have live : ∀ j, σ'.heap j ≠ none → σ.heap j ≠ none := fun j hj => by
    obtain ⟨b, hb⟩ := Option.ne_none_iff_exists'.1 hj
    obtain ⟨b0, h0, _⟩ := c.heap j b hb
    rw [h0]; simp
  have hown : ∀ b, Own f σ'.heap b → Own f σ.heap b := fun b ⟨j, lj, q1, q2, q3⟩ => ⟨j, lj, live j q1, q2, q3⟩
  refine ⟨⟨fun t => c.env t _ _ _ _ (hr.env t), ⟨⟨fun i b hb => ?_, fun i j li lj hi hj => hr.wf.hp.inj i j li lj (live i hi) (live j hj)⟩, fun b hb => ⟨(hr.wf.st b hb).1, fun ho => (hr.wf.st b hb).2 (hown b ho)⟩, hr.wf.gl⟩,
    fun i hi => hr.fresh i (by rw [← c.nx]; exact hi), hr.size, hr.defers⟩, ⟨.refl _ _, fun b hb => .inl (hown b hb), fun b hb => hb, fun b hb => .inl hb, fun _ _ _ h => h⟩⟩
  obtain ⟨b0, h0, hw⟩ := c.heap i b hb
  obtain ⟨l, hl, hB⟩ := hr.wf.hp.live i b0 h0
  exact ⟨l, hl, brep_wk hB hw⟩
def Fz1 (h h' : Heap) (x y : AV) : Prop :=
  match x with
  | .ref id off len esz cap => ∃ cs, h id = some (.cells cs) ∧ h' id = none ∧ off + len * esz ≤ cs.length ∧ cloL ((cs.drop off).take (len * esz)) = true ∧ y = .il ((cs.drop off).take (len * esz)) len false
  | .v (.slice none 0 0) => y = .il [] 0 false
  | .il c n u => y = .il c n false
  | _ => False
structure Fzn (σ σ' : St) : Prop where
  env : ∀ t, σ'.env t = σ.env t ∨ σ'.env t = .any ∨ Fz1 σ.heap σ'.heap (σ.env t) (σ'.env t)
  heap : ∀ i, σ'.heap i = none ∨ σ'.heap i = σ.heap i
  nx : σ'.nx = σ.nx
theorem Fzn.after {K : Nat → Prop} {N S w f} {σ σ' : St} {a : Go.Act} (c : Fzn σ σ') (hr : Real N S w f (σ.nx ≤ ·) σ.env σ.heap a) :
    ∃ S', Real N S' w f (σ'.nx ≤ ·) σ'.env σ'.heap a ∧ Step K S w f σ.heap S' w f σ'.heap := by
  have live : ∀ j, σ'.heap j ≠ none → σ'.heap j = σ.heap j := fun j hj => (c.heap j).resolve_left hj
  have hown : ∀ b, Own f σ'.heap b → Own f σ.heap b := fun b ⟨j, lj, q1, q2, q3⟩ => ⟨j, lj, by rw [← live j q1]; exact q1, q2, q3⟩
  refine ⟨fun b => S b ∨ (Own f σ.heap b ∧ ¬ Own f σ'.heap b), ⟨fun t => ?_, ⟨⟨fun i b hb => ?_, fun i j li lj hi hj => ?_⟩, fun b hb => ?_, hr.wf.gl.mono (fun _ h => .inl h) (fun _ _ => rfl)⟩, fun i hi => hr.fresh i (by rw [← c.nx]; exact hi), hr.size, hr.defers⟩,
    ⟨.refl _ _, fun b hb => .inl (hown b hb), fun b hb => .inl hb, fun b hb => ?_, fun _ _ _ h => h⟩⟩
  · have h0 := hr.env t
    rcases c.env t with h | h | h
    · rw [h]; exact h0.mono (fun b hb => .inl hb) (fun _ _ => rfl) (fun _ _ h => h)
    · rw [h]; exact .any
    · generalize a.tmps.getD t undef = v at h0 ⊢
      generalize σ.env t = x at h h0
      unfold Fz1 at h
      split at h
      · rename_i id off len esz cap
        obtain ⟨cs, q1, q2, q3, q4, q5⟩ := h
        rw [q5]
        cases h0 with
        | @ref _ _ _ _ _ _ cc l hl h1 h2 h3 h4 =>
          obtain ⟨l', hl', hB⟩ := hr.wf.hp.live id _ q1
          rw [hl] at hl'; cases hl'
          obtain ⟨vals, v1, v2, v3, v4⟩ := hB.take off (len * esz) q3
          have hlen : ((cs.drop off).take (len * esz)).length = len * esz := by simp; omega
          have hS : Own f σ.heap l.b ∧ ¬ Own f σ'.heap l.b := by
            refine ⟨⟨id, l, by rw [q1]; simp, hl, rfl⟩, fun ⟨j, lj, p1, p2, p3⟩ => ?_⟩
            have e := hr.wf.hp.inj j id lj l (by rw [← live j p1]; exact p1) (by rw [q1]; simp) p2 hl p3
            subst e; exact p1 q2
          refine .il (vals := vals) (by rw [v1, hlen]) (fun _ => .inr hS) v4 v2 (fun i x y hx hy => ?_) h4 (by simp)
          exact (rep_bel (v3.2 i x y hx hy) (belL_get (cloL_bel _ q4) hx) (fun i l hi => absurd hi (Nat.not_lt_zero i))).mono (fun b hb => .inl hb) (fun _ _ => rfl) (fun _ _ h => h)
      · cases h0; rw [h]; exact .nil
      · rw [h]
        cases h0 with
        | nil => exact .nil
        | emp => exact .emp
        | il hl hS hc h1 hr1 hn hf => exact (Rep.il hl hS hc h1 hr1 hn (by simp)).mono (fun b hb => .inl hb) (fun _ _ => rfl) (fun _ _ h => h)
      · exact h.elim
  · rw [live i (by rw [hb]; simp)] at hb
    obtain ⟨l, hl, hB⟩ := hr.wf.hp.live i b hb
    exact ⟨l, hl, hB.mono (fun b hb => .inl hb) (fun _ _ => rfl) (fun _ _ h => h) rfl⟩
  · exact hr.wf.hp.inj i j li lj (by rw [← live i hi]; exact hi) (by rw [← live j hj]; exact hj)
  · rcases hb with hb | ⟨h1, h2⟩
    · exact ⟨(hr.wf.st b hb).1, fun ho => (hr.wf.st b hb).2 (hown b ho)⟩
    · exact ⟨hr.wf.own_lt h1, h2⟩
  · rcases hb with hb | ⟨h1, h2⟩
    · exact .inl hb
    · exact .inr (.inl h1)
inductive Chg (k0 : Nat) : St → St → Prop where
  | refl {σ} : Chg k0 σ σ
  | conv {a b c} (h : Conv k0 a b) (t : Chg k0 b c) : Chg k0 a c
  | frz {a b c} (h : Frz a b) (t : Chg k0 b c) : Chg k0 a c
  | weak {a b c} (h : Wkn a b) (t : Chg k0 b c) : Chg k0 a c
  | fzn {a b c} (h : Fzn a b) (t : Chg k0 b c) : Chg k0 a c
theorem Chg.after {k0 N : Nat} {w : World} {a : Go.Act} {σ σ' : St} (c : Chg k0 σ σ') : ∀ {S f}, Real N S w f (σ.nx ≤ ·) σ.env σ.heap a →
    ∃ S' f', Real N S' w f' (σ'.nx ≤ ·) σ'.env σ'.heap a ∧ Step (· < k0) S w f σ.heap S' w f' σ'.heap := by
  induction c with
  | refl => intro S f hr; exact ⟨S, f, hr, .refl _ _ _ _ _⟩
  | conv h t ih =>
    intro S f hr
    obtain ⟨f1, h1, h2⟩ := h.after hr
    obtain ⟨S2, f2, h3, h4⟩ := ih h1
    exact ⟨S2, f2, h3, h2.trans h4⟩
  | frz h t ih =>
    intro S f hr
    obtain ⟨S1, h1, h2⟩ := h.after (K := (· < k0)) hr
    obtain ⟨S2, f2, h3, h4⟩ := ih h1
    exact ⟨S2, f2, h3, h2.trans h4⟩
  | weak h t ih =>
    intro S f hr
    obtain ⟨h1, h2⟩ := h.after (K := (· < k0)) hr
    obtain ⟨S2, f2, h3, h4⟩ := ih h1
    exact ⟨S2, f2, h3, h2.trans h4⟩
  | fzn h t ih =>
    intro S f hr
    obtain ⟨S1, h1, h2⟩ := h.after (K := (· < k0)) hr
    obtain ⟨S2, f2, h3, h4⟩ := ih h1
    exact ⟨S2, f2, h3, h2.trans h4⟩
theorem Chg.trans {k0 : Nat} {a b c : St} (h : Chg k0 a b) (t : Chg k0 b c) : Chg k0 a c := by
  induction h with
  | refl => exact t
  | conv h _ ih => exact .conv h (ih t)
  | frz h _ ih => exact .frz h (ih t)
  | weak h _ ih => exact .weak h (ih t)
  | fzn h _ ih => exact .fzn h (ih t)
end Go.Sx
