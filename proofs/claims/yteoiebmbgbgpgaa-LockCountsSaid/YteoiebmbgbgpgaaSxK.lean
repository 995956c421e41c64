/- Other numbers for the same blocks. No conditions. -/
import Derived.Test.YteoiebmbgbgpgaaSxJ
set_option linter.unusedVariables false
set_option linter.unusedSimpArgs false
namespace Go.Sx
mutual
def ren (g : Nat → Nat) : AV → AV
  | .any => .any
  | .v x => .v x
  | .il c l u => .il c l u
  | .ref id o l e c => .ref (g id) o l e c
  | .ptr id o => .ptr (g id) o
  | .elt c o => .elt c o
  | .map id => .map (g id)
  | .fn q a b => .fn q (renL g a) (renL g b)
  | .agg cs => .agg (renL g cs)
  | .tup vs => .tup (renL g vs)
  | .ifc t x => .ifc t (ren g x)
def renL (g : Nat → Nat) : List AV → List AV
  | [] => []
  | x :: r => ren g x :: renL g r
end
theorem renL_eq (g : Nat → Nat) : ∀ l, renL g l = l.map (ren g)
  | [] => rfl
  | x :: r => by rw [renL, renL_eq g r]; rfl
theorem renL_get (g : Nat → Nat) (l : List AV) (i : Nat) : (renL g l)[i]? = (l[i]?).map (ren g) := by rw [renL_eq, List.getElem?_map]
theorem renL_len (g : Nat → Nat) (l : List AV) : (renL g l).length = l.length := by rw [renL_eq, List.length_map]
def renB (g : Nat → Nat) : Blk → Blk
  | .cells cs => .cells (renL g cs)
  | .map es => .map (es.map fun p => (p.1, ren g p.2))
  | .bld u cs => .bld u (renL g cs)
theorem rep_of_ren {S w f} {g : Nat → Nat} {x' : AV} {y : Value} (h : Rep S w f x' y) : ∀ {x : AV}, x' = ren g x → Rep S w (fun i => f (g i)) x y := by
  induction h with
  | any => intro x e; cases x <;> simp only [ren, reduceCtorEq] at e; exact .any
  | v u => intro x e; cases x <;> simp only [ren, reduceCtorEq, AV.v.injEq] at e; subst e; exact .v _
  | nil => intro x e; cases x <;> simp only [ren, reduceCtorEq, AV.il.injEq] at e; obtain ⟨rfl, rfl, rfl⟩ := e; exact .nil
  | emp => intro x e; cases x <;> simp only [ren, reduceCtorEq, AV.il.injEq] at e; obtain ⟨rfl, rfl, rfl⟩ := e; exact .emp
  | il hl hS hc h1 hr hn hf ih => intro x e; cases x <;> simp only [ren, reduceCtorEq, AV.il.injEq] at e; obtain ⟨rfl, rfl, rfl⟩ := e; exact .il hl hS hc h1 hr hn hf
  | ref h0 h1 h2 h3 h4 => intro x e; cases x <;> simp only [ren, reduceCtorEq, AV.ref.injEq] at e; obtain ⟨rfl, rfl, rfl, rfl, rfl⟩ := e; exact .ref h0 h1 h2 h3 h4
  | ptr h0 => intro x e; cases x <;> simp only [ren, reduceCtorEq, AV.ptr.injEq] at e; obtain ⟨rfl, rfl⟩ := e; exact .ptr h0
  | elt hl hS hc h1 hr ih => intro x e; cases x <;> simp only [ren, reduceCtorEq, AV.elt.injEq] at e; obtain ⟨rfl, rfl⟩ := e; exact .elt hl hS hc h1 hr
  | map h0 => intro x e; cases x <;> simp only [ren, reduceCtorEq, AV.map.injEq] at e; subst e; exact .map h0
  | fn h1 h2 hr1 hr2 ih1 ih2 =>
    intro x e; cases x <;> simp only [ren, reduceCtorEq, AV.fn.injEq] at e
    obtain ⟨rfl, rfl, rfl⟩ := e
    rw [renL_len] at h1 h2
    exact .fn h1 h2 (fun i x y hx hy => ih1 i _ y (by rw [renL_get, hx]; rfl) hy rfl) (fun i x y hx hy => ih2 i _ y (by rw [renL_get, hx]; rfl) hy rfl)
  | agg hl h1 hr ih =>
    intro x e; cases x <;> simp only [ren, reduceCtorEq, AV.agg.injEq] at e
    subst e
    rw [renL_len] at hl
    exact .agg hl h1 (fun i x y hx hy => ih i _ y (by rw [renL_get, hx]; rfl) hy rfl)
  | tup hl hr ih =>
    intro x e; cases x <;> simp only [ren, reduceCtorEq, AV.tup.injEq] at e
    subst e
    rw [renL_len] at hl
    exact .tup hl (fun i x y hx hy => ih i _ y (by rw [renL_get, hx]; rfl) hy rfl)
  | ifc h ih =>
    intro x e; cases x <;> simp only [ren, reduceCtorEq, AV.ifc.injEq] at e
    obtain ⟨rfl, e2⟩ := e
    exact .ifc (ih e2)
theorem ren_of_rep {S w f f'} {g : Nat → Nat} {x : AV} {y : Value} (h : Rep S w f x y) (hf : ∀ i l, f i = some l → f' (g i) = some l) : Rep S w f' (ren g x) y := by
  induction h generalizing f' with
  | any => exact .any
  | v u => exact .v u
  | nil => exact .nil
  | emp => exact .emp
  | il hl hS hc h1 hr hn hf' ih => exact .il hl hS hc h1 hr hn hf'
  | ref h0 h1 h2 h3 h4 => exact .ref (hf _ _ h0) h1 h2 h3 h4
  | ptr h0 => exact .ptr (hf _ _ h0)
  | elt hl hS hc h1 hr ih => exact .elt hl hS hc h1 hr
  | map h0 => exact .map (hf _ _ h0)
  | fn h1 h2 hr1 hr2 ih1 ih2 =>
    refine .fn (by rw [renL_len]; exact h1) (by rw [renL_len]; exact h2) (fun i x y hx hy => ?_) (fun i x y hx hy => ?_)
    · rw [renL_get] at hx
      obtain ⟨x0, h3, rfl⟩ := Option.map_eq_some_iff.1 hx
      exact ih1 i x0 y h3 hy hf
    · rw [renL_get] at hx
      obtain ⟨x0, h3, rfl⟩ := Option.map_eq_some_iff.1 hx
      exact ih2 i x0 y h3 hy hf
  | agg hl h1 hr ih =>
    refine .agg (by rw [renL_len]; exact hl) h1 (fun i x y hx hy => ?_)
    rw [renL_get] at hx
    obtain ⟨x0, h3, rfl⟩ := Option.map_eq_some_iff.1 hx
    exact ih i x0 y h3 hy hf
  | tup hl hr ih =>
    refine .tup (by rw [renL_len]; exact hl) (fun i x y hx hy => ?_)
    rw [renL_get] at hx
    obtain ⟨x0, h3, rfl⟩ := Option.map_eq_some_iff.1 hx
    exact ih i x0 y h3 hy hf
  | ifc h ih => exact .ifc (ih hf)
theorem brep_of_ren {S w f} {g : Nat → Nat} {k : Blk} {l : Loc} (h : BRep S w f (renB g k) l) : BRep S w (fun i => f (g i)) k l := by
  cases k with
  | cells cs =>
    obtain ⟨arr, t, h1, h2, h3, h4, h5⟩ := h
    rw [renL_len] at h3
    exact ⟨arr, t, h1, h2, h3, h4, fun i x y hx hy => rep_of_ren (h5 i _ y (by rw [renL_get, hx]; rfl) hy) rfl⟩
  | bld u cs =>
    obtain ⟨arr, t, h1, h2, h3, h4, h5, h6⟩ := h
    rw [renL_len] at h3 h6
    exact ⟨arr, t, h1, h2, h3, h4, fun i x y hx hy => rep_of_ren (h5 i _ y (by rw [renL_get, hx]; rfl) hy) rfl, h6⟩
  | map es =>
    obtain ⟨en, h1, h2, h3, h4⟩ := h
    refine ⟨en, by simpa using h1, h2, by simpa using h3, fun i k x e hx he => ?_⟩
    obtain ⟨a, b, c⟩ := h4 i k (ren g x) e (by rw [List.getElem?_map, hx]; rfl) he
    exact ⟨a, b, rep_of_ren c rfl⟩
theorem ren_of_brep {S w f f'} {g : Nat → Nat} {k : Blk} {l : Loc} (h : BRep S w f k l) (hf : ∀ i l, f i = some l → f' (g i) = some l) : BRep S w f' (renB g k) l := by
  cases k with
  | cells cs =>
    obtain ⟨arr, t, h1, h2, h3, h4, h5⟩ := h
    refine ⟨arr, t, h1, h2, by rw [renL_len]; exact h3, h4, fun i x y hx hy => ?_⟩
    rw [renL_get] at hx
    obtain ⟨x0, h6, rfl⟩ := Option.map_eq_some_iff.1 hx
    exact ren_of_rep (h5 i x0 y h6 hy) hf
  | bld u cs =>
    obtain ⟨arr, t, h1, h2, h3, h4, h5, h7⟩ := h
    refine ⟨arr, t, h1, h2, by rw [renL_len]; exact h3, h4, fun i x y hx hy => ?_, by rw [renL_len]; exact h7⟩
    rw [renL_get] at hx
    obtain ⟨x0, h6, rfl⟩ := Option.map_eq_some_iff.1 hx
    exact ren_of_rep (h5 i x0 y h6 hy) hf
  | map es =>
    obtain ⟨en, h1, h2, h3, h4⟩ := h
    refine ⟨en, by simpa using h1, h2, by simpa using h3, fun i k x e hx he => ?_⟩
    rw [List.getElem?_map] at hx
    obtain ⟨p, h6, h7⟩ := Option.map_eq_some_iff.1 hx
    cases h7
    obtain ⟨a, b, c⟩ := h4 i p.1 p.2 e h6 he
    exact ⟨a, b, ren_of_rep c hf⟩
structure Cv (k0 : Nat) (g : Nat → Nat) (nx nx' : Nat) (h h' : Heap) : Prop where
  low : ∀ i, i < k0 → g i = i
  high : ∀ i, nx' ≤ i → nx ≤ g i
  heap : ∀ i b, h' i = some b → h (g i) = some (renB g b)
  inj : ∀ i j, h' i ≠ none → h' j ≠ none → g i = g j → i = j
theorem Cv.wf {k0 g nx nx' h h' S w f} (c : Cv k0 g nx nx' h h') (wf : Wf S w f h) : Wf S w (fun i => f (g i)) h' := by
  have live : ∀ i, h' i ≠ none → h (g i) ≠ none := fun i hi => by
    obtain ⟨b, hb⟩ := Option.ne_none_iff_exists'.1 hi
    rw [c.heap i b hb]; simp
  refine ⟨⟨fun i b hb => ?_, fun i j li lj hi hj hfi hfj he => ?_⟩, fun b hb => ⟨(wf.st b hb).1, fun ⟨i, l, h1, h2, h3⟩ => (wf.st b hb).2 ⟨g i, l, live i h1, h2, h3⟩⟩, wf.gl⟩
  · obtain ⟨l, hl, hB⟩ := wf.hp.live (g i) _ (c.heap i b hb)
    exact ⟨l, hl, brep_of_ren hB⟩
  · exact c.inj i j hi hj (wf.hp.inj _ _ li lj (live i hi) (live j hj) hfi hfj he)
theorem Cv.step {k0 g nx nx' h h' S w f} (c : Cv k0 g nx nx' h h') : Step (· < k0) S w f h S w (fun i => f (g i)) h' := by
  refine ⟨.refl _ _, fun b ⟨i, l, h1, h2, h3⟩ => .inl ⟨g i, l, ?_, h2, h3⟩, fun _ h => h, fun _ h => .inl h, fun i l hi hl => by rw [c.low i hi]; exact hl⟩
  obtain ⟨b, hb⟩ := Option.ne_none_iff_exists'.1 h1
  rw [c.heap i b hb]; simp
structure Conv (k0 : Nat) (σ σ' : St) : Prop where
  ex : ∃ g, Cv k0 g σ.nx σ'.nx σ.heap σ'.heap ∧ ∀ t, σ'.env t = .any ∨ σ.env t = ren g (σ'.env t)
theorem Conv.after {k0 N S w f} {σ σ' : St} {a : Go.Act} (c : Conv k0 σ σ') (hr : Real N S w f (σ.nx ≤ ·) σ.env σ.heap a) :
    ∃ f', Real N S w f' (σ'.nx ≤ ·) σ'.env σ'.heap a ∧ Step (· < k0) S w f σ.heap S w f' σ'.heap := by
  obtain ⟨g, hc, he⟩ := c.ex
  refine ⟨fun i => f (g i), ⟨fun t => ?_, hc.wf hr.wf, fun i hi => hr.fresh _ (hc.high i hi), hr.size, hr.defers⟩, hc.step⟩
  rcases he t with h | h
  · rw [h]; exact .any
  · exact rep_of_ren (h ▸ hr.env t) rfl
theorem After.conv {N k0 S w f h R R' a' w'} (hh : After N (· < k0) S w f h R a' w') (hc : ∀ σ, R σ → ∃ σ', Conv k0 σ σ' ∧ R' σ') : After N (· < k0) S w f h R' a' w' := by
  obtain ⟨S', f', σ', h1, h2, h3⟩ := hh
  obtain ⟨σ'', h4, h5⟩ := hc σ' h1
  obtain ⟨f'', h6, h7⟩ := h4.after h2
  exact ⟨S', f'', σ'', h5, h6, h3.trans h7⟩
def Runs (P : Program) (fid : FuncId) (k : Nat) (args : List AV) (h : Heap) (r : AV) (k' : Nat) (h' : Heap) : Prop :=
  (∃ fn, P.funcs[fid]? = some fn ∧ fn.body.isSome = true ∧ (fn.name == "runtime.NumGoroutine") = false) ∧
  ∀ S w f vs, Reps S w f args vs → Wf S w f h → (∀ id, k ≤ id → f id = none) →
    Calls P fid vs.toArray w fun e w' => ∃ S' f' v, e = .returned v ∧ Rep S' w' f' r v ∧ Wf S' w' f' h' ∧ Step (fun _ => True) S w f h S' w' f' h' ∧ (∀ id, k' ≤ id → f' id = none)
def gl (l : List Nat) (k t : Nat) (i : Nat) : Nat := if i < k then (l[i]?).getD 0 else t + (i - k)
theorem setAll_mem : ∀ (h : Heap) (is : List Nat) (os : List (Option Blk)) (j : Nat), is.length = os.length → (j ∉ is → setAll h is os j = h j)
  | h, [], _, j, _, _ => by simp [setAll]
  | h, i :: is, [], j, hl, _ => by simp at hl
  | h, i :: is, o :: os, j, hl, hj => by
    simp only [setAll]
    rw [setAll_mem (upd h i o) is os j (by simpa using hl) (fun hm => hj (by simp [hm])), upd_other _ _ (fun e => hj (by simp [e]))]
theorem setAll_map (G : Nat → Nat) (F : Nat → Option Blk) : ∀ (l : List Nat) (h : Heap), (∀ i ∈ l, ∀ j ∈ l, G i = G j → i = j) → l.Nodup → ∀ i ∈ l, setAll h (l.map G) (l.map F) (G i) = F i
  | [], h, _, _, i, hi => by simp at hi
  | a :: l, h, hinj, hnd, i, hi => by
    simp only [List.map_cons, setAll]
    by_cases hm : i ∈ l
    · exact setAll_map G F l _ (fun i hi j hj => hinj i (by simp [hi]) j (by simp [hj])) (List.nodup_cons.1 hnd).2 i hm
    · have e : i = a := by simp at hi; exact hi.resolve_right hm
      subst e
      rw [setAll_mem _ _ _ _ (by simp) (fun hmem => by
        obtain ⟨j, hj, he⟩ := List.mem_map.1 hmem
        have := hinj j (by simp [hj]) i (by simp) he
        subst this; exact hm hj)]
      simp
mutual
def bel (k : Nat) : AV → Prop
  | .ref id _ _ _ _ => id < k
  | .ptr id _ => id < k
  | .map id => id < k
  | .fn _ a b => belL k a ∧ belL k b
  | .agg cs => belL k cs
  | .tup vs => belL k vs
  | .ifc _ x => bel k x
  | .any => True
  | .v _ => True
  | .il _ _ _ => True
  | .elt _ _ => True
def belL (k : Nat) : List AV → Prop
  | [] => True
  | x :: r => bel k x ∧ belL k r
end
theorem belL_get {k : Nat} : ∀ {l : List AV} {i : Nat} {x : AV}, belL k l → l[i]? = some x → bel k x
  | [], i, x, _, h => by simp at h
  | a :: l, 0, x, hb, h => by simp at h; subst h; exact hb.1
  | a :: l, i + 1, x, hb, h => belL_get (l := l) (i := i) hb.2 (by simpa using h)
def belB (k : Nat) : Blk → Prop
  | .cells cs => belL k cs
  | .map es => ∀ (i : Nat) p, es[i]? = some p → bel k p.2
  | .bld _ cs => belL k cs
theorem rep_bel {S w f f' k} {x : AV} {y : Value} (h : Rep S w f x y) (hb : bel k x) (hf : ∀ i l, i < k → f i = some l → f' i = some l) : Rep S w f' x y := by
  induction h generalizing f' with
  | any => exact .any
  | v u => exact .v u
  | nil => exact .nil
  | emp => exact .emp
  | il hl hS hc h1 hr hn hf' ih => exact .il hl hS hc h1 hr hn hf'
  | ref h0 h1 h2 h3 h4 => simp only [bel] at hb; exact .ref (hf _ _ hb h0) h1 h2 h3 h4
  | ptr h0 => simp only [bel] at hb; exact .ptr (hf _ _ hb h0)
  | elt hl hS hc h1 hr ih => exact .elt hl hS hc h1 hr
  | map h0 => simp only [bel] at hb; exact .map (hf _ _ hb h0)
  | fn h1 h2 hr1 hr2 ih1 ih2 =>
    simp only [bel] at hb
    exact .fn h1 h2 (fun i x y hx hy => ih1 i x y hx hy (belL_get hb.1 hx) hf) (fun i x y hx hy => ih2 i x y hx hy (belL_get hb.2 hx) hf)
  | agg hl h1 hr ih => simp only [bel] at hb; exact .agg hl h1 (fun i x y hx hy => ih i x y hx hy (belL_get hb hx) hf)
  | tup hl hr ih => simp only [bel] at hb; exact .tup hl (fun i x y hx hy => ih i x y hx hy (belL_get hb hx) hf)
  | ifc h ih => simp only [bel] at hb; exact .ifc (ih hb hf)
theorem brep_bel {S w f f' k} {b : Blk} {l : Loc} (h : BRep S w f b l) (hb : belB k b) (hf : ∀ i l, i < k → f i = some l → f' i = some l) : BRep S w f' b l := by
  cases b with
  | cells cs =>
    obtain ⟨arr, t, h1, h2, h3, h4, h5⟩ := h
    exact ⟨arr, t, h1, h2, h3, h4, fun i x y hx hy => rep_bel (h5 i x y hx hy) (belL_get hb hx) hf⟩
  | bld u cs =>
    obtain ⟨arr, t, h1, h2, h3, h4, h5, h6⟩ := h
    exact ⟨arr, t, h1, h2, h3, h4, fun i x y hx hy => rep_bel (h5 i x y hx hy) (belL_get hb hx) hf, h6⟩
  | map es =>
    obtain ⟨en, h1, h2, h3, h4⟩ := h
    refine ⟨en, h1, h2, h3, fun i k x e hx he => ?_⟩
    obtain ⟨a, b, c⟩ := h4 i k x e hx he
    exact ⟨a, b, rep_bel c (hb i _ hx) hf⟩
theorem Runs.lift {P : Program} {fid k args h r k' h'} (hR : Runs P fid k args h r k' h') (l : List Nat) (t : Nat) {H : Heap}
    (hlive : ∀ i, i < k → h i ≠ none) (hup : ∀ i, k ≤ i → h i = none) (hkk : k ≤ k') (hup' : ∀ i, k' ≤ i → h' i = none)
    (hbelA : belL k args) (hbelH : ∀ i b, h i = some b → belB k b)
    (hheap : ∀ i b, h i = some b → H (gl l k t i) = some (renB (gl l k t) b))
    (hinj : ∀ i j, i < k' → j < k' → gl l k t i = gl l k t j → i = j) (hnew : ∀ i, k ≤ i → i < k' → H (gl l k t i) = none) :
    RunsL P fid t (k' - k) (args.map (ren (gl l k t))) H (ren (gl l k t) r) (setAll H ((List.range k').map (gl l k t)) ((List.range k').map fun i => (h' i).map (renB (gl l k t)))) := by
  refine ⟨hR.1, fun S w F vs hargs hwf hfr _ => ?_⟩
  generalize hG : gl l k t = G at *
  have hGn : ∀ i, k ≤ i → G i = t + (i - k) := fun i hi => by rw [← hG]; simp [gl]; omega
  let f0 : Place := fun i => if i < k then F (G i) else none
  have f0lt : ∀ i, i < k → f0 i = F (G i) := fun i hi => by simp [f0, hi]
  have f0ge : ∀ i, k ≤ i → f0 i = none := fun i hi => by simp [f0]; omega
  have hrep : ∀ {x y}, Rep S w F (ren G x) y → bel k x → Rep S w f0 x y := fun {x y} hx hb =>
    rep_bel (rep_of_ren (g := G) hx rfl) hb (fun i l hi hl => by rw [f0lt i hi]; exact hl)
  have live : ∀ i, h i ≠ none → i < k := fun i hi => by
    rcases Nat.lt_or_ge i k with hlt | hge
    · exact hlt
    · exact absurd (hup i hge) hi
  have Hlive : ∀ i, h i ≠ none → H (G i) ≠ none := fun i hi => by
    obtain ⟨b, hb⟩ := Option.ne_none_iff_exists'.1 hi
    rw [hheap i b hb]; simp
  have own0 : ∀ b, Own f0 h b → Own F H b := fun b ⟨i, lc, h1, h2, h3⟩ => ⟨G i, lc, Hlive i h1, by rw [← f0lt i (live i h1)]; exact h2, h3⟩
  have wf0 : Wf S w f0 h := by
    refine ⟨⟨fun i b hb => ?_, fun i j li lj hi hj hfi hfj he => ?_⟩, fun b hb => ⟨(hwf.st b hb).1, fun ho => (hwf.st b hb).2 (own0 b ho)⟩, hwf.gl⟩
    · have hi : i < k := live i (by rw [hb]; simp)
      obtain ⟨lc, hlc, hB⟩ := hwf.hp.live (G i) _ (hheap i b hb)
      exact ⟨lc, by rw [f0lt i hi]; exact hlc, brep_bel (brep_of_ren hB) (hbelH i b hb) (fun j l hj hl => by rw [f0lt j hj]; exact hl)⟩
    · have hi' := live i hi
      have hj' := live j hj
      rw [f0lt i hi'] at hfi
      rw [f0lt j hj'] at hfj
      exact hinj i j (by omega) (by omega) (hwf.hp.inj _ _ li lj (Hlive i hi) (Hlive j hj) hfi hfj he)
  have hargs0 : Reps S w f0 args vs := ⟨by simpa using hargs.1, fun i x y hx hy => hrep (hargs.2 i (ren G x) y (by rw [List.getElem?_map, hx]; rfl) hy) (belL_get hbelA hx)⟩
  refine (hR.2 S w f0 vs hargs0 wf0 f0ge).mono ?_
  rintro e w' ⟨S', f1, v, rfl, hv, wf1, st, f1ge⟩
  -- the caller's places afterwards
  let H' : Heap := setAll H ((List.range k').map G) ((List.range k').map fun i => (h' i).map (renB G))
  have hH'in : ∀ i, i < k' → H' (G i) = (h' i).map (renB G) := fun i hi =>
    setAll_map G (fun i => (h' i).map (renB G)) (List.range k') H (fun i hi j hj => hinj i j (List.mem_range.1 hi) (List.mem_range.1 hj)) List.nodup_range i (List.mem_range.2 hi)
  have hH'out : ∀ j, (∀ i, i < k' → G i ≠ j) → H' j = H j := fun j hj => by
    refine setAll_mem _ _ _ _ (by simp) (fun hm => ?_)
    obtain ⟨i, hi, he⟩ := List.mem_map.1 hm
    exact hj i (List.mem_range.1 hi) he
  let F' : Place := fun j => if t ≤ j ∧ j < t + (k' - k) then f1 (k + (j - t)) else F j
  have hF'new : ∀ i, k ≤ i → i < k' → F' (G i) = f1 i := fun i h1 h2 => by
    have := hGn i h1
    simp only [F']
    rw [if_pos (by omega)]; congr 1; omega
  have hF'old : ∀ i, i < k → F' (G i) = f1 i ∨ (F (G i) = none ∧ True) ∨ False := fun i hi => by
    by_cases hin : t ≤ G i ∧ G i < t + (k' - k)
    · have e1 : G (k + (G i - t)) = G i := by rw [hGn _ (by omega)]; omega
      have := hinj _ _ (by omega) (by omega) e1
      omega
    · simp only [F']
      rw [if_neg hin]
      cases hF : F (G i) with
      | none => exact .inr (.inl ⟨rfl, trivial⟩)
      | some lc => left; rw [st.ids i lc trivial (by rw [f0lt i hi]; exact hF)]
  have hmap : ∀ i lc, f1 i = some lc → F' (G i) = some lc := fun i lc hi => by
    rcases Nat.lt_or_ge i k with hlt | hge
    · rcases hF'old i hlt with h1 | ⟨h1, _⟩ | h1
      · rw [h1]; exact hi
      · -- it was live
        obtain ⟨b, hb⟩ := Option.ne_none_iff_exists'.1 (hlive i hlt)
        obtain ⟨lc', hlc', _⟩ := wf0.hp.live i b hb
        rw [f0lt i hlt, h1] at hlc'; cases hlc'
      · exact h1.elim
    · rcases Nat.lt_or_ge i k' with hlt | hge'
      · rw [hF'new i hge hlt]; exact hi
      · rw [f1ge i hge'] at hi; cases hi
  have hFF' : ∀ j lc, F j = some lc → F' j = some lc := fun j lc hj => by
    simp only [F']
    rw [if_neg (fun hin => by rw [hfr j hin.1 hin.2] at hj; cases hj)]; exact hj
  have hStab : ∀ b, S b → w'.heap[b]? = w.heap[b]? := wf0.stable st
  have frame : ∀ j b lc, (∀ i, i < k' → G i ≠ j) → H j = some b → F j = some lc → w'.heap[lc.b]? = w.heap[lc.b]? := fun j b lc hj hb hlc => by
    obtain ⟨lc', hlc', hB⟩ := hwf.hp.live j b hb
    rw [hlc] at hlc'; cases hlc'
    refine st.kept.block _ hB.lt (fun ⟨i, li, h1, h2, h3⟩ => ?_)
    have hi := live i h1
    rw [f0lt i hi] at h2
    exact hj i (by omega) (hwf.hp.inj _ _ li lc (Hlive i h1) (by rw [hb]; simp) h2 hlc h3)
  have cases' : ∀ j, (∃ i, i < k' ∧ G i = j) ∨ (∀ i, i < k' → G i ≠ j) := fun j => by
    by_cases hx : ∃ i, i < k' ∧ G i = j
    · exact .inl hx
    · exact .inr (fun i hi he => hx ⟨i, hi, he⟩)
  have own' : ∀ b, Own F' H' b → (∃ i lc, i < k' ∧ h' i ≠ none ∧ f1 i = some lc ∧ lc.b = b) ∨ (∃ j lc, (∀ i, i < k' → G i ≠ j) ∧ H j ≠ none ∧ F j = some lc ∧ lc.b = b) := fun b ⟨j, lc, h1, h2, h3⟩ => by
    rcases cases' j with ⟨i, hi, rfl⟩ | hj
    · have h1' : h' i ≠ none := fun e => by apply h1; show H' (G i) = none; rw [hH'in i hi, e]; rfl
      obtain ⟨b', hb'⟩ := Option.ne_none_iff_exists'.1 h1'
      obtain ⟨lc', hlc', _⟩ := wf1.hp.live i b' hb'
      rw [hmap i lc' hlc'] at h2; cases h2
      exact .inl ⟨i, _, hi, h1', hlc', h3⟩
    · have h1' : H j ≠ none := by rw [← hH'out j hj]; exact h1
      obtain ⟨b', hb'⟩ := Option.ne_none_iff_exists'.1 h1'
      obtain ⟨lc', hlc', _⟩ := hwf.hp.live j b' hb'
      rw [hFF' j lc' hlc'] at h2; cases h2
      exact .inr ⟨j, _, hj, h1', hlc', h3⟩
  refine ⟨S', F', v, rfl, ren_of_rep hv hmap, ⟨⟨fun j b hb => ?_, fun i j li lj hi hj hfi hfj he => ?_⟩, fun b hb => ⟨(wf1.st b hb).1, fun ho => ?_⟩, wf1.gl⟩,
    ⟨⟨st.kept.os, st.kept.tape, st.kept.output, st.kept.size, fun b hb hO => st.kept.block b hb (fun ho => hO (own0 b ho))⟩, fun b ho => ?_, st.st, fun b hb => ?_, fun j lc _ hj => hFF' j lc hj⟩, fun j hj => by simp only [F']; rw [if_neg hj]⟩
  · -- the heap is what it says
    rcases cases' j with ⟨i, hi, rfl⟩ | hj
    · have hb' : H' (G i) = some b := hb
      rw [hH'in i hi] at hb'
      obtain ⟨b0, hb0, rfl⟩ := Option.map_eq_some_iff.1 hb'
      obtain ⟨lc, hlc, hB⟩ := wf1.hp.live i b0 hb0
      exact ⟨lc, hmap i lc hlc, ren_of_brep hB hmap⟩
    · have hb' : H' j = some b := hb
      rw [hH'out j hj] at hb'
      obtain ⟨lc, hlc, hB⟩ := hwf.hp.live j b hb'
      exact ⟨lc, hFF' j lc hlc, hB.mono st.st hStab hFF' (frame j b lc hj hb' hlc)⟩
  · -- no two numbers for one block
    have key : ∀ i j li lj, i < k' → (∀ i, i < k' → G i ≠ j) → h' i ≠ none → H j ≠ none → f1 i = some li → F j = some lj → li.b ≠ lj.b := fun i j li lj hi hj h1 h2 h3 h4 he => by
      have ho : Own f1 h' li.b := ⟨i, li, h1, h3, rfl⟩
      rcases st.own _ ho with ⟨i0, l0, q1, q2, q3⟩ | hge
      · have hi0 := live i0 q1
        rw [f0lt i0 hi0] at q2
        exact hj i0 (by omega) (hwf.hp.inj _ _ l0 lj (Hlive i0 q1) h2 q2 h4 (q3.trans he))
      · have : lj.b < w.heap.size := hwf.own_lt ⟨j, lj, h2, h4, rfl⟩
        omega
    have liveIn : ∀ i, i < k' → setAll H ((List.range k').map G) ((List.range k').map fun i => (h' i).map (renB G)) (G i) ≠ none → h' i ≠ none := fun i hi hn e => by
      apply hn; have := hH'in i hi; rw [e] at this; exact this
    have placeIn : ∀ i li, i < k' → h' i ≠ none → F' (G i) = some li → f1 i = some li := fun i li hi hn hl => by
      obtain ⟨b', hb'⟩ := Option.ne_none_iff_exists'.1 hn
      obtain ⟨lc', hlc', _⟩ := wf1.hp.live i b' hb'
      rw [hmap i lc' hlc'] at hl; cases hl; exact hlc'
    have liveOut : ∀ j, (∀ i, i < k' → G i ≠ j) → setAll H ((List.range k').map G) ((List.range k').map fun i => (h' i).map (renB G)) j ≠ none → H j ≠ none := fun j hj hn => by
      have := hH'out j hj
      rw [← this]; exact hn
    have placeOut : ∀ j lj, H j ≠ none → F' j = some lj → F j = some lj := fun j lj hn hl => by
      obtain ⟨b', hb'⟩ := Option.ne_none_iff_exists'.1 hn
      obtain ⟨lc', hlc', _⟩ := hwf.hp.live j b' hb'
      rw [hFF' j lc' hlc'] at hl; cases hl; exact hlc'
    rcases cases' i with ⟨i0, hi0, rfl⟩ | hi0
    · have q1 := liveIn i0 hi0 hi
      have q2 := placeIn i0 li hi0 q1 hfi
      rcases cases' j with ⟨j0, hj0, rfl⟩ | hj0
      · have q3 := liveIn j0 hj0 hj
        have q4 := placeIn j0 lj hj0 q3 hfj
        rw [wf1.hp.inj i0 j0 li lj q1 q3 q2 q4 he]
      · have q3 := liveOut j hj0 hj
        exact absurd he (key i0 j li lj hi0 hj0 q1 q3 q2 (placeOut j lj q3 hfj))
    · have q1 := liveOut i hi0 hi
      have q2 := placeOut i li q1 hfi
      rcases cases' j with ⟨j0, hj0, rfl⟩ | hj0
      · have q3 := liveIn j0 hj0 hj
        have q4 := placeIn j0 lj hj0 q3 hfj
        exact absurd he.symm (key j0 i lj li hj0 hi0 q3 q1 q4 q2)
      · have q3 := liveOut j hj0 hj
        exact hwf.hp.inj i j li lj q1 q3 q2 (placeOut j lj q3 hfj) he
  · -- what is stable is nobody's
    rcases own' b ho with ⟨i, lc, hi, h1, h2, h3⟩ | ⟨j, lc, hj, h1, h2, h3⟩
    · exact (wf1.st b hb).2 ⟨i, lc, h1, h2, h3⟩
    · have hO : Own F H b := ⟨j, lc, h1, h2, h3⟩
      have hlt := hwf.own_lt hO
      rcases st.st' b hb with hs | ⟨i, li, q1, q2, q3⟩ | hge
      · exact (hwf.st b hs).2 hO
      · have hi := live i q1
        rw [f0lt i hi] at q2
        exact hj i (by omega) (hwf.hp.inj _ _ li lc (Hlive i q1) h1 q2 h2 (q3.trans h3.symm))
      · omega
  · rcases own' b ho with ⟨i, lc, hi, h1, h2, h3⟩ | ⟨j, lc, hj, h1, h2, h3⟩
    · rcases st.own b ⟨i, lc, h1, h2, h3⟩ with hh | hh
      · exact .inl (own0 b hh)
      · exact .inr hh
    · exact .inl ⟨j, lc, h1, h2, h3⟩
  · rcases st.st' b hb with hs | hs | hs
    · exact .inl hs
    · exact .inr (.inl (own0 b hs))
    · exact .inr (.inr hs)
end Go.Sx
