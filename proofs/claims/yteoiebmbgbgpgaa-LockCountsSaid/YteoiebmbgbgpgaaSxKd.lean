/- Regions that draw their order: carried out in the order of the text, with what each operation reads and writes; what no edge orders is apart. No conditions. -/
import Derived.Test.YteoiebmbgbgpgaaSxK
import Derived.Orders
set_option linter.unusedVariables false
set_option linter.unusedSimpArgs false
namespace Go.Sx
def opT : Operand → List Nat
  | .tmp t => [t]
  | _ => []
def optO : Option Operand → List Operand
  | some x => [x]
  | none => []
def SOp.ops : SOp → List Operand
  | .mv x => [x]
  | .pick c a b => [c, a, b]
  | .box x => [x]
  | .alloc _ => []
  | .load1 x => [x]
  | .loadN _ x => [x]
  | .store _ x y => [x, y]
  | .nilck x => [x]
  | .bin _ _ x y => [x, y]
  | .eqn _ _ x => [x]
  | .un _ x => [x]
  | .conv _ _ x => [x]
  | .mkfn _ a b => a ++ b
  | .mkifc _ x => [x]
  | .off _ x => [x]
  | .idx _ x i => [x, i]
  | .idxA _ _ x i => [x, i]
  | .slc _ x a b c => x :: (optO a ++ optO b ++ optO c)
  | .slcA _ _ x a b c => x :: (optO a ++ optO b ++ optO c)
  | .ext x _ => [x]
  | .fld _ _ x => [x]
  | .build _ ps => ps.map (·.2.2)
  | .mks _ _ _ ps => ps.map (·.2.2)
  | .mks0 _ => []
  | .mk _ _ l c => [l, c]
  | .lenSl x => [x]
  | .lenS x => [x]
  | .idxS x i => [x, i]
  | .cst _ => []
  | .cap x => [x]
  | .app _ _ x y => [x, y]
  | .appz _ _ x y => [x, y]
  | .big _ xs => xs
  | .call _ xs => xs
  | .callv x xs => x :: xs
  | .look _ _ _ x k => [x, k]
  | .mkmap => []
  | .mset _ m k x => [m, k, x]
  | .ment _ _ m k => [m, k]
  | .mst m s x => [m, s, x]
  | .copy _ x y => [x, y]
  | .clear _ x => [x]
  | .fail => []
  | .ib _ x y => [x, y]
  | .bb _ x y => [x, y]
  | .aeq _ _ x y => [x, y]
  | .nt x => [x]
  | .ci _ x => [x]
  | .allocB _ => []
  | .same _ x => [x]
  | .peq _ x y => [x, y]
  | .appB _ x y => [x, y]
  | .sdata x => [x]
  | .ustr x y => [x, y]
  | .slcS _ x a b => x :: (optO a ++ optO b)
def SOp.tm (s : SOp) : List Nat := s.ops.flatMap opT
theorem evalA_congr {env env' : Nat → AV} {x : Operand} (h : ∀ t ∈ opT x, env t = env' t) : evalA env x = evalA env' x := by
  cases x with
  | tmp t => exact h t (by simp [opT])
  | const v => rfl
  | global g => rfl
  | func f => rfl
theorem eff_congr (P : Program) (s : SOp) {ρ ρ' : Operand → AV} (h : ∀ x ∈ s.ops, ρ x = ρ' x) : s.eff P ρ = s.eff P ρ' := by
  cases s <;> simp only [SOp.ops, List.mem_cons, List.not_mem_nil, or_false, forall_eq_or_imp, forall_eq, List.mem_append] at h <;> simp only [SOp.eff]
  case mkfn g a b => rw [List.map_congr_left (fun x hx => h x (.inl hx)), List.map_congr_left (fun x hx => h x (.inr hx))]
  case build zero ps => congr 1; exact List.map_congr_left (fun p hp => by rw [h p.2.2 (List.mem_map.2 ⟨p, hp, rfl⟩)])
  case mks l e z ps => congr 1; exact List.map_congr_left (fun p hp => by rw [h p.2.2 (List.mem_map.2 ⟨p, hp, rfl⟩)])
  case big mx xs => rw [List.map_congr_left h]
  case slc e x a b c =>
    obtain ⟨h1, h2⟩ := h
    have g : ∀ y : Option Operand, (∀ x ∈ optO y, ρ x = ρ' x) → y.map ρ = y.map ρ' := fun y hy => by cases y with | none => rfl | some y => simp [hy y (by simp [optO])]
    rw [h1, g a (fun x hx => h2 x (.inl (.inl hx))), g b (fun x hx => h2 x (.inl (.inr hx))), g c (fun x hx => h2 x (.inr hx))]
  case slcS t x a b =>
    obtain ⟨h1, h2⟩ := h
    have g : ∀ y : Option Operand, (∀ x ∈ optO y, ρ x = ρ' x) → y.map ρ = y.map ρ' := fun y hy => by cases y with | none => rfl | some y => simp [hy y (by simp [optO])]
    rw [h1, g a (fun x hx => h2 x (.inl hx)), g b (fun x hx => h2 x (.inr hx))]
  case slcA n e x a b c =>
    obtain ⟨h1, h2⟩ := h
    have g : ∀ y : Option Operand, (∀ x ∈ optO y, ρ x = ρ' x) → y.map ρ = y.map ρ' := fun y hy => by cases y with | none => rfl | some y => simp [hy y (by simp [optO])]
    rw [h1, g a (fun x hx => h2 x (.inl (.inl hx))), g b (fun x hx => h2 x (.inl (.inr hx))), g c (fun x hx => h2 x (.inr hx))]
  all_goals simp_all
theorem tm_congr {s : SOp} {env env' : Nat → AV} (h : ∀ t ∈ s.tm, env t = env' t) : ∀ x ∈ s.ops, evalA env x = evalA env' x :=
  fun x hx => evalA_congr fun t ht => h t (List.mem_flatMap.2 ⟨x, hx, ht⟩)
structure Foot where
  tm : List Nat
  d : Option Nat
  rd : List Nat
  wr : List Nat
def Eff.foot (E : Eff) (h : Heap) (id : Nat) : Option (AV × List Nat × List (Option Blk)) :=
  match getAll h E.rs with
  | none => none
  | some bs => match E.k bs id with
    | none => none
    | some r => match r.nb with
      | none => if E.ws.length = r.outs.length then some (r.v, E.ws, r.outs) else none
      | some b => if E.ws.length = r.outs.length then some (r.v, E.ws ++ [id], r.outs ++ [some b]) else none
theorem getAll_congr {h h' : Heap} : ∀ {rs : List Nat}, (∀ i ∈ rs, h' i = h i) → getAll h' rs = getAll h rs
  | [], _ => rfl
  | i :: is, hh => by simp only [getAll]; rw [hh i (by simp), getAll_congr (rs := is) (fun j hj => hh j (by simp [hj]))]
theorem setAll_snoc : ∀ (h : Heap) (ws : List Nat) (os : List (Option Blk)) (i : Nat) (b : Option Blk), ws.length = os.length → setAll h (ws ++ [i]) (os ++ [b]) = upd (setAll h ws os) i b
  | h, [], [], i, b, _ => rfl
  | h, [], _ :: _, i, b, e => by simp at e
  | h, _ :: _, [], i, b, e => by simp at e
  | h, w :: ws, o :: os, i, b, e => by simp only [List.cons_append, setAll]; exact setAll_snoc _ ws os i b (by simpa using e)
theorem foot_exec {E : Eff} {h : Heap} {id : Nat} {v : AV} {ws : List Nat} {os : List (Option Blk)} (hf : E.foot h id = some (v, ws, os)) {h' : Heap} (hh : ∀ i ∈ E.rs, h' i = h i) :
    E.exec h' id = some (v, setAll h' ws os) := by
  unfold Eff.foot at hf
  unfold Eff.exec
  rw [getAll_congr hh]
  split at hf
  · cases hf
  · rename_i bs hbs
    simp only [hbs]
    split at hf
    · cases hf
    · rename_i r hr
      simp only [hr]
      split at hf
      · rename_i hnb
        split at hf
        · simp only [Option.some.injEq, Prod.mk.injEq] at hf; obtain ⟨rfl, rfl, rfl⟩ := hf; simp only [hnb]
        · cases hf
      · rename_i b hnb
        split at hf
        · rename_i hl
          simp only [Option.some.injEq, Prod.mk.injEq] at hf; obtain ⟨rfl, rfl, rfl⟩ := hf
          simp only [hnb]
          rw [setAll_snoc _ _ _ _ _ hl]
        · cases hf
def RunsF (P : Program) (g : FuncId) (t cnt : Nat) (args : List AV) (H : Heap) (rd wr : List Nat) (outs : List (Option Blk)) (r : AV) : Prop :=
  (∃ fn, P.funcs[g]? = some fn ∧ fn.body.isSome = true ∧ (fn.name == "runtime.NumGoroutine") = false) ∧
  ∀ H' : Heap, (∀ i ∈ rd, H' i = H i) → (∀ i, t ≤ i → i < t + cnt → H' i = none) → RunsL P g t cnt args H' r (setAll H' wr outs)
def RunDOp (P : Program) (d : Option Nat) (tm : List Nat) (s : SOp) (σ : St) (K : Foot → St → Prop) : Prop :=
  match s with
  | .call g args => ∃ r cnt rd wr outs, RunsF P g σ.nx cnt (args.map (evalA σ.env)) σ.heap rd wr outs r ∧ K ⟨tm, d, rd, wr⟩ (St.put ⟨σ.env, setAll σ.heap wr outs, σ.nx + cnt⟩ d r)
  | .callv x args => match evalA σ.env x with
    | .fn (.func g) first captured => ∃ r cnt rd wr outs, RunsF P g σ.nx cnt (first ++ args.map (evalA σ.env) ++ captured) σ.heap rd wr outs r ∧ K ⟨tm, d, rd, wr⟩ (St.put ⟨σ.env, setAll σ.heap wr outs, σ.nx + cnt⟩ d r)
    | _ => False
  | s => match s.eff P (evalA σ.env) with
    | some E => match E.foot σ.heap σ.nx with
      | some (v, ws, os) => K ⟨tm, d, E.rs, ws⟩ (St.put ⟨σ.env, setAll σ.heap ws os, σ.nx + 1⟩ d v)
      | none => False
    | none => False
def RunDIns (P : Program) (i : SIns) (σ : St) (K : Foot → St → Prop) : Prop :=
  match i.guard with
  | none => RunDOp P i.dst i.op.tm i.op σ K
  | some (t, want) => match gd (σ.env t) want with
    | some true => RunDOp P i.dst (t :: i.op.tm) i.op σ K
    | some false => K ⟨[t], i.dst, [], []⟩ (St.put σ i.dst (.v undef))
    | none => False
def RunD (P : Program) : List SIns → List Foot → St → (List Foot → St → Prop) → Prop
  | [], fs, σ, K => K fs σ
  | i :: is, fs, σ, K => RunDIns P i σ fun ft σ' => RunD P is (fs ++ [ft]) σ' K
def Foot.apart (a b : Foot) : Bool :=
  (match a.d with | some d => !b.tm.contains d && b.d != some d | none => true) && (match b.d with | some d => !a.tm.contains d | none => true) &&
  a.wr.all (fun x => !b.rd.contains x && !b.wr.contains x) && b.wr.all (fun x => !a.rd.contains x)
def indepAt (an : List Nat) (f : Foot) : Nat → List Foot → Bool
  | _, [] => true
  | k, g :: gs => (an.contains k || g.apart f) && indepAt an f (k + 1) gs
def indep : List Foot → List (List Nat) → List Foot → Bool
  | _, _, [] => true
  | pre, an :: as, f :: fs => indepAt an f 0 pre && indep (pre ++ [f]) as fs
  | _, [], _ :: _ => false
theorem indepAt_ok {an : List Nat} {f : Foot} : ∀ {k : Nat} {gs : List Foot}, indepAt an f k gs = true → ∀ (i : Nat) g, gs[i]? = some g → k + i ∈ an ∨ g.apart f = true
  | k, [], _, i, g, hg => by simp at hg
  | k, a :: gs, h, i, g, hg => by
    simp only [indepAt, Bool.and_eq_true, Bool.or_eq_true, List.contains_iff_mem] at h
    cases i with
    | zero => simp at hg; subst hg; exact h.1
    | succ i => simp at hg; have := indepAt_ok h.2 i g hg; rwa [show k + (i + 1) = k + 1 + i by omega]
theorem indep_ok : ∀ {pre : List Foot} {as : List (List Nat)} {fs : List Foot}, indep pre as fs = true → ∀ (i j : Nat) a b, i < pre.length + j → (pre ++ fs)[i]? = some a → fs[j]? = some b →
    (∃ an, as[j]? = some an ∧ i ∈ an) ∨ a.apart b = true
  | _, _, [], _, i, j, a, b, _, _, hb => by simp at hb
  | pre, [], f :: fs, h, _, _, _, _, _, _, _ => by simp [indep] at h
  | pre, an :: as, f :: fs, h, i, 0, a, b, hij, ha, hb => by
    simp only [indep, Bool.and_eq_true] at h
    simp at hb; subst hb
    rw [List.getElem?_append_left (by simpa using hij)] at ha
    rcases indepAt_ok h.1 i a ha with h1 | h1
    · exact .inl ⟨an, by simp, by simpa using h1⟩
    · exact .inr h1
  | pre, an :: as, f :: fs, h, i, j + 1, a, b, hij, ha, hb => by
    simp only [indep, Bool.and_eq_true] at h
    have := indep_ok h.2 i j a b (by simp; omega) (by simpa using ha) (by simpa using hb)
    simpa using this
/-! ### Writes in order -/
def setG {α : Type} : (Nat → α) → List Nat → List α → (Nat → α)
  | h, i :: is, o :: os => setG (upd h i o) is os
  | h, _, _ => h
theorem setAll_setG : ∀ (h : Heap) (is : List Nat) (os : List (Option Blk)), setAll h is os = setG h is os
  | h, [], _ => by simp [setAll, setG]
  | h, i :: is, [] => by simp [setAll, setG]
  | h, i :: is, o :: os => by simp only [setAll, setG]; exact setAll_setG _ is os
theorem setG_off {α : Type} : ∀ (g : Nat → α) (is : List Nat) (os : List α) (j : Nat), j ∉ is → setG g is os j = g j
  | g, [], _, j, _ => by simp [setG]
  | g, i :: is, [], j, _ => by simp [setG]
  | g, i :: is, o :: os, j, h => by
    simp only [setG]
    rw [setG_off _ is os j (fun hm => h (by simp [hm])), upd_other _ _ (fun e => h (by simp [e]))]
theorem setG_pt {α : Type} : ∀ (g g' : Nat → α) (is : List Nat) (os : List α) (j : Nat), g j = g' j → setG g is os j = setG g' is os j
  | g, g', [], _, j, h => by simpa [setG] using h
  | g, g', i :: is, [], j, h => by simpa [setG] using h
  | g, g', i :: is, o :: os, j, h => by
    simp only [setG]
    refine setG_pt _ _ is os j ?_
    simp only [upd]; split
    · rfl
    · exact h
structure Item where
  i : SIns
  t : Nat
  c : Nat
  ft : Foot
  v : AV
  outs : List (Option Blk)
def Item.wE (it : Item) : List Nat × List AV := (it.ft.d.toList, [it.v])
def Item.wH (it : Item) : List Nat × List (Option Blk) := (it.ft.wr, it.outs)
def runG {α : Type} (w : Item → List Nat × List α) (D : Nat → Bool) : Nat → List Item → (Nat → α) → (Nat → α)
  | _, [], g => g
  | k, it :: its, g => runG w D (k + 1) its (if D k then setG g (w it).1 (w it).2 else g)
theorem runG_pt {α : Type} (w : Item → List Nat × List α) (l : Nat) {D D' : Nat → Bool} : ∀ (its : List Item) (k : Nat) (g g' : Nat → α), (∀ (m : Nat) it, its[m]? = some it → l ∈ (w it).1 → D (k + m) = D' (k + m)) → g l = g' l →
    runG w D k its g l = runG w D' k its g' l
  | [], _, _, _, _, h => h
  | it :: its, k, g, g', h, h0 => by
    simp only [runG]
    refine runG_pt w l its (k + 1) _ _ (fun m it' hm hl => by have := h (m + 1) it' (by simpa using hm) hl; rwa [show k + 1 + m = k + (m + 1) by omega]) ?_
    by_cases hl : l ∈ (w it).1
    · have := h 0 it (by simp) hl
      simp only [Nat.add_zero] at this
      rw [← this]
      cases D k
      · simpa using h0
      · simpa using setG_pt g g' _ _ l h0
    · have e1 : (if D k then setG g (w it).1 (w it).2 else g) l = g l := by split; exact setG_off _ _ _ _ hl; rfl
      have e2 : (if D' k then setG g' (w it).1 (w it).2 else g') l = g' l := by split; exact setG_off _ _ _ _ hl; rfl
      rw [e1, e2]; exact h0
theorem runG_none {α : Type} (w : Item → List Nat × List α) {D : Nat → Bool} : ∀ (its : List Item) (k : Nat) (g : Nat → α), (∀ m, m < its.length → D (k + m) = false) → runG w D k its g = g
  | [], _, _, _ => rfl
  | it :: its, k, g, h => by
    have h0 := h 0 (by simp)
    simp only [Nat.add_zero] at h0
    simp only [runG, h0, Bool.false_eq_true, if_false]
    exact runG_none w its (k + 1) g (fun m hm => by rw [show k + 1 + m = k + (m + 1) by omega]; exact h (m + 1) (by simp; omega))
theorem runG_shift {α : Type} (w : Item → List Nat × List α) {D D' : Nat → Bool} : ∀ (its : List Item) (k k' : Nat) (g : Nat → α), (∀ m, m < its.length → D (k + m) = D' (k' + m)) → runG w D k its g = runG w D' k' its g
  | [], _, _, _, _ => rfl
  | it :: its, k, k', g, h => by
    have h0 := h 0 (by simp)
    simp only [Nat.add_zero] at h0
    simp only [runG, h0]
    exact runG_shift w its (k + 1) (k' + 1) _ (fun m hm => by rw [show k + 1 + m = k + (m + 1) by omega, show k' + 1 + m = k' + (m + 1) by omega]; exact h (m + 1) (by simp; omega))
theorem runG_append {α : Type} (w : Item → List Nat × List α) (D : Nat → Bool) : ∀ (a b : List Item) (k : Nat) (g : Nat → α), runG w D k (a ++ b) g = runG w D (k + a.length) b (runG w D k a g)
  | [], b, k, g => by simp [runG]
  | it :: a, b, k, g => by
    simp only [List.cons_append, runG, List.length_cons]
    rw [runG_append w D a b (k + 1)]; congr 1; omega
theorem runG_set {α : Type} (w : Item → List Nat × List α) {its : List Item} {i : Nat} {it : Item} (hi : its[i]? = some it) {D D' : Nat → Bool} (hD : D i = false) (hD' : ∀ m, D' m = (decide (m = i) || D m))
    (hdis : ∀ (m : Nat) it', i < m → its[m]? = some it' → D m = true → ∀ l ∈ (w it).1, l ∉ (w it').1) (g : Nat → α) : runG w D' 0 its g = setG (runG w D 0 its g) (w it).1 (w it).2 := by
  funext l
  by_cases hl : l ∈ (w it).1
  · obtain ⟨hlt, hget⟩ := List.getElem?_eq_some_iff.1 hi
    have hsp : its = its.take i ++ it :: its.drop (i + 1) := by rw [← hget]; simp
    have hlen : (its.take i).length = i := by simp; omega
    have hpost : ∀ (D : Nat → Bool), (∀ m, i < m → D m = true → ∀ it', its[m]? = some it' → l ∉ (w it').1) → ∀ g' : Nat → α, runG w D (i + 1) (its.drop (i + 1)) g' l = g' l := fun D hh g' => by
      have := runG_pt w l (D := D) (D' := fun _ => false) (its.drop (i + 1)) (i + 1) g' g' (fun m it' hm hl' => by
        rw [List.getElem?_drop] at hm
        cases hDm : D (i + 1 + m) with
        | false => rfl
        | true => exact absurd hl' (hh _ (by omega) hDm it' hm)) rfl
      rw [this, runG_none w _ _ _ (fun _ _ => rfl)]
    have hh1 : ∀ m, i < m → D m = true → ∀ it', its[m]? = some it' → l ∉ (w it').1 := fun m hm hDm it' hit => hdis m it' hm hit hDm l hl
    have hh2 : ∀ m, i < m → D' m = true → ∀ it', its[m]? = some it' → l ∉ (w it').1 := fun m hm hDm it' hit => by
      rw [hD' m] at hDm
      have : decide (m = i) = false := by simp; omega
      rw [this, Bool.false_or] at hDm
      exact hh1 m hm hDm it' hit
    have e1 : runG w D' 0 its g = runG w D' (i + 1) (its.drop (i + 1)) (setG (runG w D' 0 (its.take i) g) (w it).1 (w it).2) := by
      have hDi : D' i = true := by rw [hD']; simp
      conv => lhs; rw [hsp]
      rw [runG_append, hlen]
      simp only [runG, Nat.zero_add, hDi, if_true]
    have e2 : runG w D 0 its g = runG w D (i + 1) (its.drop (i + 1)) (runG w D 0 (its.take i) g) := by
      conv => lhs; rw [hsp]
      rw [runG_append, hlen]
      simp only [runG, Nat.zero_add, hD, Bool.false_eq_true, if_false]
    have e3 : runG w D' 0 (its.take i) g = runG w D 0 (its.take i) g := runG_shift w _ 0 0 g (fun m hm => by
      rw [hlen] at hm
      rw [hD']; have : decide (0 + m = i) = false := by simp; omega
      rw [this, Bool.false_or])
    rw [e1, hpost D' hh2, e3]
    refine setG_pt _ _ _ _ l ?_
    rw [e2, hpost D hh1]
  · rw [setG_off _ _ _ _ hl]
    refine runG_pt w l its 0 g g (fun m it' hm hl' => ?_) rfl
    rw [hD']
    by_cases e : 0 + m = i
    · simp only [Nat.zero_add] at e; subst e; rw [hi] at hm; cases hm; exact absurd hl' hl
    · have : decide (0 + m = i) = false := by simpa using e
      rw [this, Bool.false_or]
/-! ### What one operation does -/
def DoesOp (P : Program) (s : SOp) (env : Nat → AV) (h : Heap) (t c : Nat) (v : AV) (h' : Heap) : Prop :=
  match s with
  | .call g args => RunsL P g t c (args.map (evalA env)) h v h'
  | .callv x args => match evalA env x with
    | .fn (.func g) first captured => RunsL P g t c (first ++ args.map (evalA env) ++ captured) h v h'
    | _ => False
  | s => c = 1 ∧ ∃ E, s.eff P (evalA env) = some E ∧ E.exec h t = some (v, h')
def DoesAt (P : Program) (i : SIns) (env : Nat → AV) (h : Heap) (t c : Nat) (v : AV) (h' : Heap) : Prop :=
  match i.guard with
  | none => DoesOp P i.op env h t c v h'
  | some (g, want) => match gd (env g) want with
    | some true => DoesOp P i.op env h t c v h'
    | some false => v = .v undef ∧ h' = h
    | none => False
def Acts (P : Program) (it : Item) (env : Nat → AV) (h : Heap) : Prop :=
  ∀ (env' : Nat → AV) (h' : Heap), (∀ x ∈ it.ft.tm, env' x = env x) → (∀ i ∈ it.ft.rd, h' i = h i) → (∀ i, it.t ≤ i → i < it.t + it.c → h' i = none) → DoesAt P it.i env' h' it.t it.c it.v (setAll h' it.ft.wr it.outs)
theorem runDOp_acts {P : Program} {d : Option Nat} {tm : List Nat} {s : SOp} {σ : St} {K : Foot → St → Prop} (h : RunDOp P d tm s σ K) (htm : ∀ t ∈ s.tm, t ∈ tm) :
    ∃ c ft v outs, ft.tm = tm ∧ ft.d = d ∧ K ft (St.put ⟨σ.env, setAll σ.heap ft.wr outs, σ.nx + c⟩ d v) ∧
      ∀ (env' : Nat → AV) (h' : Heap), (∀ x ∈ tm, env' x = σ.env x) → (∀ i ∈ ft.rd, h' i = σ.heap i) → (∀ i, σ.nx ≤ i → i < σ.nx + c → h' i = none) → DoesOp P s env' h' σ.nx c v (setAll h' ft.wr outs) := by
  have key : ∀ env' : Nat → AV, (∀ x ∈ tm, env' x = σ.env x) → ∀ x ∈ s.ops, evalA env' x = evalA σ.env x := fun env' he => tm_congr (fun t ht => he t (htm t ht))
  have eff : (match s.eff P (evalA σ.env) with | some E => (match E.foot σ.heap σ.nx with | some (v, ws, os) => K ⟨tm, d, E.rs, ws⟩ (St.put ⟨σ.env, setAll σ.heap ws os, σ.nx + 1⟩ d v) | none => False) | none => False) →
      ∃ c ft v outs, ft.tm = tm ∧ ft.d = d ∧ K ft (St.put ⟨σ.env, setAll σ.heap ft.wr outs, σ.nx + c⟩ d v) ∧
      ∀ (env' : Nat → AV) (h' : Heap), (∀ x ∈ tm, env' x = σ.env x) → (∀ i ∈ ft.rd, h' i = σ.heap i) → (∀ i, σ.nx ≤ i → i < σ.nx + c → h' i = none) → c = 1 ∧ ∃ E, s.eff P (evalA env') = some E ∧ E.exec h' σ.nx = some (v, setAll h' ft.wr outs) := fun hh => by
    split at hh
    · rename_i E hE
      split at hh
      · rename_i v ws os hfoot
        exact ⟨1, ⟨tm, d, E.rs, ws⟩, v, os, rfl, rfl, hh, fun env' h' he hr _ => ⟨rfl, E, by rw [eff_congr P s (key env' he)]; exact hE, foot_exec hfoot hr⟩⟩
      · exact hh.elim
    · exact hh.elim
  cases s
  case call g args =>
    obtain ⟨r, cnt, rd, wr, outs, h1, h2⟩ := h
    refine ⟨cnt, ⟨tm, d, rd, wr⟩, r, outs, rfl, rfl, h2, fun env' h' he hr hn => ?_⟩
    have e : args.map (evalA env') = args.map (evalA σ.env) := List.map_congr_left (fun x hx => key env' he x hx)
    simp only [DoesOp, e]
    exact h1.2 h' hr hn
  case callv x args =>
    simp only [RunDOp] at h
    split at h
    · rename_i g first captured hx
      obtain ⟨r, cnt, rd, wr, outs, h1, h2⟩ := h
      refine ⟨cnt, ⟨tm, d, rd, wr⟩, r, outs, rfl, rfl, h2, fun env' h' he hr hn => ?_⟩
      have e : args.map (evalA env') = args.map (evalA σ.env) := List.map_congr_left (fun x hx => key env' he x (by simp [SOp.ops, hx]))
      have e2 : evalA env' x = evalA σ.env x := key env' he x (by simp [SOp.ops])
      simp only [DoesOp, e, e2, hx]
      exact h1.2 h' hr hn
    · exact h.elim
  all_goals exact eff h
theorem put_setG (env : Nat → AV) (h : Heap) (nx : Nat) (d : Option Nat) (v : AV) : (St.put ⟨env, h, nx⟩ d v).env = setG env d.toList [v] := by cases d <;> rfl
theorem runDIns_acts {P : Program} {i : SIns} {σ : St} {K : Foot → St → Prop} (h : RunDIns P i σ K) :
    ∃ it : Item, it.i = i ∧ it.t = σ.nx ∧ it.ft.d = i.dst ∧ Acts P it σ.env σ.heap ∧ K it.ft ⟨setG σ.env it.wE.1 it.wE.2, setG σ.heap it.wH.1 it.wH.2, σ.nx + it.c⟩ := by
  have fin : ∀ (env : Nat → AV) (h : Heap) (nx : Nat) (d : Option Nat) (v : AV), St.put ⟨env, h, nx⟩ d v = ⟨setG env d.toList [v], h, nx⟩ := fun env h nx d v => by cases d <;> rfl
  unfold RunDIns at h
  split at h
  · rename_i hg
    obtain ⟨c, ft, v, outs, h1, h2, h3, h4⟩ := runDOp_acts h (fun t ht => ht)
    refine ⟨⟨i, σ.nx, c, ft, v, outs⟩, rfl, rfl, h2, fun env' h' he hr hn => ?_, ?_⟩
    · simp only [DoesAt, hg]
      exact h4 env' h' (fun x hx => he x (by rw [h1]; exact hx)) hr hn
    · rw [fin] at h3
      simp only [Item.wE, Item.wH, h2, ← setAll_setG]
      exact h3
  · rename_i t want hg
    split at h
    · rename_i hb
      obtain ⟨c, ft, v, outs, h1, h2, h3, h4⟩ := runDOp_acts h (fun t ht => by simp [ht])
      refine ⟨⟨i, σ.nx, c, ft, v, outs⟩, rfl, rfl, h2, fun env' h' he hr hn => ?_, ?_⟩
      · simp only [DoesAt, hg]
        have et : env' t = σ.env t := he t (by simp only; rw [h1]; simp)
        rw [et, hb]
        exact h4 env' h' (fun x hx => he x (by rw [h1]; exact hx)) hr hn
      · rw [fin] at h3
        simp only [Item.wE, Item.wH, h2, ← setAll_setG]
        exact h3
    · rename_i hb
      refine ⟨⟨i, σ.nx, 0, ⟨[t], i.dst, [], []⟩, .v undef, []⟩, rfl, rfl, rfl, fun env' h' he hr hn => ?_, ?_⟩
      · simp only [DoesAt, hg]
        have et : env' t = σ.env t := he t (by simp)
        rw [et, hb]
        exact ⟨trivial, rfl⟩
      · have : σ.put i.dst (.v undef) = ⟨setG σ.env i.dst.toList [.v undef], σ.heap, σ.nx⟩ := fin σ.env σ.heap σ.nx i.dst (.v undef)
        rw [this] at h
        exact h
    · exact h.elim
theorem runD_items {P : Program} {K : List Foot → St → Prop} : ∀ {is : List SIns} {fs : List Foot} {σ : St}, RunD P is fs σ K →
    ∃ (its : List Item) (nx' : Nat), its.map (·.i) = is ∧ (∀ it ∈ its, it.ft.d = it.i.dst) ∧ K (fs ++ its.map (·.ft)) ⟨runG Item.wE (fun _ => true) 0 its σ.env, runG Item.wH (fun _ => true) 0 its σ.heap, nx'⟩ ∧
      (∀ (m : Nat) it, its[m]? = some it → σ.nx ≤ it.t ∧ it.t + it.c ≤ nx' ∧ Acts P it (runG Item.wE (fun n => decide (n < m)) 0 its σ.env) (runG Item.wH (fun n => decide (n < m)) 0 its σ.heap)) ∧
      (∀ (m n : Nat) a b, m < n → its[m]? = some a → its[n]? = some b → a.t + a.c ≤ b.t) ∧ σ.nx ≤ nx'
  | [], fs, σ, h => ⟨[], σ.nx, rfl, fun _ hm => by simp at hm, by simp only [RunD] at h; simpa [runG] using h, fun m it hm => by simp at hm, fun m n a b _ hm => by simp at hm, Nat.le_refl _⟩
  | i :: is, fs, σ, h => by
    obtain ⟨it, h1, h2, h3, h4, h5⟩ := runDIns_acts h
    obtain ⟨its, nx', g1, g2, g3, g4, g5, g6⟩ := runD_items h5
    simp only at g6 g4
    refine ⟨it :: its, nx', by simp [h1, g1], fun x hx => ?_, ?_, fun m x hm => ?_, fun m n a b hmn hm hn => ?_, by omega⟩
    · rcases List.mem_cons.1 hx with e | hx
      · rw [e, h3, h1]
      · exact g2 x hx
    · simp only [List.map_cons, runG, if_true]
      rw [runG_shift Item.wE (D' := fun _ => true) its (0 + 1) 0 _ (fun _ _ => rfl), runG_shift Item.wH (D' := fun _ => true) its (0 + 1) 0 _ (fun _ _ => rfl)]
      simpa using g3
    · cases m with
      | zero =>
        simp at hm; subst hm
        rw [runG_none Item.wE _ _ _ (fun m _ => by simp), runG_none Item.wH _ _ _ (fun m _ => by simp)]
        exact ⟨by omega, by omega, h4⟩
      | succ m =>
        simp at hm
        obtain ⟨q1, q2, q3⟩ := g4 m x hm
        refine ⟨by omega, q2, ?_⟩
        have d0 : decide (0 < m + 1) = true := by simp
        simp only [runG, d0, if_true]
        rw [runG_shift Item.wE (D' := fun n => decide (n < m)) its (0 + 1) 0 _ (fun n _ => by simp; omega), runG_shift Item.wH (D' := fun n => decide (n < m)) its (0 + 1) 0 _ (fun n _ => by simp; omega)]
        exact q3
    · cases n with
      | zero => omega
      | succ n =>
        simp at hn
        cases m with
        | zero =>
          simp at hm; subst hm
          have := (g4 n b hn).1
          omega
        | succ m =>
          simp at hm
          exact g5 m n a b (by omega) hm hn
/-! ### Soundness -/
theorem doesAt_sound {P : Program} {N : Nat} {K : Nat → Prop} {ops : Array Oper} {o : Oper} {i : SIns} (hc : compIns P N ops o = some i) {S w f a fr env h t c v h'} {Q : Exit → Go.Act → World → Prop} {R : Go.Act → World → Prop}
    (hr : Real N S w f fr env h a) (hd : DoesAt P i env h t c v h') (hfr : ∀ id, t ≤ id → id < t + c → fr id) (hB : ∃ B, ∀ id, B ≤ id → fr id)
    (hR : ∀ a' w' S' f', Real N S' w' f' (fun id => fr id ∧ ¬ (t ≤ id ∧ id < t + c)) (setG env i.dst.toList [v]) h' a' → Step K S w f h S' w' f' h' → R a' w') :
    if Region.wanted o (yielded ops a.tmps) then o.wp P a w R Q else R (a.put o.dst undef) w := by
  obtain ⟨h1, h2, h3, h4⟩ := compIns_ok hc
  have heval := evalA_rep hr.wf.gl hr.env
  have hput : ∀ {S' w' f' h' v y} {fr' : Nat → Prop}, Real N S' w' f' fr' env h' a → Rep S' w' f' v y → Real N S' w' f' fr' (setG env i.dst.toList [v]) h' (a.put o.dst y) := fun hreal hv => by
    have := put_real hreal h3 hv 0
    rw [h2]
    rw [put_setG, (put_nx env _ 0 0 o.dst _).2] at this
    exact this
  have main : DoesOp P i.op env h t c v h' → o.wp P a w R Q := fun hop => by
    have call : ∀ (g : FuncId) (args : List AV) (vs : List Value), Reps S w f args vs → RunsL P g t c args h v h' → (execOp a.eval o).run P w = .ok (.enter g vs.toArray) w → o.wp P a w R Q := fun g args vs hargs hruns hex => by
      unfold Oper.wp
      rw [hex, Oper.upon_enter]
      obtain ⟨B, hB⟩ := hB
      refine (hruns.2 S w f vs hargs hr.wf (fun id q1 q2 => hr.fresh id (hfr id q1 q2)) ⟨B, fun id hid => hr.fresh id (hB id hid)⟩).mono ?_
      rintro e w' ⟨S', f', y, rfl, hv, hwf, hst, hf'⟩
      have hfm : ∀ id l, f id = some l → f' id = some l := fun id l hl => hst.ids id l trivial hl
      refine hR _ _ S' f' (hput ⟨env_step hr.env hr.wf hst hfm, hwf, fun id hid => by rw [hf' id hid.2]; exact hr.fresh id hid.1, hr.size, hr.defers⟩ hv) (hst.mono (fun _ _ => trivial))
    have eff : (c = 1 ∧ ∃ E, i.op.eff P (evalA env) = some E ∧ E.exec h t = some (v, h')) → o.wp P a w R Q := fun ⟨hc1, E, hE, hexec⟩ => by
      subst hc1
      obtain ⟨n, y, w', f', q1, q2, q3, q4, q5, q6⟩ := op_sound (P := P) (h := h) (id := t) h1 (ρ := a.eval) heval (fun _ => rfl) (fun _ => rfl) hE hr.wf (hr.fresh t (hfr t (Nat.le_refl _) (by omega))) v h' hexec
      have hfm : ∀ id l, f id = some l → f' id = some l := fun id l hl => q5.ids id l trivial hl
      have fin : R (a.put o.dst y) w' := hR _ _ S f' (hput ⟨env_step hr.env hr.wf q5 hfm, q4, fun id hid => by rw [q6 id (by omega)]; exact hr.fresh id hid.1, hr.size, hr.defers⟩ q3) (q5.mono (fun _ _ => trivial))
      unfold Oper.wp
      rw [q1]
      rcases q2 with rfl | ⟨rfl, rfl⟩
      · exact fin
      · exact fin
    generalize hs : i.op = s at hop h1 eff
    cases s
    case call g args =>
      obtain ⟨c, g1, g2, g3⟩ := (compOp_call h1).1 g args rfl
      refine call g _ (args.map a.eval) (evalAs_rep heval args) hop ?_
      have e : (args.map a.eval).toArray = c.args.map a.eval := by rw [← g3]; exact toArr _ _
      rw [e]
      have := callFunc_run (P := P) (args := c.args.map a.eval) (w := w) hop.1
      simpa [execOp, g1, resolve, g2, Deferred.ofValue, Go.Act.eval, invoke] using this
    case callv x args =>
      simp only [DoesOp] at hop
      split at hop
      · rename_i g first captured hx
        obtain ⟨c, g1, g2, g3⟩ := (compOp_call h1).2 x args rfl
        have hv := heval x
        rw [hx] at hv
        generalize hev : a.eval x = v at hv
        cases hv with
        | @fn _ _ _ _ fs cs q1 q2 q3 q4 =>
          have hargs := evalAs_rep heval args
          have hreps : Reps S w f (first ++ args.map (evalA env) ++ captured) (fs ++ args.map a.eval ++ cs) := by
            refine ⟨by simp [q1, q2], fun i x y hx hy => ?_⟩
            rw [List.getElem?_append, List.getElem?_append] at hx hy
            simp only [List.length_append, List.length_map, q1] at hx hy
            split at hx
            · rename_i c1
              rw [if_pos c1] at hy
              split at hx
              · rename_i c2
                rw [if_pos c2] at hy
                exact q3 i x y hx hy
              · rename_i c2
                rw [if_neg c2] at hy
                exact hargs.2 _ x y hx hy
            · rename_i c1
              rw [if_neg c1] at hy
              exact q4 _ x y hx hy
          refine call g _ (fs ++ args.map a.eval ++ cs) hreps hop ?_
          have e : (fs ++ args.map a.eval ++ cs).toArray = fs.toArray ++ c.args.map a.eval ++ cs.toArray := by
            rw [← g3]; apply Array.ext'; simp
          rw [e]
          have := callFunc_run (P := P) (args := fs.toArray ++ c.args.map a.eval ++ cs.toArray) (w := w) hop.1
          simpa [execOp, g1, resolve, g2, Deferred.ofValue, hev, invoke] using this
      · exact hop.elim
    all_goals exact eff hop
  rcases h4 with ⟨g1, g2⟩ | ⟨j, want, t', g1, g2, g3⟩
  · simp only [DoesAt, g2] at hd
    rw [if_pos (by simp [Region.wanted, g1])]
    exact main hd
  · simp only [DoesAt, g2] at hd
    split at hd
    · rename_i hb
      have hy := gd_wanted (hr.env t') hb g3
      rw [if_pos (by simp only [Region.wanted, g1]; exact hy)]
      exact main hd
    · rename_i hb
      have hy := gd_wanted (hr.env t') hb g3
      rw [if_neg (by simp only [Region.wanted, g1]; rw [hy]; simp)]
      obtain ⟨rfl, rfl⟩ := hd
      exact hR _ _ S f (hput ⟨hr.env, hr.wf, fun id hid => hr.fresh id hid.1, hr.size, hr.defers⟩ (.v undef)) (.refl _ _ _ _ _)
    · exact hd.elim
def directs (ops : Array Oper) : List (List Nat) := ops.toList.map fun o => (o.after.toList.filter (Region.binds .any)).map (·.on)
def ded : List Nat → List Nat
  | [] => []
  | x :: l => if l.contains x then ded l else x :: ded l
theorem mem_ded {i : Nat} : ∀ {l : List Nat}, i ∈ ded l → i ∈ l
  | [], h => by cases h
  | x :: l, h => by
    simp only [ded] at h
    split at h
    · exact List.mem_cons_of_mem _ (mem_ded h)
    · rcases List.mem_cons.1 h with rfl | h
      · exact List.mem_cons_self
      · exact List.mem_cons_of_mem _ (mem_ded h)
def closeAnc : List (List Nat) → List (List Nat) → List (List Nat)
  | acc, [] => acc
  | acc, d :: ds => closeAnc (acc ++ [ded (d ++ d.flatMap (fun i => (acc[i]?).getD []))]) ds
def downOk (ds : List (List Nat)) : Bool := (List.range ds.length).all fun j => ((ds[j]?).getD []).all (decide <| · < j)
theorem closeAnc_ok {D : Nat → Prop} : ∀ {ds acc : List (List Nat)}, (∀ (j : Nat) d, ds[j]? = some d → D (acc.length + j) → ∀ i ∈ d, D i) → (∀ (j : Nat) an, acc[j]? = some an → D j → ∀ i ∈ an, D i) →
    ∀ (j : Nat) an, (closeAnc acc ds)[j]? = some an → D j → ∀ i ∈ an, D i
  | [], acc, _, h, j, an, hj, hD, i, hi => h j an hj hD i hi
  | d :: ds, acc, hd, h, j, an, hj, hD, i, hi => by
    simp only [closeAnc] at hj
    refine closeAnc_ok (D := D) (fun j' d' hj' hD' i hi => hd (j' + 1) d' (by simpa using hj') (by simpa [Nat.add_assoc, Nat.add_comm 1] using hD') i hi) (fun j' an' hj' hD' i hi => ?_) j an hj hD i hi
    rw [List.getElem?_append] at hj'
    split at hj'
    · exact h j' an' hj' hD' i hi
    · rename_i hge
      have hj0 : j' = acc.length := by
        have := (List.getElem?_eq_some_iff.1 hj').1
        simp at this; omega
      subst hj0
      simp at hj'; subst hj'
      rcases List.mem_append.1 (mem_ded hi) with hi | hi
      · exact hd 0 d (by simp) (by simpa using hD') i hi
      · obtain ⟨m, hm, hi⟩ := List.mem_flatMap.1 hi
        have hDm := hd 0 d (by simp) (by simpa using hD') m hm
        cases ha : acc[m]? with
        | none => simp [ha] at hi
        | some an => simp [ha] at hi; exact h m an ha hDm i hi
theorem closeAnc_ltA : ∀ {ds acc : List (List Nat)}, (∀ (j : Nat) d, ds[j]? = some d → ∀ i ∈ d, i < acc.length + j) → (∀ (j : Nat) an, acc[j]? = some an → ∀ i ∈ an, i < j) →
    ∀ (j : Nat) an, (closeAnc acc ds)[j]? = some an → ∀ i ∈ an, i < j
  | [], acc, _, h, j, an, hj, i, hi => h j an hj i hi
  | d :: ds, acc, hd, h, j, an, hj, i, hi => by
    simp only [closeAnc] at hj
    refine closeAnc_ltA (fun j' d' hj' i hi => by have := hd (j' + 1) d' (by simpa using hj') i hi; simp; omega) (fun j' an' hj' i hi => ?_) j an hj i hi
    rw [List.getElem?_append] at hj'
    split at hj'
    · exact h j' an' hj' i hi
    · have hj0 : j' = acc.length := by
        have := (List.getElem?_eq_some_iff.1 hj').1
        simp at this; omega
      subst hj0
      simp at hj'; subst hj'
      rcases List.mem_append.1 (mem_ded hi) with hi | hi
      · have := hd 0 d (by simp) i hi; omega
      · obtain ⟨m, hm, hi⟩ := List.mem_flatMap.1 hi
        have h1 := hd 0 d (by simp) m hm
        cases ha : acc[m]? with
        | none => simp [ha] at hi
        | some an => simp [ha] at hi; have := h m an ha i hi; omega
theorem closeAnc_lt {ds : List (List Nat)} (h : downOk ds = true) : ∀ (j : Nat) an, (closeAnc [] ds)[j]? = some an → ∀ i ∈ an, i < j := by
  refine closeAnc_ltA (fun j d hj i hi => ?_) (fun j an hj => by simp at hj)
  have hlt := (List.getElem?_eq_some_iff.1 hj).1
  have := List.all_eq_true.1 h j (by simpa using hlt)
  rw [hj] at this
  simp only [Option.getD_some, List.all_eq_true, decide_eq_true_eq] at this
  simpa using this i hi
theorem directs_get {ops : Array Oper} {j : Nat} {o : Oper} (h : ops[j]? = some o) : (directs ops)[j]? = some ((o.after.toList.filter (Region.binds .any)).map (·.on)) := by
  unfold directs
  rw [List.getElem?_map, Array.getElem?_toList, h]; rfl
theorem ready_mem {ops : Array Oper} {listed : Array Bool} {i : Nat} : i ∈ Region.ready .any ops listed ↔ i < ops.size ∧ listed.getD i true = false ∧ ∃ o, ops[i]? = some o ∧ ∀ e ∈ o.after.toList, Region.binds .any e = true → listed.getD e.on false = true := by
  simp only [Region.ready, List.mem_filter, List.mem_range, Bool.and_eq_true, Bool.not_eq_true']
  refine and_congr_right fun h1 => and_congr_right fun h2 => ?_
  have hget : ops[i]? = some ops[i] := by simp [h1]
  rw [hget]
  simp only [Option.map_some, Option.getD_some, Option.some.injEq, exists_eq_left']
  rw [← Array.all_toList, List.all_eq_true]
  refine forall_congr' fun e => forall_congr' fun he => ?_
  cases Region.binds .any e <;> simp
structure DInv (N : Nat) (K : Nat → Prop) (ops : Array Oper) (its : List Item) (σ : St) (S : Nat → Prop) (w : World) (f : Place) (listed : Array Bool) (a' : Go.Act) (w' : World) : Prop where
  size : listed.size = ops.size
  closed : ∀ (j : Nat) o, ops[j]? = some o → listed.getD j false = true → ∀ e ∈ o.after.toList, Region.binds .any e = true → listed.getD e.on false = true
  real : ∃ S' f', Real N S' w' f' (fun id => σ.nx ≤ id ∧ ∀ (m : Nat) it, its[m]? = some it → listed.getD m false = true → ¬ (it.t ≤ id ∧ id < it.t + it.c)) (runG Item.wE (fun m => listed.getD m false) 0 its σ.env) (runG Item.wH (fun m => listed.getD m false) 0 its σ.heap) a' ∧
    Step K S w f σ.heap S' w' f' (runG Item.wH (fun m => listed.getD m false) 0 its σ.heap)
theorem getD_set {l : Array Bool} {i : Nat} (hi : i < l.size) (m : Nat) (b : Bool) : (l.setIfInBounds i true).getD m b = (decide (m = i) || l.getD m b) := by
  rw [Array.getD_eq_getD_getElem?, Array.getD_eq_getD_getElem?, Array.getElem?_setIfInBounds]
  by_cases e : i = m
  · subst e; simp [hi]
  · simp [e, Ne.symm e]
theorem count_set : ∀ (l : List Bool) (i : Nat), l[i]? = some false → (l.set i true).count false + 1 = l.count false
  | [], i, h => by simp at h
  | b :: l, 0, h => by simp at h; subst h; simp
  | b :: l, i + 1, h => by
    simp at h
    have := count_set l i h
    simp only [List.set_cons_succ, List.count_cons]
    omega
theorem draw_any {P : Program} {N : Nat} {K : Nat → Prop} {ops : Array Oper} {its : List Item} {σ : St} {nx' : Nat} {S : Nat → Prop} {w : World} {f : Place} {Q : Exit → Go.Act → World → Prop}
    (hcomp : ops.toList.mapM (compIns P N ops) = some (its.map (·.i))) (hdst : ∀ it ∈ its, it.ft.d = it.i.dst) (hdown : downOk (directs ops) = true) (hind : indep [] (closeAnc [] (directs ops)) (its.map (·.ft)) = true)
    (hacts : ∀ (m : Nat) it, its[m]? = some it → σ.nx ≤ it.t ∧ it.t + it.c ≤ nx' ∧ Acts P it (runG Item.wE (fun n => decide (n < m)) 0 its σ.env) (runG Item.wH (fun n => decide (n < m)) 0 its σ.heap))
    (hord : ∀ (m n : Nat) a b, m < n → its[m]? = some a → its[n]? = some b → a.t + a.c ≤ b.t) (hnx : σ.nx ≤ nx')
    (hQ : ∀ a' w' S' f', Real N S' w' f' (nx' ≤ ·) (runG Item.wE (fun _ => true) 0 its σ.env) (runG Item.wH (fun _ => true) 0 its σ.heap) a' → Step K S w f σ.heap S' w' f' (runG Item.wH (fun _ => true) 0 its σ.heap) → Q .normal a' w') :
    ∀ (fuel : Nat) (listed : Array Bool) (a' : Go.Act) (w' : World), listed.toList.count false = fuel → DInv N K ops its σ S w f listed a' w' → wpAny P .any ops Q fuel listed a' w' := by
  have hlen : its.length = ops.size := by
    have := (mapM_get hcomp).1
    simpa using this
  have hins : ∀ (i : Nat) o it, ops[i]? = some o → its[i]? = some it → compIns P N ops o = some it.i := fun i o it h1 h2 =>
    (mapM_get hcomp).2 i o it.i (by simpa using h1) (by rw [List.getElem?_map, h2]; rfl)
  have hanc : ∀ {listed : Array Bool}, (∀ (j : Nat) o, ops[j]? = some o → listed.getD j false = true → ∀ e ∈ o.after.toList, Region.binds .any e = true → listed.getD e.on false = true) →
      ∀ (j : Nat) an, (closeAnc [] (directs ops))[j]? = some an → listed.getD j false = true → ∀ i ∈ an, listed.getD i false = true := fun {listed} hcl => by
    refine closeAnc_ok (D := fun i => listed.getD i false = true) (fun j d hj hD i hi => ?_) (fun j an hj => by simp at hj)
    simp only [List.length_nil, Nat.zero_add] at hD
    have hlt : j < ops.size := by
      have := (List.getElem?_eq_some_iff.1 hj).1
      simpa [directs] using this
    have hget : ops[j]? = some ops[j] := by simp [hlt]
    rw [directs_get hget] at hj
    cases hj
    obtain ⟨e, he, rfl⟩ := List.mem_map.1 hi
    obtain ⟨he1, he2⟩ := List.mem_filter.1 he
    exact hcl j _ hget hD e he1 he2
  -- the end
  have hend : ∀ (listed : Array Bool) (a' : Go.Act) (w' : World), Region.ready .any ops listed = [] → DInv N K ops its σ S w f listed a' w' → Q .normal a' w' := fun listed a' w' hrd hinv => by
    have all : ∀ (n : Nat), ∀ i, i < n → i < ops.size → listed.getD i false = true := by
      intro n
      induction n with
      | zero => intro i hi; omega
      | succ n ih =>
        intro i hi hlt
        by_cases hin : i < n
        · exact ih i hin hlt
        · have e : i = n := by omega
          subst e
          cases hb : listed.getD i false with
          | true => rfl
          | false =>
            exfalso
            have hmem : i ∈ Region.ready .any ops listed := by
              refine ready_mem.2 ⟨hlt, ?_, ops[i], by simp [hlt], fun e he hbd => ?_⟩
              · have hl : i < listed.size := by rw [hinv.size]; exact hlt
                simp [Array.getD, hl] at hb ⊢; exact hb
              · have hd : (directs ops)[i]? = some ((ops[i].after.toList.filter (Region.binds .any)).map (·.on)) := directs_get (by simp [hlt])
                have hdl : (directs ops).length = ops.size := by simp [directs]
                have := List.all_eq_true.1 hdown i (by simp [hdl, hlt])
                rw [hd] at this
                simp only [Option.getD_some, List.all_eq_true, decide_eq_true_eq] at this
                have hon := this e.on (List.mem_map.2 ⟨e, List.mem_filter.2 ⟨he, hbd⟩, rfl⟩)
                exact ih e.on hon (by omega)
            rw [hrd] at hmem; simp at hmem
    obtain ⟨S', f', h1, h2⟩ := hinv.real
    have e1 : runG Item.wE (fun m => listed.getD m false) 0 its σ.env = runG Item.wE (fun _ => true) 0 its σ.env := runG_shift _ _ 0 0 _ (fun m hm => by rw [Nat.zero_add]; exact all (m + 1) m (by omega) (by omega))
    have e2 : runG Item.wH (fun m => listed.getD m false) 0 its σ.heap = runG Item.wH (fun _ => true) 0 its σ.heap := runG_shift _ _ 0 0 _ (fun m hm => by rw [Nat.zero_add]; exact all (m + 1) m (by omega) (by omega))
    rw [e1, e2] at h1
    rw [e2] at h2
    refine hQ a' w' S' f' ⟨h1.env, h1.wf, fun id hid => h1.fresh id ⟨by omega, fun m it hm _ hin => ?_⟩, h1.size, h1.defers⟩ h2
    have := (hacts m it hm).2.1
    omega
  intro fuel
  induction fuel with
  | zero =>
    intro listed a' w' hcount hinv
    have hrd : Region.ready .any ops listed = [] := by
      refine List.eq_nil_iff_forall_not_mem.2 (fun i hi => ?_)
      obtain ⟨h1, h2, _⟩ := ready_mem.1 hi
      have hl : i < listed.size := by rw [hinv.size]; exact h1
      have hmem : false ∈ listed.toList := by
        have : listed[i] = false := by simpa [Array.getD, hl] using h2
        rw [← this]; simp
      have := List.count_pos_iff.2 hmem
      omega
    exact ⟨hrd, hend listed a' w' hrd hinv⟩
  | succ fuel ih =>
    intro listed a' w' hcount hinv
    refine ⟨fun hrd => hend listed a' w' hrd hinv, fun i hi => ?_⟩
    obtain ⟨hlt, hnl, o, hoi, hpre⟩ := ready_mem.1 hi
    have hl : i < listed.size := by rw [hinv.size]; exact hlt
    have hnl' : listed.getD i false = false := by simp [Array.getD, hl] at hnl ⊢; exact hnl
    obtain ⟨it, hit⟩ : ∃ it, its[i]? = some it := ⟨its[i], by simp [hlen, hlt]⟩
    obtain ⟨S', f', hreal, hstep⟩ := hinv.real
    obtain ⟨ht1, ht2, hact⟩ := hacts i it hit
    -- conflicts are ordered
    have hconf : ∀ (m : Nat) jt, its[m]? = some jt → m ≠ i → (m < i → listed.getD m false = false → jt.ft.apart it.ft = true) ∧ (i < m → listed.getD m false = true → it.ft.apart jt.ft = true) := fun m jt hm hne => by
      constructor
      · intro hlt' hnm
        rcases indep_ok hind m i jt.ft it.ft (by simpa using hlt') (by simp [List.getElem?_map, hm]) (by simp [List.getElem?_map, hit]) with ⟨an, ha, hmem⟩ | h
        · have hcl' : ∀ x ∈ an, listed.getD x false = true := by
            -- i's ancestors are listed
            have := hanc (listed := listed.setIfInBounds i true) (fun j o' hj hD e he hb => by
              rw [getD_set hl] at hD ⊢
              simp only [Bool.or_eq_true, decide_eq_true_eq] at hD ⊢
              by_cases e1 : j = i
              · subst e1; rw [hoi] at hj; cases hj; exact .inr (hpre e he hb)
              · exact .inr (hinv.closed j o' hj (hD.resolve_left e1) e he hb)) i an ha (by rw [getD_set hl]; simp)
            intro x hx
            have h1 := this x hx
            rw [getD_set hl] at h1
            simp only [Bool.or_eq_true, decide_eq_true_eq] at h1
            rcases h1 with h1 | h1
            · -- i is not its own ancestor
              subst h1
              exact absurd hx (fun hx => by
                have hself : ∀ (n : Nat) an, (closeAnc [] (directs ops))[n]? = some an → ∀ y ∈ an, y < n := closeAnc_lt hdown
                exact absurd (hself x an ha x hx) (by omega))
            · exact h1
          rw [hcl' m hmem] at hnm; cases hnm
        · exact h
      · intro hlt' hDm
        rcases indep_ok hind i m it.ft jt.ft (by simpa using hlt') (by simp [List.getElem?_map, hit]) (by simp [List.getElem?_map, hm]) with ⟨an, ha, hmem⟩ | h
        · have := hanc hinv.closed m an ha hDm i hmem
          rw [hnl'] at this; cases this
        · exact h
    have hdE : ∀ (jt : Item) x, x ∈ jt.wE.1 ↔ jt.ft.d = some x := fun jt x => by simp [Item.wE]
    have readE : ∀ x ∈ it.ft.tm, runG Item.wE (fun m => listed.getD m false) 0 its σ.env x = runG Item.wE (fun n => decide (n < i)) 0 its σ.env x := fun x hx =>
      runG_pt _ x its 0 _ _ (fun m jt hm hxm => by
        rw [Nat.zero_add]
        rw [hdE] at hxm
        rcases Nat.lt_trichotomy m i with hmi | hmi | hmi
        · simp only [hmi, decide_true]
          cases hb : listed.getD m false with
          | true => rfl
          | false =>
            have := (hconf m jt hm (by omega)).1 hmi hb
            simp only [Foot.apart, hxm, Bool.and_eq_true, Bool.not_eq_true'] at this
            have h1 := this.1.1.1.1
            rw [List.contains_eq_mem, decide_eq_false_iff_not] at h1; exact absurd hx h1
        · subst hmi; simp [hnl']
        · have : decide (m < i) = false := by simp; omega
          rw [this]
          cases hb : listed.getD m false with
          | false => rfl
          | true =>
            have := (hconf m jt hm (by omega)).2 hmi hb
            simp only [Foot.apart, hxm, Bool.and_eq_true, Bool.not_eq_true'] at this
            have h1 := this.1.1.2
            rw [List.contains_eq_mem, decide_eq_false_iff_not] at h1; exact absurd hx h1) rfl
    have readH : ∀ x ∈ it.ft.rd, runG Item.wH (fun m => listed.getD m false) 0 its σ.heap x = runG Item.wH (fun n => decide (n < i)) 0 its σ.heap x := fun x hx =>
      runG_pt _ x its 0 _ _ (fun m jt hm hxm => by
        rw [Nat.zero_add]
        rcases Nat.lt_trichotomy m i with hmi | hmi | hmi
        · simp only [hmi, decide_true]
          cases hb : listed.getD m false with
          | true => rfl
          | false =>
            have := (hconf m jt hm (by omega)).1 hmi hb
            simp only [Foot.apart, Bool.and_eq_true] at this
            have h1 := List.all_eq_true.1 this.1.2 x hxm
            simp only [Bool.and_eq_true, Bool.not_eq_true', List.contains_eq_mem, decide_eq_false_iff_not] at h1
            exact absurd hx h1.1
        · subst hmi; simp [hnl']
        · have : decide (m < i) = false := by simp; omega
          rw [this]
          cases hb : listed.getD m false with
          | false => rfl
          | true =>
            have := (hconf m jt hm (by omega)).2 hmi hb
            simp only [Foot.apart, Bool.and_eq_true] at this
            have h1 := List.all_eq_true.1 this.2 x hxm
            simp only [Bool.not_eq_true', List.contains_eq_mem, decide_eq_false_iff_not] at h1
            exact absurd hx h1) rfl
    have hfr : ∀ id, it.t ≤ id → id < it.t + it.c → (σ.nx ≤ id ∧ ∀ (m : Nat) jt, its[m]? = some jt → listed.getD m false = true → ¬ (jt.t ≤ id ∧ id < jt.t + jt.c)) := fun id q1 q2 => by
      refine ⟨by omega, fun m jt hm hDm hin => ?_⟩
      rcases Nat.lt_trichotomy m i with hmi | hmi | hmi
      · have := hord m i jt it hmi hm hit; omega
      · subst hmi; rw [hnl'] at hDm; cases hDm
      · have := hord i m it jt hmi hit hm; omega
    have hnone : ∀ id, it.t ≤ id → id < it.t + it.c → runG Item.wH (fun m => listed.getD m false) 0 its σ.heap id = none := fun id q1 q2 => by
      cases hh : runG Item.wH (fun m => listed.getD m false) 0 its σ.heap id with
      | none => rfl
      | some b =>
        obtain ⟨lc, hlc, _⟩ := hreal.wf.hp.live id b hh
        rw [hreal.fresh id (hfr id q1 q2)] at hlc; cases hlc
    have hdoes := hact _ _ readE readH hnone
    have hD' : ∀ m, (listed.setIfInBounds i true).getD m false = (decide (m = i) || listed.getD m false) := fun m => getD_set hl m false
    have eH : runG Item.wH (fun m => (listed.setIfInBounds i true).getD m false) 0 its σ.heap = setAll (runG Item.wH (fun m => listed.getD m false) 0 its σ.heap) it.ft.wr it.outs := by
      rw [setAll_setG]
      refine runG_set Item.wH hit hnl' hD' (fun m jt hmi hm hDm l hl' hlj => ?_) σ.heap
      have := (hconf m jt hm (by omega)).2 hmi hDm
      simp only [Foot.apart, Bool.and_eq_true] at this
      have h1 := List.all_eq_true.1 this.1.2 l hl'
      simp only [Bool.and_eq_true, Bool.not_eq_true', List.contains_eq_mem, decide_eq_false_iff_not] at h1
      exact h1.2 hlj
    have eE : runG Item.wE (fun m => (listed.setIfInBounds i true).getD m false) 0 its σ.env = setG (runG Item.wE (fun m => listed.getD m false) 0 its σ.env) it.i.dst.toList [it.v] := by
      have := runG_set Item.wE hit hnl' hD' (fun m jt hmi hm hDm l hl' hlj => by
        rw [hdE] at hl' hlj
        have := (hconf m jt hm (by omega)).2 hmi hDm
        simp only [Foot.apart, hl', Bool.and_eq_true, bne_iff_ne] at this
        exact this.1.1.1.2 hlj) σ.env
      rw [this]
      simp only [Item.wE, hdst it (List.mem_of_getElem? hit)]
    have hcount' : (listed.setIfInBounds i true).toList.count false = fuel := by
      rw [Array.toList_setIfInBounds]
      have : listed.toList[i]? = some false := by
        have h1 : listed[i] = false := by simpa [Array.getD, hl] using hnl
        simp [hl, h1]
      have := count_set listed.toList i this
      omega
    have hdo := doesAt_sound (K := K) (Q := Q) (R := fun a'' w'' => wpAny P .any ops Q fuel (listed.setIfInBounds i true) a'' w'') (hins i o it hoi hit) hreal hdoes hfr ⟨nx', fun id hid => ⟨by omega, fun m jt hm _ hin => by have := (hacts m jt hm).2.1; omega⟩⟩
      (fun a'' w'' S'' f'' q1 q2 => ih _ a'' w'' hcount' ⟨by simp [hinv.size], fun j o' hj hD e he hb => by
          rw [hD'] at hD ⊢
          simp only [Bool.or_eq_true, decide_eq_true_eq] at hD ⊢
          by_cases e1 : j = i
          · subst e1; rw [hoi] at hj; cases hj; exact .inr (hpre e he hb)
          · exact .inr (hinv.closed j o' hj (hD.resolve_left e1) e he hb), S'', f'', by
            rw [eE, eH]
            refine ⟨q1.env, q1.wf, fun id ⟨g1, g2⟩ => q1.fresh id ⟨⟨g1, fun m jt hm hDm => g2 m jt hm (by rw [hD', hDm]; simp)⟩, g2 i it hit (by rw [hD']; simp)⟩, q1.size, q1.defers⟩, by
            rw [eH]; exact hstep.trans q2⟩)
    unfold wpOp
    simp only [hoi]
    split
    · rename_i hw; rw [if_pos hw] at hdo; exact .inl hdo
    · rename_i hw; rw [if_neg hw] at hdo; exact hdo
theorem drew_real {N S w f fr env h a} (hr : Real N S w f fr env h a) : Real N S { w with drawn := w.drawn + 1 } f fr env h a :=
  ⟨fun t => (hr.env t).mono (fun _ h => h) (fun _ _ => rfl) (fun _ _ h => h), drew_wf hr.wf, hr.fresh, hr.size, hr.defers⟩
theorem drew_step {K S w f h} : Step K S w f h S { w with drawn := w.drawn + 1 } f h :=
  ⟨⟨rfl, rfl, rfl, Nat.le_refl _, fun _ _ _ => rfl⟩, fun _ h => .inl h, fun _ h => h, fun _ h => .inl h, fun _ _ _ h => h⟩
theorem runD_sound {P : Program} {N : Nat} {K : Nat → Prop} {id : Nat} {ops : Array Oper} {is : List SIns} (hm : P.follows .mixedOrders = true) (hcomp : ops.toList.mapM (compIns P N ops) = some is) (hdown : downOk (directs ops) = true)
    {S w f a} {σ : St} {R : St → Prop} {Q : Exit → Go.Act → World → Prop} (hr : Real N S w f (σ.nx ≤ ·) σ.env σ.heap a)
    (hrun : RunD P is [] σ (fun fs σ' => indep [] (closeAnc [] (directs ops)) fs = true ∧ R σ')) (hQ : ∀ a' w', After N K S w f σ.heap R a' w' → Q .normal a' w') :
    (Code.region id ops true).wp P Q a w := by
  obtain ⟨its, nx', h1, h2, ⟨h3, h3'⟩, h4, h5, h6⟩ := runD_items hrun
  subst h1
  refine wp_region_any hm (draw_any (K := K) (S := S) (w := w) (f := f) hcomp h2 hdown (by simpa using h3) h4 h5 h6 (fun a' w' S' f' q1 q2 => hQ a' w' ⟨S', f', _, h3', q1, q2⟩) ops.size _ a _ (by simp) ⟨by simp, fun j o hj hD => ?_, S, f, ?_⟩)
  · exfalso
    have hlt : j < ops.size := (Array.getElem?_eq_some_iff.1 hj).1
    simp [Array.getD, hlt] at hD
  · have e0 : ∀ m : Nat, (Array.replicate ops.size false).getD m false = false := fun m => by
      simp [Array.getD]
    rw [runG_none Item.wE _ _ _ (fun m _ => e0 _), runG_none Item.wH _ _ _ (fun m _ => e0 _)]
    have := drew_real hr
    exact ⟨⟨this.env, this.wf, fun id hid => this.fresh id hid.1, this.size, this.defers⟩, drew_step⟩
end Go.Sx
