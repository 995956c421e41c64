/- What the package's variables hold that nobody writes to. No conditions. -/
import Derived.Calls
import Derived.Laws.Sem
import Derived.Laws.World
import Derived.Below
import Derived.Deep.AppendSrc
import Derived.Deep.MidRow
import Derived.Laws.CopyRow
import Derived.Laws.Entries
set_option linter.unusedVariables false
set_option linter.unusedSimpArgs false
section
namespace Go.Sx
def GL (_b : Nat) : Option (List Value) := none
def BT : TypeId := 77
def UT : TypeId := 5
def bT (u : Bool) : TypeId := if u then UT else BT
end Go.Sx
end
section
namespace Go.Sx
structure Loc where
  b : Nat
  base : Nat
  n : Nat
inductive AV where
  | any
  | v (x : Value)
  | il (cells : List AV) (len : Nat) (full : Bool)
  | ref (id off len esz : Nat) (cap : Option Nat)
  | ptr (id off : Nat)
  | elt (cells : List AV) (off : Nat)
  | map (id : Nat)
  | fn (g : Fn) (first captured : List AV)
  | agg (cells : List AV)
  | tup (vs : List AV)
  | ifc (t : TypeId) (x : AV)
inductive Blk where
  | cells (cs : List AV)
  | map (es : List (Value × AV))
  | bld (u : Bool) (cs : List AV)
abbrev Heap := Nat → Option Blk
abbrev Place := Nat → Option Loc
inductive Rep (S : Nat → Prop) (w : World) : Place → AV → Value → Prop where
  | any {f x} : Rep S w f .any x
  | v {f} (x : Value) : Rep S w f (.v x) x
  | nil {f full} : Rep S w f (.il [] 0 full) (.slice none 0 0)
  | emp {f full b o s} : Rep S w f (.il [] 0 full) (.slice (some ⟨b, o, some s⟩) 0 0)
  | il {f cells len full} {vals : List Value} {b o c : Nat} (hl : vals.length = cells.length) (hS : cells ≠ [] → S b)
      (hc : ∀ i x, vals[i]? = some x → w.cell? ⟨b, o + i, none⟩ = some x) (h1 : ∀ x ∈ vals, x.oneCell' = true)
      (hr : ∀ (i : Nat) x y, cells[i]? = some x → vals[i]? = some y → Rep S w (fun _ => none) x y)
      (hn : len ≤ c) (hf : full = true → c = len) : Rep S w f (.il cells len full) (.slice (some ⟨b, o, none⟩) len c)
  | ref {f id off len esz cap c} {l : Loc} (hf : f id = some l) (h1 : ∀ k, cap = some k → c = k) (h2 : cap = none → l.base + off + c * esz = l.n)
      (h3 : l.base + off + c * esz ≤ l.n) (h4 : len ≤ c) : Rep S w f (.ref id off len esz cap) (.slice (some ⟨l.b, l.base + off, none⟩) len c)
  | ptr {f id off} {l : Loc} (hf : f id = some l) : Rep S w f (.ptr id off) (.pointer (some ⟨l.b, l.base + off, none⟩))
  | elt {f cells off} {vals : List Value} {b o : Nat} (hl : vals.length = cells.length) (hS : cells ≠ [] → S b)
      (hc : ∀ i x, vals[i]? = some x → w.cell? ⟨b, o + i, none⟩ = some x) (h1 : ∀ x ∈ vals, x.oneCell' = true)
      (hr : ∀ (i : Nat) x y, cells[i]? = some x → vals[i]? = some y → Rep S w (fun _ => none) x y) :
      Rep S w f (.elt cells off) (.pointer (some ⟨b, o + off, none⟩))
  | map {f id} {l : Loc} (hf : f id = some l) : Rep S w f (.map id) (.map (some l.b))
  | fn {f g first captured} {fs cs : List Value} (h1 : fs.length = first.length) (h2 : cs.length = captured.length)
      (hr1 : ∀ (i : Nat) x y, first[i]? = some x → fs[i]? = some y → Rep S w f x y)
      (hr2 : ∀ (i : Nat) x y, captured[i]? = some x → cs[i]? = some y → Rep S w f x y) : Rep S w f (.fn g first captured) (.func g fs.toArray cs.toArray)
  | agg {f cells} {vals : List Value} (hl : vals.length = cells.length) (h1 : ∀ x ∈ vals, x.oneCell' = true)
      (hr : ∀ (i : Nat) x y, cells[i]? = some x → vals[i]? = some y → Rep S w f x y) : Rep S w f (.agg cells) (.agg vals.toArray)
  | tup {f vs} {vals : List Value} (hl : vals.length = vs.length)
      (hr : ∀ (i : Nat) x y, vs[i]? = some x → vals[i]? = some y → Rep S w f x y) : Rep S w f (.tup vs) (.tuple vals.toArray)
  | ifc {f t x y} (h : Rep S w f x y) : Rep S w f (.ifc t x) (.iface t y)
def Reps (S : Nat → Prop) (w : World) (f : Place) (xs : List AV) (ys : List Value) : Prop :=
  ys.length = xs.length ∧ ∀ (i : Nat) x y, xs[i]? = some x → ys[i]? = some y → Rep S w f x y
theorem cell_same {w w' : World} {a : Addr} (h : w'.heap[a.block]? = w.heap[a.block]?) : w'.cell? a = w.cell? a := by
  unfold World.cell?; rw [h]
theorem Rep.mono {S S' : Nat → Prop} {w w' : World} {f f' : Place} {x : AV} {y : Value} (h : Rep S w f x y) (hS : ∀ b, S b → S' b)
    (hw : ∀ b, S b → w'.heap[b]? = w.heap[b]?) (hf : ∀ id l, f id = some l → f' id = some l) : Rep S' w' f' x y := by
  induction h generalizing f' with
  | any => exact .any
  | v x => exact .v x
  | nil => exact .nil
  | emp => exact .emp
  | il hl hSb hc h1 hr hn hfu ih =>
    refine .il hl (fun h => hS _ (hSb h)) (fun i x hx => ?_) h1 (fun i x y hx hy => ih i x y hx hy (fun _ _ h => h)) hn hfu
    have hb := hSb (by intro h0; subst h0; simp at hl; subst hl; simp at hx)
    rw [cell_same (w := w) (hw _ hb)]; exact hc i x hx
  | ref h0 h1 h2 h3 h4 => exact .ref (hf _ _ h0) h1 h2 h3 h4
  | ptr h0 => exact .ptr (hf _ _ h0)
  | elt hl hSb hc h1 hr ih =>
    refine .elt hl (fun h => hS _ (hSb h)) (fun i x hx => ?_) h1 (fun i x y hx hy => ih i x y hx hy (fun _ _ h => h))
    have hb := hSb (by intro h0; subst h0; simp at hl; subst hl; simp at hx)
    rw [cell_same (w := w) (hw _ hb)]; exact hc i x hx
  | map h0 => exact .map (hf _ _ h0)
  | fn h1 h2 hr1 hr2 ih1 ih2 => exact .fn h1 h2 (fun i x y hx hy => ih1 i x y hx hy hf) (fun i x y hx hy => ih2 i x y hx hy hf)
  | agg hl h1 hr ih => exact .agg hl h1 (fun i x y hx hy => ih i x y hx hy hf)
  | tup hl hr ih => exact .tup hl (fun i x y hx hy => ih i x y hx hy hf)
  | ifc h ih => exact .ifc (ih hf)
theorem Reps.mono {S S' : Nat → Prop} {w w' : World} {f f' : Place} {xs : List AV} {ys : List Value} (h : Reps S w f xs ys) (hS : ∀ b, S b → S' b)
    (hw : ∀ b, S b → w'.heap[b]? = w.heap[b]?) (hf : ∀ id l, f id = some l → f' id = some l) : Reps S' w' f' xs ys :=
  ⟨h.1, fun i x y hx hy => (h.2 i x y hx hy).mono hS hw hf⟩
theorem Reps.nil {S w f} : Reps S w f [] [] := ⟨rfl, fun i x y hx => by simp at hx⟩
theorem Reps.cons {S w f x y xs ys} (h : Rep S w f x y) (hs : Reps S w f xs ys) : Reps S w f (x :: xs) (y :: ys) := by
  refine ⟨by simp [hs.1], fun i a b ha hb => ?_⟩
  cases i with
  | zero => simp at ha hb; subst ha; subst hb; exact h
  | succ i => simp at ha hb; exact hs.2 i a b ha hb
def BRep (S : Nat → Prop) (w : World) (f : Place) : Blk → Loc → Prop
  | .cells cs, l => ∃ (arr : Array Value) (t : TypeId), w.heap[l.b]? = some (.cells arr t (0, 0)) ∧ arr.size = l.n ∧ l.base + cs.length ≤ l.n ∧ (∀ (i : Nat) (x : Value), arr[i]? = some x → x.oneCell' = true) ∧
      ∀ (i : Nat) x y, cs[i]? = some x → arr[l.base + i]? = some y → Rep S w f x y
  | .map es, l => ∃ en : Array MapEntry, w.heap[l.b]? = some (.map en es.length) ∧ l.base = 0 ∧ en.size = es.length ∧
      ∀ (i : Nat) k x e, es[i]? = some (k, x) → en[i]? = some e → e.key = k ∧ e.born = i ∧ Rep S w f x e.val
  | .bld u cs, l => ∃ (arr : Array Value) (t : TypeId), w.heap[l.b]? = some (.cells arr t (0, 0)) ∧ arr.size = l.n ∧ l.base + cs.length ≤ l.n ∧ (∀ (i : Nat) (x : Value), arr[i]? = some x → x.oneCell' = true) ∧
      (∀ (i : Nat) x y, cs[i]? = some x → arr[l.base + i]? = some y → Rep S w f x y) ∧ t = bT u ∧ l.base = 0 ∧ (u = false → l.n = cs.length)
structure Hp (S : Nat → Prop) (w : World) (f : Place) (h : Heap) : Prop where
  live : ∀ id k, h id = some k → ∃ l, f id = some l ∧ BRep S w f k l
  inj : ∀ i j li lj, h i ≠ none → h j ≠ none → f i = some li → f j = some lj → li.b = lj.b → i = j
def Own (f : Place) (h : Heap) (b : Nat) : Prop := ∃ id l, h id ≠ none ∧ f id = some l ∧ l.b = b
def Glob (S : Nat → Prop) (w : World) : Prop :=
  ∀ b cs, GL b = some cs → S b ∧ ∀ (i : Nat) x, cs[i]? = some x → w.cell? ⟨b, i, none⟩ = some x ∧ x.oneCell' = true
theorem Glob.mono {S S' : Nat → Prop} {w w' : World} (h : Glob S w) (hS : ∀ b, S b → S' b) (hw : ∀ b, S b → w'.heap[b]? = w.heap[b]?) : Glob S' w' := fun b cs hb =>
  ⟨hS _ (h b cs hb).1, fun i x hx => ⟨by rw [cell_same (w := w) (hw _ (h b cs hb).1)]; exact ((h b cs hb).2 i x hx).1, ((h b cs hb).2 i x hx).2⟩⟩
structure Wf (S : Nat → Prop) (w : World) (f : Place) (h : Heap) : Prop where
  hp : Hp S w f h
  st : ∀ b, S b → b < w.heap.size ∧ ¬ Own f h b
  gl : Glob S w
structure Kept (O : Nat → Prop) (w w' : World) : Prop where
  os : w'.os = w.os
  tape : w'.tape = w.tape
  output : w'.output = w.output
  size : w.heap.size ≤ w'.heap.size
  block : ∀ b, b < w.heap.size → ¬ O b → w'.heap[b]? = w.heap[b]?
theorem Kept.refl (O) (w : World) : Kept O w w := ⟨rfl, rfl, rfl, Nat.le_refl _, fun _ _ _ => rfl⟩
structure Step (K : Nat → Prop) (S : Nat → Prop) (w : World) (f : Place) (h : Heap) (S' : Nat → Prop) (w' : World) (f' : Place) (h' : Heap) : Prop where
  kept : Kept (Own f h) w w'
  own : ∀ b, Own f' h' b → Own f h b ∨ w.heap.size ≤ b
  st : ∀ b, S b → S' b
  st' : ∀ b, S' b → S b ∨ Own f h b ∨ w.heap.size ≤ b
  ids : ∀ id l, K id → f id = some l → f' id = some l
theorem Step.refl (K S w f h) : Step K S w f h S w f h :=
  ⟨.refl _ _, fun _ h => .inl h, fun _ h => h, fun _ h => .inl h, fun _ _ _ h => h⟩
theorem Step.trans {K S w f h S1 w1 f1 h1 S2 w2 f2 h2} (a : Step K S w f h S1 w1 f1 h1) (b : Step K S1 w1 f1 h1 S2 w2 f2 h2) : Step K S w f h S2 w2 f2 h2 := by
  have ho : ∀ b, Own f1 h1 b ∨ w1.heap.size ≤ b → Own f h b ∨ w.heap.size ≤ b := fun b hb => by
    rcases hb with hb | hb
    · exact a.own b hb
    · exact .inr (Nat.le_trans a.kept.size hb)
  refine ⟨⟨b.kept.os.trans a.kept.os, b.kept.tape.trans a.kept.tape, b.kept.output.trans a.kept.output, Nat.le_trans a.kept.size b.kept.size, fun k hk hO => ?_⟩,
    fun k hk => ho k (b.own k hk), fun k hk => b.st k (a.st k hk), fun k hk => ?_, fun id l hK h => b.ids id l hK (a.ids id l hK h)⟩
  · rw [b.kept.block k (Nat.lt_of_lt_of_le hk a.kept.size) (fun h => (a.own k h).elim hO (fun h => by omega)), a.kept.block k hk hO]
  · rcases b.st' k hk with h | h
    · exact a.st' k h
    · exact .inr (ho k h)
theorem Step.mono {K K' S w f h S' w' f' h'} (a : Step K S w f h S' w' f' h') (hK : ∀ i, K' i → K i) : Step K' S w f h S' w' f' h' :=
  ⟨a.kept, a.own, a.st, a.st', fun id l hk h => a.ids id l (hK id hk) h⟩
theorem BRep.mono {S S' w w' f f' k l} (h : BRep S w f k l) (hS : ∀ b, S b → S' b) (hw : ∀ b, S b → w'.heap[b]? = w.heap[b]?)
    (hf : ∀ id l, f id = some l → f' id = some l) (hb : w'.heap[l.b]? = w.heap[l.b]?) : BRep S' w' f' k l := by
  cases k with
  | cells cs =>
    obtain ⟨arr, t, h1, h2, h3, h4, h5⟩ := h
    exact ⟨arr, t, by rw [hb]; exact h1, h2, h3, h4, fun i x y hx hy => (h5 i x y hx hy).mono hS hw hf⟩
  | bld u cs =>
    obtain ⟨arr, t, h1, h2, h3, h4, h5, h6⟩ := h
    exact ⟨arr, t, by rw [hb]; exact h1, h2, h3, h4, fun i x y hx hy => (h5 i x y hx hy).mono hS hw hf, h6⟩
  | map es =>
    obtain ⟨en, h1, h0, h2, h3⟩ := h
    exact ⟨en, by rw [hb]; exact h1, h0, h2, fun i k x e hx he => let ⟨a, b, c⟩ := h3 i k x e hx he; ⟨a, b, c.mono hS hw hf⟩⟩
theorem Wf.stable {S w f h} (hwf : Wf S w f h) {K S' w' f' h'} (s : Step K S w f h S' w' f' h') : ∀ b, S b → w'.heap[b]? = w.heap[b]? :=
  fun b hb => s.kept.block b (hwf.st b hb).1 (hwf.st b hb).2
theorem BRep.lt {S w f k l} (h : BRep S w f k l) : l.b < w.heap.size := by
  cases k with
  | cells cs => obtain ⟨arr, t, h1, _⟩ := h; exact (Array.getElem?_eq_some_iff.1 h1).1
  | map es => obtain ⟨arr, h1, _⟩ := h; exact (Array.getElem?_eq_some_iff.1 h1).1
  | bld u cs => obtain ⟨arr, t, h1, _⟩ := h; exact (Array.getElem?_eq_some_iff.1 h1).1
theorem Wf.own_lt {S w f h} (hwf : Wf S w f h) {b} (hb : Own f h b) : b < w.heap.size := by
  obtain ⟨id, l, h1, h2, h3⟩ := hb
  obtain ⟨k, hk⟩ := Option.ne_none_iff_exists'.1 h1
  obtain ⟨l', hl', hB⟩ := hwf.hp.live id k hk
  rw [h2] at hl'; cases hl'; rw [← h3]; exact hB.lt
end Go.Sx
end
section
namespace Go.Sx
def upd {α : Type} (g : Nat → α) (i : Nat) (x : α) : Nat → α := fun j => if j = i then x else g j
@[simp] theorem upd_same {α : Type} (g : Nat → α) (i : Nat) (x : α) : upd g i x i = x := by simp [upd]
theorem upd_other {α : Type} (g : Nat → α) {i j : Nat} (x : α) (h : j ≠ i) : upd g i x j = g j := by simp [upd, h]
structure Res where
  v : AV
  outs : List (Option Blk)
  nb : Option Blk
structure Eff where
  rs : List Nat
  ws : List Nat
  k : List Blk → Nat → Option Res
def setAll : Heap → List Nat → List (Option Blk) → Heap
  | h, i :: is, o :: os => setAll (upd h i o) is os
  | h, _, _ => h
def getAll (h : Heap) : List Nat → Option (List Blk)
  | [] => some []
  | i :: is => match h i, getAll h is with
    | some b, some bs => some (b :: bs)
    | _, _ => none
def Eff.exec (E : Eff) (h : Heap) (id : Nat) : Option (AV × Heap) :=
  match getAll h E.rs with
  | none => none
  | some bs => match E.k bs id with
    | none => none
    | some r => match r.nb with
      | none => some (r.v, setAll h E.ws r.outs)
      | some b => some (r.v, upd (setAll h E.ws r.outs) id (some b))
def ret (x : AV) : Option Eff := some ⟨[], [], fun _ _ => some ⟨x, [], none⟩⟩
def Good (P : Program) (E : Eff) (ex : Sem Next) (S : Nat → Prop) (w : World) (f : Place) (h : Heap) (id : Nat) : Prop :=
  Wf S w f h → f id = none → ∀ v h', E.exec h id = some (v, h') → ∃ n y w' f', ex.run P w = .ok n w' ∧ (n = .value y ∨ (n = .skip ∧ y = undef)) ∧
    Rep S w' f' v y ∧ Wf S w' f' h' ∧ Step (fun _ => True) S w f h S w' f' h' ∧ (∀ j, j ≠ id → f' j = f j)
theorem good_pure {P E ex S w f h id} {x : AV} {y : Value} (hE : ret x = some E) (hr : ex.run P w = .ok (.value y) w) (hx : Rep S w f x y) : Good P E ex S w f h id := by
  simp only [ret, Option.some.injEq] at hE
  subst hE
  intro wf hid v h' he
  simp only [Eff.exec, getAll, setAll, Option.some.injEq, Prod.mk.injEq] at he
  obtain ⟨rfl, rfl⟩ := he
  exact ⟨_, y, w, f, hr, .inl rfl, hx, wf, .refl _ _ _ _ _, fun _ _ => rfl⟩
theorem good_read {P E ex S w f h id} {i : Nat} {k : Blk → Option AV} {l : Loc} (hE : E = ⟨[i], [], fun bs _ => match bs with | [b] => (k b).map (⟨·, [], none⟩) | _ => none⟩)
    (hl : f i = some l) (hr : ∀ b x, BRep S w f b l → k b = some x → ∃ y, ex.run P w = .ok (.value y) w ∧ Rep S w f x y) : Good P E ex S w f h id := by
  subst hE
  intro wf hid v h' he
  simp only [Eff.exec, getAll] at he
  cases hb : h i with
  | none => simp [hb] at he
  | some b =>
    simp only [hb] at he
    cases hk : k b with
    | none => simp [hk] at he
    | some x =>
      simp only [hk, Option.map_some, setAll, Option.some.injEq, Prod.mk.injEq] at he
      obtain ⟨rfl, rfl⟩ := he
      obtain ⟨l', hl', hB⟩ := wf.hp.live i b hb
      rw [hl] at hl'; cases hl'
      obtain ⟨y, h1, h2⟩ := hr b x hB hk
      exact ⟨_, y, w, f, h1, .inl rfl, h2, wf, .refl _ _ _ _ _, fun _ _ => rfl⟩
theorem wf_put {S w f h} (wf : Wf S w f h) {w' : World} {f' : Place} {h' : Heap} {id' : Nat} {l' : Loc} {k' : Blk}
    (hf' : ∀ j, j ≠ id' → f' j = f j) (hfid : f' id' = some l') (hh : ∀ j, j ≠ id' → h' j = h j ∨ h' j = none) (hh' : h' id' = some k')
    (hsize : w.heap.size ≤ w'.heap.size) (hblk : ∀ b, b < w.heap.size → b ≠ l'.b → w'.heap[b]? = w.heap[b]?)
    (hdis : ∀ j lj, j ≠ id' → h' j ≠ none → f j = some lj → lj.b ≠ l'.b) (hS : ¬ S l'.b) (hmono : f id' = none ∨ f id' = some l')
    (hB : BRep S w' f' k' l') : Wf S w' f' h' := by
  have hSw : ∀ b, S b → w'.heap[b]? = w.heap[b]? := fun b hb => hblk b (wf.st b hb).1 (fun e => hS (e ▸ hb))
  have hff : ∀ id l, f id = some l → f' id = some l := fun id l hl => by
    by_cases e : id = id'
    · subst e
      rcases hmono with h0 | h0
      · rw [h0] at hl; cases hl
      · rw [h0] at hl; cases hl; exact hfid
    · rw [hf' id e]; exact hl
  have live' : ∀ j, j ≠ id' → h' j ≠ none → h' j = h j := fun j e hn => (hh j e).resolve_right hn
  refine ⟨⟨fun j k hk => ?_, fun i j li lj hi hj hfi hfj he => ?_⟩, fun b hb => ⟨Nat.lt_of_lt_of_le (wf.st b hb).1 hsize, fun ⟨j, l, hj, hl, hlb⟩ => ?_⟩, wf.gl.mono (fun _ h => h) hSw⟩
  · by_cases e : j = id'
    · subst e; rw [hh'] at hk; cases hk; exact ⟨l', hfid, hB⟩
    · have hn : h' j ≠ none := by rw [hk]; simp
      rw [live' j e hn] at hk
      obtain ⟨l, hl, hBj⟩ := wf.hp.live j k hk
      exact ⟨l, hff j l hl, hBj.mono (fun _ h => h) hSw hff (hblk l.b hBj.lt (hdis j l e hn hl))⟩
  · by_cases ei : i = id'
    · by_cases ej : j = id'
      · rw [ei, ej]
      · subst ei; rw [hfid] at hfi; cases hfi
        rw [hf' j ej] at hfj
        exact absurd he.symm (hdis j lj ej hj hfj)
    · by_cases ej : j = id'
      · subst ej; rw [hfid] at hfj; cases hfj
        rw [hf' i ei] at hfi
        exact absurd he (hdis i li ei hi hfi)
      · rw [hf' i ei] at hfi; rw [hf' j ej] at hfj
        exact wf.hp.inj i j li lj (by rw [← live' i ei hi]; exact hi) (by rw [← live' j ej hj]; exact hj) hfi hfj he
  · by_cases e : j = id'
    · subst e; rw [hfid] at hl; cases hl; exact hS (hlb ▸ hb)
    · rw [hf' j e] at hl
      exact (wf.st b hb).2 ⟨j, l, by rw [← live' j e hj]; exact hj, hl, hlb⟩
theorem step_put {S w f h} {w' : World} {f' : Place} {h' : Heap} {id' : Nat} {l' : Loc} (hf' : ∀ j, j ≠ id' → f' j = f j) (hfid : f' id' = some l') (hh : ∀ j, j ≠ id' → h' j = h j ∨ h' j = none)
    (hos : w'.os = w.os) (htape : w'.tape = w.tape) (hout : w'.output = w.output) (hsize : w.heap.size ≤ w'.heap.size)
    (hblk : ∀ b, b < w.heap.size → b ≠ l'.b → w'.heap[b]? = w.heap[b]?) (hmono : f id' = none ∨ f id' = some l') (hown : Own f h l'.b ∨ w.heap.size ≤ l'.b) :
    Step (fun _ => True) S w f h S w' f' h' := by
  refine ⟨⟨hos, htape, hout, hsize, fun b hb hO => hblk b hb (fun e => ?_)⟩, fun b ⟨j, l, hj, hl, hlb⟩ => ?_, fun _ h => h, fun _ h => .inl h, fun id l _ hl => ?_⟩
  · subst e; rcases hown with h | h
    · exact hO h
    · omega
  · by_cases e : j = id'
    · subst e; rw [hfid] at hl; cases hl; rw [← hlb]; exact hown
    · rw [hf' j e] at hl
      exact .inl ⟨j, l, by rw [← (hh j e).resolve_right hj]; exact hj, hl, hlb⟩
  · by_cases e : id = id'
    · subst e
      rcases hmono with h0 | h0
      · rw [h0] at hl; cases hl
      · rw [h0] at hl; cases hl; exact hfid
    · rw [hf' id e]; exact hl
theorem wf_alloc {S w f h} (wf : Wf S w f h) {id : Nat} (hid : f id = none) {w' : World} {o : Obj} {k : Blk} {n : Nat} (hw : w'.heap = w.heap.push o) (hos : w'.os = w.os) (htape : w'.tape = w.tape) (hout : w'.output = w.output)
    (hB : BRep S w' (upd f id (some ⟨w.heap.size, 0, n⟩)) k ⟨w.heap.size, 0, n⟩) :
    Wf S w' (upd f id (some ⟨w.heap.size, 0, n⟩)) (upd h id (some k)) ∧ Step (fun _ => True) S w f h S w' (upd f id (some ⟨w.heap.size, 0, n⟩)) (upd h id (some k)) := by
  have hs : w.heap.size ≤ w'.heap.size := by rw [hw]; simp
  have hb : ∀ b, b < w.heap.size → b ≠ w.heap.size → w'.heap[b]? = w.heap[b]? := fun b hb _ => by rw [hw, Array.getElem?_push, if_neg (by omega)]
  refine ⟨wf_put wf (id' := id) (l' := ⟨w.heap.size, 0, n⟩) (k' := k) (fun j e => upd_other _ _ e) (upd_same _ _ _) (fun j e => .inl (upd_other _ _ e)) (upd_same _ _ _) hs hb (fun j lj e hj hl he => ?_) (fun hS => ?_) (.inl hid) hB,
    step_put (id' := id) (l' := ⟨w.heap.size, 0, n⟩) (fun j e => upd_other _ _ e) (upd_same _ _ _) (fun j e => .inl (upd_other _ _ e)) hos htape hout hs hb (.inl hid) (.inr (Nat.le_refl _))⟩
  · rw [upd_other _ _ e] at hj
    have : lj.b < w.heap.size := wf.own_lt ⟨j, lj, hj, hl, rfl⟩
    simp only at he; omega
  · have := (wf.st _ hS).1
    simp only at this; omega
theorem drew_wf {S w f h} (wf : Wf S w f h) : Wf S w.drew f h :=
  ⟨⟨fun j k hk => let ⟨l, h1, h2⟩ := wf.hp.live j k hk; ⟨l, h1, h2.mono (fun _ h => h) (fun _ _ => rfl) (fun _ _ h => h) rfl⟩, wf.hp.inj⟩, wf.st, wf.gl.mono (fun _ h => h) (fun _ _ => rfl)⟩
theorem wf_write {S w f h} (wf : Wf S w f h) {id : Nat} {k k' : Blk} {l : Loc} (hk : h id = some k) (hl : f id = some l) {w' : World} (hos : w'.os = w.os) (htape : w'.tape = w.tape) (hout : w'.output = w.output)
    (hsize : w'.heap.size = w.heap.size) (hblk : ∀ b, b ≠ l.b → w'.heap[b]? = w.heap[b]?) (hB : BRep S w' f k' l) :
    Wf S w' f (upd h id (some k')) ∧ Step (fun _ => True) S w f h S w' f (upd h id (some k')) := by
  have hown : Own f h l.b := ⟨id, l, by rw [hk]; simp, hl, rfl⟩
  refine ⟨wf_put wf (id' := id) (l' := l) (k' := k') (fun _ _ => rfl) hl (fun j e => .inl (upd_other _ _ e)) (upd_same _ _ _) (by omega) (fun b _ e => hblk b e) (fun j lj e hj hlj he => ?_) (fun hS => (wf.st _ hS).2 hown) (.inr hl) hB,
    step_put (id' := id) (l' := l) (fun _ _ => rfl) hl (fun j e => .inl (upd_other _ _ e)) hos htape hout (by omega) (fun b _ e => hblk b e) (.inr hl) (.inl hown)⟩
  rw [upd_other _ _ e] at hj
  exact e (wf.hp.inj j id lj l hj (by rw [hk]; simp) hlj hl he)
/-! ### Cells -/
def AV.cells? : AV → Option (List AV)
  | .any => none
  | .tup _ => none
  | .agg cs => some cs
  | .v x => if x.oneCell' then some [.v x] else none
  | x => some [x]
theorem cells_rep {S w f x y cs} (h : Rep S w f x y) (hc : x.cells? = some cs) : (∀ v ∈ y.cells.toList, v.oneCell' = true) ∧ Reps S w f cs y.cells.toList := by
  cases h <;> simp only [AV.cells?, Option.some.injEq, reduceCtorEq] at hc
  case v =>
    split at hc
    · rename_i h1
      simp only [Option.some.injEq] at hc; subst hc
      have hy : y.cells = #[y] := by cases y <;> simp_all [Value.cells, Value.oneCell']
      rw [hy]
      exact ⟨by simpa using h1, .cons (.v _) .nil⟩
    · cases hc
  case agg hl h1 hr =>
    subst hc
    simp only [Value.cells]
    exact ⟨h1, hl, hr⟩
  all_goals
    subst hc
    refine ⟨by simp [Value.cells, Value.oneCell'], .cons ?_ .nil⟩
  case nil => exact .nil
  case emp => exact .emp
  case il hl hS hc h1 hr hn hf => exact .il hl hS hc h1 hr hn hf
  case ref => exact .ref (by assumption) (by assumption) (by assumption) (by assumption) (by assumption)
  case ptr hf => exact .ptr hf
  case elt hl hS hc h1 hr => exact .elt hl hS hc h1 hr
  case map hf => exact .map hf
  case fn h1 h2 h3 h4 => exact .fn h1 h2 h3 h4
  case ifc h => exact .ifc h
theorem BRep.cell {S w f cs l} (h : BRep S w f (.cells cs) l) {i : Nat} {x : AV} (hx : cs[i]? = some x) : ∃ y, w.cell? ⟨l.b, l.base + i, none⟩ = some y ∧ Rep S w f x y ∧ y.oneCell' = true := by
  obtain ⟨arr, t, h1, h2, h3, h4, h5⟩ := h
  have hi : i < cs.length := (List.getElem?_eq_some_iff.1 hx).1
  have hlt : l.base + i < arr.size := by omega
  refine ⟨arr[l.base + i], ?_, h5 i x _ hx (by simp [hlt]), h4 (l.base + i) _ (by simp [hlt])⟩
  simp [World.cell?, h1, hlt]
theorem BRep.take {S w f cs l} (h : BRep S w f (.cells cs) l) (off n : Nat) (hle : off + n ≤ cs.length) :
    ∃ vals : List Value, vals.length = n ∧ (∀ v ∈ vals, v.oneCell' = true) ∧ Reps S w f ((cs.drop off).take n) vals ∧ ∀ i x, vals[i]? = some x → w.cell? ⟨l.b, l.base + off + i, none⟩ = some x := by
  obtain ⟨arr, t, h1, h2, h3, h4, h5⟩ := h
  refine ⟨(arr.toList.drop (l.base + off)).take n, ?_, fun v hv => ?_, ⟨?_, fun i x y hx hy => ?_⟩, fun i x hx => ?_⟩
  · simp; omega
  · obtain ⟨i, hi⟩ := List.mem_iff_getElem?.1 hv
    rw [List.getElem?_take] at hi
    split at hi
    · rw [List.getElem?_drop, Array.getElem?_toList] at hi
      exact h4 _ _ hi
    · cases hi
  · simp; omega
  · rw [List.getElem?_take] at hx hy
    split at hx
    · rename_i hlt
      rw [if_pos hlt] at hy
      rw [List.getElem?_drop] at hx hy
      rw [Array.getElem?_toList] at hy
      exact h5 _ x y hx (by rw [← hy]; congr 1; omega)
    · cases hx
  · rw [List.getElem?_take] at hx
    split at hx
    · rw [List.getElem?_drop, Array.getElem?_toList] at hx
      simp only [World.cell?, h1]
      simpa using hx
    · cases hx
def splice (cs : List AV) (p : Nat) (ys : List AV) : List AV := cs.take p ++ ys ++ cs.drop (p + ys.length)
theorem splice_one (cs : List AV) (p : Nat) (y : AV) (h : p < cs.length) : splice cs p [y] = cs.set p y := by
  simp [splice, List.set_eq_take_append_cons_drop, h]
theorem splice_len (cs : List AV) (p : Nat) (ys : List AV) (h : p ≤ cs.length) : (splice cs p ys).length = max cs.length (p + ys.length) := by
  simp [splice]; omega
theorem splice_get (cs : List AV) (p : Nat) (ys : List AV) (h : p ≤ cs.length) (i : Nat) : (splice cs p ys)[i]? = if p ≤ i ∧ i < p + ys.length then ys[i - p]? else cs[i]? := by
  unfold splice
  rw [List.getElem?_append, List.getElem?_append]
  simp only [List.length_append, List.length_take, List.getElem?_take, List.getElem?_drop]
  rw [Nat.min_eq_left h]
  by_cases h1 : i < p
  · have : i < p + ys.length := by omega
    simp [h1, this]; omega
  · by_cases h2 : i < p + ys.length
    · have h3 : p ≤ i := by omega
      simp [h1, h2, h3]
    · have h3 : ¬ (p ≤ i ∧ i < p + ys.length) := by omega
      rw [if_neg h2, if_neg h3]
      congr 1; omega
theorem store_cells {P : Program} {S w f h} (wf : Wf S w f h) {id : Nat} {cs : List AV} {l : Loc} (hk : h id = some (.cells cs)) (hl : f id = some l)
    (off : Nat) (ys : List AV) (vals : List Value) (hle : off ≤ cs.length) (hroom : l.base + off + vals.length ≤ l.n) (h1 : ∀ v ∈ vals, v.oneCell' = true) (hr : Reps S w f ys vals) :
    ∃ w', (storeCells ⟨l.b, l.base + off, none⟩ vals).run P w = .ok () w' ∧ Wf S w' f (upd h id (some (.cells (splice cs off ys)))) ∧
      Step (fun _ => True) S w f h S w' f (upd h id (some (.cells (splice cs off ys)))) := by
  obtain ⟨l', hl', hB⟩ := wf.hp.live id _ hk
  rw [hl] at hl'; cases hl'
  obtain ⟨arr, t, a1, a2, a3, a4, a5⟩ := hB
  have hlt : l.b < w.heap.size := (Array.getElem?_eq_some_iff.1 a1).1
  have hst := run_storeCells_at P l.b (l.base + off) t vals 0 arr w a1 (by omega) h1
  simp only [Nat.add_zero] at hst
  refine ⟨_, hst, ?_⟩
  have hoth : ∀ b, b ≠ l.b → (w.setRow l.b (arr.toList.take (l.base + off) ++ vals ++ arr.toList.drop (l.base + off + vals.length)).toArray).heap[b]? = w.heap[b]? :=
    fun b hb => setRow_other w l.b b _ (by omega)
  refine wf_write wf hk hl rfl rfl rfl (by simp [World.setRow]) hoth ?_
  have hlen : (arr.toList.take (l.base + off) ++ vals ++ arr.toList.drop (l.base + off + vals.length)).length = arr.size := by simp; omega
  have hget : ∀ i : Nat, (arr.toList.take (l.base + off) ++ vals ++ arr.toList.drop (l.base + off + vals.length))[i]? = if l.base + off ≤ i ∧ i < l.base + off + vals.length then vals[i - (l.base + off)]? else arr[i]? := fun i => by
    rw [List.getElem?_append, List.getElem?_append]
    simp only [List.length_append, List.length_take, List.getElem?_take, List.getElem?_drop, Array.length_toList, Array.getElem?_toList]
    rw [Nat.min_eq_left (by omega)]
    by_cases c1 : i < l.base + off
    · have : i < l.base + off + vals.length := by omega
      simp [c1, this]; omega
    · by_cases c2 : i < l.base + off + vals.length
      · simp [c1, c2, show l.base + off ≤ i by omega]
      · rw [if_neg c2, if_neg (by omega)]; congr 1; omega
  refine ⟨_, t, setRow_heap w l.b arr _ t _ a1, by simpa using hlen.trans a2, ?_, fun i x hx => ?_, fun i x y hx hy => ?_⟩
  · rw [splice_len _ _ _ hle]; have := hr.1; omega
  · rw [List.getElem?_toArray, hget] at hx
    split at hx
    · exact h1 x (List.mem_of_getElem? hx)
    · exact a4 i x hx
  · rw [List.getElem?_toArray, hget] at hy
    rw [splice_get _ _ _ hle] at hx
    have hS : ∀ b, S b → (w.setRow l.b (arr.toList.take (l.base + off) ++ vals ++ arr.toList.drop (l.base + off + vals.length)).toArray).heap[b]? = w.heap[b]? := fun b hb =>
      hoth b (fun e => (wf.st b hb).2 ⟨id, l, by rw [hk]; simp, hl, e.symm⟩)
    have hlen2 := hr.1
    by_cases c : off ≤ i ∧ i < off + ys.length
    · rw [if_pos c] at hx
      rw [if_pos (by omega)] at hy
      exact (hr.2 (i - off) x y hx (by rw [← hy]; congr 1; omega)).mono (fun _ h => h) hS (fun _ _ h => h)
    · rw [if_neg c] at hx
      rw [if_neg (by omega)] at hy
      exact (a5 i x y hx hy).mono (fun _ h => h) hS (fun _ _ h => h)
theorem BRep.ofBld {S w f u cs l} (h : BRep S w f (.bld u cs) l) : BRep S w f (.cells cs) l := by
  obtain ⟨arr, t, h1, h2, h3, h4, h5, -⟩ := h
  exact ⟨arr, t, h1, h2, h3, h4, h5⟩
theorem store_bld {P : Program} {S w f h} (wf : Wf S w f h) {id : Nat} {u : Bool} {cs : List AV} {l : Loc} (hk : h id = some (.bld u cs)) (hl : f id = some l)
    (off : Nat) (ys : List AV) (vals : List Value) (hle : off + vals.length ≤ cs.length) (h1 : ∀ v ∈ vals, v.oneCell' = true) (hr : Reps S w f ys vals) :
    ∃ w', (storeCells ⟨l.b, l.base + off, none⟩ vals).run P w = .ok () w' ∧ Wf S w' f (upd h id (some (.bld u (splice cs off ys)))) ∧
      Step (fun _ => True) S w f h S w' f (upd h id (some (.bld u (splice cs off ys)))) := by
  obtain ⟨l', hl', hB⟩ := wf.hp.live id _ hk
  rw [hl] at hl'; cases hl'
  obtain ⟨arr, t, a1, a2, a3, a4, a5, a6, a7, a8⟩ := hB
  have hle0 : off ≤ cs.length := by omega
  have hroom : l.base + off + vals.length ≤ l.n := by omega
  have hlt : l.b < w.heap.size := (Array.getElem?_eq_some_iff.1 a1).1
  have hst := run_storeCells_at P l.b (l.base + off) t vals 0 arr w a1 (by omega) h1
  simp only [Nat.add_zero] at hst
  refine ⟨_, hst, ?_⟩
  have hoth : ∀ b, b ≠ l.b → (w.setRow l.b (arr.toList.take (l.base + off) ++ vals ++ arr.toList.drop (l.base + off + vals.length)).toArray).heap[b]? = w.heap[b]? :=
    fun b hb => setRow_other w l.b b _ (by omega)
  refine wf_write wf hk hl rfl rfl rfl (by simp [World.setRow]) hoth ?_
  have hlen : (arr.toList.take (l.base + off) ++ vals ++ arr.toList.drop (l.base + off + vals.length)).length = arr.size := by simp; omega
  have hget : ∀ i : Nat, (arr.toList.take (l.base + off) ++ vals ++ arr.toList.drop (l.base + off + vals.length))[i]? = if l.base + off ≤ i ∧ i < l.base + off + vals.length then vals[i - (l.base + off)]? else arr[i]? := fun i => by
    rw [List.getElem?_append, List.getElem?_append]
    simp only [List.length_append, List.length_take, List.getElem?_take, List.getElem?_drop, Array.length_toList, Array.getElem?_toList]
    rw [Nat.min_eq_left (by omega)]
    by_cases c1 : i < l.base + off
    · have : i < l.base + off + vals.length := by omega
      simp [c1, this]; omega
    · by_cases c2 : i < l.base + off + vals.length
      · simp [c1, c2, show l.base + off ≤ i by omega]
      · rw [if_neg c2, if_neg (by omega)]; congr 1; omega
  refine ⟨_, t, setRow_heap w l.b arr _ t _ a1, by simpa using hlen.trans a2, ?_, fun i x hx => ?_, fun i x y hx hy => ?_, a6, a7, fun hu => by rw [splice_len _ _ _ hle0]; have := hr.1; have := a8 hu; omega⟩
  · rw [splice_len _ _ _ hle0]; have := hr.1; omega
  · rw [List.getElem?_toArray, hget] at hx
    split at hx
    · exact h1 x (List.mem_of_getElem? hx)
    · exact a4 i x hx
  · rw [List.getElem?_toArray, hget] at hy
    rw [splice_get _ _ _ hle0] at hx
    have hS : ∀ b, S b → (w.setRow l.b (arr.toList.take (l.base + off) ++ vals ++ arr.toList.drop (l.base + off + vals.length)).toArray).heap[b]? = w.heap[b]? := fun b hb =>
      hoth b (fun e => (wf.st b hb).2 ⟨id, l, by rw [hk]; simp, hl, e.symm⟩)
    have hlen2 := hr.1
    by_cases c : off ≤ i ∧ i < off + ys.length
    · rw [if_pos c] at hx
      rw [if_pos (by omega)] at hy
      exact (hr.2 (i - off) x y hx (by rw [← hy]; congr 1; omega)).mono (fun _ h => h) hS (fun _ _ h => h)
    · rw [if_neg c] at hx
      rw [if_neg (by omega)] at hy
      exact (a5 i x y hx hy).mono (fun _ h => h) hS (fun _ _ h => h)
end Go.Sx
end
section
namespace Go.Sx
/-! ### Plain values -/
def AV.val0 : AV → Option Value
  | .v x => some x
  | _ => none
def vals0 : List AV → Option (List Value)
  | [] => some []
  | x :: r => match x.val0, vals0 r with
    | some y, some s => some (y :: s)
    | _, _ => none
def AV.val1 : AV → Option Value
  | .v x => some x
  | .agg cs => (vals0 cs).map fun l => .agg l.toArray
  | _ => none
def AV.val : AV → Option Value
  | .v x => some x
  | .agg cs => (vals0 cs).map fun l => .agg l.toArray
  | .ifc t x => x.val1.map (.iface t)
  | _ => none
theorem vals0_rep {S w f} : ∀ {cs : List AV} {vals l : List Value}, vals.length = cs.length → (∀ (i : Nat) x y, cs[i]? = some x → vals[i]? = some y → Rep S w f x y) → vals0 cs = some l → vals = l
  | [], vals, l, hl, _, h => by simp [vals0] at h; subst h; exact List.length_eq_zero_iff.1 (by simpa using hl)
  | x :: r, [], l, hl, _, h => by simp at hl
  | x :: r, y :: vals, l, hl, hr, h => by
    simp only [vals0] at h
    split at h
    · rename_i y' s h1 h2
      cases h
      have e := vals0_rep (cs := r) (vals := vals) (by simpa using hl) (fun i x y hx hy => hr (i + 1) x y (by simpa using hx) (by simpa using hy)) h2
      have h0 := hr 0 x y (by simp) (by simp)
      cases x <;> simp only [AV.val0, Option.some.injEq, reduceCtorEq] at h1
      subst h1; cases h0; rw [e]
    · cases h
theorem val1_rep {S w f x y u} (h : Rep S w f x y) (hv : x.val1 = some u) : y = u := by
  cases h <;> simp only [AV.val1, Option.some.injEq, reduceCtorEq, Option.map_eq_some_iff] at hv
  case v => exact hv
  case agg hl h1 hr =>
    obtain ⟨l, h2, rfl⟩ := hv
    rw [vals0_rep hl hr h2]
theorem val_rep {S w f x y u} (h : Rep S w f x y) (hv : x.val = some u) : y = u := by
  cases h <;> simp only [AV.val, Option.some.injEq, reduceCtorEq, Option.map_eq_some_iff] at hv
  case v => exact hv
  case agg hl h1 hr =>
    obtain ⟨l, h2, rfl⟩ := hv
    rw [vals0_rep hl hr h2]
  case ifc h =>
    obtain ⟨l, h2, rfl⟩ := hv
    rw [val1_rep h h2]
def ofVal : Value → AV
  | .agg cs => if cs.toList.all (·.oneCell') then .agg (cs.toList.map .v) else .any
  | .tuple vs => .tup (vs.toList.map .v)
  | .iface t x => .ifc t (match x with
    | .agg cs => if cs.toList.all (·.oneCell') then .agg (cs.toList.map .v) else .any
    | y => .v y)
  | .func g a b => if a.size = 0 ∧ b.size = 0 then .fn g [] [] else .any
  | x => .v x
theorem rep_vs {S w f} (l : List Value) : ∀ (i : Nat) x y, (l.map AV.v)[i]? = some x → l[i]? = some y → Rep S w f x y := fun i x y hx hy => by
  rw [List.getElem?_map, hy] at hx
  simp at hx; subst hx; exact .v _
theorem rep_aggv {S w f} (cs : Array Value) : Rep S w f (if cs.toList.all (·.oneCell') then .agg (cs.toList.map .v) else .any) (.agg cs) := by
  split
  · rename_i h
    have := Rep.agg (S := S) (w := w) (f := f) (cells := cs.toList.map .v) (vals := cs.toList) (by simp) (fun x hx => by simpa using List.all_eq_true.1 h x hx) (rep_vs _)
    simpa using this
  · exact .any
theorem ofVal_rep {S w f} (x : Value) : Rep S w f (ofVal x) x := by
  unfold ofVal
  split
  · exact rep_aggv _
  · rename_i vs
    have := Rep.tup (S := S) (w := w) (f := f) (vs := vs.toList.map .v) (vals := vs.toList) (by simp) (rep_vs _)
    simpa using this
  · refine .ifc ?_
    split
    · exact rep_aggv _
    · exact .v _
  · split
    · rename_i g a b h
      have ha : a = #[] := Array.eq_empty_of_size_eq_zero h.1
      have hb : b = #[] := Array.eq_empty_of_size_eq_zero h.2
      subst ha hb
      exact .fn (fs := []) (cs := []) rfl rfl (fun i x y hx => by simp at hx) (fun i x y hx => by simp at hx)
    · exact .any
  · exact .v _
def globA (g : Nat) : AV := match GL g with
  | some cs => .elt (cs.map .v) 0
  | none => .any
def evalA (env : Nat → AV) : Operand → AV
  | .tmp t => env t
  | .const v => ofVal v
  | .global g => globA g
  | .func f => .fn (.func f) [] []
theorem glob_rep {S w f} {g : Nat} {cs : List Value} (hg : Glob S w) (h : GL g = some cs) : Rep S w f (.elt (cs.map .v) 0) (.pointer (some ⟨g, 0, none⟩)) := by
  refine .elt (vals := cs) (b := g) (o := 0) (off := 0) (by simp) (fun _ => (hg g cs h).1) (fun i x hx => by rw [Nat.zero_add]; exact ((hg g cs h).2 i x hx).1) (fun x hx => ?_) (fun i x y hx hy => ?_)
  · obtain ⟨i, hi⟩ := List.getElem?_of_mem hx
    exact ((hg g cs h).2 i x hi).2
  · rw [List.getElem?_map, hy] at hx; cases hx; exact .v _
theorem evalA_rep {S w f env} {a : Go.Act} (hg : Glob S w) (h : ∀ t, Rep S w f (env t) (a.tmps.getD t undef)) (x : Operand) : Rep S w f (evalA env x) (a.eval x) := by
  cases x with
  | tmp t => exact h t
  | const v => exact ofVal_rep v
  | global g =>
    simp only [evalA, globA]
    split
    · rename_i cs hc; exact glob_rep hg hc
    · exact .any
  | func g => exact .fn (fs := []) (cs := []) rfl rfl (fun i x y hx => by simp at hx) (fun i x y hx => by simp at hx)
theorem evalAs_rep {S w f} {ρA : Operand → AV} {ρ : Operand → Value} (h : ∀ x, Rep S w f (ρA x) (ρ x)) (xs : List Operand) : Reps S w f (xs.map ρA) (xs.map ρ) :=
  ⟨by simp, fun i x y hx hy => by
    rw [List.getElem?_map] at hx hy
    cases hi : xs[i]? with
    | none => simp [hi] at hx
    | some o => simp [hi] at hx hy; subst hx hy; exact h o⟩
/-! ### Pure parts of the model, run without a world -/
def pureRun {α : Type} (P : Program) : Sem α → Option α
  | .pure a => some a
  | .program k => pureRun P (k P)
  | .mark _ k => pureRun P k
  | _ => none
theorem pureRun_run {α : Type} {P : Program} {s : Sem α} {a : α} (h : pureRun P s = some a) (w : World) : s.run P w = .ok a w := by
  induction s with
  | pure b => simp [pureRun] at h; subst h; rfl
  | program k ih => exact ih P h
  | mark m k ih => exact ih h
  | _ => simp [pureRun] at h
theorem pureRun_bind {α β : Type} (P : Program) (s : Sem α) (g : α → Sem β) : pureRun P (s >>= g) = (pureRun P s).bind fun a => pureRun P (g a) := by
  show pureRun P (s.bind g) = _
  induction s with
  | pure b => rfl
  | program k ih => simp only [Sem.bind, pureRun, ih]
  | mark m k ih => simp only [Sem.bind, pureRun, ih]
  | _ => rfl
@[simp] theorem pureRun_pure {α : Type} (P : Program) (a : α) : pureRun P (pure a : Sem α) = some a := rfl
@[simp] theorem pureRun_pure' {α : Type} (P : Program) (a : α) : pureRun P (Sem.pure a : Sem α) = some a := rfl
@[simp] theorem pureRun_program (P : Program) : pureRun P program = some P := rfl
theorem good_plain {P ex S w f h id} {v : Value} {E : Eff} (hE : ret (ofVal v) = some E) (hr : pureRun P ex = some (.value v)) : Good P E ex S w f h id :=
  good_pure hE (pureRun_run hr w) (ofVal_rep v)
def effPlain2 (P : Program) (g : Value → Value → Sem Value) (x y : AV) : Option Eff :=
  match x.val, y.val with
  | some u, some v => match pureRun P (g u v) with
    | some r => ret (ofVal r)
    | none => none
  | _, _ => none
theorem good_plain2 {P S w f h id} {g : Value → Value → Sem Value} {x y : AV} {u v : Value} {E : Eff} (hx : Rep S w f x u) (hy : Rep S w f y v) (hE : effPlain2 P g x y = some E) :
    Good P E (do pure (.value (← g u v))) S w f h id := by
  unfold effPlain2 at hE
  split at hE
  · rename_i u' v' h1 h2
    rw [val_rep hx h1, val_rep hy h2]
    split at hE
    · rename_i r hr
      exact good_plain hE (by rw [pureRun_bind, hr]; rfl)
    · cases hE
  · cases hE
def effPlain1 (P : Program) (g : Value → Sem Value) (x : AV) : Option Eff :=
  match x.val with
  | some u => match pureRun P (g u) with
    | some r => ret (ofVal r)
    | none => none
  | _ => none
theorem good_plain1 {P S w f h id} {g : Value → Sem Value} {x : AV} {u : Value} {E : Eff} (hx : Rep S w f x u) (hE : effPlain1 P g x = some E) :
    Good P E (do pure (.value (← g u))) S w f h id := by
  unfold effPlain1 at hE
  split at hE
  · rename_i u' h1
    rw [val_rep hx h1]
    split at hE
    · rename_i r hr
      exact good_plain hE (by rw [pureRun_bind, hr]; rfl)
    · cases hE
  · cases hE
/-! ### Loads and stores -/
def effLoad1 : AV → Option Eff
  | .ptr i off => some ⟨[i], [], fun bs _ => match bs with
    | [b] => (match b with
      | .cells cs => cs[off]?
      | .bld _ cs => cs[off]?
      | _ => none).map (⟨·, [], none⟩)
    | _ => none⟩
  | .elt cells off => match cells[off]? with
    | some x => ret x
    | none => none
  | _ => none
theorem good_load1 {P S w f h id x y t d} {E : Eff} (hd : P.underlying t = some d) (hrow : d.isRow = false) (hx : Rep S w f x y) (hE : effLoad1 x = some E) :
    Good P E (do pure (.value (← Instr.loadAt t y))) S w f h id := by
  have hagg : ∀ w, (isAgg t).run P w = .ok false w := fun w => by
    unfold isAgg
    rw [Sem.run_bind, run_underlying hd w]
    cases d <;> simp_all [TypeDesc.isRow]
  have key : ∀ (a : Addr) (u : Value), w.cell? a = some u → (do pure (Next.value (← Instr.loadAt t (.pointer (some a)))) : Sem Next).run P w = .ok (.value u) w := fun a u hu => by
    simp [Instr.loadAt, Instr.sureAddr, loadVar, hagg, hu]
  cases hx <;> simp only [effLoad1, Option.some.injEq, reduceCtorEq] at hE
  case ptr l hf =>
    refine good_read hE.symm hf (fun b x hB hk => ?_)
    cases b with
    | cells cs =>
      obtain ⟨u, h1, h2, _⟩ := hB.cell hk
      exact ⟨u, key _ _ h1, h2⟩
    | map es => cases hk
    | bld u cs =>
      obtain ⟨u, h1, h2, _⟩ := hB.ofBld.cell hk
      exact ⟨u, key _ _ h1, h2⟩
  case elt hl hS hc h1 hr =>
    rename_i cells off vals b o
    split at hE
    · rename_i x hx'
      have hi : off < cells.length := (List.getElem?_eq_some_iff.1 hx').1
      have hv : vals[off]? = some vals[off] := by simp
      exact good_pure hE (key _ _ (hc off _ hv)) ((hr off x _ hx' hv).mono (fun _ h => h) (fun _ _ => rfl) (fun _ _ h => by cases h))
    · cases hE
def effLoadN (n : Nat) : AV → Option Eff
  | .ptr i off => some ⟨[i], [], fun bs _ => match bs with
    | [b] => (match b with
      | .cells cs => if off + n ≤ cs.length then some (AV.agg ((cs.drop off).take n)) else none
      | _ => none).map (⟨·, [], none⟩)
    | _ => none⟩
  | .elt cells off => if off + n ≤ cells.length then ret (.agg ((cells.drop off).take n)) else none
  | _ => none
theorem good_loadN {P S w f h id x y t d n} {E : Eff} (hd : P.underlying t = some d) (hrow : d.isRow = true) (hi : (P.info? t).map (·.size) = some n) (hx : Rep S w f x y) (hE : effLoadN n x = some E) :
    Good P E (do pure (.value (← Instr.loadAt t y))) S w f h id := by
  have key : ∀ (b o : Nat) (vals : List Value), vals.length = n → (∀ i x, vals[i]? = some x → w.cell? ⟨b, o + i, none⟩ = some x) →
      (do pure (Next.value (← Instr.loadAt t (.pointer (some ⟨b, o, none⟩)))) : Sem Next).run P w = .ok (.value (.agg vals.toArray)) w := fun b o vals hl hc => by
    rw [Sem.run_bind, run_loadAt_mid w b o t vals d hc hd hrow (by rw [hl]; exact hi)]
    rfl
  cases hx <;> simp only [effLoadN, Option.some.injEq, reduceCtorEq] at hE
  case ptr l hf =>
    refine good_read hE.symm hf (fun b x hB hk => ?_)
    cases b with
    | cells cs =>
      simp only at hk
      split at hk
      · rename_i hle
        cases hk
        obtain ⟨vals, v1, v2, v3, v4⟩ := hB.take _ _ hle
        exact ⟨Value.agg vals.toArray, key _ _ vals v1 v4, Rep.agg v3.1 v2 v3.2⟩
      · cases hk
    | map es => cases hk
    | bld u es => cases hk
  case elt hl hS hc h1 hr =>
    rename_i cells off vals b o
    split at hE
    · rename_i hle
      refine good_pure hE (key b (o + off) ((vals.drop off).take n) (by simp; omega) (fun i x hx => ?_)) (.agg (by simp; omega) (fun x hx => h1 x (List.mem_of_mem_drop (List.mem_of_mem_take hx))) (fun i x y hx hy => ?_))
      · rw [List.getElem?_take] at hx
        split at hx
        · rw [List.getElem?_drop] at hx
          rw [Nat.add_assoc]; exact hc _ _ hx
        · cases hx
      · rw [List.getElem?_take] at hx hy
        split at hx
        · rename_i hlt
          rw [if_pos hlt] at hy
          rw [List.getElem?_drop] at hx hy
          exact (hr _ x y hx hy).mono (fun _ h => h) (fun _ _ => rfl) (fun _ _ h => by cases h)
        · cases hx
    · cases hE
def effStore (n : Nat) (x y : AV) : Option Eff :=
  match x, y.cells? with
  | .ptr i off, some ys => if ys.length = n then some ⟨[i], [i], fun bs _ => match bs with
    | [.cells cs] => if off + n ≤ cs.length then some ⟨.any, [some (.cells (splice cs off ys))], none⟩ else none
    | [.bld u cs] => if off + n ≤ cs.length then some ⟨.any, [some (.bld u (splice cs off ys))], none⟩ else none
    | _ => none⟩ else none
  | _, _ => none
theorem exec_wr {i : Nat} {k : List Blk → Nat → Option Res} {h : Heap} {id : Nat} {v h'} (he : Eff.exec ⟨[i], [i], k⟩ h id = some (v, h')) :
    ∃ b r, h i = some b ∧ k [b] id = some r ∧ v = r.v ∧ h' = (match r.nb with | none => setAll h [i] r.outs | some nb => upd (setAll h [i] r.outs) id (some nb)) := by
  simp only [Eff.exec, getAll] at he
  cases hb : h i with
  | none => simp [hb] at he
  | some b =>
    simp only [hb] at he
    cases hk : k [b] id with
    | none => simp [hk] at he
    | some r =>
      simp only [hk] at he
      refine ⟨b, r, rfl, hk, ?_, ?_⟩
      · split at he <;> simp_all
      · split at he <;> simp_all
theorem good_store {P S w f h id x y u v t n} {E : Eff} (hi : (P.info? t).map (·.size) = some n) (hx : Rep S w f x u) (hy : Rep S w f y v) (hE : effStore n x y = some E) :
    Good P E (do Instr.storeAt t u v; pure .skip) S w f h id := by
  unfold effStore at hE
  split at hE
  · rename_i i off ys hys
    split at hE
    · rename_i hn
      cases hE
      intro wf hid v' h' he
      obtain ⟨b, r, hb, hk, rfl, rfl⟩ := exec_wr he
      cases b with
      | cells cs =>
        simp only at hk
        split at hk
        · rename_i hle
          cases hk
          cases hx with
          | ptr hf =>
            rename_i l
            obtain ⟨h1, hr⟩ := cells_rep hy hys
            obtain ⟨l', hl', hB⟩ := wf.hp.live i _ hb
            rw [hf] at hl'; cases hl'
            obtain ⟨arr, tt, a1, a2, a3, a4, a5⟩ := hB
            have hlen := hr.1
            obtain ⟨w', hst, hwf, hstep⟩ := store_cells (P := P) wf hb hf off ys v.cells.toList (by omega) (by omega) h1 hr
            refine ⟨.skip, undef, w', f, ?_, .inr ⟨rfl, rfl⟩, .any, by simpa [setAll] using hwf, by simpa [setAll] using hstep, fun _ _ => rfl⟩
            cases hq : P.info? t with
            | none => simp [hq] at hi
            | some inf =>
              have hs : v.cells.size = inf.size := by simp [hq] at hi; have : v.cells.toList.length = v.cells.size := by simp
                                                      omega
              simp [Instr.storeAt, Instr.sureAddr, storeVar, sizeOf, typeInfo, hq, hs, hst]
        · cases hk
      | map es => cases hk
      | bld u cs =>
        simp only at hk
        split at hk
        · rename_i hle
          cases hk
          cases hx with
          | ptr hf =>
            rename_i l
            obtain ⟨h1, hr⟩ := cells_rep hy hys
            obtain ⟨l', hl', hB⟩ := wf.hp.live i _ hb
            rw [hf] at hl'; cases hl'
            obtain ⟨arr, tt, a1, a2, a3, a4, a5, -⟩ := hB
            have hlen := hr.1
            obtain ⟨w', hst, hwf, hstep⟩ := store_bld (P := P) wf hb hf off ys v.cells.toList (by omega) h1 hr
            refine ⟨.skip, undef, w', f, ?_, .inr ⟨rfl, rfl⟩, .any, by simpa [setAll] using hwf, by simpa [setAll] using hstep, fun _ _ => rfl⟩
            cases hq : P.info? t with
            | none => simp [hq] at hi
            | some inf =>
              have hs : v.cells.size = inf.size := by simp [hq] at hi; have : v.cells.toList.length = v.cells.size := by simp
                                                      omega
              simp [Instr.storeAt, Instr.sureAddr, storeVar, sizeOf, typeInfo, hq, hs, hst]
        · cases hk
    · cases hE
  · cases hE
end Go.Sx
end
section
namespace Go.Sx
/-! ### New variables -/
theorem brep_new {S : Nat → Prop} {w w' : World} {f' : Place} {cs : List AV} {vals : List Value} {t : TypeId} (hw : w'.heap = w.heap.push (.cells vals.toArray t)) (h1 : ∀ v ∈ vals, v.oneCell' = true)
    (hr : Reps S w' f' cs vals) : BRep S w' f' (.cells cs) ⟨w.heap.size, 0, vals.length⟩ := by
  refine ⟨vals.toArray, t, by rw [hw]; simp, by simp, by simp [hr.1], fun i x hx => h1 x (List.mem_of_getElem? (by simpa using hx)), fun i x y hx hy => hr.2 i x y hx (by simpa using hy)⟩
theorem upd_ext {f : Place} {id : Nat} {l : Loc} (h : f id = none) : ∀ j l', f j = some l' → upd f id (some l) j = some l' := fun j l' hj => by
  rw [upd_other]
  · exact hj
  · intro e; subst e; rw [h] at hj; cases hj
def effNew (cs : List AV) (v : Nat → AV) : Option Eff := some ⟨[], [], fun _ i => some ⟨v i, [], some (.cells cs)⟩⟩
theorem good_new {P ex S w f h id} {cs : List AV} {v : Nat → AV} {E : Eff} {vals : List Value} {t : TypeId} {y : Value} (hE : effNew cs v = some E)
    (hrun : ex.run P w = .ok (.value y) (w.alloc (.cells vals.toArray t)))
    (hr : Reps S w f cs vals) (h1 : ∀ v ∈ vals, v.oneCell' = true)
    (hv : ∀ (w' : World) (f' : Place), f' id = some ⟨w.heap.size, 0, vals.length⟩ → Rep S w' f' (v id) y) : Good P E ex S w f h id := by
  cases hE
  intro wf hid v' h' he
  simp only [Eff.exec, getAll, setAll, Option.some.injEq, Prod.mk.injEq] at he
  obtain ⟨rfl, rfl⟩ := he
  have hstab : ∀ b, S b → (w.alloc (.cells vals.toArray t)).heap[b]? = w.heap[b]? := fun b hb => Go.RowKit.Below.heap_alloc _ _ _ (wf.st b hb).1
  have hr' : Reps S (w.alloc (.cells vals.toArray t)) (upd f id (some ⟨w.heap.size, 0, vals.length⟩)) cs vals := hr.mono (fun _ h => h) hstab (upd_ext hid)
  obtain ⟨hwf, hst⟩ := wf_alloc wf hid (w' := w.alloc (.cells vals.toArray t)) (o := .cells vals.toArray t) (k := .cells cs) (n := vals.length) rfl rfl rfl rfl (brep_new rfl h1 hr')
  exact ⟨_, y, _, _, hrun, .inl rfl, hv _ _ (upd_same _ _ _), hwf, hst, fun j hj => upd_other _ _ hj⟩
def effBox (x : AV) : Option Eff :=
  match x.cells? with
  | some cs => effNew cs fun i => .ptr i 0
  | none => none
theorem good_box {P S w f h id x u t} {E : Eff} (hx : Rep S w f x u) (hE : effBox x = some E) : Good P E (do pure (.value (← Instr.box t u))) S w f h id := by
  unfold effBox at hE
  split at hE
  · rename_i cs hcs
    obtain ⟨h1, hr⟩ := cells_rep hx hcs
    refine good_new (vals := u.cells.toList) (t := t) hE (y := .pointer (some ⟨w.heap.size, 0, none⟩)) ?_ hr h1 (fun w' f' hf => ?_)
    · simp [Instr.box, newVar, newRow]
    · simpa using Rep.ptr (off := 0) hf
  · cases hE
def effAlloc (zero : List Value) : Option Eff := effNew (zero.map .v) fun i => .ptr i 0
theorem good_alloc {P S w f h id t z} {zero : List Value} {E : Eff} (hz : (P.info? t).bind (·.zero) = some z) (hzc : z.cells.toList = zero) (h1 : zero.all (·.oneCell') = true) (hE : effAlloc zero = some E) :
    Good P E (do pure (.value (← Instr.alloc t true (.tuple #[])))) S w f h id := by
  refine good_new (vals := zero) (t := t) hE (y := .pointer (some ⟨w.heap.size, 0, none⟩)) ?_ ⟨by simp, rep_vs _⟩ (fun v hv => by simpa using List.all_eq_true.1 h1 v hv) (fun w' f' hf => ?_)
  · subst hzc
    cases hq : P.info? t with
    | none => simp [hq] at hz
    | some i =>
      simp only [hq, Option.bind_some] at hz
      simp [Instr.alloc, zeroValue, typeInfo, hq, hz, newVar, newRow]
  · simpa using Rep.ptr (off := 0) hf
/-! ### Addresses -/
theorem add_lit (b o n : Nat) : Addr.add ⟨b, o, none⟩ n = ⟨b, o + n, none⟩ := Addr.add_lit b o n
def effOff (k : Nat) : AV → Option Eff
  | .ptr i off => ret (.ptr i (off + k))
  | .elt cells off => ret (.elt cells (off + k))
  | _ => none
theorem good_off {P S w f h id x u s fs i fd n} {E : Eff} (hs : P.underlying s = some (.struct fs)) (hf : fs[i]? = some fd) (hn : (P.info? fd.type).map (·.size) = some n) (hn0 : n ≠ 0)
    (hx : Rep S w f x u) (hE : effOff fd.offset x = some E) : Good P E (do pure (.value (← Instr.fieldAt s u i))) S w f h id := by
  have key : ∀ b o, (do pure (Next.value (← Instr.fieldAt s (.pointer (some ⟨b, o, none⟩)) i)) : Sem Next).run P w = .ok (.value (.pointer (some ⟨b, o + fd.offset, none⟩))) w := fun b o => by
    cases hq : P.info? fd.type with
    | none => simp [hq] at hn
    | some inf =>
      have : inf.size ≠ 0 := by simp [hq] at hn; omega
      simp [Instr.fieldAt, run_underlying hs, hf, Instr.sureAddr, fieldPlace, sizeOf, typeInfo, hq, this, add_lit]
  cases hx <;> simp only [effOff, reduceCtorEq] at hE
  case ptr hl => exact good_pure hE (key _ _) (by simpa [Nat.add_assoc] using Rep.ptr (off := _ + fd.offset) hl)
  case elt hl hS hc h1 hr => exact good_pure hE (key _ _) (by simpa [Nat.add_assoc] using Rep.elt (off := _ + fd.offset) hl hS hc h1 hr)
def AV.int? : AV → Option Int
  | .v (.int _ n) => some n
  | _ => none
theorem int_rep {S w f x u n} (hx : Rep S w f x u) (h : x.int? = some n) : ∃ k, u = .int k n := by
  cases hx <;> simp only [AV.int?, reduceCtorEq] at h
  case v => split at h <;> simp_all
def effIdx (esz : Nat) (x i : AV) : Option Eff :=
  match x, i.int? with
  | .ref id off len _ _, some n => if 0 ≤ n ∧ n < len then ret (.ptr id (off + n.toNat * esz)) else none
  | .il cells len _, some n => if 0 ≤ n ∧ n < len then ret (.elt cells (n.toNat * esz)) else none
  | _, _ => none
theorem good_idx {P S w f h id x u i v t e esz} {E : Eff} (ht : P.underlying t = some (.slice e)) (he : (P.info? e).map (·.size) = some esz) (hx : Rep S w f x u) (hi : Rep S w f i v) (hE : effIdx esz x i = some E) :
    Good P E (do pure (.value (← Instr.indexAt t u v))) S w f h id := by
  have key : ∀ (b o len cap : Nat) k (n : Int), 0 ≤ n → n < len → (do pure (Next.value (← Instr.indexAt t (.slice (some ⟨b, o, none⟩) len cap) (.int k n))) : Sem Next).run P w = .ok (.value (.pointer (some ⟨b, o + n.toNat * esz, none⟩))) w := fun b o len cap k n h0 h1 => by
    cases hq : P.info? e with
    | none => simp [hq] at he
    | some inf =>
      have : inf.size = esz := by simpa [hq] using he
      simp [Instr.indexAt, asIntOf, run_underlying ht, h0, h1, sizeOf, typeInfo, hq, this, add_lit]
  unfold effIdx at hE
  split at hE
  · rename_i id' off len esz' cap n hn
    obtain ⟨k, rfl⟩ := int_rep hi hn
    split at hE
    · rename_i hb
      cases hx with
      | ref hf h1 h2 h3 h4 => exact good_pure hE (key _ _ _ _ k n hb.1 hb.2) (by simpa [Nat.add_assoc] using Rep.ptr (off := off + n.toNat * esz) hf)
    · cases hE
  · rename_i cells len full n hn
    obtain ⟨k, rfl⟩ := int_rep hi hn
    split at hE
    · rename_i hb
      cases hx with
      | nil => simp at hb; omega
      | emp => simp at hb; omega
      | il hl hS hc h1 hr hn hf => exact good_pure hE (key _ _ _ _ k n hb.1 hb.2) (Rep.elt hl hS hc h1 hr)
    · cases hE
  · cases hE
def effIdxA (n esz : Nat) (x i : AV) : Option Eff :=
  match x, i.int? with
  | .ptr id off, some k => if 0 ≤ k ∧ k < n then ret (.ptr id (off + k.toNat * esz)) else none
  | .elt cells off, some k => if 0 ≤ k ∧ k < n then ret (.elt cells (off + k.toNat * esz)) else none
  | _, _ => none
theorem good_idxA {P S w f h id x u i v t e n esz} {E : Eff} (ht : P.underlying t = some (.array n e)) (he : (P.info? e).map (·.size) = some esz) (hx : Rep S w f x u) (hi : Rep S w f i v) (hE : effIdxA n esz x i = some E) :
    Good P E (do pure (.value (← Instr.indexAt t u v))) S w f h id := by
  have key : ∀ (b o : Nat) k (m : Int), 0 ≤ m → m < n → (do pure (Next.value (← Instr.indexAt t (.pointer (some ⟨b, o, none⟩)) (.int k m))) : Sem Next).run P w = .ok (.value (.pointer (some ⟨b, o + m.toNat * esz, none⟩))) w := fun b o k m h0 h1 => by
    cases hq : P.info? e with
    | none => simp [hq] at he
    | some inf =>
      have : inf.size = esz := by simpa [hq] using he
      simp [Instr.indexAt, asIntOf, run_underlying ht, h0, h1, sizeOf, typeInfo, hq, this, add_lit, Instr.sureAddr]
  unfold effIdxA at hE
  split at hE
  · rename_i id' off m hm
    obtain ⟨k, rfl⟩ := int_rep hi hm
    split at hE
    · rename_i hb
      cases hx with
      | ptr hf => exact good_pure hE (key _ _ k m hb.1 hb.2) (by simpa [Nat.add_assoc] using Rep.ptr (off := off + m.toNat * esz) hf)
    · cases hE
  · rename_i cells off m hm
    obtain ⟨k, rfl⟩ := int_rep hi hm
    split at hE
    · rename_i hb
      cases hx with
      | elt hl hS hc h1 hr => exact good_pure hE (key _ _ k m hb.1 hb.2) (by simpa [Nat.add_assoc] using Rep.elt (off := off + m.toNat * esz) hl hS hc h1 hr)
    · cases hE
  · cases hE
/-! ### Lengths -/
def effLenSl : AV → Option Eff
  | .ref _ _ len _ _ => ret (.v (.int .i64 len))
  | .il _ len _ => ret (.v (.int .i64 len))
  | .v (.slice _ len _) => ret (.v (.int .i64 len))
  | _ => none
theorem good_lenSl {P S w f h id x u t ty e} {E : Eff} (ht : P.underlying t = some (.slice e)) (hx : Rep S w f x u) (hE : effLenSl x = some E) : Good P E (do pure (.value (← Builtin.len_ #[t] ty #[u]))) S w f h id := by
  have key : ∀ a n c, (do pure (Next.value (← Builtin.len_ #[t] ty #[.slice a n c])) : Sem Next).run P w = .ok (.value (.int .i64 n)) w := fun a n c => by simp [Builtin.len_, run_underlying ht, goInt]
  cases hx <;> simp only [effLenSl, reduceCtorEq] at hE
  case v =>
    cases u with
    | slice a n c => exact good_pure hE (key _ _ _) (.v _)
    | _ => cases hE
  all_goals exact good_pure hE (key _ _ _) (.v _)
def effLenS : AV → Option Eff
  | .v (.string s) => ret (.v (.int .i64 s.size))
  | _ => none
theorem good_lenS {P S w f h id x u t ty} {E : Eff} (ht : P.underlying t = some .string) (hx : Rep S w f x u) (hE : effLenS x = some E) : Good P E (do pure (.value (← Builtin.len_ #[t] ty #[u]))) S w f h id := by
  have key : ∀ s, (do pure (Next.value (← Builtin.len_ #[t] ty #[.string s])) : Sem Next).run P w = .ok (.value (.int .i64 s.size)) w := fun s => by simp [Builtin.len_, run_underlying ht, goInt]
  cases hx <;> simp only [effLenS, reduceCtorEq] at hE
  case v =>
    cases u with
    | string s => exact good_pure hE (key _) (.v _)
    | _ => cases hE
def effIdxS (x i : AV) : Option Eff :=
  match x, i with
  | .v (.string s), .v (.int _ n) => if 0 ≤ n then (match s[n.toNat]? with
    | some b => ret (.v (.int .u8 b.toNat))
    | none => none) else none
  | _, _ => none
theorem good_idxS {P S w f h id x i u v t} {E : Eff} (ht : P.underlying t = some .string) (hx : Rep S w f x u) (hi : Rep S w f i v) (hE : effIdxS x i = some E) : Good P E (do pure (Next.value (← Instr.index t u v))) S w f h id := by
  unfold effIdxS at hE
  split at hE
  · rename_i s k n
    cases hx; cases hi
    split at hE
    · rename_i h0
      split at hE
      · rename_i b hb
        exact good_pure hE (by simp [Instr.index, asIntOf, run_underlying ht, h0, hb]) (.v _)
      · cases hE
    · cases hE
  · cases hE
def effCap : AV → Option Eff
  | .ref _ _ _ _ (some c) => ret (.v (.int .i64 c))
  | .il _ len true => ret (.v (.int .i64 len))
  | .v (.slice _ _ c) => ret (.v (.int .i64 c))
  | _ => none
theorem good_cap {P S w f h id x u t ty e} {E : Eff} (ht : P.underlying t = some (.slice e)) (hx : Rep S w f x u) (hE : effCap x = some E) : Good P E (do pure (.value (← Builtin.cap_ #[t] ty #[u]))) S w f h id := by
  have key : ∀ a n c, (do pure (Next.value (← Builtin.cap_ #[t] ty #[.slice a n c])) : Sem Next).run P w = .ok (.value (.int .i64 c)) w := fun a n c => by simp [Builtin.cap_, run_underlying ht, goInt]
  cases hx
  case v =>
    cases u with
    | slice a n c => exact good_pure hE (key _ _ _) (.v _)
    | _ => cases hE
  case ref h1 h2 h3 h4 hf =>
    rename_i cap _ _
    cases cap with
    | none => cases hE
    | some k => rw [h1 k rfl]; exact good_pure hE (key _ _ _) (.v _)
  case il hl hS hc h1 hr hn hf =>
    rename_i full _ _ _ _
    cases full with
    | false => cases hE
    | true => rw [hf rfl]; exact good_pure hE (key _ _ _) (.v _)
  case nil =>
    rename_i full
    cases full with
    | false => cases hE
    | true => exact good_pure hE (key _ _ _) (.v _)
  case emp =>
    rename_i full _ _ _
    cases full with
    | false => cases hE
    | true => exact good_pure hE (key _ _ _) (.v _)
  all_goals cases hE
/-! ### Small ones -/
def effPick : AV → AV → AV → Option Eff
  | .v (.bool c), a, b => ret (if c then a else b)
  | _, _, _ => none
theorem good_pick {P S w f h id c a b u x y} {E : Eff} (hc : Rep S w f c u) (ha : Rep S w f a x) (hb : Rep S w f b y) (hE : effPick c a b = some E) :
    Good P E (do pure (.value (if ← asBool u then x else y))) S w f h id := by
  cases hc with
  | v u => cases u with
    | bool t => exact good_pure hE (y := if t then x else y) (by cases t <;> simp [asBool]) (by cases t <;> simpa)
    | _ => cases hE
  | _ => cases hE
def effNilck : AV → Option Eff
  | .ptr i off => ret (.ptr i off)
  | .elt c off => ret (.elt c off)
  | .fn (.func g) a b => ret (.fn (.func g) a b)
  | _ => none
def effExt (i : Nat) : AV → Option Eff
  | .tup vs => match vs[i]? with
    | some x => ret x
    | none => none
  | _ => none
theorem good_ext {P S w f h id x u i} {E : Eff} (hx : Rep S w f x u) (hE : effExt i x = some E) : Good P E (do pure (.value (← Instr.extract u i))) S w f h id := by
  cases hx <;> simp only [effExt, reduceCtorEq] at hE
  case tup vs vals hl hr =>
    split at hE
    · rename_i x hx
      have hi : i < vs.length := (List.getElem?_eq_some_iff.1 hx).1
      have hv : vals[i]? = some vals[i] := by simp
      exact good_pure hE (y := vals[i]) (by simp [Instr.extract, hl, hi]) (hr i x _ hx hv)
    · cases hE
def effMkfn (g : Fn) (first captured : List AV) : Option Eff := ret (.fn g first captured)
theorem good_mkfn {P S w f h id g first captured fs cs} {E : Eff} (h1 : Reps S w f first fs) (h2 : Reps S w f captured cs) (hE : effMkfn g first captured = some E) :
    Good P E (do pure (.value (← Instr.makeFunc g fs.toArray cs.toArray))) S w f h id :=
  good_pure hE rfl (.fn h1.1 h2.1 h1.2 h2.2)
def effMkifc (t : TypeId) (x : AV) : Option Eff := ret (.ifc t x)
theorem good_mkifc {P S w f h id x u t d} {E : Eff} (ht : P.underlying t = some d) (hd : ∀ ms, d ≠ .interface ms) (hx : Rep S w f x u) (hE : effMkifc t x = some E) :
    Good P E (do pure (.value (← Instr.makeInterface t u))) S w f h id := by
  refine good_pure hE (y := .iface t u) ?_ (.ifc hx)
  simp only [Instr.makeInterface, Sem.run_bind, run_underlying ht, Result.andThen_ok]
  cases d <;> simp_all
def effFld (agg : Option Nat) (off : Nat) : AV → Option Eff
  | .agg cs => match agg with
    | none => match cs[off]? with
      | some x => ret x
      | none => none
    | some n => if off + n ≤ cs.length then ret (.agg ((cs.drop off).take n)) else none
  | _ => none
theorem part_run {P : Program} {S w f cs} {vals : List Value} {agg : Option Nat} {off : Nat} {t : TypeId} {d : TypeDesc} (hd : P.underlying t = some d) (ha : agg = if d.isRow then (P.info? t).map (·.size) else none) (hi : (P.info? t).isSome)
    (hl : vals.length = cs.length) (h1 : ∀ x ∈ vals, x.oneCell' = true) (hr : ∀ (i : Nat) x y, cs[i]? = some x → vals[i]? = some y → Rep S w f x y) {E : Eff} (hE : effFld agg off (.agg cs) = some E) :
    ∃ x y, ret x = some E ∧ (part t vals.toArray off).run P w = .ok y w ∧ Rep S w f x y := by
  obtain ⟨inf, hinf⟩ := Option.isSome_iff_exists.1 hi
  simp only [effFld] at hE
  by_cases hrow : d.isRow = true
  · simp only [hrow, if_true, hinf, Option.map_some] at ha
    subst ha
    simp only at hE
    split at hE
    · rename_i hle
      have hagg : (isAgg t).run P w = .ok true w := by
        unfold isAgg
        rw [Sem.run_bind, run_underlying hd w]
        cases d <;> simp_all [TypeDesc.isRow]
      refine ⟨_, .agg (vals.toArray.extract off (off + inf.size)), hE, by simp [part, hagg, sizeOf, typeInfo, hinf], ?_⟩
      have e : vals.toArray.extract off (off + inf.size) = ((vals.drop off).take inf.size).toArray := by
        apply Array.ext'
        simp [List.extract_eq_take_drop]
      rw [e]
      refine .agg (by simp; omega) (fun x hx => h1 x (List.mem_of_mem_drop (List.mem_of_mem_take hx))) (fun i x y hx hy => ?_)
      rw [List.getElem?_take] at hx hy
      split at hx
      · rename_i hlt
        rw [if_pos hlt] at hy
        rw [List.getElem?_drop] at hx hy
        exact hr _ x y hx hy
      · cases hx
    · cases hE
  · have hrow' : d.isRow = false := by simpa using hrow
    rw [hrow'] at ha
    simp only [Bool.false_eq_true, if_false] at ha
    subst ha
    simp only at hE
    split at hE
    · rename_i x hx
      have hagg : (isAgg t).run P w = .ok false w := by
        unfold isAgg
        rw [Sem.run_bind, run_underlying hd w]
        cases d <;> simp_all [TypeDesc.isRow]
      have hoff : off < cs.length := (List.getElem?_eq_some_iff.1 hx).1
      have hv : vals[off]? = some vals[off] := by simp
      exact ⟨x, vals[off], hE, by simp [part, hagg, hl, hoff], hr off x _ hx hv⟩
    · cases hE
theorem good_fld {P S w f h id x u s fs i fd d agg} {E : Eff} (hs : P.underlying s = some (.struct fs)) (hf : fs[i]? = some fd) (hd : P.underlying fd.type = some d) (ha : agg = if d.isRow then (P.info? fd.type).map (·.size) else none) (hi : (P.info? fd.type).isSome)
    (hx : Rep S w f x u) (hE : effFld agg fd.offset x = some E) : Good P E (do pure (.value (← Instr.field s u i))) S w f h id := by
  cases hx
  case agg cs vals hl h1 hr =>
    obtain ⟨x, y, h2, h3, h4⟩ := part_run hd ha hi hl h1 hr hE
    exact good_pure h2 (by simp [Instr.field, run_underlying hs, hf, asAgg, h3]) h4
  all_goals cases hE
end Go.Sx
end
section
namespace Go.Sx
/-! ### Cuts of slices -/
def RepO (S : Nat → Prop) (w : World) (f : Place) : Option AV → Option Value → Prop
  | none, none => True
  | some x, some y => Rep S w f x y
  | _, _ => False
def bnd (d : Nat) : Option AV → Option Nat
  | none => some d
  | some a => match a.int? with
    | some n => if 0 ≤ n then some n.toNat else none
    | none => none
theorem sliceBound_run {P : Program} {S w f} {a : AV} {u : Value} (ha : Rep S w f a u) {n : Nat} (hn : bnd 0 (some a) = some n) (y : Nat) (hy : n ≤ y) (c : BoundsCode) : (Instr.sliceBound u y c).run P w = .ok n w := by
  simp only [bnd] at hn
  split at hn
  · rename_i m hm
    obtain ⟨k, rfl⟩ := int_rep ha hm
    split at hn
    · rename_i h0
      cases hn
      have : m ≤ y := by omega
      simp [Instr.sliceBound, asIntOf, h0, this]
    · cases hn
  · cases hn
theorem bnd_some (d d' : Nat) (a : AV) : bnd d (some a) = bnd d' (some a) := rfl
theorem sliceBounds_run {P : Program} {S w f} (isS : Bool) (len cap : Nat) {lo hi mx : Option AV} {lo' hi' mx' : Option Value} (h1 : RepO S w f lo lo') (h2 : RepO S w f hi hi') (h3 : RepO S w f mx mx')
    {l h m : Nat} (hl : bnd 0 lo = some l) (hh : bnd len hi = some h) (hm : bnd cap mx = some m) (hmx : mx.isSome → hi.isSome) (hlh : l ≤ h) (hhm : h ≤ m) (hmc : m ≤ cap) :
    (Instr.sliceBounds isS len cap lo' hi' mx').run P w = .ok (l, h, m) w := by
  unfold Instr.sliceBounds
  have L1 : ∀ v, lo' = some v → ∀ (c : BoundsCode), (Instr.sliceBound v h c).run P w = .ok l w := fun v hv c => by
    subst hv
    cases lo <;> simp only [RepO] at h1
    exact sliceBound_run h1 hl h hlh c
  have L0 : lo' = none → l = 0 := fun hv => by
    subst hv
    cases lo <;> simp only [RepO] at h1
    simpa [bnd] using hl.symm
  clear hl h1
  cases mx <;> cases mx' <;> simp only [RepO] at h3
  · simp [bnd] at hm; subst hm
    cases hi <;> cases hi' <;> simp only [RepO] at h2
    · simp [bnd] at hh; subst hh
      cases lo' with
      | none => simp [L0 rfl]
      | some v => simp [L1 v rfl]
    · have e := sliceBound_run (P := P) h2 (by rw [bnd_some 0 len]; exact hh) cap hhm (if isS = true then BoundsCode.sliceAcap else BoundsCode.sliceAlen)
      cases lo' with
      | none => simp [L0 rfl, e]
      | some v => simp [L1 v rfl, e]
  · have e1 := sliceBound_run (P := P) h3 (by rw [bnd_some 0 cap]; exact hm) cap hmc (if isS = true then BoundsCode.slice3Acap else BoundsCode.slice3Alen)
    cases hi <;> cases hi' <;> simp only [RepO] at h2
    · simp at hmx
    · have e := sliceBound_run (P := P) h2 (by rw [bnd_some 0 len]; exact hh) m hhm .slice3B
      cases lo' with
      | none => simp [L0 rfl, e1, e]
      | some v => simp [L1 v rfl, e1, e]
def effSlc (esz : Nat) (x : AV) (lo hi mx : Option AV) : Option Eff :=
  match x with
  | .v (.slice none 0 0) => if bnd 0 lo = some 0 ∧ bnd 0 hi = some 0 ∧ bnd 0 mx = some 0 ∧ (mx.isSome = true → hi.isSome = true) then ret x else none
  | .ref id off len esz' cap =>
    match bnd 0 lo, bnd len hi with
    | some l, some h =>
      if esz' = esz ∧ l ≤ h ∧ (mx.isSome = true → hi.isSome = true) then
        match mx with
        | none => if h ≤ cap.getD len then (if l = 0 ∨ l < h then ret (.ref id (off + l * esz) (h - l) esz (cap.map (· - l))) else ret (.il [] 0 false)) else
          if cap = none ∧ 0 < esz ∧ l < h then some ⟨[id], [], fun bs _ => match bs with
            | [.cells cs] => if off + h * esz ≤ cs.length then some ⟨.ref id (off + l * esz) (h - l) esz none, [], none⟩ else none
            | _ => none⟩ else none
        | some m => match bnd 0 (some m) with
          | some m => if h ≤ m ∧ m ≤ cap.getD len then (if l = 0 ∨ l < h then ret (.ref id (off + l * esz) (h - l) esz (some (m - l))) else ret (.il [] 0 false)) else none
          | none => none
      else none
    | _, _ => none
  | .il cells len full =>
    match bnd 0 lo, bnd len hi with
    | some l, some h =>
      if l ≤ h ∧ (mx.isSome = true → hi.isSome = true) then
        match mx with
        | none => if h ≤ len then ret (.il ((cells.drop (l * esz)).take ((h - l) * esz)) (h - l) (full && decide (h = len))) else none
        | some m => match bnd 0 (some m) with
          | some m => if h ≤ m ∧ m ≤ len then ret (.il ((cells.drop (l * esz)).take ((h - l) * esz)) (h - l) (decide (m = h))) else none
          | none => none
      else none
    | _, _ => none
  | _ => none
theorem slice_run {P : Program} {S w f} {t e esz : Nat} (ht : P.underlying t = some (.slice e)) (he : (P.info? e).map (·.size) = some esz) (b o len cap : Nat)
    {lo hi mx : Option AV} {lo' hi' mx' : Option Value} (h1 : RepO S w f lo lo') (h2 : RepO S w f hi hi') (h3 : RepO S w f mx mx')
    {l h m : Nat} (hl : bnd 0 lo = some l) (hh : bnd len hi = some h) (hm : bnd cap mx = some m) (hmx : mx.isSome → hi.isSome) (hlh : l ≤ h) (hhm : h ≤ m) (hmc : m ≤ cap) :
    (do pure (Next.value (← Instr.sliceAt t (.slice (some ⟨b, o, none⟩) len cap) lo' hi' mx')) : Sem Next).run P w =
      .ok (.value (.slice (if m = l then some ⟨b, o, none⟩ else some ⟨b, o + l * esz, none⟩) (h - l) (m - l))) w := by
  have e1 := sliceBounds_run (P := P) true len cap h1 h2 h3 hl hh hm hmx hlh hhm hmc
  cases hq : P.info? e with
  | none => simp [hq] at he
  | some inf =>
    have hsz : inf.size = esz := by simpa [hq] using he
    simp only [Instr.sliceAt, Instr.slice, Sem.run_bind, run_underlying ht, Result.andThen_ok, e1, sizeOf, typeInfo, run_program, hq, Sem.run_pure, hsz, Option.map_some]
    congr 3
    rw [add_lit]
theorem slice_run_nil {P : Program} {S w f} {t e esz : Nat} (ht : P.underlying t = some (.slice e)) (he : (P.info? e).map (·.size) = some esz)
    {lo hi mx : Option AV} {lo' hi' mx' : Option Value} (h1 : RepO S w f lo lo') (h2 : RepO S w f hi hi') (h3 : RepO S w f mx mx')
    (hl : bnd 0 lo = some 0) (hh : bnd 0 hi = some 0) (hm : bnd 0 mx = some 0) (hmx : mx.isSome → hi.isSome) :
    (do pure (Next.value (← Instr.sliceAt t (.slice none 0 0) lo' hi' mx')) : Sem Next).run P w = .ok (.value (.slice none 0 0)) w := by
  have e1 := sliceBounds_run (P := P) true 0 0 h1 h2 h3 hl hh hm hmx (Nat.le_refl _) (Nat.le_refl _) (Nat.le_refl _)
  cases hq : P.info? e with
  | none => simp [hq] at he
  | some inf =>
    simp [Instr.sliceAt, Instr.slice, run_underlying ht, e1, sizeOf, typeInfo, hq]
theorem slice_run_emp {P : Program} {S w f} {t e esz : Nat} (ht : P.underlying t = some (.slice e)) (he : (P.info? e).map (·.size) = some esz)
    (A : Addr) {lo hi mx : Option AV} {lo' hi' mx' : Option Value} (h1 : RepO S w f lo lo') (h2 : RepO S w f hi hi') (h3 : RepO S w f mx mx')
    (hl : bnd 0 lo = some 0) (hh : bnd 0 hi = some 0) (hm : bnd 0 mx = some 0) (hmx : mx.isSome → hi.isSome) :
    (do pure (Next.value (← Instr.sliceAt t (.slice (some A) 0 0) lo' hi' mx')) : Sem Next).run P w = .ok (.value (.slice (some A) 0 0)) w := by
  have e1 := sliceBounds_run (P := P) true 0 0 h1 h2 h3 hl hh hm hmx (Nat.le_refl _) (Nat.le_refl _) (Nat.le_refl _)
  cases hq : P.info? e with
  | none => simp [hq] at he
  | some inf =>
    simp [Instr.sliceAt, Instr.slice, run_underlying ht, e1, sizeOf, typeInfo, hq, Addr.add]
theorem rep_cut {S w f} {cells : List AV} {vals : List Value} {b o len full c} (hl : vals.length = cells.length) (hS : cells ≠ [] → S b)
      (hc : ∀ i x, vals[i]? = some x → w.cell? ⟨b, o + i, none⟩ = some x) (h1 : ∀ x ∈ vals, x.oneCell' = true)
      (hr : ∀ (i : Nat) x y, cells[i]? = some x → vals[i]? = some y → Rep S w (fun _ => none) x y) (p n : Nat) (hn : len ≤ c) (hf : full = true → c = len) :
      Rep S w f (.il ((cells.drop p).take n) len full) (.slice (some ⟨b, o + p, none⟩) len c) := by
  refine .il (vals := (vals.drop p).take n) (by simp [hl]) (fun h0 => hS (fun e => h0 (by simp [e]))) (fun i x hx => ?_) (fun x hx => h1 x (List.mem_of_mem_drop (List.mem_of_mem_take hx))) (fun i x y hx hy => ?_) hn hf
  · rw [List.getElem?_take] at hx
    split at hx
    · rw [List.getElem?_drop] at hx
      rw [Nat.add_assoc]; exact hc _ _ hx
    · cases hx
  · rw [List.getElem?_take] at hx hy
    split at hx
    · rename_i hlt
      rw [if_pos hlt] at hy
      rw [List.getElem?_drop] at hx hy
      exact hr _ x y hx hy
    · cases hx
theorem rep_empty {S w f full} (b o c : Nat) (hf : full = true → c = 0) : Rep S w f (.il [] 0 full) (.slice (some ⟨b, o, none⟩) 0 c) :=
  .il (vals := []) rfl (fun h => absurd rfl h) (fun i x hx => by simp at hx) (fun x hx => by cases hx) (fun i x y hx => by simp at hx) (Nat.zero_le _) hf
theorem good_slc {P S w f h id x u t e esz lo hi mx lo' hi' mx'} {E : Eff} (ht : P.underlying t = some (.slice e)) (he : (P.info? e).map (·.size) = some esz) (hx : Rep S w f x u)
    (h1 : RepO S w f lo lo') (h2 : RepO S w f hi hi') (h3 : RepO S w f mx mx') (hE : effSlc esz x lo hi mx = some E) :
    Good P E (do pure (.value (← Instr.sliceAt t u lo' hi' mx'))) S w f h id := by
  unfold effSlc at hE
  split at hE
  · split at hE
    · rename_i hb
      cases hx
      exact good_pure hE (slice_run_nil ht he h1 h2 h3 hb.1 hb.2.1 hb.2.2.1 hb.2.2.2) (.v _)
    · cases hE
  · rename_i id' off len esz' cap
    split at hE
    · rename_i l hh hl hh'
      split at hE
      · rename_i hb
        obtain ⟨rfl, hlh, hmx⟩ := hb
        cases hx with
        | @ref _ _ _ _ _ _ c L hf q1 q2 q3 q4 =>
          have hcap : cap.getD len ≤ c := by
            cases cap with
            | none => simpa using q4
            | some k => rw [q1 k rfl]; exact Nat.le_refl _
          have hcm : ∀ m, m ≤ c → l ≤ m → L.base + (off + l * esz') + (m - l) * esz' ≤ L.n := fun m hm hlm => by
            have : l * esz' + (m - l) * esz' = m * esz' := by rw [← Nat.add_mul]; congr 1; omega
            have : m * esz' ≤ c * esz' := Nat.mul_le_mul_right _ hm
            omega
          split at hE
          · split at hE
            · rename_i hle
              have e1 := slice_run (P := P) ht he L.b (L.base + off) len c h1 h2 h3 hl hh' rfl hmx hlh (by omega) (Nat.le_refl _)
              split at hE
              · rename_i hc2
                have e2 : (if c = l then some (⟨L.b, L.base + off, none⟩ : Addr) else some ⟨L.b, L.base + off + l * esz', none⟩) = some ⟨L.b, L.base + (off + l * esz'), none⟩ := by
                  by_cases e : c = l
                  · have : l = 0 := by omega
                    subst this; simp
                  · rw [if_neg e, Nat.add_assoc]
                rw [e2] at e1
                refine good_pure hE e1 (.ref hf (fun k hk => ?_) (fun hk => ?_) (hcm c (Nat.le_refl _) (by omega)) (by omega))
                · cases cap with
                  | none => cases hk
                  | some k' => simp at hk; rw [q1 k' rfl]; exact hk
                · cases cap with
                  | none =>
                    have := q2 rfl
                    have : l * esz' + (c - l) * esz' = c * esz' := by rw [← Nat.add_mul]; congr 1; omega
                    omega
                  | some k' => simp at hk
              · rename_i hc2
                have hz : hh - l = 0 := by omega
                rw [hz] at e1
                refine good_pure hE e1 ?_
                split
                · exact rep_empty _ _ _ (by simp)
                · exact rep_empty _ _ _ (by simp)
            · split at hE
              · rename_i hnc
                obtain ⟨hcn, hep, hll⟩ := hnc
                cases hE
                intro wf hid v' h' hee
                cases hb : h id' with
                | none => simp [Eff.exec, getAll, hb] at hee
                | some bk => cases bk with
                  | map es => simp [Eff.exec, getAll, hb] at hee
                  | bld u es => simp [Eff.exec, getAll, hb] at hee
                  | cells cs =>
                    simp only [Eff.exec, getAll, hb] at hee
                    split at hee
                    · cases hee
                    · rename_i rr hrr
                      split at hrr
                      · rename_i hle2
                        cases hrr
                        simp only [Option.some.injEq, Prod.mk.injEq] at hee
                        obtain ⟨rfl, rfl⟩ := hee
                        obtain ⟨L', hL', arr, t', a1, a2, a3, a4, a5⟩ := wf.hp.live id' _ hb
                        rw [hf] at hL'
                        cases hL'
                        have hq := q2 hcn
                        have hcc : hh ≤ c := Nat.le_of_mul_le_mul_right (c := esz') (by omega) hep
                        have e1 := slice_run (P := P) ht he L.b (L.base + off) len c h1 h2 h3 hl hh' rfl hmx hlh hcc (Nat.le_refl _)
                        have e2 : (if c = l then some (⟨L.b, L.base + off, none⟩ : Addr) else some ⟨L.b, L.base + off + l * esz', none⟩) = some ⟨L.b, L.base + (off + l * esz'), none⟩ := by
                          rw [if_neg (by omega), Nat.add_assoc]
                        rw [e2] at e1
                        refine ⟨_, _, w, f, e1, .inl rfl, .ref hf (fun k hk => by cases hk) (fun _ => ?_) (hcm c (Nat.le_refl _) (by omega)) (by omega), by simpa [setAll] using wf, by simpa [setAll] using Step.refl _ _ _ _ _, fun _ _ => rfl⟩
                        have : l * esz' + (c - l) * esz' = c * esz' := by rw [← Nat.add_mul]; congr 1; omega
                        omega
                      · cases hrr
              · cases hE
          · rename_i m
            split at hE
            · rename_i m' hm'
              split at hE
              · rename_i hle
                have e1 := slice_run (P := P) ht he L.b (L.base + off) len c h1 h2 h3 hl hh' (m := m') (by rw [bnd_some c 0]; exact hm') hmx hlh hle.1 (by omega)
                split at hE
                · rename_i hc2
                  have e2 : (if m' = l then some (⟨L.b, L.base + off, none⟩ : Addr) else some ⟨L.b, L.base + off + l * esz', none⟩) = some ⟨L.b, L.base + (off + l * esz'), none⟩ := by
                    by_cases e : m' = l
                    · have : l = 0 := by omega
                      subst this; simp
                    · rw [if_neg e, Nat.add_assoc]
                  rw [e2] at e1
                  refine good_pure hE e1 (.ref hf (fun k hk => ?_) (fun hk => ?_) (hcm m' (by omega) (by omega)) (by omega))
                  · simp at hk; exact hk
                  · cases hk
                · rename_i hc2
                  have hz : hh - l = 0 := by omega
                  rw [hz] at e1
                  refine good_pure hE e1 ?_
                  split
                  · exact rep_empty _ _ _ (by simp)
                  · exact rep_empty _ _ _ (by simp)
              · cases hE
            · cases hE
      · cases hE
    · cases hE
  · rename_i cells len full
    split at hE
    · rename_i l hh hl hh'
      split at hE
      · rename_i hb
        obtain ⟨hlh, hmx⟩ := hb
        cases hx with
        | nil =>
          have hz : ∀ full', Rep S w f (.il ((([] : List AV).drop (l * esz)).take ((hh - l) * esz)) (hh - l) full') (.slice none 0 0) → Rep S w f (.il ((([] : List AV).drop (l * esz)).take ((hh - l) * esz)) (hh - l) full') (.slice none 0 0) := fun _ h => h
          have fin : ∀ full' : Bool, hh ≤ 0 → Rep S w f (.il ((([] : List AV).drop (l * esz)).take ((hh - l) * esz)) (hh - l) full') (.slice none 0 0) := fun full' h0 => by
            have : hh - l = 0 := by omega
            rw [this]; simp; exact .nil
          split at hE
          · split at hE
            · rename_i hle
              have e0 : l = 0 := by omega
              have e0' : hh = 0 := by omega
              refine good_pure hE (slice_run_nil ht he h1 h2 h3 (e0 ▸ hl) (e0' ▸ hh') rfl hmx) (fin _ hle)
            · cases hE
          · split at hE
            · rename_i m' hm'
              split at hE
              · rename_i hle
                have e0 : l = 0 := by omega
                have e0' : hh = 0 := by omega
                have e0'' : m' = 0 := by omega
                refine good_pure hE (slice_run_nil ht he h1 h2 h3 (e0 ▸ hl) (e0' ▸ hh') (e0'' ▸ hm') hmx) (fin _ (by omega))
              · cases hE
            · cases hE
        | @emp _ _ b o s =>
          have hz : ∀ full', Rep S w f (.il ((([] : List AV).drop (l * esz)).take ((hh - l) * esz)) (hh - l) full') (.slice (some ⟨b, o, some s⟩) 0 0) → Rep S w f (.il ((([] : List AV).drop (l * esz)).take ((hh - l) * esz)) (hh - l) full') (.slice (some ⟨b, o, some s⟩) 0 0) := fun _ h => h
          have fin : ∀ full' : Bool, hh ≤ 0 → Rep S w f (.il ((([] : List AV).drop (l * esz)).take ((hh - l) * esz)) (hh - l) full') (.slice (some ⟨b, o, some s⟩) 0 0) := fun full' h0 => by
            have : hh - l = 0 := by omega
            rw [this]; simp; exact .emp
          split at hE
          · split at hE
            · rename_i hle
              have e0 : l = 0 := by omega
              have e0' : hh = 0 := by omega
              refine good_pure hE (slice_run_emp ht he ⟨b, o, some s⟩ h1 h2 h3 (e0 ▸ hl) (e0' ▸ hh') rfl hmx) (fin _ hle)
            · cases hE
          · split at hE
            · rename_i m' hm'
              split at hE
              · rename_i hle
                have e0 : l = 0 := by omega
                have e0' : hh = 0 := by omega
                have e0'' : m' = 0 := by omega
                refine good_pure hE (slice_run_emp ht he ⟨b, o, some s⟩ h1 h2 h3 (e0 ▸ hl) (e0' ▸ hh') (e0'' ▸ hm') hmx) (fin _ (by omega))
              · cases hE
            · cases hE
        | @il _ _ _ _ vals b o c hvl hS hc hone hr hn hf =>
          have fin : ∀ (m : Nat) (full' : Bool), hh ≤ m → (full' = true → m = hh) → Rep S w f (.il ((cells.drop (l * esz)).take ((hh - l) * esz)) (hh - l) full') (.slice (if m = l then some ⟨b, o, none⟩ else some ⟨b, o + l * esz, none⟩) (hh - l) (m - l)) := fun m full' hm hfu => by
            split
            · rename_i e
              have hz : hh - l = 0 := by omega
              rw [hz]; simp only [Nat.zero_mul, List.take_zero]
              exact rep_empty _ _ _ (fun h => by have := hfu h; omega)
            · exact rep_cut hvl hS hc hone hr _ _ (by omega) (fun h => by have := hfu h; omega)
          split at hE
          · split at hE
            · rename_i hle
              refine good_pure hE (slice_run ht he b o len c h1 h2 h3 hl hh' rfl hmx hlh (by omega) (Nat.le_refl _)) (fin c _ (by omega) (fun h => ?_))
              simp only [Bool.and_eq_true, decide_eq_true_eq] at h
              rw [hf h.1, h.2]
            · cases hE
          · split at hE
            · rename_i m' hm'
              split at hE
              · rename_i hle
                refine good_pure hE (slice_run ht he b o len c h1 h2 h3 hl hh' (m := m') (by rw [bnd_some c 0]; exact hm') hmx hlh hle.1 (by omega)) (fin m' _ hle.1 (fun h => by simpa using h))
              · cases hE
            · cases hE
      · cases hE
    · cases hE
  · cases hE
def effSlcA (n esz : Nat) (x : AV) (lo hi mx : Option AV) : Option Eff :=
  match bnd 0 lo, bnd n hi, bnd n mx with
  | some l, some h, some m =>
    if l ≤ h ∧ h ≤ m ∧ m ≤ n ∧ (mx.isSome = true → hi.isSome = true) then
      match x with
      | .ptr id off => some ⟨[id], [], fun bs _ => match bs with
        | [b] => (match b with
          | .cells cs => if off + n * esz ≤ cs.length then some (if l = 0 ∨ l < h then AV.ref id (off + l * esz) (h - l) esz (some (m - l)) else AV.il [] 0 false) else none
          | _ => none).map (⟨·, [], none⟩)
        | _ => none⟩
      | .elt cells off => ret (.il ((cells.drop (off + l * esz)).take ((h - l) * esz)) (h - l) (decide (m = h)))
      | _ => none
    else none
  | _, _, _ => none
theorem good_slcA {P S w f h id x u t n e esz lo hi mx lo' hi' mx'} {E : Eff} (ht : P.underlying t = some (.array n e)) (he : (P.info? e).map (·.size) = some esz) (hx : Rep S w f x u)
    (h1 : RepO S w f lo lo') (h2 : RepO S w f hi hi') (h3 : RepO S w f mx mx') (hE : effSlcA n esz x lo hi mx = some E) :
    Good P E (do pure (.value (← Instr.sliceAt t u lo' hi' mx'))) S w f h id := by
  unfold effSlcA at hE
  split at hE
  · rename_i l hh m hl hh' hm
    split at hE
    · rename_i hb
      obtain ⟨hlh, hhm, hmc, hmx⟩ := hb
      have e1 := sliceBounds_run (P := P) false n n h1 h2 h3 hl hh' hm hmx hlh hhm hmc
      have key : ∀ b o, (do pure (Next.value (← Instr.sliceAt t (.pointer (some ⟨b, o, none⟩)) lo' hi' mx')) : Sem Next).run P w =
          .ok (.value (.slice (some (if m = l then ⟨b, o, none⟩ else ⟨b, o + l * esz, none⟩)) (hh - l) (m - l))) w := fun b o => by
        cases hq : P.info? e with
        | none => simp [hq] at he
        | some inf =>
          have hsz : inf.size = esz := by simpa [hq] using he
          simp only [Instr.sliceAt, Sem.run_bind, run_underlying ht, Result.andThen_ok, Instr.sureAddr, e1, sizeOf, typeInfo, run_program, hq, Sem.run_pure, hsz, add_lit]
      split at hE
      · rename_i i off
        cases hx with
        | @ptr _ _ _ L hf =>
          refine good_read (Option.some.inj hE).symm hf (fun b x hB hk => ⟨_, key _ _, ?_⟩)
          cases b with
          | cells cs =>
            simp only at hk
            split at hk
            · rename_i hle
              cases hk
              obtain ⟨arr, tt, a1, a2, a3, a4, a5⟩ := hB
              split
              · rename_i hc2
                have e2 : (if m = l then (⟨L.b, L.base + off, none⟩ : Addr) else ⟨L.b, L.base + off + l * esz, none⟩) = ⟨L.b, L.base + (off + l * esz), none⟩ := by
                  by_cases e : m = l
                  · have : l = 0 := by omega
                    subst this; simp
                  · rw [if_neg e, Nat.add_assoc]
                rw [e2]
                refine .ref hf (fun k hk => by simpa using hk) (fun hk => by cases hk) ?_ (by omega)
                have : l * esz + (m - l) * esz = m * esz := by rw [← Nat.add_mul]; congr 1; omega
                have : m * esz ≤ n * esz := Nat.mul_le_mul_right _ hmc
                omega
              · rename_i hc2
                have hz : hh - l = 0 := by omega
                rw [hz]
                split <;> exact rep_empty _ _ _ (fun h => by cases h)
            · cases hk
          | map es => cases hk
          | bld u es => cases hk
      · rename_i cells off
        cases hx with
        | @elt _ _ _ vals b o hvl hS hc hone hr =>
          refine good_pure hE (key _ _) ?_
          split
          · rename_i e
            have hz : hh - l = 0 := by omega
            rw [hz]; simp only [Nat.zero_mul, List.take_zero]
            have e3 : m - l = 0 := by omega
            rw [e3]
            exact rep_empty _ _ _ (fun _ => rfl)
          · rw [Nat.add_assoc]
            exact rep_cut hvl hS hc hone hr _ _ (by omega) (fun h => by simp at h; omega)
      · cases hE
    · cases hE
  · cases hE
end Go.Sx
end
