/- The abstract values, the abstract heap, and what they mean in a world. No conditions. -/
import Derived.Calls
import Derived.Laws.Sem
import Derived.Laws.World
import Derived.Below
namespace Go.Sx

/-- Where the block of an abstract number lies: the real block, the cell at which it begins, how many cells the real block has. -/
structure Loc where
  b : Nat
  base : Nat
  n : Nat

/-- Abstract values. 'il': a slice that nobody writes to any more, by its cells. 'ref': a slice of a block of the heap. 'ptr': an address in such a block. 'elt': an address in cells that nobody writes to. -/
inductive AV where
  | any
  | v (x : Value)
  | il (cells : List AV) (len : Nat) (full : Bool)
  | ref (id off len esz : Nat) (cap : Option Nat)
  | ptr (id off : Nat)
  | elt (cells : List AV) (off : Nat)
  | map (id : Nat)
  | fn (g : Fn) (first captured : List AV)
  | agg (cells : List AV)
  | tup (vs : List AV)
  | ifc (t : TypeId) (x : AV)

inductive Blk where
  | cells (cs : List AV)
  | map (es : List (Value × AV))

abbrev Heap := Nat → Option Blk
abbrev Place := Nat → Option Loc

/-- What an abstract value says of a value. -/
inductive Rep (S : Nat → Prop) (w : World) : Place → AV → Value → Prop where
  | any {f x} : Rep S w f .any x
  | v {f} (x : Value) : Rep S w f (.v x) x
  | nil {f full} : Rep S w f (.il [] 0 full) (.slice none 0 0)
  | il {f cells len full} {vals : List Value} {b o c : Nat} (hl : vals.length = cells.length) (hS : cells ≠ [] → S b)
      (hc : ∀ i x, vals[i]? = some x → w.cell? ⟨b, o + i, none⟩ = some x) (h1 : ∀ x ∈ vals, x.oneCell' = true)
      (hr : ∀ (i : Nat) x y, cells[i]? = some x → vals[i]? = some y → Rep S w (fun _ => none) x y)
      (hn : len ≤ c) (hf : full = true → c = len) : Rep S w f (.il cells len full) (.slice (some ⟨b, o, none⟩) len c)
  | ref {f id off len esz cap c} {l : Loc} (hf : f id = some l) (h1 : ∀ k, cap = some k → c = k) (h2 : cap = none → l.base + off + c * esz = l.n)
      (h3 : l.base + off + c * esz ≤ l.n) (h4 : len ≤ c) : Rep S w f (.ref id off len esz cap) (.slice (some ⟨l.b, l.base + off, none⟩) len c)
  | ptr {f id off} {l : Loc} (hf : f id = some l) : Rep S w f (.ptr id off) (.pointer (some ⟨l.b, l.base + off, none⟩))
  | elt {f cells off} {vals : List Value} {b o : Nat} (hl : vals.length = cells.length) (hS : cells ≠ [] → S b)
      (hc : ∀ i x, vals[i]? = some x → w.cell? ⟨b, o + i, none⟩ = some x) (h1 : ∀ x ∈ vals, x.oneCell' = true)
      (hr : ∀ (i : Nat) x y, cells[i]? = some x → vals[i]? = some y → Rep S w (fun _ => none) x y) :
      Rep S w f (.elt cells off) (.pointer (some ⟨b, o + off, none⟩))
  | map {f id} {l : Loc} (hf : f id = some l) : Rep S w f (.map id) (.map (some l.b))
  | fn {f g first captured} {fs cs : List Value} (h1 : fs.length = first.length) (h2 : cs.length = captured.length)
      (hr1 : ∀ (i : Nat) x y, first[i]? = some x → fs[i]? = some y → Rep S w f x y)
      (hr2 : ∀ (i : Nat) x y, captured[i]? = some x → cs[i]? = some y → Rep S w f x y) : Rep S w f (.fn g first captured) (.func g fs.toArray cs.toArray)
  | agg {f cells} {vals : List Value} (hl : vals.length = cells.length) (h1 : ∀ x ∈ vals, x.oneCell' = true)
      (hr : ∀ (i : Nat) x y, cells[i]? = some x → vals[i]? = some y → Rep S w f x y) : Rep S w f (.agg cells) (.agg vals.toArray)
  | tup {f vs} {vals : List Value} (hl : vals.length = vs.length)
      (hr : ∀ (i : Nat) x y, vs[i]? = some x → vals[i]? = some y → Rep S w f x y) : Rep S w f (.tup vs) (.tuple vals.toArray)
  | ifc {f t x y} (h : Rep S w f x y) : Rep S w f (.ifc t x) (.iface t y)

/-- Many at once. -/
def Reps (S : Nat → Prop) (w : World) (f : Place) (xs : List AV) (ys : List Value) : Prop :=
  ys.length = xs.length ∧ ∀ (i : Nat) x y, xs[i]? = some x → ys[i]? = some y → Rep S w f x y

theorem cell_same {w w' : World} {a : Addr} (h : w'.heap[a.block]? = w.heap[a.block]?) : w'.cell? a = w.cell? a := by
  unfold World.cell?; rw [h]

/-- What was said stays said: more stable blocks, more places, and the stable blocks are as they were. -/
theorem Rep.mono {S S' : Nat → Prop} {w w' : World} {f f' : Place} {x : AV} {y : Value} (h : Rep S w f x y) (hS : ∀ b, S b → S' b)
    (hw : ∀ b, S b → w'.heap[b]? = w.heap[b]?) (hf : ∀ id l, f id = some l → f' id = some l) : Rep S' w' f' x y := by
  induction h generalizing f' with
  | any => exact .any
  | v x => exact .v x
  | nil => exact .nil
  | il hl hSb hc h1 hr hn hfu ih =>
    refine .il hl (fun h => hS _ (hSb h)) (fun i x hx => ?_) h1 (fun i x y hx hy => ih i x y hx hy (fun _ _ h => h)) hn hfu
    have hb := hSb (by intro h0; subst h0; simp at hl; subst hl; simp at hx)
    rw [cell_same (w := w) (hw _ hb)]; exact hc i x hx
  | ref h0 h1 h2 h3 h4 => exact .ref (hf _ _ h0) h1 h2 h3 h4
  | ptr h0 => exact .ptr (hf _ _ h0)
  | elt hl hSb hc h1 hr ih =>
    refine .elt hl (fun h => hS _ (hSb h)) (fun i x hx => ?_) h1 (fun i x y hx hy => ih i x y hx hy (fun _ _ h => h))
    have hb := hSb (by intro h0; subst h0; simp at hl; subst hl; simp at hx)
    rw [cell_same (w := w) (hw _ hb)]; exact hc i x hx
  | map h0 => exact .map (hf _ _ h0)
  | fn h1 h2 hr1 hr2 ih1 ih2 => exact .fn h1 h2 (fun i x y hx hy => ih1 i x y hx hy hf) (fun i x y hx hy => ih2 i x y hx hy hf)
  | agg hl h1 hr ih => exact .agg hl h1 (fun i x y hx hy => ih i x y hx hy hf)
  | tup hl hr ih => exact .tup hl (fun i x y hx hy => ih i x y hx hy hf)
  | ifc h ih => exact .ifc (ih hf)

theorem Reps.mono {S S' : Nat → Prop} {w w' : World} {f f' : Place} {xs : List AV} {ys : List Value} (h : Reps S w f xs ys) (hS : ∀ b, S b → S' b)
    (hw : ∀ b, S b → w'.heap[b]? = w.heap[b]?) (hf : ∀ id l, f id = some l → f' id = some l) : Reps S' w' f' xs ys :=
  ⟨h.1, fun i x y hx hy => (h.2 i x y hx hy).mono hS hw hf⟩

theorem Reps.nil {S w f} : Reps S w f [] [] := ⟨rfl, fun i x y hx => by simp at hx⟩
theorem Reps.cons {S w f x y xs ys} (h : Rep S w f x y) (hs : Reps S w f xs ys) : Reps S w f (x :: xs) (y :: ys) := by
  refine ⟨by simp [hs.1], fun i a b ha hb => ?_⟩
  cases i with
  | zero => simp at ha hb; subst ha; subst hb; exact h
  | succ i => simp at ha hb; exact hs.2 i a b ha hb

/-- What a block of the heap says of a real block. -/
def BRep (S : Nat → Prop) (w : World) (f : Place) : Blk → Loc → Prop
  | .cells cs, l => ∃ (arr : Array Value) (t : TypeId), w.heap[l.b]? = some (.cells arr t (0, 0)) ∧ arr.size = l.n ∧ l.base + cs.length ≤ l.n ∧ (∀ (i : Nat) (x : Value), arr[i]? = some x → x.oneCell' = true) ∧
      ∀ (i : Nat) x y, cs[i]? = some x → arr[l.base + i]? = some y → Rep S w f x y
  | .map es, l => ∃ en : Array MapEntry, w.heap[l.b]? = some (.map en es.length) ∧ l.base = 0 ∧ en.size = es.length ∧
      ∀ (i : Nat) k x e, es[i]? = some (k, x) → en[i]? = some e → e.key = k ∧ e.born = i ∧ Rep S w f x e.val

structure Hp (S : Nat → Prop) (w : World) (f : Place) (h : Heap) : Prop where
  live : ∀ id k, h id = some k → ∃ l, f id = some l ∧ BRep S w f k l
  inj : ∀ i j li lj, h i ≠ none → h j ≠ none → f i = some li → f j = some lj → li.b = lj.b → i = j

/-- The real blocks that the heap owns. -/
def Own (f : Place) (h : Heap) (b : Nat) : Prop := ∃ id l, h id ≠ none ∧ f id = some l ∧ l.b = b

/-- The heap is what it says, and what is stable is nobody's. -/
structure Wf (S : Nat → Prop) (w : World) (f : Place) (h : Heap) : Prop where
  hp : Hp S w f h
  st : ∀ b, S b → b < w.heap.size ∧ ¬ Own f h b

/-- Of what was there nothing has turned but what O names. -/
structure Kept (O : Nat → Prop) (w w' : World) : Prop where
  os : w'.os = w.os
  tape : w'.tape = w.tape
  output : w'.output = w.output
  size : w.heap.size ≤ w'.heap.size
  block : ∀ b, b < w.heap.size → ¬ O b → w'.heap[b]? = w.heap[b]?

theorem Kept.refl (O) (w : World) : Kept O w w := ⟨rfl, rfl, rfl, Nat.le_refl _, fun _ _ _ => rfl⟩

/-- From one state to another. K: the numbers whose places stay. -/
structure Step (K : Nat → Prop) (S : Nat → Prop) (w : World) (f : Place) (h : Heap) (S' : Nat → Prop) (w' : World) (f' : Place) (h' : Heap) : Prop where
  kept : Kept (Own f h) w w'
  own : ∀ b, Own f' h' b → Own f h b ∨ w.heap.size ≤ b
  st : ∀ b, S b → S' b
  st' : ∀ b, S' b → S b ∨ Own f h b ∨ w.heap.size ≤ b
  ids : ∀ id l, K id → f id = some l → f' id = some l

theorem Step.refl (K S w f h) : Step K S w f h S w f h :=
  ⟨.refl _ _, fun _ h => .inl h, fun _ h => h, fun _ h => .inl h, fun _ _ _ h => h⟩

theorem Step.trans {K S w f h S1 w1 f1 h1 S2 w2 f2 h2} (a : Step K S w f h S1 w1 f1 h1) (b : Step K S1 w1 f1 h1 S2 w2 f2 h2) : Step K S w f h S2 w2 f2 h2 := by
  have ho : ∀ b, Own f1 h1 b ∨ w1.heap.size ≤ b → Own f h b ∨ w.heap.size ≤ b := fun b hb => by
    rcases hb with hb | hb
    · exact a.own b hb
    · exact .inr (Nat.le_trans a.kept.size hb)
  refine ⟨⟨b.kept.os.trans a.kept.os, b.kept.tape.trans a.kept.tape, b.kept.output.trans a.kept.output, Nat.le_trans a.kept.size b.kept.size, fun k hk hO => ?_⟩,
    fun k hk => ho k (b.own k hk), fun k hk => b.st k (a.st k hk), fun k hk => ?_, fun id l hK h => b.ids id l hK (a.ids id l hK h)⟩
  · rw [b.kept.block k (Nat.lt_of_lt_of_le hk a.kept.size) (fun h => (a.own k h).elim hO (fun h => by omega)), a.kept.block k hk hO]
  · rcases b.st' k hk with h | h
    · exact a.st' k h
    · exact .inr (ho k h)

theorem Step.mono {K K' S w f h S' w' f' h'} (a : Step K S w f h S' w' f' h') (hK : ∀ i, K' i → K i) : Step K' S w f h S' w' f' h' :=
  ⟨a.kept, a.own, a.st, a.st', fun id l hk h => a.ids id l (hK id hk) h⟩

theorem BRep.mono {S S' w w' f f' k l} (h : BRep S w f k l) (hS : ∀ b, S b → S' b) (hw : ∀ b, S b → w'.heap[b]? = w.heap[b]?)
    (hf : ∀ id l, f id = some l → f' id = some l) (hb : w'.heap[l.b]? = w.heap[l.b]?) : BRep S' w' f' k l := by
  cases k with
  | cells cs =>
    obtain ⟨arr, t, h1, h2, h3, h4, h5⟩ := h
    exact ⟨arr, t, by rw [hb]; exact h1, h2, h3, h4, fun i x y hx hy => (h5 i x y hx hy).mono hS hw hf⟩
  | map es =>
    obtain ⟨en, h1, h0, h2, h3⟩ := h
    exact ⟨en, by rw [hb]; exact h1, h0, h2, fun i k x e hx he => let ⟨a, b, c⟩ := h3 i k x e hx he; ⟨a, b, c.mono hS hw hf⟩⟩

/-- Stable blocks are as they were after a step. -/
theorem Wf.stable {S w f h} (hwf : Wf S w f h) {K S' w' f' h'} (s : Step K S w f h S' w' f' h') : ∀ b, S b → w'.heap[b]? = w.heap[b]? :=
  fun b hb => s.kept.block b (hwf.st b hb).1 (hwf.st b hb).2

theorem BRep.lt {S w f k l} (h : BRep S w f k l) : l.b < w.heap.size := by
  cases k with
  | cells cs => obtain ⟨arr, t, h1, _⟩ := h; exact (Array.getElem?_eq_some_iff.1 h1).1
  | map es => obtain ⟨arr, h1, _⟩ := h; exact (Array.getElem?_eq_some_iff.1 h1).1

theorem Wf.own_lt {S w f h} (hwf : Wf S w f h) {b} (hb : Own f h b) : b < w.heap.size := by
  obtain ⟨id, l, h1, h2, h3⟩ := hb
  obtain ⟨k, hk⟩ := Option.ne_none_iff_exists'.1 h1
  obtain ⟨l', hl', hB⟩ := hwf.hp.live id k hk
  rw [h2] at hl'; cases hl'; rw [← h3]; exact hB.lt

end Go.Sx
