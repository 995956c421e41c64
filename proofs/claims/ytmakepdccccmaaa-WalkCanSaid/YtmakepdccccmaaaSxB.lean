/- What one operation does to the abstract heap, and the general lemmas by which each operation's soundness is shown. No conditions. -/
import Derived.Test.YtmakepdccccmaaaSxA
import Derived.Deep.AppendSrc
import Derived.Deep.MidRow
import Derived.Laws.CopyRow
namespace Go.Sx

def upd {α : Type} (g : Nat → α) (i : Nat) (x : α) : Nat → α := fun j => if j = i then x else g j
@[simp] theorem upd_same {α : Type} (g : Nat → α) (i : Nat) (x : α) : upd g i x i = x := by simp [upd]
theorem upd_other {α : Type} (g : Nat → α) {i j : Nat} (x : α) (h : j ≠ i) : upd g i x j = g j := by simp [upd, h]

structure Res where
  v : AV
  outs : List (Option Blk)
  nb : Option Blk

/-- The effect of one operation: it reads the blocks 'rs', writes the blocks 'ws', and may make one new block. -/
structure Eff where
  rs : List Nat
  ws : List Nat
  k : List Blk → Nat → Option Res

def setAll : Heap → List Nat → List (Option Blk) → Heap
  | h, i :: is, o :: os => setAll (upd h i o) is os
  | h, _, _ => h

def getAll (h : Heap) : List Nat → Option (List Blk)
  | [] => some []
  | i :: is => match h i, getAll h is with
    | some b, some bs => some (b :: bs)
    | _, _ => none

def Eff.exec (E : Eff) (h : Heap) (id : Nat) : Option (AV × Heap) :=
  match getAll h E.rs with
  | none => none
  | some bs => match E.k bs id with
    | none => none
    | some r => match r.nb with
      | none => some (r.v, setAll h E.ws r.outs)
      | some b => some (r.v, upd (setAll h E.ws r.outs) id (some b))

def ret (x : AV) : Option Eff := some ⟨[], [], fun _ _ => some ⟨x, [], none⟩⟩

/-- An effect is met by a real operation. -/
def Good (P : Program) (E : Eff) (ex : Sem Next) (S : Nat → Prop) (w : World) (f : Place) (h : Heap) (id : Nat) : Prop :=
  Wf S w f h → f id = none → ∀ v h', E.exec h id = some (v, h') → ∃ n y w' f', ex.run P w = .ok n w' ∧ (n = .value y ∨ (n = .skip ∧ y = undef)) ∧
    Rep S w' f' v y ∧ Wf S w' f' h' ∧ Step (fun _ => True) S w f h S w' f' h' ∧ (∀ j, j ≠ id → f' j = f j)

theorem good_pure {P E ex S w f h id} {x : AV} {y : Value} (hE : ret x = some E) (hr : ex.run P w = .ok (.value y) w) (hx : Rep S w f x y) : Good P E ex S w f h id := by
  simp only [ret, Option.some.injEq] at hE
  subst hE
  intro wf hid v h' he
  simp only [Eff.exec, getAll, setAll, Option.some.injEq, Prod.mk.injEq] at he
  obtain ⟨rfl, rfl⟩ := he
  exact ⟨_, y, w, f, hr, .inl rfl, hx, wf, .refl _ _ _ _ _, fun _ _ => rfl⟩

/-- Reading one block. -/
theorem good_read {P E ex S w f h id} {i : Nat} {k : Blk → Option AV} {l : Loc} (hE : E = ⟨[i], [], fun bs _ => match bs with | [b] => (k b).map (⟨·, [], none⟩) | _ => none⟩)
    (hl : f i = some l) (hr : ∀ b x, BRep S w f b l → k b = some x → ∃ y, ex.run P w = .ok (.value y) w ∧ Rep S w f x y) : Good P E ex S w f h id := by
  subst hE
  intro wf hid v h' he
  simp only [Eff.exec, getAll] at he
  cases hb : h i with
  | none => simp [hb] at he
  | some b =>
    simp only [hb] at he
    cases hk : k b with
    | none => simp [hk] at he
    | some x =>
      simp only [hk, Option.map_some, setAll, Option.some.injEq, Prod.mk.injEq] at he
      obtain ⟨rfl, rfl⟩ := he
      obtain ⟨l', hl', hB⟩ := wf.hp.live i b hb
      rw [hl] at hl'; cases hl'
      obtain ⟨y, h1, h2⟩ := hr b x hB hk
      exact ⟨_, y, w, f, h1, .inl rfl, h2, wf, .refl _ _ _ _ _, fun _ _ => rfl⟩

/-- One block of the heap is written, or made, or taken over. -/
theorem wf_put {S w f h} (wf : Wf S w f h) {w' : World} {f' : Place} {h' : Heap} {id' : Nat} {l' : Loc} {k' : Blk}
    (hf' : ∀ j, j ≠ id' → f' j = f j) (hfid : f' id' = some l') (hh : ∀ j, j ≠ id' → h' j = h j ∨ h' j = none) (hh' : h' id' = some k')
    (hsize : w.heap.size ≤ w'.heap.size) (hblk : ∀ b, b < w.heap.size → b ≠ l'.b → w'.heap[b]? = w.heap[b]?)
    (hdis : ∀ j lj, j ≠ id' → h' j ≠ none → f j = some lj → lj.b ≠ l'.b) (hS : ¬ S l'.b) (hmono : f id' = none ∨ f id' = some l')
    (hB : BRep S w' f' k' l') : Wf S w' f' h' := by
  have hSw : ∀ b, S b → w'.heap[b]? = w.heap[b]? := fun b hb => hblk b (wf.st b hb).1 (fun e => hS (e ▸ hb))
  have hff : ∀ id l, f id = some l → f' id = some l := fun id l hl => by
    by_cases e : id = id'
    · subst e
      rcases hmono with h0 | h0
      · rw [h0] at hl; cases hl
      · rw [h0] at hl; cases hl; exact hfid
    · rw [hf' id e]; exact hl
  have live' : ∀ j, j ≠ id' → h' j ≠ none → h' j = h j := fun j e hn => (hh j e).resolve_right hn
  refine ⟨⟨fun j k hk => ?_, fun i j li lj hi hj hfi hfj he => ?_⟩, fun b hb => ⟨Nat.lt_of_lt_of_le (wf.st b hb).1 hsize, fun ⟨j, l, hj, hl, hlb⟩ => ?_⟩⟩
  · by_cases e : j = id'
    · subst e; rw [hh'] at hk; cases hk; exact ⟨l', hfid, hB⟩
    · have hn : h' j ≠ none := by rw [hk]; simp
      rw [live' j e hn] at hk
      obtain ⟨l, hl, hBj⟩ := wf.hp.live j k hk
      exact ⟨l, hff j l hl, hBj.mono (fun _ h => h) hSw hff (hblk l.b hBj.lt (hdis j l e hn hl))⟩
  · by_cases ei : i = id'
    · by_cases ej : j = id'
      · rw [ei, ej]
      · subst ei; rw [hfid] at hfi; cases hfi
        rw [hf' j ej] at hfj
        exact absurd he.symm (hdis j lj ej hj hfj)
    · by_cases ej : j = id'
      · subst ej; rw [hfid] at hfj; cases hfj
        rw [hf' i ei] at hfi
        exact absurd he (hdis i li ei hi hfi)
      · rw [hf' i ei] at hfi; rw [hf' j ej] at hfj
        exact wf.hp.inj i j li lj (by rw [← live' i ei hi]; exact hi) (by rw [← live' j ej hj]; exact hj) hfi hfj he
  · by_cases e : j = id'
    · subst e; rw [hfid] at hl; cases hl; exact hS (hlb ▸ hb)
    · rw [hf' j e] at hl
      exact (wf.st b hb).2 ⟨j, l, by rw [← live' j e hj]; exact hj, hl, hlb⟩

theorem step_put {S w f h} {w' : World} {f' : Place} {h' : Heap} {id' : Nat} {l' : Loc} (hf' : ∀ j, j ≠ id' → f' j = f j) (hfid : f' id' = some l') (hh : ∀ j, j ≠ id' → h' j = h j ∨ h' j = none)
    (hos : w'.os = w.os) (htape : w'.tape = w.tape) (hout : w'.output = w.output) (hsize : w.heap.size ≤ w'.heap.size)
    (hblk : ∀ b, b < w.heap.size → b ≠ l'.b → w'.heap[b]? = w.heap[b]?) (hmono : f id' = none ∨ f id' = some l') (hown : Own f h l'.b ∨ w.heap.size ≤ l'.b) :
    Step (fun _ => True) S w f h S w' f' h' := by
  refine ⟨⟨hos, htape, hout, hsize, fun b hb hO => hblk b hb (fun e => ?_)⟩, fun b ⟨j, l, hj, hl, hlb⟩ => ?_, fun _ h => h, fun _ h => .inl h, fun id l _ hl => ?_⟩
  · subst e; rcases hown with h | h
    · exact hO h
    · omega
  · by_cases e : j = id'
    · subst e; rw [hfid] at hl; cases hl; rw [← hlb]; exact hown
    · rw [hf' j e] at hl
      exact .inl ⟨j, l, by rw [← (hh j e).resolve_right hj]; exact hj, hl, hlb⟩
  · by_cases e : id = id'
    · subst e
      rcases hmono with h0 | h0
      · rw [h0] at hl; cases hl
      · rw [h0] at hl; cases hl; exact hfid
    · rw [hf' id e]; exact hl

/-- A new block. -/
theorem wf_alloc {S w f h} (wf : Wf S w f h) {id : Nat} (hid : f id = none) {w' : World} {o : Obj} {k : Blk} {n : Nat} (hw : w'.heap = w.heap.push o) (hos : w'.os = w.os) (htape : w'.tape = w.tape) (hout : w'.output = w.output)
    (hB : BRep S w' (upd f id (some ⟨w.heap.size, 0, n⟩)) k ⟨w.heap.size, 0, n⟩) :
    Wf S w' (upd f id (some ⟨w.heap.size, 0, n⟩)) (upd h id (some k)) ∧ Step (fun _ => True) S w f h S w' (upd f id (some ⟨w.heap.size, 0, n⟩)) (upd h id (some k)) := by
  have hs : w.heap.size ≤ w'.heap.size := by rw [hw]; simp
  have hb : ∀ b, b < w.heap.size → b ≠ w.heap.size → w'.heap[b]? = w.heap[b]? := fun b hb _ => by rw [hw, Array.getElem?_push, if_neg (by omega)]
  refine ⟨wf_put wf (id' := id) (l' := ⟨w.heap.size, 0, n⟩) (k' := k) (fun j e => upd_other _ _ e) (upd_same _ _ _) (fun j e => .inl (upd_other _ _ e)) (upd_same _ _ _) hs hb (fun j lj e hj hl he => ?_) (fun hS => ?_) (.inl hid) hB,
    step_put (id' := id) (l' := ⟨w.heap.size, 0, n⟩) (fun j e => upd_other _ _ e) (upd_same _ _ _) (fun j e => .inl (upd_other _ _ e)) hos htape hout hs hb (.inl hid) (.inr (Nat.le_refl _))⟩
  · rw [upd_other _ _ e] at hj
    have : lj.b < w.heap.size := wf.own_lt ⟨j, lj, hj, hl, rfl⟩
    simp only at he; omega
  · have := (wf.st _ hS).1
    simp only at this; omega

theorem drew_wf {S w f h} (wf : Wf S w f h) : Wf S w.drew f h :=
  ⟨⟨fun j k hk => let ⟨l, h1, h2⟩ := wf.hp.live j k hk; ⟨l, h1, h2.mono (fun _ h => h) (fun _ _ => rfl) (fun _ _ h => h) rfl⟩, wf.hp.inj⟩, wf.st⟩

/-- The block of a number is written. -/
theorem wf_write {S w f h} (wf : Wf S w f h) {id : Nat} {k k' : Blk} {l : Loc} (hk : h id = some k) (hl : f id = some l) {w' : World} (hos : w'.os = w.os) (htape : w'.tape = w.tape) (hout : w'.output = w.output)
    (hsize : w'.heap.size = w.heap.size) (hblk : ∀ b, b ≠ l.b → w'.heap[b]? = w.heap[b]?) (hB : BRep S w' f k' l) :
    Wf S w' f (upd h id (some k')) ∧ Step (fun _ => True) S w f h S w' f (upd h id (some k')) := by
  have hown : Own f h l.b := ⟨id, l, by rw [hk]; simp, hl, rfl⟩
  refine ⟨wf_put wf (id' := id) (l' := l) (k' := k') (fun _ _ => rfl) hl (fun j e => .inl (upd_other _ _ e)) (upd_same _ _ _) (by omega) (fun b _ e => hblk b e) (fun j lj e hj hlj he => ?_) (fun hS => (wf.st _ hS).2 hown) (.inr hl) hB,
    step_put (id' := id) (l' := l) (fun _ _ => rfl) hl (fun j e => .inl (upd_other _ _ e)) hos htape hout (by omega) (fun b _ e => hblk b e) (.inr hl) (.inl hown)⟩
  rw [upd_other _ _ e] at hj
  exact e (wf.hp.inj j id lj l hj (by rw [hk]; simp) hlj hl he)

/-! ### Cells -/
/-- The cells of a value that is stored. -/
def AV.cells? : AV → Option (List AV)
  | .any => none
  | .tup _ => none
  | .agg cs => some cs
  | .v x => if x.oneCell' then some [.v x] else none
  | x => some [x]

theorem cells_rep {S w f x y cs} (h : Rep S w f x y) (hc : x.cells? = some cs) : (∀ v ∈ y.cells.toList, v.oneCell' = true) ∧ Reps S w f cs y.cells.toList := by
  cases h <;> simp only [AV.cells?, Option.some.injEq, reduceCtorEq] at hc
  case v =>
    split at hc
    · rename_i h1
      simp only [Option.some.injEq] at hc; subst hc
      have hy : y.cells = #[y] := by cases y <;> simp_all [Value.cells, Value.oneCell']
      rw [hy]
      exact ⟨by simpa using h1, .cons (.v _) .nil⟩
    · cases hc
  case agg hl h1 hr =>
    subst hc
    simp only [Value.cells]
    exact ⟨h1, hl, hr⟩
  all_goals
    subst hc
    refine ⟨by simp [Value.cells, Value.oneCell'], .cons ?_ .nil⟩
  case nil => exact .nil
  case il hl hS hc h1 hr hn hf => exact .il hl hS hc h1 hr hn hf
  case ref => exact .ref (by assumption) (by assumption) (by assumption) (by assumption) (by assumption)
  case ptr hf => exact .ptr hf
  case elt hl hS hc h1 hr => exact .elt hl hS hc h1 hr
  case map hf => exact .map hf
  case fn h1 h2 h3 h4 => exact .fn h1 h2 h3 h4
  case ifc h => exact .ifc h

/-- A cell of a block. -/
theorem BRep.cell {S w f cs l} (h : BRep S w f (.cells cs) l) {i : Nat} {x : AV} (hx : cs[i]? = some x) : ∃ y, w.cell? ⟨l.b, l.base + i, none⟩ = some y ∧ Rep S w f x y ∧ y.oneCell' = true := by
  obtain ⟨arr, t, h1, h2, h3, h4, h5⟩ := h
  have hi : i < cs.length := (List.getElem?_eq_some_iff.1 hx).1
  have hlt : l.base + i < arr.size := by omega
  refine ⟨arr[l.base + i], ?_, h5 i x _ hx (by simp [hlt]), h4 (l.base + i) _ (by simp [hlt])⟩
  simp [World.cell?, h1, hlt]

/-- Cells of a block, as a list of values. -/
theorem BRep.take {S w f cs l} (h : BRep S w f (.cells cs) l) (off n : Nat) (hle : off + n ≤ cs.length) :
    ∃ vals : List Value, vals.length = n ∧ (∀ v ∈ vals, v.oneCell' = true) ∧ Reps S w f ((cs.drop off).take n) vals ∧ ∀ i x, vals[i]? = some x → w.cell? ⟨l.b, l.base + off + i, none⟩ = some x := by
  obtain ⟨arr, t, h1, h2, h3, h4, h5⟩ := h
  refine ⟨(arr.toList.drop (l.base + off)).take n, ?_, fun v hv => ?_, ⟨?_, fun i x y hx hy => ?_⟩, fun i x hx => ?_⟩
  · simp; omega
  · obtain ⟨i, hi⟩ := List.mem_iff_getElem?.1 hv
    rw [List.getElem?_take] at hi
    split at hi
    · rw [List.getElem?_drop, Array.getElem?_toList] at hi
      exact h4 _ _ hi
    · cases hi
  · simp; omega
  · rw [List.getElem?_take] at hx hy
    split at hx
    · rename_i hlt
      rw [if_pos hlt] at hy
      rw [List.getElem?_drop] at hx hy
      rw [Array.getElem?_toList] at hy
      exact h5 _ x y hx (by rw [← hy]; congr 1; omega)
    · cases hx
  · rw [List.getElem?_take] at hx
    split at hx
    · rw [List.getElem?_drop, Array.getElem?_toList] at hx
      simp only [World.cell?, h1]
      simpa using hx
    · cases hx

def splice (cs : List AV) (p : Nat) (ys : List AV) : List AV := cs.take p ++ ys ++ cs.drop (p + ys.length)
theorem splice_one (cs : List AV) (p : Nat) (y : AV) (h : p < cs.length) : splice cs p [y] = cs.set p y := by
  simp [splice, List.set_eq_take_append_cons_drop, h]
theorem splice_len (cs : List AV) (p : Nat) (ys : List AV) (h : p ≤ cs.length) : (splice cs p ys).length = max cs.length (p + ys.length) := by
  simp [splice]; omega
theorem splice_get (cs : List AV) (p : Nat) (ys : List AV) (h : p ≤ cs.length) (i : Nat) : (splice cs p ys)[i]? = if p ≤ i ∧ i < p + ys.length then ys[i - p]? else cs[i]? := by
  unfold splice
  rw [List.getElem?_append, List.getElem?_append]
  simp only [List.length_append, List.length_take, List.getElem?_take, List.getElem?_drop]
  rw [Nat.min_eq_left h]
  by_cases h1 : i < p
  · have : i < p + ys.length := by omega
    simp [h1, this]; omega
  · by_cases h2 : i < p + ys.length
    · have h3 : p ≤ i := by omega
      simp [h1, h2, h3]
    · have h3 : ¬ (p ≤ i ∧ i < p + ys.length) := by omega
      rw [if_neg h2, if_neg h3]
      congr 1; omega

/-- Cells are stored into a block. -/
theorem store_cells {P : Program} {S w f h} (wf : Wf S w f h) {id : Nat} {cs : List AV} {l : Loc} (hk : h id = some (.cells cs)) (hl : f id = some l)
    (off : Nat) (ys : List AV) (vals : List Value) (hle : off ≤ cs.length) (hroom : l.base + off + vals.length ≤ l.n) (h1 : ∀ v ∈ vals, v.oneCell' = true) (hr : Reps S w f ys vals) :
    ∃ w', (storeCells ⟨l.b, l.base + off, none⟩ vals).run P w = .ok () w' ∧ Wf S w' f (upd h id (some (.cells (splice cs off ys)))) ∧
      Step (fun _ => True) S w f h S w' f (upd h id (some (.cells (splice cs off ys)))) := by
  obtain ⟨l', hl', hB⟩ := wf.hp.live id _ hk
  rw [hl] at hl'; cases hl'
  obtain ⟨arr, t, a1, a2, a3, a4, a5⟩ := hB
  have hlt : l.b < w.heap.size := (Array.getElem?_eq_some_iff.1 a1).1
  have hst := run_storeCells_at P l.b (l.base + off) t vals 0 arr w a1 (by omega) h1
  simp only [Nat.add_zero] at hst
  refine ⟨_, hst, ?_⟩
  have hoth : ∀ b, b ≠ l.b → (w.setRow l.b (arr.toList.take (l.base + off) ++ vals ++ arr.toList.drop (l.base + off + vals.length)).toArray).heap[b]? = w.heap[b]? :=
    fun b hb => setRow_other w l.b b _ (by omega)
  refine wf_write wf hk hl rfl rfl rfl (by simp [World.setRow]) hoth ?_
  have hlen : (arr.toList.take (l.base + off) ++ vals ++ arr.toList.drop (l.base + off + vals.length)).length = arr.size := by simp; omega
  have hget : ∀ i : Nat, (arr.toList.take (l.base + off) ++ vals ++ arr.toList.drop (l.base + off + vals.length))[i]? = if l.base + off ≤ i ∧ i < l.base + off + vals.length then vals[i - (l.base + off)]? else arr[i]? := fun i => by
    rw [List.getElem?_append, List.getElem?_append]
    simp only [List.length_append, List.length_take, List.getElem?_take, List.getElem?_drop, Array.length_toList, Array.getElem?_toList]
    rw [Nat.min_eq_left (by omega)]
    by_cases c1 : i < l.base + off
    · have : i < l.base + off + vals.length := by omega
      simp [c1, this]; omega
    · by_cases c2 : i < l.base + off + vals.length
      · simp [c1, c2, show l.base + off ≤ i by omega]
      · rw [if_neg c2, if_neg (by omega)]; congr 1; omega
  refine ⟨_, t, setRow_heap w l.b arr _ t _ a1, by simpa using hlen.trans a2, ?_, fun i x hx => ?_, fun i x y hx hy => ?_⟩
  · rw [splice_len _ _ _ hle]; have := hr.1; omega
  · rw [List.getElem?_toArray, hget] at hx
    split at hx
    · exact h1 x (List.mem_of_getElem? hx)
    · exact a4 i x hx
  · rw [List.getElem?_toArray, hget] at hy
    rw [splice_get _ _ _ hle] at hx
    have hS : ∀ b, S b → (w.setRow l.b (arr.toList.take (l.base + off) ++ vals ++ arr.toList.drop (l.base + off + vals.length)).toArray).heap[b]? = w.heap[b]? := fun b hb =>
      hoth b (fun e => (wf.st b hb).2 ⟨id, l, by rw [hk]; simp, hl, e.symm⟩)
    have hlen2 := hr.1
    by_cases c : off ≤ i ∧ i < off + ys.length
    · rw [if_pos c] at hx
      rw [if_pos (by omega)] at hy
      exact (hr.2 (i - off) x y hx (by rw [← hy]; congr 1; omega)).mono (fun _ h => h) hS (fun _ _ h => h)
    · rw [if_neg c] at hx
      rw [if_neg (by omega)] at hy
      exact (a5 i x y hx hy).mono (fun _ h => h) hS (fun _ _ h => h)

end Go.Sx
