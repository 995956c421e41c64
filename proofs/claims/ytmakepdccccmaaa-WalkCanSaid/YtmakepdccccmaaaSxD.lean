/- More effects: new variables, addresses, slices, aggregates. No conditions. -/
import Derived.Test.YtmakepdccccmaaaSxC
set_option linter.unusedVariables false
set_option linter.unusedSimpArgs false
namespace Go.Sx

/-! ### New variables -/
theorem brep_new {S : Nat → Prop} {w w' : World} {f' : Place} {cs : List AV} {vals : List Value} {t : TypeId} (hw : w'.heap = w.heap.push (.cells vals.toArray t)) (h1 : ∀ v ∈ vals, v.oneCell' = true)
    (hr : Reps S w' f' cs vals) : BRep S w' f' (.cells cs) ⟨w.heap.size, 0, vals.length⟩ := by
  refine ⟨vals.toArray, t, by rw [hw]; simp, by simp, by simp [hr.1], fun i x hx => h1 x (List.mem_of_getElem? (by simpa using hx)), fun i x y hx hy => hr.2 i x y hx (by simpa using hy)⟩

theorem upd_ext {f : Place} {id : Nat} {l : Loc} (h : f id = none) : ∀ j l', f j = some l' → upd f id (some l) j = some l' := fun j l' hj => by
  rw [upd_other]
  · exact hj
  · intro e; subst e; rw [h] at hj; cases hj

def effNew (cs : List AV) (v : Nat → AV) : Option Eff := some ⟨[], [], fun _ i => some ⟨v i, [], some (.cells cs)⟩⟩

/-- A new row of cells. -/
theorem good_new {P ex S w f h id} {cs : List AV} {v : Nat → AV} {E : Eff} {vals : List Value} {t : TypeId} {y : Value} (hE : effNew cs v = some E)
    (hrun : ex.run P w = .ok (.value y) (w.alloc (.cells vals.toArray t)))
    (hr : Reps S w f cs vals) (h1 : ∀ v ∈ vals, v.oneCell' = true)
    (hv : ∀ (w' : World) (f' : Place), f' id = some ⟨w.heap.size, 0, vals.length⟩ → Rep S w' f' (v id) y) : Good P E ex S w f h id := by
  cases hE
  intro wf hid v' h' he
  simp only [Eff.exec, getAll, setAll, Option.some.injEq, Prod.mk.injEq] at he
  obtain ⟨rfl, rfl⟩ := he
  have hstab : ∀ b, S b → (w.alloc (.cells vals.toArray t)).heap[b]? = w.heap[b]? := fun b hb => Go.RowKit.Below.heap_alloc _ _ _ (wf.st b hb).1
  have hr' : Reps S (w.alloc (.cells vals.toArray t)) (upd f id (some ⟨w.heap.size, 0, vals.length⟩)) cs vals := hr.mono (fun _ h => h) hstab (upd_ext hid)
  obtain ⟨hwf, hst⟩ := wf_alloc wf hid (w' := w.alloc (.cells vals.toArray t)) (o := .cells vals.toArray t) (k := .cells cs) (n := vals.length) rfl rfl rfl rfl (brep_new rfl h1 hr')
  exact ⟨_, y, _, _, hrun, .inl rfl, hv _ _ (upd_same _ _ _), hwf, hst, fun j hj => upd_other _ _ hj⟩

def effBox (x : AV) : Option Eff :=
  match x.cells? with
  | some cs => effNew cs fun i => .ptr i 0
  | none => none
theorem good_box {P S w f h id x u t} {E : Eff} (hx : Rep S w f x u) (hE : effBox x = some E) : Good P E (do pure (.value (← Instr.box t u))) S w f h id := by
  unfold effBox at hE
  split at hE
  · rename_i cs hcs
    obtain ⟨h1, hr⟩ := cells_rep hx hcs
    refine good_new (vals := u.cells.toList) (t := t) hE (y := .pointer (some ⟨w.heap.size, 0, none⟩)) ?_ hr h1 (fun w' f' hf => ?_)
    · simp [Instr.box, newVar, newRow]
    · simpa using Rep.ptr (off := 0) hf
  · cases hE

def effAlloc (zero : List Value) : Option Eff := effNew (zero.map .v) fun i => .ptr i 0
theorem good_alloc {P S w f h id t z} {zero : List Value} {E : Eff} (hz : (P.info? t).bind (·.zero) = some z) (hzc : z.cells.toList = zero) (h1 : zero.all (·.oneCell') = true) (hE : effAlloc zero = some E) :
    Good P E (do pure (.value (← Instr.alloc t true (.tuple #[])))) S w f h id := by
  refine good_new (vals := zero) (t := t) hE (y := .pointer (some ⟨w.heap.size, 0, none⟩)) ?_ ⟨by simp, rep_vs _⟩ (fun v hv => by simpa using List.all_eq_true.1 h1 v hv) (fun w' f' hf => ?_)
  · subst hzc
    cases hq : P.info? t with
    | none => simp [hq] at hz
    | some i =>
      simp only [hq, Option.bind_some] at hz
      simp [Instr.alloc, zeroValue, typeInfo, hq, hz, newVar, newRow]
  · simpa using Rep.ptr (off := 0) hf

/-! ### Addresses -/
theorem add_lit (b o n : Nat) : Addr.add ⟨b, o, none⟩ n = ⟨b, o + n, none⟩ := Addr.add_lit b o n

def effOff (k : Nat) : AV → Option Eff
  | .ptr i off => ret (.ptr i (off + k))
  | .elt cells off => ret (.elt cells (off + k))
  | _ => none
theorem good_off {P S w f h id x u s fs i fd n} {E : Eff} (hs : P.underlying s = some (.struct fs)) (hf : fs[i]? = some fd) (hn : (P.info? fd.type).map (·.size) = some n) (hn0 : n ≠ 0)
    (hx : Rep S w f x u) (hE : effOff fd.offset x = some E) : Good P E (do pure (.value (← Instr.fieldAt s u i))) S w f h id := by
  have key : ∀ b o, (do pure (Next.value (← Instr.fieldAt s (.pointer (some ⟨b, o, none⟩)) i)) : Sem Next).run P w = .ok (.value (.pointer (some ⟨b, o + fd.offset, none⟩))) w := fun b o => by
    cases hq : P.info? fd.type with
    | none => simp [hq] at hn
    | some inf =>
      have : inf.size ≠ 0 := by simp [hq] at hn; omega
      simp [Instr.fieldAt, run_underlying hs, hf, Instr.sureAddr, fieldPlace, sizeOf, typeInfo, hq, this, add_lit]
  cases hx <;> simp only [effOff, reduceCtorEq] at hE
  case ptr hl => exact good_pure hE (key _ _) (by simpa [Nat.add_assoc] using Rep.ptr (off := _ + fd.offset) hl)
  case elt hl hS hc h1 hr => exact good_pure hE (key _ _) (by simpa [Nat.add_assoc] using Rep.elt (off := _ + fd.offset) hl hS hc h1 hr)

def AV.int? : AV → Option Int
  | .v (.int _ n) => some n
  | _ => none
theorem int_rep {S w f x u n} (hx : Rep S w f x u) (h : x.int? = some n) : ∃ k, u = .int k n := by
  cases hx <;> simp only [AV.int?, reduceCtorEq] at h
  case v => split at h <;> simp_all

def effIdx (esz : Nat) (x i : AV) : Option Eff :=
  match x, i.int? with
  | .ref id off len _ _, some n => if 0 ≤ n ∧ n < len then ret (.ptr id (off + n.toNat * esz)) else none
  | .il cells len _, some n => if 0 ≤ n ∧ n < len then ret (.elt cells (n.toNat * esz)) else none
  | _, _ => none
theorem good_idx {P S w f h id x u i v t e esz} {E : Eff} (ht : P.underlying t = some (.slice e)) (he : (P.info? e).map (·.size) = some esz) (hx : Rep S w f x u) (hi : Rep S w f i v) (hE : effIdx esz x i = some E) :
    Good P E (do pure (.value (← Instr.indexAt t u v))) S w f h id := by
  have key : ∀ (b o len cap : Nat) k (n : Int), 0 ≤ n → n < len → (do pure (Next.value (← Instr.indexAt t (.slice (some ⟨b, o, none⟩) len cap) (.int k n))) : Sem Next).run P w = .ok (.value (.pointer (some ⟨b, o + n.toNat * esz, none⟩))) w := fun b o len cap k n h0 h1 => by
    cases hq : P.info? e with
    | none => simp [hq] at he
    | some inf =>
      have : inf.size = esz := by simpa [hq] using he
      simp [Instr.indexAt, asIntOf, run_underlying ht, h0, h1, sizeOf, typeInfo, hq, this, add_lit]
  unfold effIdx at hE
  split at hE
  · rename_i id' off len esz' cap n hn
    obtain ⟨k, rfl⟩ := int_rep hi hn
    split at hE
    · rename_i hb
      cases hx with
      | ref hf h1 h2 h3 h4 => exact good_pure hE (key _ _ _ _ k n hb.1 hb.2) (by simpa [Nat.add_assoc] using Rep.ptr (off := off + n.toNat * esz) hf)
    · cases hE
  · rename_i cells len full n hn
    obtain ⟨k, rfl⟩ := int_rep hi hn
    split at hE
    · rename_i hb
      cases hx with
      | nil => simp at hb; omega
      | il hl hS hc h1 hr hn hf => exact good_pure hE (key _ _ _ _ k n hb.1 hb.2) (Rep.elt hl hS hc h1 hr)
    · cases hE
  · cases hE

def effIdxA (n esz : Nat) (x i : AV) : Option Eff :=
  match x, i.int? with
  | .ptr id off, some k => if 0 ≤ k ∧ k < n then ret (.ptr id (off + k.toNat * esz)) else none
  | .elt cells off, some k => if 0 ≤ k ∧ k < n then ret (.elt cells (off + k.toNat * esz)) else none
  | _, _ => none
theorem good_idxA {P S w f h id x u i v t e n esz} {E : Eff} (ht : P.underlying t = some (.array n e)) (he : (P.info? e).map (·.size) = some esz) (hx : Rep S w f x u) (hi : Rep S w f i v) (hE : effIdxA n esz x i = some E) :
    Good P E (do pure (.value (← Instr.indexAt t u v))) S w f h id := by
  have key : ∀ (b o : Nat) k (m : Int), 0 ≤ m → m < n → (do pure (Next.value (← Instr.indexAt t (.pointer (some ⟨b, o, none⟩)) (.int k m))) : Sem Next).run P w = .ok (.value (.pointer (some ⟨b, o + m.toNat * esz, none⟩))) w := fun b o k m h0 h1 => by
    cases hq : P.info? e with
    | none => simp [hq] at he
    | some inf =>
      have : inf.size = esz := by simpa [hq] using he
      simp [Instr.indexAt, asIntOf, run_underlying ht, h0, h1, sizeOf, typeInfo, hq, this, add_lit, Instr.sureAddr]
  unfold effIdxA at hE
  split at hE
  · rename_i id' off m hm
    obtain ⟨k, rfl⟩ := int_rep hi hm
    split at hE
    · rename_i hb
      cases hx with
      | ptr hf => exact good_pure hE (key _ _ k m hb.1 hb.2) (by simpa [Nat.add_assoc] using Rep.ptr (off := off + m.toNat * esz) hf)
    · cases hE
  · rename_i cells off m hm
    obtain ⟨k, rfl⟩ := int_rep hi hm
    split at hE
    · rename_i hb
      cases hx with
      | elt hl hS hc h1 hr => exact good_pure hE (key _ _ k m hb.1 hb.2) (by simpa [Nat.add_assoc] using Rep.elt (off := off + m.toNat * esz) hl hS hc h1 hr)
    · cases hE
  · cases hE

/-! ### Lengths -/
def effLenSl : AV → Option Eff
  | .ref _ _ len _ _ => ret (.v (.int .i64 len))
  | .il _ len _ => ret (.v (.int .i64 len))
  | .v (.slice _ len _) => ret (.v (.int .i64 len))
  | _ => none
theorem good_lenSl {P S w f h id x u t ty e} {E : Eff} (ht : P.underlying t = some (.slice e)) (hx : Rep S w f x u) (hE : effLenSl x = some E) : Good P E (do pure (.value (← Builtin.len_ #[t] ty #[u]))) S w f h id := by
  have key : ∀ a n c, (do pure (Next.value (← Builtin.len_ #[t] ty #[.slice a n c])) : Sem Next).run P w = .ok (.value (.int .i64 n)) w := fun a n c => by simp [Builtin.len_, run_underlying ht, goInt]
  cases hx <;> simp only [effLenSl, reduceCtorEq] at hE
  case v =>
    cases u with
    | slice a n c => exact good_pure hE (key _ _ _) (.v _)
    | _ => cases hE
  all_goals exact good_pure hE (key _ _ _) (.v _)
def effLenS : AV → Option Eff
  | .v (.string s) => ret (.v (.int .i64 s.size))
  | _ => none
theorem good_lenS {P S w f h id x u t ty} {E : Eff} (ht : P.underlying t = some .string) (hx : Rep S w f x u) (hE : effLenS x = some E) : Good P E (do pure (.value (← Builtin.len_ #[t] ty #[u]))) S w f h id := by
  have key : ∀ s, (do pure (Next.value (← Builtin.len_ #[t] ty #[.string s])) : Sem Next).run P w = .ok (.value (.int .i64 s.size)) w := fun s => by simp [Builtin.len_, run_underlying ht, goInt]
  cases hx <;> simp only [effLenS, reduceCtorEq] at hE
  case v =>
    cases u with
    | string s => exact good_pure hE (key _) (.v _)
    | _ => cases hE
def effCap : AV → Option Eff
  | .ref _ _ _ _ (some c) => ret (.v (.int .i64 c))
  | .il _ len true => ret (.v (.int .i64 len))
  | .v (.slice _ _ c) => ret (.v (.int .i64 c))
  | _ => none
theorem good_cap {P S w f h id x u t ty e} {E : Eff} (ht : P.underlying t = some (.slice e)) (hx : Rep S w f x u) (hE : effCap x = some E) : Good P E (do pure (.value (← Builtin.cap_ #[t] ty #[u]))) S w f h id := by
  have key : ∀ a n c, (do pure (Next.value (← Builtin.cap_ #[t] ty #[.slice a n c])) : Sem Next).run P w = .ok (.value (.int .i64 c)) w := fun a n c => by simp [Builtin.cap_, run_underlying ht, goInt]
  cases hx
  case v =>
    cases u with
    | slice a n c => exact good_pure hE (key _ _ _) (.v _)
    | _ => cases hE
  case ref h1 h2 h3 h4 hf =>
    rename_i cap _ _
    cases cap with
    | none => cases hE
    | some k => rw [h1 k rfl]; exact good_pure hE (key _ _ _) (.v _)
  case il hl hS hc h1 hr hn hf =>
    rename_i full _ _ _ _
    cases full with
    | false => cases hE
    | true => rw [hf rfl]; exact good_pure hE (key _ _ _) (.v _)
  case nil =>
    rename_i full
    cases full with
    | false => cases hE
    | true => exact good_pure hE (key _ _ _) (.v _)
  all_goals cases hE

/-! ### Small ones -/
def effPick : AV → AV → AV → Option Eff
  | .v (.bool c), a, b => ret (if c then a else b)
  | _, _, _ => none
theorem good_pick {P S w f h id c a b u x y} {E : Eff} (hc : Rep S w f c u) (ha : Rep S w f a x) (hb : Rep S w f b y) (hE : effPick c a b = some E) :
    Good P E (do pure (.value (if ← asBool u then x else y))) S w f h id := by
  cases hc with
  | v u => cases u with
    | bool t => exact good_pure hE (y := if t then x else y) (by cases t <;> simp [asBool]) (by cases t <;> simpa)
    | _ => cases hE
  | _ => cases hE

def effNilck : AV → Option Eff
  | .ptr i off => ret (.ptr i off)
  | .elt c off => ret (.elt c off)
  | .fn (.func g) a b => ret (.fn (.func g) a b)
  | _ => none

def effExt (i : Nat) : AV → Option Eff
  | .tup vs => match vs[i]? with
    | some x => ret x
    | none => none
  | _ => none
theorem good_ext {P S w f h id x u i} {E : Eff} (hx : Rep S w f x u) (hE : effExt i x = some E) : Good P E (do pure (.value (← Instr.extract u i))) S w f h id := by
  cases hx <;> simp only [effExt, reduceCtorEq] at hE
  case tup vs vals hl hr =>
    split at hE
    · rename_i x hx
      have hi : i < vs.length := (List.getElem?_eq_some_iff.1 hx).1
      have hv : vals[i]? = some vals[i] := by simp
      exact good_pure hE (y := vals[i]) (by simp [Instr.extract, hl, hi]) (hr i x _ hx hv)
    · cases hE

def effMkfn (g : Fn) (first captured : List AV) : Option Eff := ret (.fn g first captured)
theorem good_mkfn {P S w f h id g first captured fs cs} {E : Eff} (h1 : Reps S w f first fs) (h2 : Reps S w f captured cs) (hE : effMkfn g first captured = some E) :
    Good P E (do pure (.value (← Instr.makeFunc g fs.toArray cs.toArray))) S w f h id :=
  good_pure hE rfl (.fn h1.1 h2.1 h1.2 h2.2)

def effMkifc (t : TypeId) (x : AV) : Option Eff := ret (.ifc t x)
theorem good_mkifc {P S w f h id x u t d} {E : Eff} (ht : P.underlying t = some d) (hd : ∀ ms, d ≠ .interface ms) (hx : Rep S w f x u) (hE : effMkifc t x = some E) :
    Good P E (do pure (.value (← Instr.makeInterface t u))) S w f h id := by
  refine good_pure hE (y := .iface t u) ?_ (.ifc hx)
  simp only [Instr.makeInterface, Sem.run_bind, run_underlying ht, Result.andThen_ok]
  cases d <;> simp_all

/-- A part of an aggregate. -/
def effFld (agg : Option Nat) (off : Nat) : AV → Option Eff
  | .agg cs => match agg with
    | none => match cs[off]? with
      | some x => ret x
      | none => none
    | some n => if off + n ≤ cs.length then ret (.agg ((cs.drop off).take n)) else none
  | _ => none
theorem part_run {P : Program} {S w f cs} {vals : List Value} {agg : Option Nat} {off : Nat} {t : TypeId} {d : TypeDesc} (hd : P.underlying t = some d) (ha : agg = if d.isRow then (P.info? t).map (·.size) else none) (hi : (P.info? t).isSome)
    (hl : vals.length = cs.length) (h1 : ∀ x ∈ vals, x.oneCell' = true) (hr : ∀ (i : Nat) x y, cs[i]? = some x → vals[i]? = some y → Rep S w f x y) {E : Eff} (hE : effFld agg off (.agg cs) = some E) :
    ∃ x y, ret x = some E ∧ (part t vals.toArray off).run P w = .ok y w ∧ Rep S w f x y := by
  obtain ⟨inf, hinf⟩ := Option.isSome_iff_exists.1 hi
  simp only [effFld] at hE
  by_cases hrow : d.isRow = true
  · simp only [hrow, if_true, hinf, Option.map_some] at ha
    subst ha
    simp only at hE
    split at hE
    · rename_i hle
      have hagg : (isAgg t).run P w = .ok true w := by
        unfold isAgg
        rw [Sem.run_bind, run_underlying hd w]
        cases d <;> simp_all [TypeDesc.isRow]
      refine ⟨_, .agg (vals.toArray.extract off (off + inf.size)), hE, by simp [part, hagg, sizeOf, typeInfo, hinf], ?_⟩
      have e : vals.toArray.extract off (off + inf.size) = ((vals.drop off).take inf.size).toArray := by
        apply Array.ext'
        simp [List.extract_eq_take_drop]
      rw [e]
      refine .agg (by simp; omega) (fun x hx => h1 x (List.mem_of_mem_drop (List.mem_of_mem_take hx))) (fun i x y hx hy => ?_)
      rw [List.getElem?_take] at hx hy
      split at hx
      · rename_i hlt
        rw [if_pos hlt] at hy
        rw [List.getElem?_drop] at hx hy
        exact hr _ x y hx hy
      · cases hx
    · cases hE
  · have hrow' : d.isRow = false := by simpa using hrow
    rw [hrow'] at ha
    simp only [Bool.false_eq_true, if_false] at ha
    subst ha
    simp only at hE
    split at hE
    · rename_i x hx
      have hagg : (isAgg t).run P w = .ok false w := by
        unfold isAgg
        rw [Sem.run_bind, run_underlying hd w]
        cases d <;> simp_all [TypeDesc.isRow]
      have hoff : off < cs.length := (List.getElem?_eq_some_iff.1 hx).1
      have hv : vals[off]? = some vals[off] := by simp
      exact ⟨x, vals[off], hE, by simp [part, hagg, hl, hoff], hr off x _ hx hv⟩
    · cases hE
theorem good_fld {P S w f h id x u s fs i fd d agg} {E : Eff} (hs : P.underlying s = some (.struct fs)) (hf : fs[i]? = some fd) (hd : P.underlying fd.type = some d) (ha : agg = if d.isRow then (P.info? fd.type).map (·.size) else none) (hi : (P.info? fd.type).isSome)
    (hx : Rep S w f x u) (hE : effFld agg fd.offset x = some E) : Good P E (do pure (.value (← Instr.field s u i))) S w f h id := by
  cases hx
  case agg cs vals hl h1 hr =>
    obtain ⟨x, y, h2, h3, h4⟩ := part_run hd ha hi hl h1 hr hE
    exact good_pure h2 (by simp [Instr.field, run_underlying hs, hf, asAgg, h3]) h4
  all_goals cases hE

def effEqnil (neg : Bool) : AV → Option Eff
  | .v .nilIface => ret (.v (.bool (!neg)))
  | .v .nilFunc => ret (.v (.bool (!neg)))
  | .v (.slice none _ _) => ret (.v (.bool (!neg)))
  | .v (.pointer none) => ret (.v (.bool (!neg)))
  | .v (.map none) => ret (.v (.bool (!neg)))
  | .ref _ _ _ _ _ => ret (.v (.bool neg))
  | .il _ len _ => if len = 0 then none else ret (.v (.bool neg))
  | .fn _ _ _ => ret (.v (.bool neg))
  | .ptr _ _ => ret (.v (.bool neg))
  | .ifc _ _ => ret (.v (.bool neg))
  | .map _ => ret (.v (.bool neg))
  | _ => none

end Go.Sx
