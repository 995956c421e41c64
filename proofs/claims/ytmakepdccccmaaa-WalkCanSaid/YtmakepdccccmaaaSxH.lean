/- Literals, copy, made slices, comparisons with nil. No conditions. -/
import Derived.Test.YtmakepdccccmaaaSxG
set_option linter.unusedVariables false
set_option linter.unusedSimpArgs false
namespace Go.Sx

/-! ### Filled aggregates -/
def fillA : List AV → List (Nat × Nat × AV) → Option (List AV)
  | cs, [] => some cs
  | cs, (off, size, x) :: r => match x.cells? with
    | some ys => if ys.length = size ∧ off + size ≤ cs.length then fillA (splice cs off ys) r else none
    | none => none

theorem foldl_set (off : Nat) : ∀ (l : List Value) (k : Nat) (arr : Array Value), off + k + l.length ≤ arr.size →
    ((l.zipIdx k).foldl (fun cs (p : Value × Nat) => cs.setIfInBounds (off + p.2) p.1) arr).toList = arr.toList.take (off + k) ++ l ++ arr.toList.drop (off + k + l.length)
  | [], k, arr, h => by simp
  | v :: l, k, arr, h => by
    have ih := foldl_set off l (k + 1) (arr.setIfInBounds (off + k) v) (by simp at h ⊢; omega)
    simp only [List.zipIdx_cons, List.foldl_cons]
    rw [ih]
    have e := list_seg_step arr.toList (off + k) v l (by simp at h ⊢; omega)
    simpa [Array.toList_setIfInBounds, Nat.add_assoc] using e

/-- One list beside another, cell by cell, after a splice. -/
theorem reps_splice {S w f cs ys} {vals news : List Value} {off : Nat} (h : Reps S w f cs vals) (h2 : Reps S w f ys news) (hle : off + ys.length ≤ cs.length) :
    Reps S w f (splice cs off ys) (vals.take off ++ news ++ vals.drop (off + news.length)) := by
  have e1 := h.1
  have e2 := h2.1
  refine ⟨by simp [splice]; omega, fun i x y hx hy => ?_⟩
  rw [splice_get _ _ _ (by omega)] at hx
  rw [List.getElem?_append, List.getElem?_append] at hy
  simp only [List.length_append, List.length_take, List.getElem?_take, List.getElem?_drop] at hy
  rw [Nat.min_eq_left (by omega)] at hy
  by_cases c1 : i < off
  · rw [if_neg (by omega)] at hx
    simp only [c1, if_true, show i < off + news.length by omega] at hy
    exact h.2 i x y hx hy
  · by_cases c2 : i < off + ys.length
    · rw [if_pos (by omega)] at hx
      rw [if_pos (by omega), if_neg c1] at hy
      exact h2.2 _ x y hx hy
    · rw [if_neg (by omega)] at hx
      rw [if_neg (by omega)] at hy
      exact h.2 i x y hx (by rw [← hy]; congr 1; omega)

theorem fill_ok {S w f} (place : Nat → Option (Nat × Nat)) : ∀ (parts : List (Nat × Nat × AV)) (parts' : List (Nat × Value)) (cs cs' : List AV) (vals : List Value),
    parts'.length = parts.length → (∀ (i : Nat) p q, parts[i]? = some p → parts'[i]? = some q → place q.1 = some (p.1, p.2.1) ∧ Rep S w f p.2.2 q.2) →
    Reps S w f cs vals → (∀ v ∈ vals, v.oneCell' = true) → fillA cs parts = some cs' →
    ∃ vals', Instr.fill place vals.toArray parts' = some vals'.toArray ∧ Reps S w f cs' vals' ∧ (∀ v ∈ vals', v.oneCell' = true) ∧ vals'.length = vals.length
  | [], [], cs, cs', vals, _, _, hr, h1, hf => by
    simp only [fillA, Option.some.injEq] at hf; subst hf
    exact ⟨vals, rfl, hr, h1, rfl⟩
  | [], _ :: _, _, _, _, hl, _, _, _, _ => by simp at hl
  | _ :: _, [], _, _, _, hl, _, _, _, _ => by simp at hl
  | (off, size, x) :: r, (i, v) :: r', cs, cs', vals, hl, hp, hr, h1, hf => by
    simp only [fillA] at hf
    obtain ⟨hpl, hrx⟩ := hp 0 (off, size, x) (i, v) rfl rfl
    simp only at hpl hrx
    split at hf
    · rename_i ys hys
      obtain ⟨h1y, hry⟩ := cells_rep hrx hys
      split at hf
      · rename_i hb
        have e1 := hry.1
        have e2 := hr.1
        have hfold := foldl_set off v.cells.toList 0 vals.toArray (by simp at e1 ⊢; omega)
        obtain ⟨vals', h3, h4, h5, h6⟩ := fill_ok place r r' (splice cs off ys) cs' (vals.take off ++ v.cells.toList ++ vals.drop (off + v.cells.toList.length)) (by simpa using hl)
          (fun j p q hp' hq' => hp (j + 1) p q (by simpa using hp') (by simpa using hq')) (reps_splice hr hry (by omega))
          (fun u hu => by
            simp only [List.mem_append] at hu
            rcases hu with (hu | hu) | hu
            · exact h1 u (List.mem_of_mem_take hu)
            · exact h1y u hu
            · exact h1 u (List.mem_of_mem_drop hu)) hf
        refine ⟨vals', ?_, h4, h5, by rw [h6]; simp; simp at e1; omega⟩
        simp only [Instr.fill, hpl]
        rw [if_neg (by simp at e1 ⊢; omega)]
        rw [← h3]
        congr 1
        apply Array.ext'
        rw [← Array.foldl_toList, Array.toList_zipIdx]
        simpa using hfold
      · cases hf
    · cases hf

/-- A struct or an array by its parts. -/
def effBuild (zero : List Value) (parts : List (Nat × Nat × AV)) : Option Eff :=
  match fillA (zero.map .v) parts with
  | some cs => ret (.agg cs)
  | none => none

theorem good_build {P S w f h id t z} {zero : List Value} {parts : List (Nat × Nat × AV)} {parts' : List (Nat × Value)} {place : Nat → Option (Nat × Nat)} {E : Eff}
    (hz : (P.info? t).bind (·.zero) = some z) (hzc : z.cells.toList = zero) (h1 : zero.all (·.oneCell') = true)
    (hrun : ∀ cells : Array Value, Instr.fill place z.cells parts' = some cells → (Instr.build t parts'.toArray).run P w = .ok (.agg cells) w)
    (hl : parts'.length = parts.length) (hp : ∀ (i : Nat) p q, parts[i]? = some p → parts'[i]? = some q → place q.1 = some (p.1, p.2.1) ∧ Rep S w f p.2.2 q.2)
    (hE : effBuild zero parts = some E) : Good P E (do pure (.value (← Instr.build t parts'.toArray))) S w f h id := by
  unfold effBuild at hE
  split at hE
  · rename_i cs hcs
    have hzz : z.cells = zero.toArray := by subst hzc; simp
    obtain ⟨vals, h2, h3, h4, h5⟩ := fill_ok place parts parts' (zero.map .v) cs zero hl hp ⟨by simp, rep_vs _⟩ (fun v hv => by simpa using List.all_eq_true.1 h1 v hv) hcs
    refine good_pure hE (y := .agg vals.toArray) (by rw [Sem.run_bind, hrun _ (by rw [hzz]; exact h2)]; rfl) (.agg h3.1 h4 h3.2)
  · cases hE

theorem build_struct {P : Program} {w : World} {t fs z} {parts' : List (Nat × Value)} {places : Array (Nat × Nat)} (ht : P.underlying t = some (.struct fs)) (hz : (P.info? t).bind (·.zero) = some z)
    (hpl : (fs.mapM fun fd => do pure (fd.offset, ← sizeOf fd.type) : Sem (Array (Nat × Nat))).run P w = .ok places w) (cells : Array Value) (hf : Instr.fill (places[·]?) z.cells parts' = some cells) :
    (Instr.build t parts'.toArray).run P w = .ok (.agg cells) w := by
  cases hq : P.info? t with
  | none => simp [hq] at hz
  | some inf =>
    simp only [hq, Option.bind_some] at hz
    simp only [Instr.build, zeroValue, typeInfo, Sem.run_bind, run_program, Result.andThen_ok, hq, hz, Sem.run_pure, run_underlying ht, hpl, hf]

theorem build_array {P : Program} {w : World} {t n e z esz} {parts' : List (Nat × Value)} (ht : P.underlying t = some (.array n e)) (hz : (P.info? t).bind (·.zero) = some z)
    (he : (P.info? e).map (·.size) = some esz) (cells : Array Value) (hf : Instr.fill (fun i => some (i * esz, esz)) z.cells parts' = some cells) :
    (Instr.build t parts'.toArray).run P w = .ok (.agg cells) w := by
  cases hq : P.info? t with
  | none => simp [hq] at hz
  | some inf =>
    simp only [hq, Option.bind_some] at hz
    cases hq2 : P.info? e with
    | none => simp [hq2] at he
    | some inf2 =>
      have : inf2.size = esz := by simpa [hq2] using he
      subst this
      simp only [Instr.build, zeroValue, typeInfo, Sem.run_bind, run_program, Result.andThen_ok, hq, hz, Sem.run_pure, run_underlying ht, sizeOf, hq2, hf]

/-- A slice literal. -/
def effMks (len esz : Nat) (zeros : List Value) (parts : List (Nat × Nat × AV)) : Option Eff :=
  match fillA (zeros.map .v) parts with
  | some cs => effNew cs fun i => .ref i 0 len esz (some len)
  | none => none
theorem good_mks {P S w f h id t e esz len} {zeros : List Value} {parts : List (Nat × Nat × AV)} {parts' : List (Nat × Value)} {z : Value} {E : Eff}
    (ht : P.underlying t = some (.slice e)) (he : (P.info? e).map (·.size) = some esz) (hz : (P.info? e).bind (·.zero) = some z) (hpos : 0 < len * esz) (hmax : len * esz ≤ 16777216)
    (hzc : ((Array.range (len * esz)).map (z.cells[· % z.cells.size]!)).toList = zeros) (h1 : zeros.all (·.oneCell') = true)
    (hl : parts'.length = parts.length) (hp : ∀ (i : Nat) p q, parts[i]? = some p → parts'[i]? = some q → some (q.1 * esz, esz) = some (p.1, p.2.1) ∧ Rep S w f p.2.2 q.2)
    (hE : effMks len esz zeros parts = some E) : Good P E (do pure (.value (← Instr.buildSlice t len parts'.toArray))) S w f h id := by
  unfold effMks at hE
  split at hE
  · rename_i cs hcs
    obtain ⟨vals, h2, h3, h4, h5⟩ := fill_ok (fun i => some (i * esz, esz)) parts parts' (zeros.map .v) cs zeros hl hp ⟨by simp, rep_vs _⟩ (fun v hv => by simpa using List.all_eq_true.1 h1 v hv) hcs
    have hlen : vals.length = len * esz := by simp [h5, ← hzc]
    cases hq2 : P.info? e with
    | none => simp [hq2] at he
    | some inf2 =>
      have hsz : inf2.size = esz := by simpa [hq2] using he
      simp only [hq2, Option.bind_some] at hz
      have hzz : ((Array.range (len * esz)).map (z.cells[· % z.cells.size]!)) = zeros.toArray := by rw [← hzc]
      refine good_new (vals := vals) (t := e) hE (y := .slice (some ⟨w.heap.size, 0, none⟩) len len) ?_ h3 h4 (fun w' f' hf => ?_)
      · have hbig : ¬ (2 ^ 24 < len * esz) := by omega
        have hnz : ¬ (len * esz = 0) := by omega
        simp only [Instr.buildSlice, zeroValue, typeInfo, Sem.run_bind, run_program, Result.andThen_ok, hq2, hz, Sem.run_pure, run_underlying ht, sizeOf, hsz, hbig, hnz, if_false, hzz, h2, newRow, run_newObj, gt_iff_lt, World.alloc_eq]
      · have := Rep.ref (S := S) (w := w') (off := 0) (len := len) (esz := esz) (cap := some len) (c := len) hf (fun k hk => by cases hk; rfl) (fun hk => by cases hk) (by simp [hlen]) (Nat.le_refl _)
        simpa using this
  · cases hE

/-- The literal without elements. -/
def effMks0 (esz : Nat) : Option Eff := effNew [] fun i => .ref i 0 0 esz (some 0)
theorem good_mks0 {P S w f h id t e esz} {E : Eff} (ht : P.underlying t = some (.slice e)) (he : (P.info? e).map (·.size) = some esz) (hE : effMks0 esz = some E) :
    Good P E (do pure (.value (← Instr.buildSlice t 0 #[]))) S w f h id := by
  cases hq2 : P.info? e with
  | none => simp [hq2] at he
  | some inf2 =>
    refine good_new (vals := []) (t := e) hE (y := .slice (some ⟨w.heap.size, 0, none⟩) 0 0) ?_ .nil (fun v hv => by cases hv) (fun w' f' hf => ?_)
    · have e0 : (Array.range 0).map (fun x => (#[] : Array Value)[x % 0]!) = #[] := by simp
      simp [Instr.buildSlice, typeInfo, hq2, run_underlying ht, sizeOf, newRow, Instr.fill, Array.range_zero']
    · have := Rep.ref (S := S) (w := w') (off := 0) (len := 0) (esz := esz) (cap := some 0) (c := 0) hf (fun k hk => by cases hk; rfl) (fun hk => by cases hk) (by simp) (Nat.le_refl _)
      simpa using this

/-- make([]T, l, c), elements of one cell. -/
def effMk (bytes : Nat) (z : Value) (l c : AV) : Option Eff :=
  match l.int?, c.int? with
  | some l, some c => if 0 ≤ l ∧ l ≤ c ∧ c.toNat * (bytes + 1) ≤ 1099511627776 then effNew (List.replicate c.toNat (.v z)) fun i => .ref i 0 l.toNat 1 (some c.toNat) else none
  | _, _ => none
theorem wrap_i64 (n : Int) (h0 : 0 ≤ n) (h1 : n ≤ 1099511627776) : IntKind.i64.wrap n = n := by
  have : IntKind.i64.wrap n = ((n + 9223372036854775808) % 18446744073709551616) - 9223372036854775808 := by
    simp [IntKind.wrap, IntKind.bits, IntKind.signed]
    omega
  omega
theorem good_mk {P S w f h id t e z l c l' c' inf} {E : Eff} (ht : P.underlying t = some (.slice e)) (he : P.info? e = some inf) (hes : inf.size = 1) (hz : inf.zero = some z) (hzc : z.cells = #[z]) (h1 : z.oneCell' = true)
    (hl : Rep S w f l l') (hc : Rep S w f c c') (hE : effMk inf.bytes z l c = some E) : Good P E (do pure (.value (← Instr.makeSlice t l' c'))) S w f h id := by
  unfold effMk at hE
  split at hE
  · rename_i n m hn hm
    obtain ⟨k, rfl⟩ := int_rep hl hn
    obtain ⟨k', rfl⟩ := int_rep hc hm
    split at hE
    · rename_i hb
      obtain ⟨h0, hnm, hsz⟩ := hb
      have hm0 : m.toNat ≤ 1099511627776 := Nat.le_trans (Nat.le_mul_of_pos_right _ (by omega)) hsz
      have hbytes : inf.bytes * m.toNat ≤ 1099511627776 := by
        have : inf.bytes * m.toNat = m.toNat * inf.bytes := Nat.mul_comm _ _
        have : m.toNat * inf.bytes ≤ m.toNat * (inf.bytes + 1) := Nat.mul_le_mul_left _ (by omega)
        omega
      have hbytesI : (inf.bytes : Int) * m ≤ 1099511627776 := by
        have e : ((inf.bytes * m.toNat : Nat) : Int) = (inf.bytes : Int) * m := by push_cast; rw [Int.toNat_of_nonneg (by omega)]
        omega
      have w1 := wrap_i64 n h0 (by omega)
      have w2 := wrap_i64 m (by omega) (by omega)
      refine good_new (vals := List.replicate m.toNat z) (t := e) hE (y := .slice (some ⟨w.heap.size, 0, none⟩) n.toNat m.toNat) ?_ ⟨by simp, fun i x y hx hy => ?_⟩ (fun v hv => by rw [List.eq_of_mem_replicate hv]; exact h1) (fun w' f' hf => ?_)
      · have c1 : ¬ (m < 0) := by omega
        have c2 : ¬ (281474976710656 < (inf.bytes : Int) * m) := by omega
        have c3 : ¬ (n < 0) := by omega
        have c4 : ¬ (m < n) := by omega
        have harr : (Array.range m.toNat).map (fun x => z.cells[x % z.cells.size]!) = (List.replicate m.toNat z).toArray := by
          rw [hzc]
          apply Array.ext
          · simp
          · intro i hi1 hi2
            simp [Nat.mod_one]
        by_cases hz0 : m.toNat = 0
        · simp [Instr.makeSlice, run_underlying ht, asInt, asIntOf, typeInfo, he, w1, w2, c1, c2, c3, c4, hes, hz0, newRow, sizeOf, Array.range_zero']
        · have harr' := harr
          rw [hzc] at harr'
          simp [Instr.makeSlice, run_underlying ht, asInt, asIntOf, typeInfo, he, w1, w2, c1, c2, c3, c4, hes, hz0, newRow, sizeOf, zeroValue, hz, hzc]
          rw [show (List.replicate m.toNat z).toArray = Array.replicate m.toNat z by simp] at harr'
          simp at harr'
          rw [harr']
      · rw [List.getElem?_replicate] at hx hy
        split at hx
        · rename_i hlt
          rw [if_pos hlt] at hy
          cases hx; cases hy; exact .v _
        · cases hx
      · have := Rep.ref (S := S) (w := w') (off := 0) (len := n.toNat) (esz := 1) (cap := some m.toNat) (c := m.toNat) hf (fun k hk => by cases hk; rfl) (fun hk => by cases hk) (by simp) (by omega)
        simpa using this
    · cases hE
  · cases hE

/-! ### nil -/
theorem good_nilck {P S w f h id x u} {E : Eff} (o : Oper) (ρ : Operand → Value) (a : Operand) (ho : o.op = .nilCheck a) (hu : ρ a = u) (hx : Rep S w f x u) (hE : effNilck x = some E) : Good P E (execOp ρ o) S w f h id := by
  cases hx <;> simp only [effNilck, reduceCtorEq] at hE
  case ptr hf => exact good_pure hE (by simp [execOp, ho, hu]) (.ptr hf)
  case elt hl hS hc h1 hr => exact good_pure hE (by simp [execOp, ho, hu]) (.elt hl hS hc h1 hr)
  case fn g first captured fs cs h1 h2 hr1 hr2 =>
    cases g <;> simp only [effNilck, reduceCtorEq] at hE
    exact good_pure hE (by simp [execOp, ho, hu]) (.fn h1 h2 hr1 hr2)

/-- Which types are compared with nil. -/
def nilType : TypeDesc → Option Value
  | .slice _ => some (.slice none 0 0)
  | .pointer _ => some (.pointer none)
  | .map _ _ => some (.map none)
  | .func _ _ _ => some .nilFunc
  | .interface _ => some .nilIface
  | _ => none

def nilOf : Value → Option Bool
  | .slice a _ _ => some a.isNone
  | .pointer a => some a.isNone
  | .map a => some a.isNone
  | .nilFunc => some true
  | .func _ _ _ => some false
  | .nilIface => some true
  | .iface _ _ => some false
  | _ => none

/-- Does the value fit the type? -/
def fits : TypeDesc → Value → Bool
  | .slice _, .slice _ _ _ => true
  | .pointer _, .pointer _ => true
  | .map _ _, .map _ => true
  | .func _ _ _, .nilFunc => true
  | .func _ _ _, .func _ _ _ => true
  | .interface _, .nilIface => true
  | .interface _, .iface _ _ => true
  | _, _ => false

def nilA : TypeDesc → AV → Option Bool
  | d, .v x => if fits d x then nilOf x else none
  | .slice _, .ref _ _ _ _ _ => some false
  | .slice _, .il _ len _ => if len = 0 then none else some false
  | .func _ _ _, .fn _ _ _ => some false
  | .pointer _, .ptr _ _ => some false
  | .pointer _, .elt _ _ => some false
  | .interface _, .ifc _ _ => some false
  | .map _ _, .map _ => some false
  | _, _ => none
def effEqn (neg : Bool) (d : TypeDesc) (x : AV) : Option Eff :=
  match nilA d x with
  | some b => ret (.v (.bool (if neg then !b else b)))
  | none => none

theorem nilA_ok {S w f d x u b} (hx : Rep S w f x u) (h : nilA d x = some b) : fits d u = true ∧ nilOf u = some b := by
  cases hx
  case v =>
    have h' : (if fits d u then nilOf u else none) = some b := by
      cases d <;> simpa [nilA] using h
    split at h' <;> simp_all
  all_goals cases d <;> simp only [nilA, reduceCtorEq, Option.some.injEq] at h
  case il => split at h <;> simp_all [fits, nilOf]
  case nil => simp at h
  all_goals (subst h; exact ⟨rfl, rfl⟩)

theorem equal_nil' {P : Program} {t : TypeId} {d : TypeDesc} {u n : Value} {b : Bool} (hd : P.underlying t = some d) (hn : nilType d = some n) (hf : fits d u = true) (hb : nilOf u = some b) (w : World) (k : Nat) :
    (Op.equalIn (k + 1) t u n).run P w = .ok b w ∧ (Op.equalIn (k + 1) t n u).run P w = .ok b w := by
  cases d <;> simp only [nilType, Option.some.injEq, reduceCtorEq] at hn <;> subst hn <;> cases u <;> simp only [fits, reduceCtorEq, Bool.false_eq_true] at hf <;> simp only [nilOf, Option.some.injEq] at hb <;> subst hb
  all_goals simp only [Op.equalIn, Sem.run_bind, run_underlying hd, Result.andThen_ok]
  all_goals first
    | exact ⟨rfl, rfl⟩
    | (rename_i a; cases a <;> exact ⟨rfl, rfl⟩)
    | (rename_i a _ _; cases a <;> exact ⟨rfl, rfl⟩)
theorem equal_nil {P : Program} {t : TypeId} {d : TypeDesc} {u n : Value} {b : Bool} (hd : P.underlying t = some d) (hn : nilType d = some n) (hf : fits d u = true) (hb : nilOf u = some b) (w : World) :
    (Op.equal t u n).run P w = .ok b w ∧ (Op.equal t n u).run P w = .ok b w := equal_nil' hd hn hf hb w 9999

end Go.Sx
