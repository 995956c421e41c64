/- Maps whose keys are numbers, strings, bools or rows of numbers; copy; clear. No conditions. -/
import Derived.Test.YteoiebmbgbgpgaaSxJFtoH
import Derived.MapKept
import Derived.ChangeKeysEq
set_option linter.unusedVariables false
set_option linter.unusedSimpArgs false
namespace Go.Sx
inductive KTy where
  | sc (d : TypeDesc)
  | ar (n : Nat) (k : IntKind)
def allInt (k : IntKind) : List Value → Bool
  | [] => true
  | .int k' _ :: r => decide (k' = k) && allInt k r
  | _ => false
def KTy.ok : KTy → Value → Bool
  | .sc (.int k), .int k' _ => decide (k' = k)
  | .sc .bool, .bool _ => true
  | .sc .string, .string _ => true
  | .ar n k, .agg cs => decide (cs.size = n) && allInt k cs.toList
  | _, _ => false
def kEqL : List Value → List Value → Bool
  | [], [] => true
  | .int k a :: r, .int k' b :: s => decide (k = k') && a == b && kEqL r s
  | _, _ => false
def kEq : Value → Value → Bool
  | .int k a, .int k' b => decide (k = k') && a == b
  | .bool a, .bool b => a == b
  | .string a, .string b => a == b
  | .agg a, .agg b => kEqL a.toList b.toList
  | _, _ => false
theorem kEqL_eq : ∀ {a b : List Value}, kEqL a b = true → a = b
  | [], [], _ => rfl
  | [], b :: s, h => by cases b <;> simp [kEqL] at h
  | a :: r, [], h => by cases a <;> simp [kEqL] at h
  | a :: r, b :: s, h => by
    cases a <;> cases b <;> simp only [kEqL, Bool.false_eq_true, Bool.and_eq_true, decide_eq_true_eq, beq_iff_eq] at h
    obtain ⟨⟨rfl, rfl⟩, h3⟩ := h
    rw [kEqL_eq h3]
theorem kEq_eq {a b : Value} (h : kEq a b = true) : a = b := by
  cases a <;> cases b <;> simp only [kEq, Bool.false_eq_true, Bool.and_eq_true, decide_eq_true_eq, beq_iff_eq] at h
  case int.int => obtain ⟨rfl, rfl⟩ := h; rfl
  case bool.bool => rw [h]
  case string.string => rw [(MapKept.bytes_beq _ _).1 h]
  case agg.agg a b => have := kEqL_eq h; congr; exact Array.ext' this
def keyTy (P : Program) (kt : TypeId) : Option KTy :=
  match P.underlying kt with
  | some (.int k) => some (.sc (.int k))
  | some .bool => some (.sc .bool)
  | some .string => some (.sc .string)
  | some (.array n e) => match P.underlying e, P.info? e with
    | some (.int k), some i => if i.size = 1 then some (.ar n k) else none
    | _, _ => none
  | _ => none
def findE (u : Value) : List MapEntry → Nat → Option (Nat × Value)
  | [], _ => none
  | e :: es, i => if kEq u e.key then some (i, e.val) else findE u es (i + 1)
theorem isKey_ok {d : TypeDesc} {u : Value} (h : (KTy.sc d).ok u = true) : MapKept.IsKey d u := by
  cases d <;> cases u <;> simp_all [KTy.ok, MapKept.IsKey]
theorem sameNow_ok {d : TypeDesc} {u v : Value} (h : (KTy.sc d).ok u = true) (h' : (KTy.sc d).ok v = true) : Instr.sameNow d u v = some (kEq u v) := by
  cases d <;> cases u <;> simp only [KTy.ok, Bool.false_eq_true, decide_eq_true_eq] at h <;> cases v <;> simp only [KTy.ok, Bool.false_eq_true, decide_eq_true_eq] at h' <;> simp_all [Instr.sameNow, kEq]
theorem findNow_ok {d : TypeDesc} {u : Value} (h : (KTy.sc d).ok u = true) : ∀ (l : List MapEntry) (i : Nat), (∀ e ∈ l, (KTy.sc d).ok e.key = true) → Instr.findNow d u l i = some (findE u l i)
  | [], _, _ => rfl
  | e :: es, i, hl => by
    simp only [Instr.findNow, sameNow_ok h (hl e (by simp)), findE]
    cases kEq u e.key
    · simpa using findNow_ok h es (i + 1) (fun x hx => hl x (by simp [hx]))
    · simp
theorem allInt_get {k : IntKind} : ∀ {l : List Value} {i : Nat} {x : Value}, allInt k l = true → l[i]? = some x → ∃ n, x = .int k n
  | [], i, x, _, hx => by simp at hx
  | a :: l, 0, x, h, hx => by
    simp at hx; subst hx
    cases a <;> simp only [allInt, Bool.false_eq_true, Bool.and_eq_true, decide_eq_true_eq] at h
    obtain ⟨rfl, _⟩ := h; exact ⟨_, rfl⟩
  | a :: l, i + 1, x, h, hx => by
    cases a <;> simp only [allInt, Bool.false_eq_true, Bool.and_eq_true] at h
    exact allInt_get h.2 (by simpa using hx)
section
variable {P : Program} {w : World} {kt e : TypeId} {n : Nat} {k : IntKind} {inf : TypeInfo}
theorem run_part1 (he : P.underlying e = some (.int k)) {cs : Array Value} {i : Nat} {x : Value} (hx : cs[i]? = some x) : (part e cs i).run P w = .ok x w := by
  have hagg : (isAgg e).run P w = .ok false w := by
    unfold isAgg
    rw [Sem.run_bind, run_underlying he w]
    rfl
  unfold part
  rw [Sem.run_bind, hagg]
  simp only [Result.andThen_ok, Bool.false_eq_true, if_false, hx]
  rfl
theorem run_size1 (hi : P.info? e = some inf) (h1 : inf.size = 1) : (sizeOf e).run P w = .ok 1 w := by
  simp [sizeOf, typeInfo, hi, h1]
theorem checkKey_ar (hk : P.underlying kt = some (.array n e)) (he : P.underlying e = some (.int k)) (hi : P.info? e = some inf) (h1 : inf.size = 1) {u : Value} (hu : (KTy.ar n k).ok u = true) (em : Bool) (d : Nat) :
    (Instr.checkKey em (d + 2) kt u).run P w = .ok () w := by
  cases u <;> simp only [KTy.ok, Bool.false_eq_true, Bool.and_eq_true, decide_eq_true_eq] at hu
  rename_i cs
  obtain ⟨hn, hall⟩ := hu
  unfold Instr.checkKey
  simp only [Sem.run_bind, run_underlying hk, Result.andThen_ok]
  simp only [Std.Legacy.Range.forIn_eq_forIn_range', Std.Legacy.Range.size, Nat.sub_zero, Nat.add_one_sub_one, Nat.div_one]
  have key : ∀ is : List Nat, (∀ i ∈ is, i < n) → (forIn is PUnit.unit (fun i _ => do Instr.checkKey em (d + 1) e (← part e cs (i * (← sizeOf e))); pure (ForInStep.yield PUnit.unit) : Nat → PUnit → Sem (ForInStep PUnit))).run P w = .ok PUnit.unit w := by
    intro is
    induction is with
    | nil => intro _; rfl
    | cons i is ih =>
      intro hlt
      have hlt' : i < cs.size := by rw [hn]; exact hlt i (by simp)
      have hx : cs[i]? = some cs[i] := by simp [hlt']
      obtain ⟨m, hm⟩ := allInt_get (i := i) hall (by rw [Array.getElem?_toList]; exact hx)
      rw [List.forIn_cons]
      simp only [Sem.run_bind, run_size1 hi h1, Result.andThen_ok, Nat.mul_one, run_part1 he hx]
      have hc : (Instr.checkKey em (d + 1) e cs[i]).run P w = .ok () w := MapKept.run_checkKey he (by rw [hm]; simp [MapKept.IsKey]) em d
      rw [hc]
      simp only [Result.andThen_ok]
      exact ih (fun j hj => hlt j (by simp [hj]))
  have := key (List.range' 0 n) (fun i hi => by simpa using hi)
  simp only [bind_pure_comp] at this ⊢
  rw [this]
  rfl
theorem eqItems_ar (he : P.underlying e = some (.int k)) (d : Nat) (xs ys : Array Value) (hx : allInt k xs.toList = true) (hy : allInt k ys.toList = true) : ∀ (is : List Nat), (∀ i ∈ is, i < xs.size ∧ i < ys.size) →
    (Op.eqItems (d + 1) e 1 xs ys is).run P w = .ok (is.all fun i => match xs[i]?, ys[i]? with | some a, some b => kEq a b | _, _ => false) w
  | [], _ => by simp [Op.eqItems]
  | i :: is, hlt => by
    obtain ⟨h1, h2⟩ := hlt i (by simp)
    have hxi : xs[i]? = some xs[i] := by simp [h1]
    have hyi : ys[i]? = some ys[i] := by simp [h2]
    obtain ⟨a, ha⟩ := allInt_get (i := i) hx (by rw [Array.getElem?_toList]; exact hxi)
    obtain ⟨b, hb⟩ := allInt_get (i := i) hy (by rw [Array.getElem?_toList]; exact hyi)
    have e0 : (match xs[i]?, ys[i]? with | some a, some b => kEq a b | _, _ => false) = (a == b) := by
      rw [hxi, hyi]; simp only; rw [ha, hb]; simp [kEq]
    have heq : (Op.equalIn (d + 1) e xs[i] ys[i]).run P w = .ok (a == b) w := by
      rw [ha, hb]
      unfold Op.equalIn
      simp only [Sem.run_bind, run_underlying he, Result.andThen_ok, if_true]
      rfl
    simp only [Op.eqItems, Nat.mul_one, Sem.run_bind, run_part1 he hxi, run_part1 he hyi, Result.andThen_ok, heq]
    rw [List.all_cons, e0]
    cases hab : (a == b)
    · simp
    · simpa using eqItems_ar he d xs ys hx hy is (fun j hj => hlt j (by simp [hj]))
theorem all_range_kEq : ∀ (xs ys : List Value) (k : IntKind), allInt k xs = true → allInt k ys = true → xs.length = ys.length →
    ((List.range xs.length).all fun i => match xs[i]?, ys[i]? with | some a, some b => kEq a b | _, _ => false) = kEqL xs ys
  | [], [], _, _, _, _ => by simp [kEqL]
  | [], y :: ys, _, _, _, h => by simp at h
  | x :: xs, [], _, _, _, h => by simp at h
  | x :: xs, y :: ys, k, hx, hy, h => by
    cases x <;> simp only [allInt, Bool.false_eq_true, Bool.and_eq_true, decide_eq_true_eq] at hx
    cases y <;> simp only [allInt, Bool.false_eq_true, Bool.and_eq_true, decide_eq_true_eq] at hy
    have ih := all_range_kEq xs ys k hx.2 hy.2 (by simpa using h)
    rw [List.length_cons, List.range_succ_eq_map, List.all_cons, List.all_map]
    simp only [List.getElem?_cons_zero, kEqL, kEq]
    rw [← ih]
    congr 1
theorem equal_ar (hk : P.underlying kt = some (.array n e)) (he : P.underlying e = some (.int k)) (hi : P.info? e = some inf) (h1 : inf.size = 1) {u v : Value} (hu : (KTy.ar n k).ok u = true) (hv : (KTy.ar n k).ok v = true) :
    (Op.equal kt u v).run P w = .ok (kEq u v) w := by
  cases u <;> simp only [KTy.ok, Bool.false_eq_true, Bool.and_eq_true, decide_eq_true_eq] at hu
  cases v <;> simp only [KTy.ok, Bool.false_eq_true, Bool.and_eq_true, decide_eq_true_eq] at hv
  rename_i xs ys
  have hc : P.cellsOf e = 1 := by simp [Program.cellsOf, hi, h1]
  show (Op.equalIn (9999 + 1) kt (.agg xs) (.agg ys)).run P w = _
  rw [run_equalIn_array w 9999 xs ys hk hi, hc]
  rw [eqItems_ar he 9998 xs ys hu.2 hv.2 (List.range n) (fun i hi => by have := List.mem_range.1 hi; omega)]
  have := all_range_kEq xs.toList ys.toList k hu.2 hv.2 (by simp [hu.1, hv.1])
  simp only [Array.length_toList, Array.getElem?_toList, hu.1] at this
  rw [this]
  rfl
theorem findAsking_ar (hk : P.underlying kt = some (.array n e)) (he : P.underlying e = some (.int k)) (hi : P.info? e = some inf) (h1 : inf.size = 1) {u : Value} (hu : (KTy.ar n k).ok u = true) :
    ∀ (l : List MapEntry) (i : Nat), (∀ x ∈ l, (KTy.ar n k).ok x.key = true) → (Instr.findAsking kt u l i).run P w = .ok (findE u l i) w
  | [], i, _ => by simp [Instr.findAsking, findE]
  | x :: l, i, hl => by
    simp only [Instr.findAsking, Sem.run_bind, equal_ar hk he hi h1 hu (hl x (by simp)), Result.andThen_ok, findE]
    cases kEq u x.key
    · simpa using findAsking_ar hk he hi h1 hu l (i + 1) (fun y hy => hl y (by simp [hy]))
    · simp
end
theorem sameBits_int {k : IntKind} : ∀ (l : List Value) (m : Nat), allInt k l = true → (l.zip l).all (fun (x, y) => Instr.sameBits m x y) = true
  | [], _, _ => rfl
  | x :: l, m, h => by
    cases x <;> simp only [allInt, Bool.false_eq_true, Bool.and_eq_true] at h
    simp only [List.zip_cons_cons, List.all_cons, Bool.and_eq_true]
    exact ⟨by simp [Instr.sameBits], sameBits_int l m h.2⟩
structure KLaws (P : Program) (kt : TypeId) (K : KTy) : Prop where
  check : ∀ (em : Bool) (u : Value) (w : World), K.ok u = true → (Instr.checkKey em 10000 kt u).run P w = .ok () w
  find : ∀ (u : Value) (l : List MapEntry) (w : World), K.ok u = true → (∀ x ∈ l, K.ok x.key = true) → (Instr.findKey kt u l).run P w = .ok (findE u l 0) w
  stays : ∀ (u : Value) (w : World), K.ok u = true → (Instr.keyThatStays u u).run P w = .ok u w
theorem keyTy_laws {P : Program} {kt : TypeId} {K : KTy} (h : keyTy P kt = some K) : KLaws P kt K := by
  have sc : ∀ d, P.underlying kt = some d → (∀ u, (KTy.sc d).ok u = true → Instr.sameBits 10000 u u = true) → KLaws P kt (.sc d) := fun d hd hs =>
    ⟨fun em u w hu => MapKept.run_checkKey hd (isKey_ok hu) em 9999, fun u l w hu hl => MapKept.run_findKey hd (findNow_ok hu l 0 hl), fun u w hu => by
      unfold Instr.keyThatStays; rw [if_pos (hs u hu)]; rfl⟩
  unfold keyTy at h
  split at h
  · rename_i k hd; cases h
    exact sc _ hd (fun u hu => by cases u <;> simp only [KTy.ok, Bool.false_eq_true] at hu; simp [Instr.sameBits])
  · rename_i hd; cases h
    exact sc _ hd (fun u hu => by cases u <;> simp only [KTy.ok, Bool.false_eq_true] at hu; simp [Instr.sameBits])
  · rename_i hd; cases h
    exact sc _ hd (fun u hu => by cases u <;> simp only [KTy.ok, Bool.false_eq_true] at hu; simp only [Instr.sameBits]; exact (MapKept.bytes_beq _ _).2 rfl)
  · rename_i n e hd
    split at h
    · rename_i k inf he hi
      split at h
      · rename_i h1
        cases h
        refine ⟨fun em u w hu => checkKey_ar hd he hi h1 hu em 9998, fun u l w hu hl => ?_, fun u w hu => ?_⟩
        · unfold Instr.findKey
          rw [Sem.run_bind, run_underlying hd w]
          simp only [Result.andThen_ok]
          cases l with
          | nil => simp [Instr.findNow, findE]
          | cons x l =>
            have : Instr.findNow (.array n e) u (x :: l) 0 = none := by simp [Instr.findNow, Instr.sameNow]
            simp only [this]
            exact findAsking_ar hd he hi h1 hu (x :: l) 0 hl
        · cases u <;> simp only [KTy.ok, Bool.false_eq_true, Bool.and_eq_true, decide_eq_true_eq] at hu
          unfold Instr.keyThatStays
          rw [if_pos]
          · rfl
          · simp only [Instr.sameBits, beq_self_eq_true, Bool.true_and]
            exact sameBits_int _ _ hu.2
      · cases h
    · cases h
  · cases h
/-! ### The effects -/
def findK (u : Value) : List (Value × AV) → Nat → Option (Nat × AV)
  | [], _ => none
  | (k, x) :: es, i => if kEq u k then some (i, x) else findK u es (i + 1)
def keysOk (K : KTy) : List (Value × AV) → Bool
  | [] => true
  | (k, _) :: es => K.ok k && keysOk K es
def MRep (S : Nat → Prop) (w : World) (f : Place) (es : List (Value × AV)) (en : Array MapEntry) : Prop :=
  en.size = es.length ∧ ∀ (i : Nat) k x e, es[i]? = some (k, x) → en[i]? = some e → e.key = k ∧ e.born = i ∧ Rep S w f x e.val
theorem keysOk_get {K : KTy} : ∀ {es : List (Value × AV)} {i : Nat} {p : Value × AV}, keysOk K es = true → es[i]? = some p → K.ok p.1 = true
  | [], i, p, _, h => by simp at h
  | (k, x) :: es, 0, p, h, hp => by simp at hp; subst hp; simp only [keysOk, Bool.and_eq_true] at h; exact h.1
  | (k, x) :: es, i + 1, p, h, hp => by simp only [keysOk, Bool.and_eq_true] at h; exact keysOk_get h.2 (by simpa using hp)
theorem mrep_ok {K S w f es en} (h : MRep S w f es en) (hk : keysOk K es = true) : ∀ x ∈ en.toList, K.ok x.key = true := fun x hx => by
  obtain ⟨i, hi⟩ := List.mem_iff_getElem?.1 hx
  rw [Array.getElem?_toList] at hi
  have hlt : i < es.length := by rw [← h.1]; exact (Array.getElem?_eq_some_iff.1 hi).1
  obtain ⟨h1, _⟩ := h.2 i es[i].1 es[i].2 x (by simp [hlt]) hi
  rw [h1]
  exact keysOk_get (i := i) (p := es[i]) hk (by simp [hlt])
theorem find_same {S w f} (u : Value) : ∀ (es : List (Value × AV)) (l : List MapEntry) (i : Nat), l.length = es.length → (∀ (j : Nat) k x e, es[j]? = some (k, x) → l[j]? = some e → e.key = k ∧ Rep S w f x e.val) →
    (findK u es i = none ∧ findE u l i = none) ∨ ∃ j x e, findK u es i = some (i + j, x) ∧ findE u l i = some (i + j, e.val) ∧ es[j]? = some (u, x) ∧ l[j]? = some e ∧ e.key = u ∧ Rep S w f x e.val
  | [], [], i, _, _ => .inl ⟨rfl, rfl⟩
  | [], e :: l, i, h, _ => by simp at h
  | p :: es, [], i, h, _ => by simp at h
  | (k, x) :: es, e :: l, i, hl, h => by
    obtain ⟨h1, h2⟩ := h 0 k x e (by simp) (by simp)
    subst h1
    simp only [findK, findE]
    cases hk : kEq u e.key
    · rcases find_same u es l (i + 1) (by simpa using hl) (fun j k x e hx he => h (j + 1) k x e (by simpa using hx) (by simpa using he)) with h3 | ⟨j, x', e', g1, g2, g3, g4, g5⟩
      · exact .inl (by simpa using h3)
      · exact .inr ⟨j + 1, x', e', by simpa [Nat.add_assoc, Nat.add_comm 1 j] using g1, by simpa [Nat.add_assoc, Nat.add_comm 1 j] using g2, by simpa using g3, by simpa using g4, g5⟩
    · have := kEq_eq hk
      subst this
      exact .inr ⟨0, x, e, by simp, by simp, by simp, by simp, rfl, h2⟩
theorem find_mrep {S w f es en} (h : MRep S w f es en) (u : Value) : (findK u es 0 = none ∧ findE u en.toList 0 = none) ∨
    ∃ j x e, findK u es 0 = some (j, x) ∧ findE u en.toList 0 = some (j, e.val) ∧ es[j]? = some (u, x) ∧ en[j]? = some e ∧ e.key = u ∧ Rep S w f x e.val := by
  rcases find_same (S := S) (w := w) (f := f) u es en.toList 0 (by simpa using h.1) (fun j k x e hx he => by
    rw [Array.getElem?_toList] at he
    obtain ⟨a, b, c⟩ := h.2 j k x e hx he
    exact ⟨a, c⟩) with h1 | ⟨j, x, e, g1, g2, g3, g4, g5⟩
  · exact .inl h1
  · simp only [Nat.zero_add] at g1 g2
    exact .inr ⟨j, x, e, g1, g2, g3, by rw [← Array.getElem?_toList]; exact g4, g5⟩
def look (K : KTy) (u : Value) (zero : AV) : Blk → Option (AV × Bool)
  | .map es => if keysOk K es then (match findK u es 0 with
    | some (_, x) => some (x, true)
    | none => some (zero, false)) else none
  | _ => none
def effLook (K : KTy) (zero : Value) (ok : Bool) (m k : AV) : Option Eff :=
  match m, k.val with
  | .map id, some u => if K.ok u then some ⟨[id], [], fun bs _ => match bs with
    | [b] => ((look K u (ofVal zero) b).map fun p => if ok then .tup [p.1, .v (.bool p.2)] else p.1).map (⟨·, [], none⟩)
    | _ => none⟩ else none
  | _, _ => none
theorem run_zero {P : Program} {w : World} {t : TypeId} {z : Value} (hz : (P.info? t).bind (·.zero) = some z) : (zeroValue t).run P w = .ok z w := by
  obtain ⟨i, h1, h2⟩ := Option.bind_eq_some_iff.1 hz
  simp [zeroValue, typeInfo, h1, h2]
theorem good_look {P S w f h id m k u v mt kt et K z ok} {E : Eff} (hm : P.underlying mt = some (.map kt et)) (hK : keyTy P kt = some K) (hz : (P.info? et).bind (·.zero) = some z)
    (hx : Rep S w f m u) (hk : Rep S w f k v) (hE : effLook K z ok m k = some E) : Good P E (do pure (.value (← Instr.lookup mt u v ok))) S w f h id := by
  have L := keyTy_laws hK
  unfold effLook at hE
  split at hE
  · rename_i i u' hu'
    split at hE
    · rename_i hok
      cases hE
      cases hx with
      | @map _ _ l hf =>
      have hv := val_rep hk hu'
      subst hv
      refine good_read (l := l) rfl hf (fun b x hB hx => ?_)
      obtain ⟨p, hp, rfl⟩ := Option.map_eq_some_iff.1 hx
      cases b with
      | cells cs => cases hp
      | bld u cs => cases hp
      | map es =>
        simp only [look] at hp
        split at hp
        · rename_i hkeys
          obtain ⟨en, g1, g2, g3, g4⟩ := hB
          have hM : MRep S w f es en := ⟨g3, g4⟩
          have hchk := fun em => L.check em v w hok
          have hfind := L.find v en.toList w hok (mrep_ok hM hkeys)
          rcases find_mrep hM v with ⟨a1, a2⟩ | ⟨j, x, e, a1, a2, a3, a4, a5, a6⟩
          · rw [a1] at hp
            cases hp
            refine ⟨if ok then .tuple #[z, .bool false] else z, ?_, ?_⟩
            · simp [Instr.lookup, run_underlying hm, MapKept.run_getObj_map g1, hchk, hfind, a2, run_zero hz, Result.andThen]
            · cases ok
              · exact ofVal_rep z
              · exact .tup (vals := [z, .bool false]) rfl (fun i x y hx hy => by
                  match i, hx, hy with
                  | 0, hx, hy => simp at hx hy; subst hx hy; exact ofVal_rep z
                  | 1, hx, hy => simp at hx hy; subst hx hy; exact .v _)
          · rw [a1] at hp
            cases hp
            refine ⟨if ok then .tuple #[e.val, .bool true] else e.val, ?_, ?_⟩
            · simp [Instr.lookup, run_underlying hm, MapKept.run_getObj_map g1, hchk, hfind, a2, Result.andThen]
            · cases ok
              · exact a6
              · exact .tup (vals := [e.val, .bool true]) rfl (fun i x y hx hy => by
                  match i, hx, hy with
                  | 0, hx, hy => simp at hx hy; subst hx hy; exact a6
                  | 1, hx, hy => simp at hx hy; subst hx hy; exact .v _)
        · cases hp
    · cases hE
  · cases hE
def effMkmap : Option Eff := some ⟨[], [], fun _ i => some ⟨.map i, [], some (.map [])⟩⟩
theorem good_mkmap {P S w f h id t} {E : Eff} (hE : effMkmap = some E) : Good P E (do pure (.value (← Instr.makeMap t none))) S w f h id := by
  cases hE
  intro wf hid v' h' he
  simp only [Eff.exec, getAll, setAll, Option.some.injEq, Prod.mk.injEq] at he
  obtain ⟨rfl, rfl⟩ := he
  obtain ⟨hwf, hst⟩ := wf_alloc wf hid (w' := w.alloc (.map #[] 0)) (o := .map #[] 0) (k := .map []) (n := 0) rfl rfl rfl rfl ⟨#[], (MapKept.heap_alloc w _).1, rfl, rfl, fun i k x e hx => by simp at hx⟩
  exact ⟨_, .map (some w.heap.size), _, _, rfl, .inl rfl, .map (l := ⟨w.heap.size, 0, 0⟩) (upd_same _ _ _), hwf, hst, fun j hj => upd_other _ _ hj⟩
theorem map_set {P : Program} {S w f h id es es' en en'} {l : Loc} (wf : Wf S w f h) (hb : h id = some (.map es)) (hl : f id = some l) (g1 : w.heap[l.b]? = some (.map en es.length)) (g0 : l.base = 0)
    (hM : ∀ w' : World, (∀ b, b ≠ l.b → w'.heap[b]? = w.heap[b]?) → MRep S w' f es' en') :
    ∃ w', (setObj l.b (.map en' es'.length)).run P w = .ok () w' ∧ Wf S w' f (upd h id (some (.map es'))) ∧ Step (fun _ => True) S w f h S w' f (upd h id (some (.map es'))) := by
  have hlt : l.b < w.heap.size := (Array.getElem?_eq_some_iff.1 g1).1
  have hoth : ∀ b, b ≠ l.b → ({ w with heap := w.heap.setIfInBounds l.b (.map en' es'.length) } : World).heap[b]? = w.heap[b]? := fun b hb => by simp [Ne.symm hb]
  obtain ⟨m1, m2⟩ := hM _ hoth
  obtain ⟨q1, q2⟩ := wf_write wf hb hl (k' := .map es') (w' := { w with heap := w.heap.setIfInBounds l.b (.map en' es'.length) }) rfl rfl rfl (by simp) hoth ⟨en', by simp [hlt], g0, m1, m2⟩
  exact ⟨_, MapKept.run_setObj_map _ g1, q1, q2⟩
def putK (u : Value) (x : AV) (es : List (Value × AV)) : List (Value × AV) :=
  match findK u es 0 with
  | some (i, _) => es.set i (u, x)
  | none => es ++ [(u, x)]
theorem mrep_mono {S w f es en w' f'} (h : MRep S w f es en) (hw : ∀ b, S b → w'.heap[b]? = w.heap[b]?) (hf : ∀ id l, f id = some l → f' id = some l) : MRep S w' f' es en :=
  ⟨h.1, fun i k x e hx he => let ⟨a, b, c⟩ := h.2 i k x e hx he; ⟨a, b, c.mono (fun _ h => h) hw hf⟩⟩
theorem mrep_set {S w f es en} (h : MRep S w f es en) {i : Nat} {k : Value} {x : AV} {v : Value} (hv : Rep S w f x v) (hi : i < es.length) (hk : ∀ p, es[i]? = some p → p.1 = k) (g : MapEntry → MapEntry) (hg : ∀ e, (g e).val = v ∧ (g e).born = e.born ∧ (e.key = k → (g e).key = k)) :
    MRep S w f (es.set i (k, x)) (en.modify i g) := by
  refine ⟨by simp [h.1], fun j k' x' e hx he => ?_⟩
  rw [Array.getElem?_modify] at he
  rw [List.getElem?_set] at hx
  by_cases e1 : i = j
  · subst e1
    simp only [if_true, hi] at hx
    cases hx
    simp only [if_true] at he
    have hlt : i < en.size := by rw [h.1]; exact hi
    have : en[i]? = some en[i] := by simp [hlt]
    rw [this] at he
    cases he
    obtain ⟨a, b, c⟩ := h.2 i es[i].1 es[i].2 en[i] (by simp [hi]) this
    have hk' := hk es[i] (by simp [hi])
    obtain ⟨q1, q2, q3⟩ := hg en[i]
    exact ⟨q3 (by rw [a, hk']), by rw [q2, b], by rw [q1]; exact hv⟩
  · simp only [if_neg e1] at hx he
    exact h.2 j k' x' e hx he
theorem mrep_push {S w f es en} (h : MRep S w f es en) {k : Value} {x : AV} {v : Value} (hv : Rep S w f x v) : MRep S w f (es ++ [(k, x)]) (en.push { key := k, val := v, born := es.length }) := by
  refine ⟨by simp [h.1], fun j k' x' e hx he => ?_⟩
  rw [Array.getElem?_push, h.1] at he
  by_cases e1 : j = es.length
  · subst e1
    simp at hx he
    obtain ⟨rfl, rfl⟩ := hx
    subst he
    exact ⟨rfl, rfl, hv⟩
  · rw [if_neg e1] at he
    have hlt : j < es.length := by
      have := (Array.getElem?_eq_some_iff.1 he).1
      rw [h.1] at this; exact this
    rw [List.getElem?_append_left hlt] at hx
    exact h.2 j k' x' e hx he
def effMset (K : KTy) (m k x : AV) : Option Eff :=
  match m, k.val with
  | .map id, some u => if K.ok u then some ⟨[id], [id], fun bs _ => match bs with
    | [.map es] => if keysOk K es then some ⟨.any, [some (.map (putK u x es))], none⟩ else none
    | _ => none⟩ else none
  | _, _ => none
theorem good_mset {P S w f h id m k x u v y mt kt et K} {E : Eff} (hm : P.underlying mt = some (.map kt et)) (hK : keyTy P kt = some K)
    (hx : Rep S w f m u) (hk : Rep S w f k v) (hy : Rep S w f x y) (hE : effMset K m k x = some E) : Good P E (do Instr.mapUpdate mt u v y; pure .skip) S w f h id := by
  have L := keyTy_laws hK
  unfold effMset at hE
  split at hE
  · rename_i i u' hu'
    split at hE
    · rename_i hok
      cases hE
      have hv := val_rep hk hu'
      subst hv
      cases hx with
      | @map _ _ l hf =>
      intro wf hid v' h' he
      obtain ⟨bs, r, hb0, hr, rfl, rfl⟩ := exec_inv he
      simp only at hb0 hr
      obtain ⟨b, hb, rfl⟩ := getAll_one hb0
      cases b with
      | cells cs => cases hr
      | bld u cs => cases hr
      | map es =>
        simp only at hr
        split at hr
        · rename_i hkeys
          cases hr
          obtain ⟨l', hl', hB⟩ := wf.hp.live i _ hb
          rw [hf] at hl'; cases hl'
          obtain ⟨en, g1, g2, g3, g4⟩ := hB
          have hM : MRep S w f es en := ⟨g3, g4⟩
          have hchk := fun em => L.check em v w hok
          have hfind := L.find v en.toList w hok (mrep_ok hM hkeys)
          have hS : ∀ w' : World, (∀ b, b ≠ l.b → w'.heap[b]? = w.heap[b]?) → ∀ b, S b → w'.heap[b]? = w.heap[b]? := fun w' hw' b hb' =>
            hw' b (fun e => (wf.st b hb').2 ⟨i, l, by rw [hb]; simp, hf, e.symm⟩)
          rcases find_mrep hM v with ⟨a1, a2⟩ | ⟨j, x', e, a1, a2, a3, a4, a5, a6⟩
          · have hput : putK v x es = es ++ [(v, x)] := by simp [putK, a1]
            obtain ⟨w', q1, q2, q3⟩ := map_set (P := P) (es' := es ++ [(v, x)]) (en' := en.push { key := v, val := y, born := es.length }) wf hb hf g1 g2
              (fun w' hw' => mrep_push (mrep_mono hM (hS w' hw') (fun _ _ h => h)) (hy.mono (fun _ h => h) (hS w' hw') (fun _ _ h => h)))
            have q1' : (setObj l.b (.map (en.push { key := v, val := y, born := es.length }) (es.length + 1))).run P w = .ok () w' := by simpa using q1
            refine ⟨.skip, undef, w', f, ?_, .inr ⟨rfl, rfl⟩, .any, by rw [hput]; simpa [setAll] using q2, by rw [hput]; simpa [setAll] using q3, fun _ _ => rfl⟩
            simp [Instr.mapUpdate, run_underlying hm, MapKept.run_getObj_map g1, hchk, hfind, a2, q1', Result.andThen]
          · have hput : putK v x es = es.set j (v, x) := by simp [putK, a1]
            have hj : j < es.length := (List.getElem?_eq_some_iff.1 a3).1
            obtain ⟨w', q1, q2, q3⟩ := map_set (P := P) (es' := es.set j (v, x)) (en' := en.modify j fun e => { e with key := v, val := y }) wf hb hf g1 g2
              (fun w' hw' => mrep_set (mrep_mono hM (hS w' hw') (fun _ _ h => h)) (hy.mono (fun _ h => h) (hS w' hw') (fun _ _ h => h)) hj (fun p hp => by rw [a3] at hp; cases hp; rfl) _ (fun e => ⟨rfl, rfl, fun _ => rfl⟩))
            have q1' : (setObj l.b (.map (en.modify j fun e => { e with key := v, val := y }) es.length)).run P w = .ok () w' := by simpa using q1
            refine ⟨.skip, undef, w', f, ?_, .inr ⟨rfl, rfl⟩, .any, by rw [hput]; simpa [setAll] using q2, by rw [hput]; simpa [setAll] using q3, fun _ _ => rfl⟩
            simp [Instr.mapUpdate, run_underlying hm, MapKept.run_getObj_map g1, hchk, hfind, a2, a4, a5, L.stays v w hok, q1', Result.andThen]
        · cases hr
    · cases hE
  · cases hE
def effMent (K : KTy) (zero : Value) (m k : AV) : Option Eff :=
  match m, k.val with
  | .map id, some u => if K.ok u then some ⟨[id], [id], fun bs _ => match bs with
    | [.map es] => if keysOk K es then (match findK u es 0 with
      | some (i, x) => some ⟨.tup [x, .v (.int .i64 i)], [some (.map (es.set i (u, x)))], none⟩
      | none => some ⟨.tup [ofVal zero, .v (.int .i64 es.length)], [some (.map (es ++ [(u, ofVal zero)]))], none⟩) else none
    | _ => none⟩ else none
  | _, _ => none
theorem rep_pair {S w f} {x : AV} {u v : Value} (h : Rep S w f x u) : Rep S w f (.tup [x, .v v]) (.tuple #[u, v]) :=
  .tup (vals := [u, v]) rfl (fun i x y hx hy => by
    match i, hx, hy with
    | 0, hx, hy => simp at hx hy; subst hx hy; exact h
    | 1, hx, hy => simp at hx hy; subst hx hy; exact .v _)
theorem good_ment {P S w f h id m k u v mt kt et K z} {E : Eff} (hm : P.underlying mt = some (.map kt et)) (hK : keyTy P kt = some K) (hz : (P.info? et).bind (·.zero) = some z)
    (hx : Rep S w f m u) (hk : Rep S w f k v) (hE : effMent K z m k = some E) : Good P E (do pure (.value (← Instr.mapEntry mt u v))) S w f h id := by
  have L := keyTy_laws hK
  unfold effMent at hE
  split at hE
  · rename_i i u' hu'
    split at hE
    · rename_i hok
      cases hE
      have hv := val_rep hk hu'
      subst hv
      cases hx with
      | @map _ _ l hf =>
      intro wf hid v' h' he
      obtain ⟨bs, r, hb0, hr, rfl, rfl⟩ := exec_inv he
      simp only at hb0 hr
      obtain ⟨b, hb, rfl⟩ := getAll_one hb0
      cases b with
      | cells cs => cases hr
      | bld u cs => cases hr
      | map es =>
        simp only at hr
        split at hr
        · rename_i hkeys
          obtain ⟨l', hl', hB⟩ := wf.hp.live i _ hb
          rw [hf] at hl'; cases hl'
          obtain ⟨en, g1, g2, g3, g4⟩ := hB
          have hM : MRep S w f es en := ⟨g3, g4⟩
          have hchk := fun em => L.check em v w hok
          have hfind := L.find v en.toList w hok (mrep_ok hM hkeys)
          have hS : ∀ w' : World, (∀ b, b ≠ l.b → w'.heap[b]? = w.heap[b]?) → ∀ b, S b → w'.heap[b]? = w.heap[b]? := fun w' hw' b hb' =>
            hw' b (fun e => (wf.st b hb').2 ⟨i, l, by rw [hb]; simp, hf, e.symm⟩)
          rcases find_mrep hM v with ⟨a1, a2⟩ | ⟨j, x', e, a1, a2, a3, a4, a5, a6⟩
          · simp only [a1] at hr
            cases hr
            obtain ⟨w', q1, q2, q3⟩ := map_set (P := P) (es' := es ++ [(v, ofVal z)]) (en' := en.push { key := v, val := z, born := es.length }) wf hb hf g1 g2
              (fun w' hw' => mrep_push (mrep_mono hM (hS w' hw') (fun _ _ h => h)) (ofVal_rep z))
            have q1' : (setObj l.b (.map (en.push { key := v, val := z, born := es.length }) (es.length + 1))).run P w = .ok () w' := by simpa using q1
            refine ⟨_, .tuple #[z, .int .i64 es.length], w', f, ?_, .inl rfl, rep_pair (ofVal_rep z), by simpa [setAll] using q2, by simpa [setAll] using q3, fun _ _ => rfl⟩
            simp [Instr.mapEntry, run_underlying hm, MapKept.run_getObj_map g1, hchk, hfind, a2, run_zero hz, q1', Result.andThen, goInt]
          · simp only [a1] at hr
            cases hr
            have hj : j < es.length := (List.getElem?_eq_some_iff.1 a3).1
            have hborn : e.born = j := (hM.2 j v x' e a3 a4).2.1
            have hmod : (en.modify j fun e => { e with key := v }) = en.modify j fun e' => { e' with key := v, val := e.val } := by
              apply Array.ext_getElem?
              intro m
              rw [Array.getElem?_modify, Array.getElem?_modify]
              split
              · rename_i e1; subst e1; rw [a4]; rfl
              · rfl
            obtain ⟨w', q1, q2, q3⟩ := map_set (P := P) (es' := es.set j (v, x')) (en' := en.modify j fun e => { e with key := v }) wf hb hf g1 g2
              (fun w' hw' => by
                rw [hmod]
                exact mrep_set (mrep_mono hM (hS w' hw') (fun _ _ h => h)) (a6.mono (fun _ h => h) (hS w' hw') (fun _ _ h => h)) hj (fun p hp => by rw [a3] at hp; cases hp; rfl) _ (fun e => ⟨rfl, rfl, fun _ => rfl⟩))
            have q1' : (setObj l.b (.map (en.modify j fun e => { e with key := v }) es.length)).run P w = .ok () w' := by simpa using q1
            refine ⟨_, .tuple #[e.val, .int .i64 j], w', f, ?_, .inl rfl, rep_pair (a6.mono (fun _ h => h) (fun b hb' => ?_) (fun _ _ h => h)), by simpa [setAll] using q2, by simpa [setAll] using q3, fun _ _ => rfl⟩
            · simp [Instr.mapEntry, run_underlying hm, MapKept.run_getObj_map g1, hchk, hfind, a2, a4, a5, L.stays v w hok, q1', Result.andThen, goInt, hborn]
            · exact wf.stable q3 b hb'
        · cases hr
    · cases hE
  · cases hE
def effMst (m s x : AV) : Option Eff :=
  match m, s.int? with
  | .map id, some n => some ⟨[id], [id], fun bs _ => match bs with
    | [.map es] => match es[n.toNat]? with
      | some p => if 0 ≤ n then some ⟨.any, [some (.map (es.set n.toNat (p.1, x)))], none⟩ else none
      | none => none
    | _ => none⟩
  | _, _ => none
theorem findIdx_born {S w f es en} (h : MRep S w f es en) {i : Nat} (hi : i < es.length) : en.findIdx? (fun e => (e.born : Int) == (i : Int)) = some i := by
  have hlt : i < en.size := by rw [h.1]; exact hi
  rw [Array.findIdx?_eq_some_iff_getElem]
  have born : ∀ j (hj : j < en.size), en[j].born = j := fun j hj => by
    have hj' : j < es.length := by rw [← h.1]; exact hj
    exact (h.2 j es[j].1 es[j].2 en[j] (by simp [hj']) (by simp [hj])).2.1
  refine ⟨hlt, by simp [born i hlt], fun j hji => ?_⟩
  rw [born j (by omega)]
  simp; omega
theorem good_mst {P S w f h id m s x u v y mt} {E : Eff} (hx : Rep S w f m u) (hs : Rep S w f s v) (hy : Rep S w f x y) (hE : effMst m s x = some E) :
    Good P E (do Instr.entryStore mt u v y; pure .skip) S w f h id := by
  unfold effMst at hE
  split at hE
  · rename_i i n hn
    cases hE
    obtain ⟨ik, rfl⟩ := int_rep hs hn
    cases hx with
    | @map _ _ l hf =>
    intro wf hid v' h' he
    obtain ⟨bs, r, hb0, hr, rfl, rfl⟩ := exec_inv he
    simp only at hb0 hr
    obtain ⟨b, hb, rfl⟩ := getAll_one hb0
    cases b with
    | cells cs => cases hr
    | bld u cs => cases hr
    | map es =>
      simp only at hr
      split at hr
      · rename_i p hp
        split at hr
        · rename_i h0
          cases hr
          obtain ⟨l', hl', hB⟩ := wf.hp.live i _ hb
          rw [hf] at hl'; cases hl'
          obtain ⟨en, g1, g2, g3, g4⟩ := hB
          have hM : MRep S w f es en := ⟨g3, g4⟩
          have hj : n.toNat < es.length := (List.getElem?_eq_some_iff.1 hp).1
          have hS : ∀ w' : World, (∀ b, b ≠ l.b → w'.heap[b]? = w.heap[b]?) → ∀ b, S b → w'.heap[b]? = w.heap[b]? := fun w' hw' b hb' =>
            hw' b (fun e => (wf.st b hb').2 ⟨i, l, by rw [hb]; simp, hf, e.symm⟩)
          obtain ⟨w', q1, q2, q3⟩ := map_set (P := P) (es' := es.set n.toNat (p.1, x)) (en' := en.modify n.toNat fun e => { e with val := y }) wf hb hf g1 g2
            (fun w' hw' => mrep_set (mrep_mono hM (hS w' hw') (fun _ _ h => h)) (hy.mono (fun _ h => h) (hS w' hw') (fun _ _ h => h)) hj (fun q hq => by rw [hp] at hq; cases hq; rfl) _ (fun e => ⟨rfl, rfl, fun h => h⟩))
          have hfi := findIdx_born hM hj
          have hnn : ((n.toNat : Nat) : Int) = n := Int.toNat_of_nonneg h0
          rw [hnn] at hfi
          have q1' : (setObj l.b (.map (en.modify n.toNat fun e => { e with val := y }) es.length)).run P w = .ok () w' := by simpa using q1
          refine ⟨.skip, undef, w', f, ?_, .inr ⟨rfl, rfl⟩, .any, by simpa [setAll] using q2, by simpa [setAll] using q3, fun _ _ => rfl⟩
          simp [Instr.entryStore, MapKept.run_getObj_map g1, asInt, asIntOf, hfi, q1', Result.andThen]
        · cases hr
      · cases hr
  · cases hE
/-! ### copy and clear -/
def effCopyL (esz : Nat) (x y : AV) : Option Eff :=
  match x, y with
  | .ref id off len esz' _, .ref id2 off2 n esz2 _ => if esz' = esz ∧ esz2 = esz ∧ len ≤ n then some ⟨[id, id2], [id], fun bs _ => match bs with
    | [.cells cs, .cells cs2] => if off + len * esz ≤ cs.length ∧ off2 + len * esz ≤ cs2.length then some ⟨.v (.int .i64 len), [some (.cells (splice cs off ((cs2.drop off2).take (len * esz))))], none⟩ else none
    | _ => none⟩ else none
  | _, _ => none
theorem good_copyL {P S w f h nid x y u v t tx ty e i} {E : Eff} (ht : P.underlying t = some (.slice e)) (hi : P.info? e = some i)
    (hx : Rep S w f x u) (hy : Rep S w f y v) (hE : effCopyL i.size x y = some E) : Good P E (do pure (.value (← Builtin.copy_ #[t, tx] ty #[u, v]))) S w f h nid := by
  unfold effCopyL at hE
  split at hE
  · rename_i id off len esz' cap id2 off2 n esz2 cap2
    split at hE
    · rename_i hc
      obtain ⟨rfl, h2, hle⟩ := hc
      cases hE
      intro wf hnid v' h' he
      obtain ⟨bs, r, hb0, hr, rfl, rfl⟩ := exec_inv he
      simp only at hb0 hr
      obtain ⟨b, rest, hb, hrest, rfl⟩ := getAll_cons hb0
      obtain ⟨b2, rest2, hb2, hrest2, rfl⟩ := getAll_cons hrest
      simp only [getAll, Option.some.injEq] at hrest2
      subst hrest2
      split at hr
      · rename_i cs cs2 heq
        simp only [List.cons.injEq, and_true] at heq
        obtain ⟨rfl, rfl⟩ := heq
        split at hr
        · rename_i hl
          cases hr
          cases hx with
          | @ref _ _ _ _ _ _ c L hf q1 q2 q3 q4 =>
          cases hy with
          | @ref _ _ _ _ _ _ c2 L2 hf2 p1 p2 p3 p4 =>
          obtain ⟨l', hl', hB⟩ := wf.hp.live _ _ hb2
          rw [hf2] at hl'; cases hl'
          obtain ⟨vals, v1, v2, v3, v4⟩ := hB.take _ _ hl.2
          have hmul : len * i.size ≤ c * i.size := Nat.mul_le_mul_right _ q4
          obtain ⟨w', q1', q2', q3'⟩ := store_cells (P := P) wf hb hf off _ vals (by omega) (by omega) v2 v3
          refine ⟨_, .int .i64 len, w', f, ?_, .inl rfl, .v _, by simpa [setAll] using q2', by simpa [setAll] using q3', fun _ _ => rfl⟩
          have hsz : (sizeOf e).run P w = .ok i.size w := by simp [sizeOf, typeInfo, hi]
          have hmin : Nat.min n len = len := Nat.min_eq_right hle
          have hcells := run_firstCells_some (P := P) w i.size len ⟨L2.b, L2.base + off2, none⟩ n c2 vals v1 (fun j u hu => by rw [add_lit]; exact v4 j u hu)
          have hlen : (Builtin.lenOf (.slice (some ⟨L2.b, L2.base + off2, none⟩) n c2)).run P w = .ok n w := rfl
          simp [Builtin.copy_, run_underlying ht, hlen, hmin, hsz, hcells, q1', goInt, Result.andThen]
        · cases hr
      · cases hr
    · cases hE
  · cases hE
def effCopy (esz : Nat) (x y : AV) : Option Eff :=
  match x with
  | .ref id off len esz' _ => if esz' = esz then (match src esz y with
    | some (n, ids, g) => if n ≤ len then some ⟨id :: ids, [id], fun bs _ => match bs with
      | .cells cs :: rest => match g rest with
        | some ys => if off + n * esz ≤ cs.length then some ⟨.v (.int .i64 n), [some (.cells (splice cs off ys))], none⟩ else none
        | none => none
      | _ => none⟩ else effCopyL esz x y
    | none => none) else none
  | _ => none
theorem good_copy {P S w f h nid x y u v t tx ty e i} {E : Eff} (ht : P.underlying t = some (.slice e)) (hk : (∃ e', P.underlying tx = some (.slice e')) ∨ P.underlying tx = some .string) (hi : P.info? e = some i)
    (hx : Rep S w f x u) (hy : Rep S w f y v) (hE : effCopy i.size x y = some E) : Good P E (do pure (.value (← Builtin.copy_ #[t, tx] ty #[u, v]))) S w f h nid := by
  unfold effCopy at hE
  split at hE
  · rename_i id off len esz' cap
    split at hE
    · rename_i hesz
      subst hesz
      split at hE
      · rename_i n ids g hs
        split at hE
        · rename_i hn
          cases hE
          intro wf hnid v' h' he
          obtain ⟨bs, r, hb0, hr, rfl, rfl⟩ := exec_inv he
          simp only at hb0 hr
          obtain ⟨b, rest, hb, hrest, rfl⟩ := getAll_cons hb0
          cases b with
          | map es => cases hr
          | bld u es => cases hr
          | cells cs =>
          simp only at hr
          split at hr
          · rename_i ys hg
            split at hr
            · rename_i hle
              cases hr
              cases hx with
              | @ref _ _ _ _ _ _ c L hf q1 q2 q3 q4 =>
              obtain ⟨news, hsrc, hyr⟩ := src_ok (P := P) (tx := tx) hk wf hy hs hrest hg
              have hnl := hsrc.newsLen
              have hmul : n * i.size ≤ c * i.size := Nat.mul_le_mul_right _ (by omega)
              obtain ⟨w', q1', q2', q3'⟩ := store_cells (P := P) wf hb hf off ys news (by omega) (by omega) hsrc.one hyr
              refine ⟨_, .int .i64 n, w', f, ?_, .inl rfl, .v _, by simpa [setAll] using q2', by simpa [setAll] using q3', fun _ _ => rfl⟩
              have hsz : (sizeOf e).run P w = .ok i.size w := by simp [sizeOf, typeInfo, hi]
              have hmin : Nat.min n len = n := Nat.min_eq_left hn
              simp [Builtin.copy_, run_underlying ht, hsrc.len w, hmin, hsz, hsrc.cells, q1', goInt, Result.andThen]
            · cases hr
          · cases hr
        · exact good_copyL ht hi hx hy hE
      · cases hE
    · cases hE
  · cases hE
def effClear (z : Value) (x : AV) : Option Eff :=
  match x with
  | .ref id off len esz _ => if esz = 1 ∧ len ≠ 0 then some ⟨[id], [id], fun bs _ => match bs with
    | [.cells cs] => if off + len ≤ cs.length then some ⟨.tup [], [some (.cells (splice cs off (List.replicate len (.v z))))], none⟩ else none
    | _ => none⟩ else if len = 0 then ret (.tup []) else none
  | .il _ 0 _ => ret (.tup [])
  | .v (.slice none 0 0) => ret (.tup [])
  | _ => none
theorem rep_tup0 {S w f} : Rep S w f (.tup []) (.tuple #[]) := .tup (vals := []) rfl (fun i x y hx => by simp at hx)
theorem good_clear {P S w f h nid x u t ty e z} {E : Eff} (ht : P.underlying t = some (.slice e)) (hz : (P.info? e).bind (·.zero) = some z) (hzc : z.cells = #[z]) (h1 : z.oneCell' = true)
    (hx : Rep S w f x u) (hE : effClear z x = some E) : Good P E (do pure (.value (← Builtin.clear_ #[t] ty #[u]))) S w f h nid := by
  unfold effClear at hE
  split at hE
  · rename_i id off len esz cap
    split at hE
    · rename_i hc
      obtain ⟨rfl, h0⟩ := hc
      cases hE
      intro wf hnid v' h' he
      obtain ⟨bs, r, hb0, hr, rfl, rfl⟩ := exec_inv he
      simp only at hb0 hr
      obtain ⟨b, hb, rfl⟩ := getAll_one hb0
      cases b with
      | map es => cases hr
      | bld u es => cases hr
      | cells cs =>
      simp only at hr
      split at hr
      · rename_i hle
        cases hr
        cases hx with
        | @ref _ _ _ _ _ _ c L hf q1 q2 q3 q4 =>
        obtain ⟨w', q1', q2', q3'⟩ := store_cells (P := P) wf hb hf off (List.replicate len (.v z)) (List.replicate len z) (by omega) (by simp; omega) (fun v hv => by rw [List.eq_of_mem_replicate hv]; exact h1) ⟨by simp, fun i x y hx hy => by
          rw [List.getElem?_replicate] at hx hy
          split at hx
          · rename_i hlt; rw [if_pos hlt] at hy; cases hx; cases hy; exact .v _
          · cases hx⟩
        refine ⟨_, .tuple #[], w', f, ?_, .inl rfl, rep_tup0, by simpa [setAll] using q2', by simpa [setAll] using q3', fun _ _ => rfl⟩
        have harr : (Builtin.zeroCells z.cells len).toList = List.replicate len z := by
          rw [hzc]
          unfold Builtin.zeroCells
          apply List.ext_getElem
          · simp
          · intro i hi1 hi2
            simp [Nat.mod_one]
        obtain ⟨m, rfl⟩ := Nat.exists_eq_succ_of_ne_zero h0
        simp [Builtin.clear_, run_underlying ht, run_zero hz, harr, q1', Result.andThen]
      · cases hr
    · split at hE
      · rename_i h0
        subst h0
        cases hx with
        | @ref _ _ _ _ _ _ c L hf q1 q2 q3 q4 =>
        exact good_pure hE (y := .tuple #[]) (by simp [Builtin.clear_, run_underlying ht, Result.andThen]) rep_tup0
      · cases hE
  · cases hx with
    | nil => exact good_pure hE (y := .tuple #[]) (by simp [Builtin.clear_, run_underlying ht, Result.andThen]) rep_tup0
    | emp => exact good_pure hE (y := .tuple #[]) (by simp [Builtin.clear_, run_underlying ht, Result.andThen]) rep_tup0
    | il hvl hS hc h1 hr hn hf => exact good_pure hE (y := .tuple #[]) (by simp [Builtin.clear_, run_underlying ht, Result.andThen]) rep_tup0
  · cases hx
    exact good_pure hE (y := .tuple #[]) (by simp [Builtin.clear_, run_underlying ht, Result.andThen]) rep_tup0
  · cases hE
/-! ### Arithmetic, comparison and conversion, in closed form -/
def wrapF (k : IntKind) (n : Int) : Int :=
  match k with
  | .i64 => match n with
    | .ofNat m => cond (Nat.ble m 9223372036854775807) n (k.wrap n)
    | .negSucc m => cond (Nat.ble m 9223372036854775807) n (k.wrap n)
  | k => k.wrap n
def ltF : Int → Int → Bool
  | .ofNat m, .ofNat n => Nat.blt m n
  | .negSucc _, .ofNat _ => true
  | .ofNat _, .negSucc _ => false
  | .negSucc m, .negSucc n => Nat.blt n m
def eqF : Int → Int → Bool
  | .ofNat m, .ofNat n => Nat.beq m n
  | .negSucc m, .negSucc n => Nat.beq m n
  | _, _ => false
theorem wrap_at (c d n : Int) (hc : 0 < d) (h2 : c = 2 * d) (h1 : -d ≤ n) (h3 : n < d) : (if decide (n % c ≥ d) = true then n % c - c else n % c) = n := by
  subst h2
  simp only [ge_iff_le, decide_eq_true_eq]
  by_cases hn : 0 ≤ n
  · rw [Int.emod_eq_of_lt hn (by omega), if_neg (by omega)]
  · have e : n % (2 * d) = n + 2 * d := by
      rw [← Int.add_emod_right, Int.emod_eq_of_lt (by omega) (by omega)]
    rw [e, if_pos (by omega)]; omega
theorem wrap_i64_of {n : Int} (h1 : -9223372036854775808 ≤ n) (h2 : n ≤ 9223372036854775807) : IntKind.i64.wrap n = n := by
  have h := wrap_at ((2 : Int) ^ 64) ((2 : Int) ^ 63) n (by decide) (by decide) (by have : ((2 : Int) ^ 63) = 9223372036854775808 := by decide
                                                                                    rw [this]; exact h1) (by have : ((2 : Int) ^ 63) = 9223372036854775808 := by decide
                                                                                                             rw [this]; omega)
  unfold IntKind.wrap
  simp only [IntKind.bits, IntKind.signed, Bool.true_and]
  exact h
theorem ble_cond {α : Type} (m c : Nat) (x y : α) : cond (Nat.ble m c) x y = if m ≤ c then x else y := by
  by_cases h : m ≤ c
  · rw [Nat.ble_eq_true_of_le h, if_pos h]; rfl
  · have : Nat.ble m c = false := by cases hh : Nat.ble m c with | false => rfl | true => exact absurd (Nat.le_of_ble_eq_true hh) h
    rw [this, if_neg h]; rfl
theorem wrapF_eq (k : IntKind) (n : Int) : wrapF k n = k.wrap n := by
  cases k <;> try rfl
  cases n with
  | ofNat m =>
    simp only [wrapF, ble_cond]
    split
    · rename_i h
      have h' : (m : Int) ≤ 9223372036854775807 := by omega
      exact (wrap_i64_of (by simp only [Int.ofNat_eq_natCast]; omega) (by simp only [Int.ofNat_eq_natCast]; exact h')).symm
    · rfl
  | negSucc m =>
    simp only [wrapF, ble_cond]
    split
    · rename_i h
      have h' : (m : Int) ≤ 9223372036854775807 := by omega
      exact (wrap_i64_of (by rw [Int.negSucc_eq]; omega) (by rw [Int.negSucc_eq]; omega)).symm
    · rfl
theorem ltF_eq (a b : Int) : ltF a b = decide (a < b) := by
  unfold ltF
  split
  · rename_i m n; rw [Bool.eq_iff_iff]; simp
  · rename_i m n; rw [Bool.eq_iff_iff]; simp; omega
  · rename_i m n; rw [Bool.eq_iff_iff]; simp; omega
  · rename_i m n; rw [Bool.eq_iff_iff]; simp; omega
theorem eqF_eq (a b : Int) : eqF a b = (a == b) := by
  unfold eqF
  split
  · rename_i m n; rw [Bool.eq_iff_iff]; simp; omega
  · rename_i m n; rw [Bool.eq_iff_iff]; simp
  · rename_i h1 h2
    cases a <;> cases b
    · exact absurd rfl (h1 _ _ rfl)
    · rfl
    · rfl
    · exact absurd rfl (h2 _ _ rfl)
def ibin : BinOp → IntKind → Int → Int → Option Value
  | .add, k, a, b => some (.int k (wrapF k (a + b)))
  | .sub, k, a, b => some (.int k (wrapF k (a - b)))
  | .mul, k, a, b => some (.int k (wrapF k (a * b)))
  | .quo, k, a, b => if eqF b 0 then none else some (.int k (wrapF k (a.tdiv b)))
  | .rem, k, a, b => if eqF b 0 then none else some (.int k (a.tmod b))
  | .eql, _, a, b => some (.bool (eqF a b))
  | .neq, _, a, b => some (.bool (!eqF a b))
  | .lss, _, a, b => some (.bool (ltF a b))
  | .leq, _, a, b => some (.bool (!ltF b a))
  | .gtr, _, a, b => some (.bool (ltF b a))
  | .geq, _, a, b => some (.bool (!ltF a b))
  | _, _, _, _ => none
theorem ibin_run {P : Program} {op : BinOp} {k : IntKind} {a b : Int} {v : Value} (t : TypeId) (x y : Operand) (h : ibin op k a b = some v) :
    pureRun P (do eqGuard op t x y (.int k a) (.int k b); binOp op t (.int k a) (.int k b)) = some v := by
  have hg : pureRun P (eqGuard op t x y (.int k a) (.int k b)) = some () := by unfold eqGuard; split <;> rfl
  rw [pureRun_bind, hg]
  simp only [Option.bind_some]
  cases op <;> simp only [ibin, reduceCtorEq, wrapF_eq, ltF_eq, eqF_eq] at h
  all_goals first
    | (cases h; simp [binOp, Op.intArith, Op.intCmp]; done)
    | (cases h; simp [binOp, Op.intCmp, bne]; done)
    | (cases h
       have e : ∀ a b : Int, (!decide (b < a)) = decide (a ≤ b) := fun a b => by rw [Bool.eq_iff_iff]; simp
       simp [e, binOp, Op.intCmp]; done)
    | (cases h
       simp [binOp, Op.intCmp]
       rw [Bool.eq_iff_iff]; simp; done)
    | (split at h
       · cases h
       · rename_i h0
         have h0' : ¬ b = 0 := by simpa using h0
         cases h
         simp [binOp, Op.intDiv, h0'])
def effIb (op : BinOp) (x y : AV) : Option Eff :=
  match x, y with
  | .v (.int k a), .v (.int k' b) => if k = k' then (match ibin op k a b with | some v => ret (.v v) | none => none) else none
  | _, _ => none
theorem good_ib {P S w f h id op t} {o1 o2 : Operand} {x y : AV} {u v : Value} {E : Eff} (hx : Rep S w f x u) (hy : Rep S w f y v) (hE : effIb op x y = some E) :
    Good P E (do pure (.value (← (do eqGuard op t o1 o2 u v; binOp op t u v)))) S w f h id := by
  unfold effIb at hE
  split at hE
  · rename_i k a k' b
    split at hE
    · rename_i hk
      subst hk
      split at hE
      · rename_i r hr
        cases hx; cases hy
        exact good_pure hE (pureRun_run (by rw [pureRun_bind, ibin_run t o1 o2 hr]; rfl) w) (.v _)
      · cases hE
    · cases hE
  · cases hE
def effBb (neg : Bool) (x y : AV) : Option Eff :=
  match x, y with
  | .v (.bool a), .v (.bool b) => ret (.v (.bool (if neg then a != b else a == b)))
  | _, _ => none
theorem good_bb {P S w f h id neg t} {o1 o2 : Operand} {x y : AV} {u v : Value} {E : Eff} (ht : P.underlying t = some .bool) (hx : Rep S w f x u) (hy : Rep S w f y v) (hE : effBb neg x y = some E) :
    Good P E (do pure (.value (← (do eqGuard (if neg then .neq else .eql) t o1 o2 u v; binOp (if neg then .neq else .eql) t u v)))) S w f h id := by
  unfold effBb at hE
  split at hE
  · rename_i a b
    cases hx; cases hy
    have heq : (Op.equal t (.bool a) (.bool b)).run P w = .ok (a == b) w := by
      show (Op.equalIn (9999 + 1) t (.bool a) (.bool b)).run P w = _
      unfold Op.equalIn
      simp only [Sem.run_bind, run_underlying ht, Result.andThen_ok]
      rfl
    cases neg
    · exact good_pure hE (by simp [eqGuard, binOp, heq, Result.andThen]) (.v _)
    · exact good_pure hE (by simp [eqGuard, binOp, heq, Result.andThen, bne]) (.v _)
  · cases hE
def effAeq (neg : Bool) (K : KTy) (x y : AV) : Option Eff :=
  match x.val, y.val with
  | some u, some v => if K.ok u && K.ok v then ret (.v (.bool (if neg then !kEq u v else kEq u v))) else none
  | _, _ => none
theorem good_aeq {P S w f h id neg t n k e inf} {o1 o2 : Operand} {x y : AV} {u v : Value} {E : Eff} (hk : P.underlying t = some (.array n e)) (he : P.underlying e = some (.int k)) (hi : P.info? e = some inf) (h1 : inf.size = 1)
    (hg : P.eqGuardType P.depth t = false) (hx : Rep S w f x u) (hy : Rep S w f y v) (hE : effAeq neg (.ar n k) x y = some E) :
    Good P E (do pure (.value (← (do eqGuard (if neg then .neq else .eql) t o1 o2 u v; binOp (if neg then .neq else .eql) t u v)))) S w f h id := by
  unfold effAeq at hE
  split at hE
  · rename_i u' v' hu hv
    have e1 := val_rep hx hu
    have e2 := val_rep hy hv
    subst e1 e2
    split at hE
    · rename_i hok
      simp only [Bool.and_eq_true] at hok
      have heq := equal_ar (w := w) hk he hi h1 hok.1 hok.2
      have hu' := hok.1
      have hv' := hok.2
      cases u <;> simp only [KTy.ok, Bool.false_eq_true] at hu'
      cases v <;> simp only [KTy.ok, Bool.false_eq_true] at hv'
      cases neg
      · exact good_pure hE (by simp [eqGuard, binOp, heq, hg, Result.andThen]) (.v _)
      · exact good_pure hE (by simp [eqGuard, binOp, heq, hg, Result.andThen]) (.v _)
    · cases hE
  · cases hE
def effNt (x : AV) : Option Eff :=
  match x with
  | .v (.bool b) => ret (.v (.bool !b))
  | _ => none
theorem good_nt {P S w f h id} {x : AV} {u : Value} {E : Eff} (hx : Rep S w f x u) (hE : effNt x = some E) : Good P E (do pure (.value (← Op.unary .not u))) S w f h id := by
  unfold effNt at hE
  split at hE
  · cases hx; exact good_pure hE rfl (.v _)
  · cases hE
def effCi (k : IntKind) (x : AV) : Option Eff :=
  match x with
  | .v (.int _ n) => ret (.v (.int k (wrapF k n)))
  | _ => none
theorem good_ci {P S w f h id s d k j} {x : AV} {u : Value} {E : Eff} (hs : P.underlying s = some (.int j)) (hd : P.underlying d = some (.int k)) (hx : Rep S w f x u) (hE : effCi k x = some E) : Good P E (do pure (.value (← convert s d u))) S w f h id := by
  unfold effCi at hE
  split at hE
  · cases hx
    refine good_pure hE ?_ (.v _)
    simp only [Sem.run_bind, convert, run_underlying hs, run_underlying hd, Result.andThen_ok, wrapF_eq]
    rfl
  · cases hE
def effBig (mx : Bool) (xs : List AV) : Option Eff :=
  match xs with
  | [.v (.int k a), .v (.int _ b)] => ret (.v (.int k (if mx then (if ltF a b then b else a) else (if ltF b a then b else a))))
  | _ => none
theorem good_big {P S w f h id mx} {xs : List AV} {us : List Value} {E : Eff} (hx : Reps S w f xs us) (hE : effBig mx xs = some E) :
    Good P E (do pure (.value (← (if mx then Builtin.max_ #[] 0 us.toArray else Builtin.min_ #[] 0 us.toArray)))) S w f h id := by
  unfold effBig at hE
  split at hE
  · rename_i k a k' b
    obtain ⟨hl, hr⟩ := hx
    match us, hl with
    | [u, v], _ =>
      have h1 := hr 0 _ u rfl rfl
      have h2 := hr 1 _ v rfl rfl
      cases h1; cases h2
      simp only [ltF_eq, decide_eq_true_eq] at hE
      cases mx
      · exact good_pure hE rfl (.v _)
      · exact good_pure hE rfl (.v _)
  · cases hE
end Go.Sx
