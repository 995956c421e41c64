/- The operations with their types looked up ahead, and that each is met by the model's. No conditions. -/
import Derived.Test.YteoiebmbgbgpgaaSxHm
import Derived.Test.YteoiebmbgbgpgaaSxIb
import Derived.Lib.AppendZeros
set_option linter.unusedVariables false
set_option linter.unusedSimpArgs false
namespace Go.Sx
/-! ### append of a made slice (the translation hands over its length), to nil -/
def effAppz (bytes : Nat) (z : Value) (x y : AV) : Option Eff :=
  match x, y.int? with
  | .v (.slice none 0 0), some n => if 0 < n ∧ n.toNat * (bytes + 1) ≤ 1099511627776 then effNew (List.replicate n.toNat (.v z)) fun i => .ref i 0 n.toNat 1 none else none
  | _, _ => none
theorem good_appz {P : Program} {S w f h nid x y u v t tn ty e i z kn} {E : Eff} (ht : P.underlying t = some (.slice e)) (htn : P.underlying tn = some (.int kn)) (hi : P.info? e = some i) (hes : i.size = 1) (hz : i.zero = some z) (hzc : z.cells = #[z]) (h1 : z.oneCell' = true)
    (hx : Rep S w f x u) (hy : Rep S w f y v) (hE : effAppz i.bytes z x y = some E) : Good P E (do pure (.value (← Builtin.append_ #[t, tn] ty #[u, v]))) S w f h nid := by
  unfold effAppz at hE
  split at hE
  · rename_i n hn
    obtain ⟨k, rfl⟩ := int_rep hy hn
    split at hE
    · rename_i hb
      obtain ⟨h0, hsz⟩ := hb
      cases hx
      obtain ⟨m, rfl⟩ := Int.eq_ofNat_of_zero_le (show 0 ≤ n by omega)
      simp only [Int.toNat_natCast] at hsz hE
      have hm0 : m ≤ 1099511627776 := Nat.le_trans (Nat.le_mul_of_pos_right _ (by omega)) hsz
      have hmb : m * i.bytes ≤ m * (i.bytes + 1) := Nat.mul_le_mul_left _ (by omega)
      have hrun := Go.Lib.run_append_nil_zeros (P := P) w t tn ty e i z k kn ht htn hi hz m (by omega) (by omega) (by omega) (by omega)
      cases hE
      intro wf hn' v' h' he
      obtain ⟨bs, r, hb0, hr, rfl, rfl⟩ := exec_inv he
      simp only at hb0 hr
      cases hr
      generalize hgc : grownCap w m 0 e = gc at hrun
      have hgc2 : m ≤ gc := by rw [← hgc]; unfold grownCap; exact Nat.le_add_right _ _
      have hone : ∀ (k j : Nat) (x : Value), (Builtin.zeroCells z.cells k)[j]? = some x → x = z := fun k j x hx => by
        have hm := Array.mem_of_getElem? hx
        rw [hzc] at hm
        unfold Builtin.zeroCells at hm
        simp only [Array.mem_map, Array.mem_range] at hm
        obtain ⟨q, hq, rfl⟩ := hm
        simp [Nat.mod_one]
      have hzl : ∀ k, (Builtin.zeroCells z.cells k).size = k := fun k => by simp [Builtin.zeroCells, hzc]
      have hall : ∀ (j : Nat) (x : Value), (Builtin.zeroCells z.cells m ++ Builtin.zeroCells z.cells (gc - m))[j]? = some x → x = z := fun j x hx => by
        rw [Array.getElem?_append] at hx
        split at hx
        · exact hone _ _ _ hx
        · exact hone _ _ _ hx
      have hsize : (Builtin.zeroCells z.cells m ++ Builtin.zeroCells z.cells (gc - m)).size = gc := by
        rw [Array.size_append, hzl, hzl]; omega
      have hheap : (w.drew.alloc (.cells (Builtin.zeroCells z.cells m ++ Builtin.zeroCells z.cells (gc - m)) e)).heap = w.heap.push (.cells (Builtin.zeroCells z.cells m ++ Builtin.zeroCells z.cells (gc - m)) e) := rfl
      have h2 := wf_alloc wf hn' (w' := w.drew.alloc (.cells (Builtin.zeroCells z.cells m ++ Builtin.zeroCells z.cells (gc - m)) e)) (k := .cells (List.replicate m (.v z))) (n := gc) hheap rfl rfl rfl (by
        refine ⟨_, e, by rw [hheap]; simp, hsize, by simp; omega, fun j x hx => by rw [hall j x hx]; exact h1, fun j x y hx hy => ?_⟩
        simp only [Nat.zero_add] at hy
        rw [List.getElem?_replicate] at hx
        split at hx
        · cases hx
          rw [hall j y hy]; exact .v _
        · cases hx)
      refine ⟨_, _, _, _, by rw [Sem.run_bind, hrun]; rfl, .inl rfl, ?_, by simpa [setAll] using h2.1, by simpa [setAll] using h2.2, fun j hj => upd_other _ _ hj⟩
      have := Rep.ref (S := S) (w := w.drew.alloc (.cells (Builtin.zeroCells z.cells m ++ Builtin.zeroCells z.cells (gc - m)) e)) (off := 0) (len := m) (esz := 1) (cap := none) (c := gc) (upd_same f nid (some (⟨w.heap.size, 0, gc⟩ : Loc))) (fun k hk => by cases hk) (fun _ => by simp) (by simp) hgc2
      simpa using this
    · cases hE
  · cases hE
inductive SOp where
  | mv (x : Operand)
  | pick (c a b : Operand)
  | box (x : Operand)
  | alloc (zero : List Value)
  | load1 (x : Operand)
  | loadN (n : Nat) (x : Operand)
  | store (n : Nat) (x y : Operand)
  | nilck (x : Operand)
  | bin (op : BinOp) (t : TypeId) (x y : Operand)
  | eqn (neg : Bool) (d : TypeDesc) (x : Operand)
  | un (op : UnOp) (x : Operand)
  | conv (s d : TypeId) (x : Operand)
  | mkfn (g : Fn) (first captured : List Operand)
  | mkifc (t : TypeId) (x : Operand)
  | off (k : Nat) (x : Operand)
  | idx (esz : Nat) (x i : Operand)
  | idxA (n esz : Nat) (x i : Operand)
  | slc (esz : Nat) (x : Operand) (lo hi mx : Option Operand)
  | slcA (n esz : Nat) (x : Operand) (lo hi mx : Option Operand)
  | ext (x : Operand) (i : Nat)
  | fld (agg : Option Nat) (off : Nat) (x : Operand)
  | build (zero : List Value) (parts : List (Nat × Nat × Operand))
  | mks (len esz : Nat) (zeros : List Value) (parts : List (Nat × Nat × Operand))
  | mks0 (esz : Nat)
  | mk (bytes : Nat) (z : Value) (l c : Operand)
  | lenSl (x : Operand)
  | lenS (x : Operand)
  | idxS (x i : Operand)
  | cst (n : Nat)
  | cap (x : Operand)
  | app (esz bytes : Nat) (x y : Operand)
  | appz (bytes : Nat) (z : Value) (x y : Operand)
  | big (mx : Bool) (xs : List Operand)
  | call (f : FuncId) (args : List Operand)
  | callv (x : Operand) (args : List Operand)
  | look (K : KTy) (zero : Value) (ok : Bool) (x k : Operand)
  | mkmap
  | mset (K : KTy) (m k x : Operand)
  | ment (K : KTy) (zero : Value) (m k : Operand)
  | mst (m s x : Operand)
  | copy (esz : Nat) (x y : Operand)
  | clear (z : Value) (x : Operand)
  | fail
  | ib (op : BinOp) (x y : Operand)
  | bb (neg : Bool) (x y : Operand)
  | aeq (neg : Bool) (K : KTy) (x y : Operand)
  | nt (x : Operand)
  | ci (k : IntKind) (x : Operand)
  | allocB (zero : List Value)
  | same (n : Nat) (x : Operand)
  | peq (neg : Bool) (x y : Operand)
  | appB (bytes : Nat) (x y : Operand)
  | sdata (x : Operand)
  | ustr (x y : Operand)
  | slcS (t : TypeId) (x : Operand) (lo hi : Option Operand)
def SOp.eff (P : Program) (ρ : Operand → AV) : SOp → Option Eff
  | .mv x => ret (ρ x)
  | .pick c a b => effPick (ρ c) (ρ a) (ρ b)
  | .box x => effBox (ρ x)
  | .alloc zero => effAlloc zero
  | .load1 x => effLoad1 (ρ x)
  | .loadN n x => effLoadN n (ρ x)
  | .store n x y => effStore n (ρ x) (ρ y)
  | .nilck x => effNilck (ρ x)
  | .bin op t x y => effPlain2 P (fun u v => do eqGuard op t x y u v; binOp op t u v) (ρ x) (ρ y)
  | .eqn neg d x => effEqn neg d (ρ x)
  | .un op x => effPlain1 P (Op.unary op) (ρ x)
  | .conv s d x => effPlain1 P (convert s d) (ρ x)
  | .mkfn g fs cs => effMkfn g (fs.map ρ) (cs.map ρ)
  | .mkifc t x => effMkifc t (ρ x)
  | .off k x => effOff k (ρ x)
  | .idx esz x i => effIdx esz (ρ x) (ρ i)
  | .idxA n esz x i => effIdxA n esz (ρ x) (ρ i)
  | .slc esz x lo hi mx => effSlc esz (ρ x) (lo.map ρ) (hi.map ρ) (mx.map ρ)
  | .slcA n esz x lo hi mx => effSlcA n esz (ρ x) (lo.map ρ) (hi.map ρ) (mx.map ρ)
  | .ext x i => effExt i (ρ x)
  | .fld agg o x => effFld agg o (ρ x)
  | .build zero parts => effBuild zero (parts.map fun p => (p.1, p.2.1, ρ p.2.2))
  | .mks len esz zeros parts => effMks len esz zeros (parts.map fun p => (p.1, p.2.1, ρ p.2.2))
  | .mks0 esz => effMks0 esz
  | .mk bytes z l c => effMk bytes z (ρ l) (ρ c)
  | .lenSl x => effLenSl (ρ x)
  | .lenS x => effLenS (ρ x)
  | .idxS x i => effIdxS (ρ x) (ρ i)
  | .cst n => ret (.v (.int .i64 n))
  | .cap x => effCap (ρ x)
  | .app esz bytes x y => effApp esz bytes (ρ x) (ρ y)
  | .appz bytes z x y => effAppz bytes z (ρ x) (ρ y)
  | .big mx xs => effBig mx (xs.map ρ)
  | .call _ _ => none
  | .callv _ _ => none
  | .look K z ok x k => effLook K z ok (ρ x) (ρ k)
  | .mkmap => effMkmap
  | .mset K m k x => effMset K (ρ m) (ρ k) (ρ x)
  | .ment K z m k => effMent K z (ρ m) (ρ k)
  | .mst m s x => effMst (ρ m) (ρ s) (ρ x)
  | .copy esz x y => effCopy esz (ρ x) (ρ y)
  | .clear z x => effClear z (ρ x)
  | .fail => none
  | .ib op x y => effIb op (ρ x) (ρ y)
  | .bb neg x y => effBb neg (ρ x) (ρ y)
  | .aeq neg K x y => effAeq neg K (ρ x) (ρ y)
  | .nt x => effNt (ρ x)
  | .ci k x => effCi k (ρ x)
  | .allocB zero => effAllocB zero
  | .same n x => effSame n (ρ x)
  | .peq neg x y => effPeq neg (ρ x) (ρ y)
  | .appB bytes x y => effAppB bytes (ρ x) (ρ y)
  | .sdata x => effSdata (ρ x)
  | .ustr x y => effUstr (ρ x) (ρ y)
  | .slcS t x lo hi => effSlcS P t (ρ x) (lo.map ρ) (hi.map ρ)
/-! ### Compiling one operation -/
def aggN (P : Program) (t : TypeId) : Option (Option Nat) :=
  match P.underlying t, P.info? t with
  | some d, some i => if d.isRow then some (some i.size) else some none
  | _, _ => none
def zeroOf (P : Program) (t : TypeId) : Option (List Value) :=
  match (P.info? t).bind (·.zero) with
  | some z => if z.cells.toList.all (·.oneCell') then some z.cells.toList else none
  | none => none
def isNilConst (d : TypeDesc) : Operand → Bool
  | .const (.slice none 0 0) => (d matches .slice _)
  | .const (.pointer none) => (d matches .pointer _)
  | .const (.map none) => (d matches .map _ _)
  | .const .nilFunc => (d matches .func _ _ _)
  | .const .nilIface => (d matches .interface _)
  | _ => false
def isSeq : TypeDesc → Bool
  | .slice _ => true
  | .string => true
  | _ => false
def compBuiltin (P : Program) (b : Builtin) (args : Array Operand) (ts : Array TypeId) : Option SOp :=
  match b, args.toList, ts.toList with
  | .len, [x], [t] => match P.underlying t with
    | some (.slice _) => some (.lenSl x)
    | some .string => some (.lenS x)
    | some (.array n _) => some (.cst n)
    | _ => none
  | .cap, [x], [t] => match P.underlying t with
    | some (.slice _) => some (.cap x)
    | _ => none
  | .append, [x, y], [t, tx] => match P.underlying t, P.underlying tx with
    | some (.slice e), some d =>
      if isSeq d = true then
        match P.info? e, zeroOf P e with
        | some i, some z => if z.length = i.size then (if e = UT ∧ i.size = 1 then some (.appB i.bytes x y) else some (.app i.size i.bytes x y)) else none
        | _, _ => none
      else match d with
        | .int _ => (match P.info? e with
          | some j => (match j.zero with
            | some z => if j.size = 1 ∧ z.oneCell' = true then some (.appz j.bytes z x y) else none
            | none => none)
          | none => none)
        | _ => none
    | _, _ => none
  | .copy, [x, y], [t, tx] => match P.underlying t, P.underlying tx with
    | some (.slice e), some d =>
      if isSeq d = true then
        match P.info? e with
        | some i => some (.copy i.size x y)
        | none => none
      else none
    | _, _ => none
  | .clear, [x], [t] => match P.underlying t with
    | some (.slice e) => match (P.info? e).bind (·.zero) with
      | some z => if z.oneCell' = true then some (.clear z x) else none
      | none => none
    | _ => none
  | .max, xs, _ => some (.big true xs)
  | .min, xs, _ => some (.big false xs)
  | .unsafeSliceData, [x], _ => some (.sdata x)
  | .unsafeString, [x, y], [t, _] => match P.underlying t with
    | some (.pointer e) => if e = UT ∧ P.cellsOf UT = 1 then some (.ustr x y) else none
    | _ => none
  | _, _, _ => none
def binS (P : Program) (op : BinOp) (t : TypeId) (x y : Operand) : SOp :=
  match P.underlying t with
  | some (.int _) => match op with
    | .shl | .shr | .and | .or | .xor | .andNot => .bin op t x y
    | op => .ib op x y
  | some .bool => match op with
    | .eql => .bb false x y
    | .neq => .bb true x y
    | op => .bin op t x y
  | some (.array n e) => match P.underlying e, P.info? e with
    | some (.int k), some i => if i.size = 1 ∧ P.eqGuardType P.depth t = false then (match op with
      | .eql => .aeq false (.ar n k) x y
      | .neq => .aeq true (.ar n k) x y
      | op => .bin op t x y) else .bin op t x y
    | _, _ => .bin op t x y
  | some (.pointer te) => match P.info? te with
    | some _ => (match op with
      | .eql => .peq false x y
      | .neq => .peq true x y
      | op => .bin op t x y)
    | none => .bin op t x y
  | _ => .bin op t x y
def sameN (P : Program) : Option Nat :=
  match P.info? BT with
  | some j => if j.size ≠ 0 ∧ liesAt P P.depth BT (j.size / P.cellsOf BT) 0 BT 1 = true then some j.size else none
  | none => none
def convS (P : Program) (s d : TypeId) (x : Operand) : SOp :=
  match P.underlying s, P.underlying d with
  | some (.int _), some (.int k) => .ci k x
  | some (.pointer t), some .unsafePointer => if t = BT then (match sameN P with
    | some n => .same n x
    | none => .conv s d x) else .conv s d x
  | some .unsafePointer, some (.pointer t) => if t = BT then (match sameN P with
    | some n => .same n x
    | none => .conv s d x) else .conv s d x
  | _, _ => .conv s d x
def unS (op : UnOp) (x : Operand) : SOp :=
  match op with
  | .not => .nt x
  | op => .un op x
def compOp (P : Program) : Op → Option SOp
  | .move x => some (.mv x)
  | .assign x => some (.mv x)
  | .pick c a b => some (.pick c a b)
  | .alloc t => match zeroOf P t with
    | some z => if t = BT then some (.allocB z) else some (.alloc z)
    | none => none
  | .box _ x => some (.box x)
  | .load t x => match aggN P t with
    | some (some n) => some (.loadN n x)
    | some none => some (.load1 x)
    | none => none
  | .store t x y => match P.info? t with
    | some i => some (.store i.size x y)
    | none => none
  | .nilCheck x => some (.nilck x)
  | .binOp op t x y _ => match op, P.underlying t with
    | .eql, some d => if isNilConst d y then some (.eqn false d x) else if isNilConst d x then some (.eqn false d y) else some (binS P .eql t x y)
    | .neq, some d => if isNilConst d y then some (.eqn true d x) else if isNilConst d x then some (.eqn true d y) else some (binS P .neq t x y)
    | op, _ => some (binS P op t x y)
  | .unOp op _ x => some (unS op x)
  | .convert s d x => some (convS P s d x)
  | .makeFunc g fs cs => some (.mkfn g fs.toList cs.toList)
  | .makeInterface t x => match P.underlying t with
    | some (.interface _) => none
    | some _ => some (.mkifc t x)
    | none => none
  | .fieldAddr s x i => match P.underlying s with
    | some (.struct fs) => match fs[i]? with
      | some fd => match P.info? fd.type with
        | some j => if j.size ≠ 0 then some (.off fd.offset x) else none
        | none => none
      | none => none
    | _ => none
  | .field s x i => match P.underlying s with
    | some (.struct fs) => match fs[i]? with
      | some fd => match aggN P fd.type with
        | some a => some (.fld a fd.offset x)
        | none => none
      | none => none
    | _ => none
  | .indexAddr t x i => match P.underlying t with
    | some (.slice e) => match P.info? e with
      | some j => some (.idx j.size x i)
      | none => none
    | some (.array n e) => match P.info? e with
      | some j => some (.idxA n j.size x i)
      | none => none
    | _ => none
  | .index t x i => match P.underlying t with
    | some .string => some (.idxS x i)
    | _ => none
  | .slice t x lo hi mx => match P.underlying t with
    | some (.slice e) => match P.info? e with
      | some j => some (.slc j.size x lo hi mx)
      | none => none
    | some (.array n e) => match P.info? e with
      | some j => some (.slcA n j.size x lo hi mx)
      | none => none
    | some .string => (match mx with
      | none => some (.slcS t x lo hi)
      | some _ => none)
    | _ => none
  | .extract x i => some (.ext x i)
  | .build t parts => match zeroOf P t, P.underlying t with
    | some z, some (.struct fs) =>
      match parts.toList.mapM (fun (p : Nat × Operand) => match fs[p.1]? with
        | some fd => match P.info? fd.type with
          | some j => some (fd.offset, j.size, p.2)
          | none => none
        | none => none) with
      | some ps => if fs.toList.all (fun fd => (P.info? fd.type).isSome) then some (.build z ps) else none
      | none => none
    | some z, some (.array _ e) => match P.info? e with
      | some j => some (.build z (parts.toList.map fun (p : Nat × Operand) => (p.1 * j.size, j.size, p.2)))
      | none => none
    | _, _ => none
  | .buildSlice t len parts => match P.underlying t with
    | some (.slice e) => match P.info? e with
      | some j => if len = 0 then (if parts.size = 0 then some (.mks0 j.size) else none) else match j.zero with
        | some z =>
          if 0 < len * j.size ∧ len * j.size ≤ 16777216 ∧ (((Array.range (len * j.size)).map (z.cells[· % z.cells.size]!)).toList.all (·.oneCell')) then
            some (.mks len j.size (((Array.range (len * j.size)).map (z.cells[· % z.cells.size]!)).toList) (parts.toList.map fun (p : Nat × Operand) => (p.1 * j.size, j.size, p.2)))
          else none
        | none => none
      | none => none
    | _ => none
  | .makeSlice t l c => match P.underlying t with
    | some (.slice e) => match P.info? e with
      | some j => match j.zero with
        | some z => if j.size = 1 ∧ z.oneCell' = true then some (.mk j.bytes z l c) else none
        | none => none
      | none => none
    | _ => none
  | .call c => match c.callee with
    | .builtin b => compBuiltin P b c.args c.argTypes
    | .value (.func f) => if isNoEsc P f = true then (match c.args.toList with
      | [x] => some (.mv x)
      | _ => none) else some (.call f c.args.toList)
    | .value x => some (.callv x c.args.toList)
    | .invoke _ _ => none
  | .makeMap t r => match r with
    | none => some .mkmap
    | some _ => none
  | .lookup t x k ok => match P.underlying t with
    | some (.map kt et) => match keyTy P kt, (P.info? et).bind (·.zero) with
      | some K, some z => some (.look K z ok x k)
      | _, _ => none
    | _ => none
  | .mapUpdate t m k x => match P.underlying t with
    | some (.map kt _) => match keyTy P kt with
      | some K => some (.mset K m k x)
      | none => none
    | _ => none
  | .insert t m k x => match P.underlying t with
    | some (.map kt _) => match keyTy P kt with
      | some K => some (.mset K m k x)
      | none => none
    | _ => none
  | .mapEntry t m k => match P.underlying t with
    | some (.map kt et) => match keyTy P kt, (P.info? et).bind (·.zero) with
      | some K, some z => some (.ment K z m k)
      | _, _ => none
    | _ => none
  | .entryStore _ m s x => some (.mst m s x)
  | .panic _ => some .fail
  | _ => none
/-! ### It is met -/
theorem zeroOf_ok {P : Program} {t : TypeId} {zs : List Value} (h : zeroOf P t = some zs) : ∃ z, (P.info? t).bind (·.zero) = some z ∧ z.cells.toList = zs ∧ zs.all (·.oneCell') = true := by
  unfold zeroOf at h
  split at h
  · rename_i z hz
    split at h
    · rename_i h1; cases h; exact ⟨z, hz, rfl, h1⟩
    · cases h
  · cases h
theorem aggN_ok {P : Program} {t : TypeId} {a : Option Nat} (h : aggN P t = some a) : ∃ d i, P.underlying t = some d ∧ P.info? t = some i ∧ a = if d.isRow then some i.size else none := by
  unfold aggN at h
  split at h
  · rename_i d i h1 h2
    split at h
    · rename_i hr; cases h; exact ⟨d, i, h1, h2, by simp [hr]⟩
    · rename_i hr; cases h; exact ⟨d, i, h1, h2, by simp [hr]⟩
  · cases h
theorem repO_map {S w f} {ρA : Operand → AV} {ρ : Operand → Value} (hρ : ∀ x, Rep S w f (ρA x) (ρ x)) (x : Option Operand) : RepO S w f (x.map ρA) (x.map ρ) := by
  cases x with
  | none => trivial
  | some x => exact hρ x
theorem good_eqn {P S w f h id} {neg : Bool} {t : TypeId} {d : TypeDesc} {x y : Operand} {xA : AV} {ρ : Operand → Value} {E : Eff} (hd : P.underlying t = some d) (hc : isNilConst d y = true) (hcon : ∀ v, ρ (.const v) = v)
    (hx : Rep S w f xA (ρ x)) (hE : effEqn neg d xA = some E) :
    Good P E (do pure (.value (← (do eqGuard (if neg then .neq else .eql) t x y (ρ x) (ρ y); binOp (if neg then .neq else .eql) t (ρ x) (ρ y))))) S w f h id ∧
    Good P E (do pure (.value (← (do eqGuard (if neg then .neq else .eql) t y x (ρ y) (ρ x); binOp (if neg then .neq else .eql) t (ρ y) (ρ x))))) S w f h id := by
  obtain ⟨n, hn, hy⟩ : ∃ n, nilType d = some n ∧ y = .const n := by
    unfold isNilConst at hc
    split at hc <;> (first | cases hc | skip) <;> cases d <;> simp_all [nilType]
  subst hy
  simp only [effEqn] at hE
  split at hE
  · rename_i b hb
    obtain ⟨hf, hnil⟩ := nilA_ok hx hb
    obtain ⟨e1, e2⟩ := equal_nil hd hn hf hnil w
    have hyv : ρ (.const n) = n := hcon n
    rw [hyv]
    have hg : ∀ op, (eqGuard op t x (.const n) (ρ x) n).run P w = .ok () w ∧ (eqGuard op t (.const n) x n (ρ x)).run P w = .ok () w := fun op => by
      cases d <;> simp only [nilType, Option.some.injEq, reduceCtorEq] at hn <;> subst hn <;> generalize ρ x = u at hf ⊢ <;> cases u <;> simp only [fits, reduceCtorEq, Bool.false_eq_true] at hf <;> cases op <;> first | exact ⟨rfl, rfl⟩ | (constructor <;> simp [eqGuard])
    have b1 : (binOp .eql t (ρ x) n = (do pure (.bool (← Op.equal t (ρ x) n)))) ∧ (binOp .eql t n (ρ x) = (do pure (.bool (← Op.equal t n (ρ x))))) ∧
        (binOp .neq t (ρ x) n = (do pure (.bool (!(← Op.equal t (ρ x) n))))) ∧ (binOp .neq t n (ρ x) = (do pure (.bool (!(← Op.equal t n (ρ x)))))) := by
      clear e1 e2 hnil hg hb
      cases d <;> simp only [nilType, Option.some.injEq, reduceCtorEq] at hn <;> subst hn <;> generalize ρ x = u at hf ⊢ <;> cases u <;> simp only [fits, reduceCtorEq, Bool.false_eq_true] at hf <;> exact ⟨rfl, rfl, rfl, rfl⟩
    cases neg
    · refine ⟨good_pure hE ?_ (.v _), good_pure hE ?_ (.v _)⟩
      · simp [(hg .eql).1, b1.1, e1]
      · simp [(hg .eql).2, b1.2.1, e2]
    · refine ⟨good_pure hE ?_ (.v _), good_pure hE ?_ (.v _)⟩
      · simp [(hg .neq).1, b1.2.2.1, e1]
      · simp [(hg .neq).2, b1.2.2.2, e2]
  · cases hE
theorem mapM_get {α β : Type} {g : α → Option β} : ∀ {l : List α} {r : List β}, l.mapM g = some r → r.length = l.length ∧ ∀ (i : Nat) x y, l[i]? = some x → r[i]? = some y → g x = some y
  | [], r, h => by simp at h; subst h; exact ⟨rfl, fun i x y hx => by simp at hx⟩
  | a :: l, r, h => by
    simp only [List.mapM_cons, Option.bind_eq_bind, Option.pure_def] at h
    cases ha : g a with
    | none => simp [ha] at h
    | some b =>
      cases hl : l.mapM g with
      | none => simp [ha, hl] at h
      | some s =>
        simp [ha, hl] at h; subst h
        obtain ⟨h1, h2⟩ := mapM_get hl
        refine ⟨by simp [h1], fun i x y hx hy => ?_⟩
        cases i with
        | zero => simp at hx hy; subst hx hy; exact ha
        | succ i => simp at hx hy; exact h2 i x y hx hy
theorem sizes_run {P : Program} (w : World) : ∀ (fs : List Field), fs.all (fun fd => (P.info? fd.type).isSome) = true →
    (fs.mapM fun fd => do pure (fd.offset, ← sizeOf fd.type) : Sem (List (Nat × Nat))).run P w = .ok (fs.map fun fd => (fd.offset, ((P.info? fd.type).map (·.size)).getD 0)) w
  | [], _ => by simp
  | fd :: fs, h => by
    simp only [List.all_cons, Bool.and_eq_true] at h
    obtain ⟨j, hj⟩ := Option.isSome_iff_exists.1 h.1
    have e : (sizeOf fd.type).run P w = .ok j.size w := by simp [sizeOf, typeInfo, hj]
    have ih := sizes_run (P := P) w fs h.2
    simp at ih
    simp [List.mapM_cons, e, ih, hj]
theorem parts_ok {S w f} {ρA : Operand → AV} {ρ : Operand → Value} (hρ : ∀ x, Rep S w f (ρA x) (ρ x)) {place : Nat → Option (Nat × Nat)} {parts : List (Nat × Operand)} {ps : List (Nat × Nat × Operand)}
    (hl : ps.length = parts.length) (hp : ∀ (i : Nat) x y, parts[i]? = some x → ps[i]? = some y → place x.1 = some (y.1, y.2.1) ∧ y.2.2 = x.2) :
    (parts.map fun p => (p.1, ρ p.2)).length = (ps.map fun p => (p.1, p.2.1, ρA p.2.2)).length ∧
    ∀ (i : Nat) p q, (ps.map fun p => (p.1, p.2.1, ρA p.2.2))[i]? = some p → (parts.map fun p => (p.1, ρ p.2))[i]? = some q → place q.1 = some (p.1, p.2.1) ∧ Rep S w f p.2.2 q.2 := by
  refine ⟨by simp [hl], fun i p q hp1 hq => ?_⟩
  rw [List.getElem?_map] at hp1 hq
  cases e1 : ps[i]? with
  | none => simp [e1] at hp1
  | some y =>
    cases e2 : parts[i]? with
    | none => simp [e2] at hq
    | some x =>
      simp only [e1, Option.map_some, Option.some.injEq] at hp1
      simp only [e2, Option.map_some, Option.some.injEq] at hq
      subst hp1 hq
      obtain ⟨h1, h2⟩ := hp i x y e2 e1
      exact ⟨h1, by rw [h2]; exact hρ _⟩
theorem toArr {α β : Type} (xs : Array α) (g : α → β) : (xs.toList.map g).toArray = xs.map g := by apply Array.ext'; simp
set_option maxHeartbeats 1000000 in
theorem op_sound {P : Program} {S w f h id} {o : Oper} {s : SOp} (hc : compOp P o.op = some s) {ρA : Operand → AV} {ρ : Operand → Value} (hρ : ∀ x, Rep S w f (ρA x) (ρ x)) (hcon : ∀ v, ρ (.const v) = v) (hfun : ∀ g, ρ (.func g) = .func (.func g) #[] #[])
    {E : Eff} (hE : s.eff P ρA = some E) : Good P E (execOp ρ o) S w f h id := by
  obtain ⟨dst, op, ty, pos, aft, gd⟩ := o
  simp only at hc
  cases op <;> simp only [compOp, reduceCtorEq] at hc
  case move x => cases hc; exact good_pure hE rfl (hρ x)
  case assign x => cases hc; exact good_pure hE rfl (hρ x)
  case pick c a b => cases hc; exact good_pick (hρ c) (hρ a) (hρ b) hE
  case alloc t =>
    split at hc
    · rename_i z hz
      obtain ⟨z', h1, h2, h3⟩ := zeroOf_ok hz
      split at hc
      · rename_i hb; cases hc; exact good_allocB hb h1 h2 h3 hE
      · cases hc; exact good_alloc h1 h2 h3 hE
    · cases hc
  case box t x => cases hc; exact good_box (hρ x) hE
  case load t x =>
    split at hc
    · rename_i n hn
      cases hc
      obtain ⟨d, i, h1, h2, h3⟩ := aggN_ok hn
      cases hd : d.isRow
      · rw [hd] at h3; simp at h3
      · rw [hd] at h3; simp at h3; subst h3; exact good_loadN h1 hd (by rw [h2]; rfl) (hρ x) hE
    · rename_i hn
      cases hc
      obtain ⟨d, i, h1, h2, h3⟩ := aggN_ok hn
      cases hd : d.isRow
      · exact good_load1 h1 hd (hρ x) hE
      · rw [hd] at h3; simp at h3
    · cases hc
  case store t x y =>
    split at hc
    · rename_i i hi
      cases hc
      exact good_store (by rw [hi]; rfl) (hρ x) (hρ y) hE
    · cases hc
  case nilCheck x => cases hc; exact good_nilck _ ρ x rfl rfl (hρ x) hE
  case binOp op t x y yt =>
    have plain0 : ∀ op', s = .bin op' t x y → op' = op → Good P E (execOp ρ ⟨dst, .binOp op t x y yt, ty, pos, aft, gd⟩) S w f h id := fun op' hs ho => by
      subst ho hs
      exact good_plain2 (g := fun u v => do eqGuard op' t x y u v; binOp op' t u v) (hρ x) (hρ y) hE
    have plain : ∀ op', s = binS P op' t x y → op' = op → Good P E (execOp ρ ⟨dst, .binOp op t x y yt, ty, pos, aft, gd⟩) S w f h id := fun op' hs ho => by
      subst ho
      unfold binS at hs
      split at hs
      · split at hs
        iterate 6 exact plain0 _ hs rfl
        subst hs
        exact good_ib (t := t) (o1 := x) (o2 := y) (hρ x) (hρ y) hE
      · rename_i ht
        split at hs
        · subst hs; exact good_bb (neg := false) (o1 := x) (o2 := y) ht (hρ x) (hρ y) hE
        · subst hs; exact good_bb (neg := true) (o1 := x) (o2 := y) ht (hρ x) (hρ y) hE
        · exact plain0 _ hs rfl
      · rename_i n e ht
        split at hs
        · rename_i k i he hi
          split at hs
          · rename_i hc1
            split at hs
            · subst hs; exact good_aeq (neg := false) (o1 := x) (o2 := y) ht he hi hc1.1 hc1.2 (hρ x) (hρ y) hE
            · subst hs; exact good_aeq (neg := true) (o1 := x) (o2 := y) ht he hi hc1.1 hc1.2 (hρ x) (hρ y) hE
            · exact plain0 _ hs rfl
          · exact plain0 _ hs rfl
        · exact plain0 _ hs rfl
      · rename_i te ht
        split at hs
        · rename_i j hj
          split at hs
          · subst hs; exact good_peq (neg := false) (o1 := x) (o2 := y) ht hj (hρ x) (hρ y) hE
          · subst hs; exact good_peq (neg := true) (o1 := x) (o2 := y) ht hj (hρ x) (hρ y) hE
          · exact plain0 _ hs rfl
        · exact plain0 _ hs rfl
      · exact plain0 _ hs rfl
    split at hc
    · rename_i d hd
      split at hc
      · rename_i hn; cases hc; exact (good_eqn (neg := false) hd hn hcon (hρ x) hE).1
      · split at hc
        · rename_i hn; cases hc; exact (good_eqn (neg := false) hd hn hcon (hρ y) hE).2
        · cases hc; exact plain _ rfl rfl
    · rename_i d hd
      split at hc
      · rename_i hn; cases hc; exact (good_eqn (neg := true) hd hn hcon (hρ x) hE).1
      · split at hc
        · rename_i hn; cases hc; exact (good_eqn (neg := true) hd hn hcon (hρ y) hE).2
        · cases hc; exact plain _ rfl rfl
    · cases hc; exact plain _ rfl rfl
  case unOp op t x =>
    simp only [Option.some.injEq] at hc
    unfold unS at hc
    split at hc
    · subst hc; exact good_nt (hρ x) hE
    · subst hc; exact good_plain1 (hρ x) hE
  case convert s d x =>
    simp only [Option.some.injEq] at hc
    unfold convS at hc
    split at hc
    · rename_i hs hd; subst hc; exact good_ci hs hd (hρ x) hE
    · rename_i t hs hd
      split at hc
      · rename_i ht
        subst ht
        split at hc
        · rename_i n hn
          subst hc
          unfold sameN at hn
          split at hn
          · rename_i j hj
            split at hn
            · rename_i h0; cases hn
              exact good_same (fun l cs hB hl => run_toU hs hd hj h0.1 hB hl) (hρ x) hE
            · cases hn
          · cases hn
        · subst hc; exact good_plain1 (hρ x) hE
      · subst hc; exact good_plain1 (hρ x) hE
    · rename_i t hs hd
      split at hc
      · rename_i ht
        subst ht
        split at hc
        · rename_i n hn
          subst hc
          unfold sameN at hn
          split at hn
          · rename_i j hj
            split at hn
            · rename_i h0; cases hn
              exact good_same (fun l cs hB hl => run_fromU hs hd hj h0.2 hB hl) (hρ x) hE
            · cases hn
          · cases hn
        · subst hc; exact good_plain1 (hρ x) hE
      · subst hc; exact good_plain1 (hρ x) hE
    · subst hc; exact good_plain1 (hρ x) hE
  case makeFunc g fs cs =>
    cases hc
    have := good_mkfn (P := P) (h := h) (id := id) (g := g) (evalAs_rep hρ fs.toList) (evalAs_rep hρ cs.toList) hE
    rw [toArr, toArr] at this; exact this
  case makeInterface t x =>
    split at hc
    · cases hc
    · rename_i d hd hne
      cases hc
      exact good_mkifc hne hd (hρ x) hE
    · cases hc
  case fieldAddr t x i =>
    split at hc
    · rename_i fs hs
      split at hc
      · rename_i fd hfd
        split at hc
        · rename_i j hj
          split at hc
          · rename_i hnz; cases hc; exact good_off hs hfd (by rw [hj]; rfl) hnz (hρ x) hE
          · cases hc
        · cases hc
      · cases hc
    · cases hc
  case field t x i =>
    split at hc
    · rename_i fs hs
      split at hc
      · rename_i fd hfd
        split at hc
        · rename_i a ha
          cases hc
          obtain ⟨d, j, h1, h2, h3⟩ := aggN_ok ha
          exact good_fld hs hfd h1 (by rw [h3, h2]; rfl) (by rw [h2]; rfl) (hρ x) hE
        · cases hc
      · cases hc
    · cases hc
  case indexAddr t x i =>
    split at hc
    · rename_i e he
      split at hc
      · rename_i j hj; cases hc; exact good_idx he (by rw [hj]; rfl) (hρ x) (hρ i) hE
      · cases hc
    · rename_i n e he
      split at hc
      · rename_i j hj; cases hc; exact good_idxA he (by rw [hj]; rfl) (hρ x) (hρ i) hE
      · cases hc
    · cases hc
  case index t x i =>
    split at hc
    · rename_i he; cases hc; exact good_idxS he (hρ x) (hρ i) hE
    · cases hc
  case slice t x lo hi mx =>
    split at hc
    · rename_i e he
      split at hc
      · rename_i j hj; cases hc; exact good_slc he (by rw [hj]; rfl) (hρ x) (repO_map hρ lo) (repO_map hρ hi) (repO_map hρ mx) hE
      · cases hc
    · rename_i n e he
      split at hc
      · rename_i j hj; cases hc; exact good_slcA he (by rw [hj]; rfl) (hρ x) (repO_map hρ lo) (repO_map hρ hi) (repO_map hρ mx) hE
      · cases hc
    · split at hc
      · cases hc; exact good_slcS (hρ x) (repO_map hρ lo) (repO_map hρ hi) hE
      · cases hc
    · cases hc
  case extract x i => cases hc; exact good_ext (hρ x) hE
  case build t parts =>
    have harr : parts.map (fun p => (p.1, ρ p.2)) = (parts.toList.map fun p => (p.1, ρ p.2)).toArray := by apply Array.ext'; simp
    split at hc
    · rename_i z fs hz hs
      split at hc
      · rename_i ps hps
        split at hc
        · rename_i hall
          cases hc
          obtain ⟨z', h1, h2, h3⟩ := zeroOf_ok hz
          obtain ⟨q1, q2⟩ := mapM_get hps
          have hsz := sizes_run (P := P) w fs.toList hall
          have hpl : (fs.mapM fun fd => do pure (fd.offset, ← sizeOf fd.type) : Sem (Array (Nat × Nat))).run P w = .ok (fs.toList.map fun fd => (fd.offset, ((P.info? fd.type).map (·.size)).getD 0)).toArray w := by
            rw [Array.mapM_eq_mapM_toList, Sem.run_map, hsz]; rfl
          obtain ⟨p1, p2⟩ := parts_ok hρ (place := fun i => (fs.toList.map fun fd => (fd.offset, ((P.info? fd.type).map (·.size)).getD 0)).toArray[i]?) q1 (fun i x y hx hy => by
            have := q2 i x y hx hy
            split at this
            · rename_i fd hfd
              split at this
              · rename_i j hj
                cases this
                refine ⟨?_, rfl⟩
                simp [hfd, hj]
              · cases this
            · cases this)
          have := good_build (P := P) (h := h) (id := id) h1 h2 h3 (fun cells hf => build_struct hs h1 hpl cells hf) p1 p2 hE
          show Good P E (do pure (.value (← Instr.build t (parts.map (fun p => (p.1, ρ p.2)))))) S w f h id
          rw [harr]; exact this
        · cases hc
      · cases hc
    · rename_i z n e hz hs
      split at hc
      · rename_i j hj
        cases hc
        obtain ⟨z', h1, h2, h3⟩ := zeroOf_ok hz
        obtain ⟨p1, p2⟩ := parts_ok (parts := parts.toList) hρ (place := fun i => some (i * j.size, j.size)) (ps := parts.toList.map fun (p : Nat × Operand) => (p.1 * j.size, j.size, p.2)) (by simp) (fun i x y hx hy => by
          rw [List.getElem?_map, hx] at hy
          cases hy; exact ⟨rfl, rfl⟩)
        have := good_build (P := P) (h := h) (id := id) h1 h2 h3 (fun cells hf => build_array hs h1 (by rw [hj]; rfl) cells hf) p1 p2 hE
        show Good P E (do pure (.value (← Instr.build t (parts.map (fun p => (p.1, ρ p.2)))))) S w f h id
        rw [harr]; exact this
      · cases hc
    · cases hc
  case buildSlice t len parts =>
    have harr : parts.map (fun p => (p.1, ρ p.2)) = (parts.toList.map fun p => (p.1, ρ p.2)).toArray := by apply Array.ext'; simp
    split at hc
    · rename_i e hs
      split at hc
      · rename_i j hj
        split at hc
        · rename_i h0
          split at hc
          · rename_i h00
            cases hc
            subst h0
            have hp : parts = #[] := Array.eq_empty_of_size_eq_zero h00
            subst hp
            have := good_mks0 (P := P) (S := S) (w := w) (f := f) (h := h) (id := id) hs (by rw [hj]; rfl) hE
            simpa [execOp] using this
          · cases hc
        · split at hc
          · rename_i z hz
            split at hc
            · rename_i hb
              cases hc
              obtain ⟨p1, p2⟩ := parts_ok (parts := parts.toList) hρ (place := fun i => some (i * j.size, j.size)) (ps := parts.toList.map fun (p : Nat × Operand) => (p.1 * j.size, j.size, p.2)) (by simp) (fun i x y hx hy => by
                rw [List.getElem?_map, hx] at hy
                cases hy; exact ⟨rfl, rfl⟩)
              have := good_mks (P := P) (h := h) (id := id) hs (by rw [hj]; rfl) (z := z) (by rw [hj]; exact hz) hb.1 hb.2.1 rfl hb.2.2 p1 p2 hE
              show Good P E (do pure (.value (← Instr.buildSlice t len (parts.map (fun p => (p.1, ρ p.2)))))) S w f h id
              rw [harr]; exact this
            · cases hc
          · cases hc
      · cases hc
    · cases hc
  case makeSlice t l c =>
    split at hc
    · rename_i e hs
      split at hc
      · rename_i j hj
        split at hc
        · rename_i z hz
          split at hc
          · rename_i hb
            cases hc
            have hzc : z.cells = #[z] := by have := hb.2; cases z <;> simp_all [Value.cells, Value.oneCell']
            exact good_mk hs hj hb.1 hz hzc hb.2 (hρ l) (hρ c) hE
          · cases hc
        · cases hc
      · cases hc
    · cases hc
  case makeMap t r =>
    split at hc
    · cases hc; exact good_mkmap hE
    · cases hc
  case lookup t x k ok =>
    split at hc
    · rename_i kt et hm
      split at hc
      · rename_i K z hK hz; cases hc; exact good_look hm hK hz (hρ x) (hρ k) hE
      · cases hc
    · cases hc
  case mapUpdate t m k x =>
    split at hc
    · rename_i kt et hm
      split at hc
      · rename_i K hK; cases hc; exact good_mset hm hK (hρ m) (hρ k) (hρ x) hE
      · cases hc
    · cases hc
  case insert t m k x =>
    split at hc
    · rename_i kt et hm
      split at hc
      · rename_i K hK; cases hc; exact good_mset hm hK (hρ m) (hρ k) (hρ x) hE
      · cases hc
    · cases hc
  case mapEntry t m k =>
    split at hc
    · rename_i kt et hm
      split at hc
      · rename_i K z hK hz; cases hc; exact good_ment hm hK hz (hρ m) (hρ k) hE
      · cases hc
    · cases hc
  case entryStore t m s x => cases hc; exact good_mst (hρ m) (hρ s) (hρ x) hE
  case panic x => cases hc; cases hE
  case call c =>
    obtain ⟨callee, args, ts⟩ := c
    cases callee
    case invoke => cases hc
    case value x =>
      split at hc
      · rename_i he; cases he
      · rename_i f' he
        cases he
        split at hc
        · rename_i hne
          split at hc
          · rename_i x' hx'
            cases hc
            have ea : args = #[x'] := by rw [← Array.toArray_toList (xs := args), hx']
            subst ea
            refine good_pure hE ?_ (hρ x')
            have := run_noEsc hne (ρ x') w
            simpa [execOp, resolve, hfun, Deferred.ofValue, invoke] using this
          · cases hc
        · cases hc; cases hE
      · cases hc; cases hE
      · cases hc
    case builtin b =>
      simp only at hc
      unfold compBuiltin at hc
      have hex : ∀ (g : Array TypeId → TypeId → Array Value → Sem Value), builtin b ts ty (args.map fun | .const _ => true | _ => false) (args.map ρ) = (do pure (.value (← g ts ty (args.map ρ)))) →
          execOp ρ ⟨dst, .call ⟨.builtin b, args, ts⟩, ty, pos, aft, gd⟩ = (do pure (.value (← g ts ty (args.map ρ)))) := fun g hg => hg
      split at hc
      · rename_i x t ha hts
        have ea : args = #[x] := by rw [← Array.toArray_toList (xs := args), ha]
        have et : ts = #[t] := by rw [← Array.toArray_toList (xs := ts), hts]
        subst ea et
        rw [hex Builtin.len_ rfl, show (#[x]).map ρ = #[ρ x] by simp]
        split at hc
        · rename_i e he; cases hc; exact good_lenSl he (hρ x) hE
        · rename_i he; cases hc; exact good_lenS he (hρ x) hE
        · rename_i n e he; cases hc
          exact good_pure hE (by simp [Builtin.len_, run_underlying he, goInt]) (.v _)
        · cases hc
      · rename_i x t ha hts
        have ea : args = #[x] := by rw [← Array.toArray_toList (xs := args), ha]
        have et : ts = #[t] := by rw [← Array.toArray_toList (xs := ts), hts]
        subst ea et
        rw [hex Builtin.cap_ rfl, show (#[x]).map ρ = #[ρ x] by simp]
        split at hc
        · rename_i e he; cases hc; exact good_cap he (hρ x) hE
        · cases hc
      · rename_i x y t tx ha hts
        have ea : args = #[x, y] := by rw [← Array.toArray_toList (xs := args), ha]
        have et : ts = #[t, tx] := by rw [← Array.toArray_toList (xs := ts), hts]
        subst ea et
        rw [hex Builtin.append_ rfl, show (#[x, y]).map ρ = #[ρ x, ρ y] by simp]
        split at hc
        · rename_i e d he hd
          split at hc
          · rename_i hk
            split at hc
            · rename_i j z hj hz
              split at hc
              · rename_i hlen
                obtain ⟨z', h1, h2, h3⟩ := zeroOf_ok hz
                simp only [hj, Option.bind_some] at h1
                subst h2
                have hk' : (∃ e', P.underlying tx = some (.slice e')) ∨ P.underlying tx = some .string := by
                  cases d <;> simp only [isSeq, Bool.false_eq_true] at hk
                  · exact .inr hd
                  · exact .inl ⟨_, hd⟩
                split at hc
                · rename_i hu; cases hc; exact good_appB hu.1 hu.2 he hk' hj h1 (by simpa using hlen) h3 (hρ x) (hρ y) hE
                · cases hc; exact good_app he hk' hj h1 (by simpa using hlen) h3 (hρ x) (hρ y) hE
              · cases hc
            · cases hc
          · split at hc
            · split at hc
              · rename_i j hj
                split at hc
                · rename_i z hz
                  split at hc
                  · rename_i hh
                    cases hc
                    have hzc : z.cells = #[z] := by have := hh.2; cases z <;> simp_all [Value.cells, Value.oneCell']
                    exact good_appz he hd hj hh.1 hz hzc hh.2 (hρ x) (hρ y) hE
                  · cases hc
                · cases hc
              · cases hc
            · cases hc
        · cases hc
      · rename_i x y t tx ha hts
        have ea : args = #[x, y] := by rw [← Array.toArray_toList (xs := args), ha]
        have et : ts = #[t, tx] := by rw [← Array.toArray_toList (xs := ts), hts]
        subst ea et
        rw [hex Builtin.copy_ rfl, show (#[x, y]).map ρ = #[ρ x, ρ y] by simp]
        split at hc
        · rename_i e d he hd
          split at hc
          · rename_i hk
            split at hc
            · rename_i j hj
              cases hc
              have hk' : (∃ e', P.underlying tx = some (.slice e')) ∨ P.underlying tx = some .string := by
                cases d <;> simp only [isSeq, Bool.false_eq_true] at hk
                · exact .inr hd
                · exact .inl ⟨_, hd⟩
              exact good_copy he hk' hj (hρ x) (hρ y) hE
            · cases hc
          · cases hc
        · cases hc
      · rename_i x t ha hts
        have ea : args = #[x] := by rw [← Array.toArray_toList (xs := args), ha]
        have et : ts = #[t] := by rw [← Array.toArray_toList (xs := ts), hts]
        subst ea et
        rw [hex Builtin.clear_ rfl, show (#[x]).map ρ = #[ρ x] by simp]
        split at hc
        · rename_i e he
          split at hc
          · rename_i z hz
            split at hc
            · rename_i h1
              cases hc
              have hzc : z.cells = #[z] := by cases z <;> simp_all [Value.cells, Value.oneCell']
              exact good_clear he hz hzc h1 (hρ x) hE
            · cases hc
          · cases hc
        · cases hc
      · cases hc
        rw [hex Builtin.max_ rfl]
        have := good_big (P := P) (h := h) (id := id) (mx := true) (evalAs_rep hρ args.toList) hE
        rw [toArr] at this; exact this
      · cases hc
        rw [hex Builtin.min_ rfl]
        have := good_big (P := P) (h := h) (id := id) (mx := false) (evalAs_rep hρ args.toList) hE
        rw [toArr] at this; exact this
      · rename_i x ha
        have ea : args = #[x] := by rw [← Array.toArray_toList (xs := args), ha]
        subst ea
        cases hc
        rw [hex Builtin.unsafeSliceData_ rfl, show (#[x]).map ρ = #[ρ x] by simp]
        exact good_sdata (hρ x) hE
      · rename_i x y t t2 ha hts
        have ea : args = #[x, y] := by rw [← Array.toArray_toList (xs := args), ha]
        have et : ts = #[t, t2] := by rw [← Array.toArray_toList (xs := ts), hts]
        subst ea et
        rw [hex Builtin.unsafeString_ rfl, show (#[x, y]).map ρ = #[ρ x, ρ y] by simp]
        split at hc
        · rename_i e he
          split at hc
          · rename_i hu
            cases hc
            rw [hu.1] at he
            exact good_ustr he hu.2 (hρ x) (hρ y) hE
          · cases hc
        · cases hc
      · cases hc
end Go.Sx
