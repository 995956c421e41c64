/- What the simplifier needs to carry out quick codes on symbolic values; changes of states, written out; specs of functions of plain data. No conditions. -/
import Derived.Test.YteoiebmbgbgpgaaSxZ
import Derived.Test.YteoiebmbgbgpgaaSxR
set_option linter.unusedVariables false
set_option linter.unusedSimpArgs false
namespace Go.Sx
@[simp] theorem enF_nil (t : Nat) : enF [] t = .any := rfl
@[simp ↓] theorem enF_cons (k : Nat) (x : AV) (r : List (Nat × AV)) (t : Nat) : enF ((k, x) :: r) t = if t = k then x else enF r t := by simp only [enF, beq_cond]
@[simp] theorem hpF_nil (t : Nat) : hpF [] t = none := rfl
@[simp ↓] theorem hpF_cons (k : Nat) (x : Blk) (r : HL) (t : Nat) : hpF ((k, x) :: r) t = if t = k then some x else hpF r t := by simp only [hpF, beq_cond]
@[simp] theorem en_eq : en = enF := enF_eq.symm
@[simp] theorem hp_eq : hp = hpF := hpF_eq.symm
@[simp] theorem memb_nil (t : Nat) : memb [] t = false := rfl
@[simp] theorem memb_cons (k : Nat) (r : List Nat) (t : Nat) : memb (k :: r) t = if t = k then true else memb r t := by simp only [memb, beq_cond]
@[simp] theorem idx_cons (k : Nat) (r : List Nat) (t : Nat) : idx (k :: r) t = if t = k then 0 else idx r t + 1 := by simp only [idx, beq_cond]
@[simp] theorem reach_nil (n : Nat) (done : List Nat) (h : HL) : reach n [] done h = done := by cases n <;> rfl
@[congr] theorem enF_congr {l : List (Nat × AV)} {t t' : Nat} (h : t = t') : enF l t = enF l t' := by rw [h]
@[congr] theorem hpF_congr {l : HL} {t t' : Nat} (h : t = t') : hpF l t = hpF l t' := by rw [h]
@[congr] theorem XZ_congr {R : Rsv} {k0 : Nat} {c : PCode} {s s' : ST} {Q : Exit → ST → Prop} (h : s = s') : XZ R k0 c s Q = XZ R k0 c s' Q := by rw [h]
@[congr] theorem zOps_congr {R : Rsv} {K : ST → Prop} {is : List PI} {s s' : ST} (h : s = s') : zOps R K is s = zOps R K is s' := by rw [h]
@[congr] theorem zD_congr {R : Rsv} {K : List Foot → ST → Prop} {is : List PI} {fs fs' : List Foot} {s s' : ST} (hf : fs = fs') (h : s = s') : zD R K is fs s = zD R K is fs' s' := by rw [h, hf]
@[congr] theorem zOp_congr {R : Rsv} {d : Option Nat} {tm : List Nat} {b : PB} {s s' : ST} (h : s = s') : zOp R d tm b s = zOp R d tm b s' := by rw [h]
@[congr] theorem thenE_congr {next : ST → Prop} {Q : Exit → ST → Prop} {e : Exit} {s s' : ST} (h : s = s') : thenE next Q e s = thenE next Q e s' := by rw [h]
@[congr] theorem inBE_congr {i : Nat} {Q : Exit → ST → Prop} {e : Exit} {s s' : ST} (h : s = s') : inBE i Q e s = inBE i Q e s' := by rw [h]
@[congr] theorem noGoE_congr {Q : Exit → ST → Prop} {e : Exit} {s s' : ST} (h : s = s') : noGoE Q e s = noGoE Q e s' := by rw [h]
@[congr] theorem foot_congr {E : Eff} {h h' : Heap} {i i' : Nat} (h1 : h = h') (h2 : i = i') : E.foot h i = E.foot h' i' := by rw [h1, h2]
def putE (e : List (Nat × AV)) (d : Option Nat) (v : AV) : List (Nat × AV) :=
  match d with
  | some k => (k, v) :: e
  | none => e
@[simp ↓] theorem putE_some {e : List (Nat × AV)} {k : Nat} {v : AV} : putE e (some k) v = (k, v) :: e := rfl
@[simp ↓] theorem putE_none {e : List (Nat × AV)} {v : AV} : putE e none v = e := rfl
theorem put_mk {e : List (Nat × AV)} {h : HL} {n : Nat} {d : Option Nat} {v : AV} : (ST.mk e h n).put d v = ⟨putE e d v, h, n⟩ := by cases d <;> rfl
def kp (e : List (Nat × AV)) (ks : List Nat) : List (Nat × AV) := ks.map fun k => (k, enF e k)
@[congr] theorem kp_congr {e : List (Nat × AV)} {ks ks' : List Nat} (h : ks = ks') : kp e ks = kp e ks' := by rw [h]
@[simp ↓] theorem kp_nil {e : List (Nat × AV)} : kp e [] = [] := rfl
@[simp ↓] theorem kp_cons {e : List (Nat × AV)} {k : Nat} {ks : List Nat} : kp e (k :: ks) = (k, enF e k) :: kp e ks := rfl
def norm (s : ST) : Option ST := some s
@[simp] theorem norm_mk {e : List (Nat × AV)} {h : HL} {n : Nat} : norm ⟨e, h, n⟩ = some ⟨e, h, n⟩ := rfl
def goOn (Q : Exit → ST → Prop) (ks : List Nat) (s : ST) : Prop := Q .normal (s.keepF ks)
@[congr] theorem goOn_congr {Q : Exit → ST → Prop} {ks : List Nat} {s s' : ST} (h : s = s') : goOn Q ks s = goOn Q ks s' := by rw [h]
def goOn' (Q : Exit → ST → Prop) (s : ST) : Prop := Q .normal s
@[congr] theorem goOn'_congr {Q : Exit → ST → Prop} {s s' : ST} (h : s = s') : goOn' Q s = goOn' Q s' := by rw [h]
theorem two_ite {t : Bool} {A B : Prop} : ((t = true → A) ∧ (t = false → B)) = (if t = true then A else B) := by
  cases t <;> simp
@[simp] theorem gd_bool (b want : Bool) : gd (.v (.bool b)) want = some (cond want b (!b)) := rfl
@[simp] theorem gd_undef (want : Bool) : gd (.v undef) want = some false := rfl
@[simp] theorem skd_bool (b want : Bool) : skd (.v (.bool b)) want = .v (.bool !want) := rfl
@[simp] theorem skd_undef (want : Bool) : skd (.v undef) want = .v undef := rfl
@[simp] theorem iteP {p A B : Prop} [Decidable p] : (if p then A else B) = ((p → A) ∧ (¬ p → B)) := by
  by_cases h : p <;> simp [h]
section
variable {R : Rsv} {k0 : Nat} {e : List (Nat × AV)} {h : HL} {n : Nat} {Q : Exit → ST → Prop} {K : ST → Prop} {KD : List Foot → ST → Prop}
@[simp ↓] theorem goOn_mk {ks : List Nat} : goOn Q ks ⟨e, h, n⟩ = goOn' Q ⟨kp e ks, h, n⟩ := rfl
@[simp] theorem goOn'_mk : goOn' Q ⟨e, h, n⟩ = Q .normal ⟨e, h, n⟩ := rfl
@[simp ↓] theorem XZ_skip : XZ R k0 .skip ⟨e, h, n⟩ Q = Q .normal ⟨e, h, n⟩ := rfl
@[simp ↓] theorem XZ_reg {ops ks} : XZ R k0 (.reg ops ks) ⟨e, h, n⟩ Q = zOps R (goOn Q ks) ops ⟨e, h, n⟩ := rfl
def goD (anc : List (List Nat)) (ks : List Nat) (Q : Exit → ST → Prop) (fs : List Foot) (s : ST) : Prop := if indep [] anc fs = true then goOn Q ks s else False
@[congr] theorem goD_congr {anc : List (List Nat)} {ks : List Nat} {fs fs' : List Foot} {s s' : ST} (hf : fs = fs') (h : s = s') : goD anc ks Q fs s = goD anc ks Q fs' s' := by rw [h, hf]
@[simp ↓] theorem goD_mk {anc : List (List Nat)} {ks : List Nat} {fs : List Foot} : goD anc ks Q fs ⟨e, h, n⟩ = if indep [] anc fs = true then goOn Q ks ⟨e, h, n⟩ else False := rfl
@[simp ↓] theorem XZ_draw {ops anc ks} : XZ R k0 (.draw ops anc ks) ⟨e, h, n⟩ Q = zD R (goD anc ks Q) ops [] ⟨e, h, n⟩ := by
  have : ∀ (c : Bool) (B : Prop), (c = true ∧ B) = (if c = true then B else False) := fun c B => by cases c <;> simp
  simp only [XZ, this]; rfl
@[simp ↓] theorem XZ_seq {a b} : XZ R k0 (.seq a b) ⟨e, h, n⟩ Q = XZ R k0 a ⟨e, h, n⟩ (thenE (fun s' => XZ R k0 b s' Q) Q) := rfl
@[simp ↓] theorem XZ_seqC {a b} : XZ R k0 (.seqC a b) ⟨e, h, n⟩ Q = XZ R k0 a ⟨e, h, n⟩ (thenE (fun s' => ∃ s'', ChgT k0 s' s'' ∧ XZ R k0 b s'' Q) Q) := rfl
@[simp ↓] theorem XZ_cond {c a b} : XZ R k0 (.cond c a b) ⟨e, h, n⟩ Q = match evalA (enF e) c with
    | .v (.bool t) => if t = true then XZ R k0 a ⟨e, h, n⟩ Q else XZ R k0 b ⟨e, h, n⟩ Q
    | _ => False := by
  simp only [XZ, two_ite]; rfl
@[simp ↓] theorem XZ_block {id b} : XZ R k0 (.block id b) ⟨e, h, n⟩ Q = XZ R k0 b ⟨e, h, n⟩ (inBE id Q) := rfl
@[simp ↓] theorem XZ_exit {id} : XZ R k0 (.exit id) ⟨e, h, n⟩ Q = Q (.exit id) ⟨e, h, n⟩ := rfl
@[simp ↓] theorem XZ_ret : XZ R k0 .ret ⟨e, h, n⟩ Q = Q .ret ⟨e, h, n⟩ := rfl
@[simp ↓] theorem XZ_scope {b} : XZ R k0 (.scope b) ⟨e, h, n⟩ Q = XZ R k0 b ⟨e, h, n⟩ (noGoE Q) := rfl
theorem XZ_loop {b} {s : ST} : XZ R k0 (.loop b) s Q = ∃ I : Nat → ST → Prop, (∃ n s', ChgT k0 s s' ∧ I n s') ∧ ∀ n s, I n s → XZ R k0 b s (thenE (fun s' => ∃ m s'', m < n ∧ ChgT k0 s' s'' ∧ I m s'') (fun e s' => ∃ s'', ChgT k0 s' s'' ∧ Q e s'')) := rfl
@[simp ↓] theorem thenE_normal {next : ST → Prop} : thenE next Q .normal ⟨e, h, n⟩ = next ⟨e, h, n⟩ := rfl
@[simp ↓] theorem thenE_exit {next : ST → Prop} {id} : thenE next Q (.exit id) ⟨e, h, n⟩ = Q (.exit id) ⟨e, h, n⟩ := rfl
@[simp ↓] theorem thenE_ret {next : ST → Prop} : thenE next Q .ret ⟨e, h, n⟩ = Q .ret ⟨e, h, n⟩ := rfl
@[simp ↓] theorem inBE_normal {i} : inBE i Q .normal ⟨e, h, n⟩ = Q .normal ⟨e, h, n⟩ := rfl
@[simp ↓] theorem inBE_ret {i} : inBE i Q .ret ⟨e, h, n⟩ = Q .ret ⟨e, h, n⟩ := rfl
@[simp ↓] theorem inBE_exit {i id} : inBE i Q (.exit id) ⟨e, h, n⟩ = if id = i then Q .normal ⟨e, h, n⟩ else Q (.exit id) ⟨e, h, n⟩ := rfl
@[simp ↓] theorem noGoE_normal : noGoE Q .normal ⟨e, h, n⟩ = Q .normal ⟨e, h, n⟩ := rfl
@[simp ↓] theorem noGoE_ret : noGoE Q .ret ⟨e, h, n⟩ = Q .ret ⟨e, h, n⟩ := rfl
@[simp ↓] theorem noGoE_exit {id} : noGoE Q (.exit id) ⟨e, h, n⟩ = Q (.exit id) ⟨e, h, n⟩ := rfl
@[simp ↓] theorem zOps_nil : zOps R K [] ⟨e, h, n⟩ = K ⟨e, h, n⟩ := rfl
@[simp ↓] theorem zOps_cons {d tm b is} : zOps R K (⟨none, d, tm, b⟩ :: is) ⟨e, h, n⟩ = match zOp R d tm b ⟨e, h, n⟩ with
      | some (_, s') => zOps R K is s'
      | none => False := rfl
@[simp ↓] theorem zOps_guard {t want d tm b is} : zOps R K (⟨some (t, want), d, tm, b⟩ :: is) ⟨e, h, n⟩ = match gd (enF e t) want with
      | some c => if c = true then (match zOp R d (t :: tm) b ⟨(t, .v (.bool want)) :: e, h, n⟩ with
        | some (_, s') => zOps R K is s'
        | none => False) else zOps R K is ⟨putE ((t, skd (enF e t) want) :: e) d (.v undef), h, n⟩
      | none => False := by
  simp only [zOps, two_ite, put_mk]; rfl
@[simp ↓] theorem zD_nil {fs} : zD R KD [] fs ⟨e, h, n⟩ = KD fs ⟨e, h, n⟩ := rfl
@[simp ↓] theorem zD_cons {d tm b is fs} : zD R KD (⟨none, d, tm, b⟩ :: is) fs ⟨e, h, n⟩ = match zOp R d tm b ⟨e, h, n⟩ with
      | some (ft, s') => zD R KD is (fs ++ [ft]) s'
      | none => False := rfl
@[simp ↓] theorem zD_guard {t want d tm b is fs} : zD R KD (⟨some (t, want), d, tm, b⟩ :: is) fs ⟨e, h, n⟩ = match gd (enF e t) want with
      | some c => if c = true then (match zOp R d (t :: tm) b ⟨(t, .v (.bool want)) :: e, h, n⟩ with
        | some (ft, s') => zD R KD is (fs ++ [ft]) s'
        | none => False) else zD R KD is (fs ++ [⟨[t], d, [], []⟩]) ⟨putE ((t, skd (enF e t) want) :: e) d (.v undef), h, n⟩
      | none => False := by
  simp only [zD, two_ite, put_mk]; rfl
end
section
variable {R : Rsv} {e : List (Nat × AV)} {h : HL} {n : Nat} {d : Option Nat} {tm : List Nat}
@[simp ↓] theorem zOp_eff {f : (Nat → AV) → Option Eff} : zOp R d tm (.eff f) ⟨e, h, n⟩ = match f (enF e) with
    | some E => match E.foot (hpF h) n with
      | some (v, ws, os) => some (⟨tm, d, E.rs, ws⟩, ⟨putE e d v, setL h ws os, n + 1⟩)
      | none => none
    | none => none := by simp only [zOp, put_mk]; rfl
def zCall (R : Rsv) (d : Option Nat) (tm : List Nat) (g : FuncId) (args : List AV) (e : List (Nat × AV)) (h : HL) (n : Nat) : Option (Foot × ST) :=
  match R g args h n with
  | some c => some (⟨tm, d, c.rd, c.wr⟩, ⟨putE e d c.r, setL h c.wr c.outs, n + c.cnt⟩)
  | none => none
@[congr] theorem zCall_congr {g : FuncId} {args args' : List AV} (h1 : args = args') : zCall R d tm g args e h n = zCall R d tm g args' e h n := by rw [h1]
theorem zCall_eq {g : FuncId} {args : List AV} : zCall R d tm g args e h n = match R g args h n with
  | some c => some (⟨tm, d, c.rd, c.wr⟩, ⟨putE e d c.r, setL h c.wr c.outs, n + c.cnt⟩)
  | none => none := rfl
theorem zCallAt_mk {g : FuncId} {args : List AV} : zCallAt R d tm g args ⟨e, h, n⟩ = zCall R d tm g args e h n := by simp only [zCallAt, put_mk]; rfl
@[simp ↓] theorem zOp_call {g : FuncId} {args : List Operand} : zOp R d tm (.call g args) ⟨e, h, n⟩ = zCall R d tm g (args.map (evalA (enF e))) e h n := zCallAt_mk
@[simp ↓] theorem zOp_callv {x : Operand} {args : List Operand} : zOp R d tm (.callv x args) ⟨e, h, n⟩ = match evalA (enF e) x with
    | .fn (.func g) first captured => zCall R d tm g (first ++ args.map (evalA (enF e)) ++ captured) e h n
    | _ => none := by simp only [zOp, zCallAt_mk]; rfl
attribute [simp] zCall_eq
@[simp ↓] theorem keepF_mk {ks : List Nat} : (ST.mk e h n).keepF ks = ⟨kp e ks, h, n⟩ := rfl
@[simp ↓] theorem foot_mk {rs ws : List Nat} {k : List Blk → Nat → Option Res} {h : Heap} {id : Nat} : (Eff.mk rs ws k).foot h id = match getAll h rs with
  | none => none
  | some bs => match k bs id with
    | none => none
    | some r => match r.nb with
      | none => if ws.length = r.outs.length then some (r.v, ws, r.outs) else none
      | some b => if ws.length = r.outs.length then some (r.v, ws ++ [id], r.outs ++ [some b]) else none := rfl
end
attribute [simp] rZ args0 ret getAll setL evalA hset hdel frzArgs frzArg refIds postZ flat flatL clo cloL
attribute [simp] Value.oneCell' effApp effAppz src effMk effSlc bnd effCopy
attribute [simp] effIb ibin ltF_eq eqF_eq effPick effBb effNt effCi effBox effNew AV.cells? effAlloc effLoad1 effLoadN effNilck effOff effIdx effIdxA effLenSl effCap effExt effFld effStore effMks effMks0 effBuild fillA
attribute [simp] ofVal ST.st resA SRes.get AV.int? indep indepAt Foot.apart keysLt
@[simp] theorem wrapF_i64 {n : Int} (h1 : -9223372036854775808 ≤ n) (h2 : n ≤ 9223372036854775807) : wrapF .i64 n = n := by rw [wrapF_eq]; exact wrap_i64_of h1 h2
@[simp] theorem spc_nil (g : FuncId) (args : List AV) (h : HL) (k : Nat) : spc [] g args h k = none := rfl
@[simp] theorem spc_cons (s : Sp) (ss : List Sp) (g : FuncId) (args : List AV) (h : HL) (k : Nat) : spc (s :: ss) g args h k = if s.g = g then s.f args h k else spc ss g args h k := rfl
attribute [simp] List.getElem?_cons_zero List.getElem?_cons_succ
attribute [simp] Int.tmod_eq_emod_of_nonneg Int.tdiv_eq_ediv_of_nonneg
theorem ChgT.trans {k0 : Nat} {a b c : ST} (h : ChgT k0 a b) (t : ChgT k0 b c) : ChgT k0 a c := Chg.trans h t
/-! ### Freezing -/
def frzS (id : Nat) (cs : List AV) (s : ST) : ST := ⟨s.env.map fun p => (p.1, frA id cs p.2), (hdel s.heap id).map fun p => (p.1, frB id cs p.2), s.nx⟩
theorem enF_map (F : AV → AV) (h0 : F .any = .any) : ∀ (l : List (Nat × AV)) (t : Nat), enF (l.map fun p => (p.1, F p.2)) t = F (enF l t)
  | [], t => h0.symm
  | (k, x) :: r, t => by
    simp only [List.map_cons, enF_cons, enF_map F h0 r t]
    split <;> rfl
theorem ChgT.frz {k0 : Nat} (id : Nat) {cs : List AV} {s s' : ST} (h1 : hpF s.heap id = some (.cells cs)) (h2 : cloL cs = true) (h : ChgT k0 (frzS id cs s) s') : ChgT k0 s s' := by
  refine Chg.frz (b := (frzS id cs s).st) ⟨id, cs, ?_, h2, ?_, fun i hi => ?_, fun t => ?_, rfl⟩ h
  · simpa only [ST.st, hp_eq] using h1
  · show hp (frzS id cs s).heap id = none
    unfold frzS
    rw [hp_map, hp_hdel]; simp
  · show hp (frzS id cs s).heap i = _
    unfold frzS
    rw [hp_map, hp_hdel]; simp only [hi, if_false]; rfl
  · show en (frzS id cs s).env t = _
    unfold frzS
    rw [en_eq, enF_map _ rfl]; simp only [ST.st, en_eq]
attribute [simp] frzS frA frL frB
/-! ### Other numbers -/
def nthD : List Nat → Nat → Nat
  | [], _ => 0
  | x :: _, 0 => x
  | _ :: l, n + 1 => nthD l n
theorem nthD_eq : ∀ (l : List Nat) (i : Nat), nthD l i = (l[i]?).getD 0
  | [], i => rfl
  | x :: l, 0 => rfl
  | x :: l, n + 1 => by simp only [nthD, List.getElem?_cons_succ]; exact nthD_eq l n
def gT (l : List Nat) (nx : Nat) (i : Nat) : Nat := if i < l.length then nthD l i else nx + i
def envTo (g : Nat → Nat) (e : List (Nat × AV)) : List (Nat × AV) → Prop
  | [] => True
  | (k, x) :: r => enF e k = ren g x ∧ envTo g e r
def heapTo (n : Nat) (g : Nat → Nat) (h : HL) : HL → Prop
  | [] => True
  | (i, b) :: r => i < n ∧ hpF h (g i) = some (renB g b) ∧ heapTo n g h r
def lowTo (l : List Nat) (k0 : Nat) : Bool := (List.range k0).all fun i => l[i]? == some i
theorem envTo_ok {g : Nat → Nat} {e : List (Nat × AV)} : ∀ {r : List (Nat × AV)}, envTo g e r → ∀ t, enF r t = .any ∨ enF e t = ren g (enF r t)
  | [], _, t => .inl rfl
  | (k, x) :: r, h, t => by
    simp only [enF_cons]
    split
    · rename_i he; subst he; exact .inr h.1
    · exact envTo_ok h.2 t
theorem heapTo_ok {n : Nat} {g : Nat → Nat} {h : HL} : ∀ {r : HL}, heapTo n g h r → ∀ i b, hpF r i = some b → i < n ∧ hpF h (g i) = some (renB g b)
  | [], _, i, b, hb => by cases hb
  | (k, x) :: r, hh, i, b, hb => by
    simp only [hpF_cons] at hb
    split at hb
    · rename_i he; subst he; cases hb; exact ⟨hh.1, hh.2.1⟩
    · exact heapTo_ok hh.2.2 i b hb
structure ToOk (k0 : Nat) (l : List Nat) (s s' : ST) : Prop where
  nx : s'.nx = l.length
  low : lowTo l k0 = true
  k : k0 ≤ l.length
  nd : dist l = true
  env : envTo (gT l s.nx) s.env s'.env
  heap : heapTo l.length (gT l s.nx) s.heap s'.heap
theorem cv_to {k0 : Nat} {l : List Nat} {nx : Nat} {h h' : HL} (low : lowTo l k0 = true) (hk : k0 ≤ l.length) (nd : dist l = true) (hh : heapTo l.length (gT l nx) h h') : Cv k0 (gT l nx) nx l.length (hp h) (hp h') := by
  refine ⟨fun i hi => ?_, fun i hi => ?_, fun i b hb => ?_, fun i j hi hj hij => ?_⟩
  · simp only [lowTo, List.all_eq_true, List.mem_range, beq_iff_eq] at low
    simp only [gT]
    rw [if_pos (by omega), nthD_eq, low i hi]; rfl
  · simp only [gT]
    rw [if_neg (by omega)]
    omega
  · simp only [hp_eq] at hb ⊢
    exact (heapTo_ok hh i b hb).2
  · simp only [hp_eq] at hi hj
    obtain ⟨bi, hbi⟩ := Option.ne_none_iff_exists'.1 hi
    obtain ⟨bj, hbj⟩ := Option.ne_none_iff_exists'.1 hj
    have h1 := (heapTo_ok hh i bi hbi).1
    have h2 := (heapTo_ok hh j bj hbj).1
    simp only [gT, h1, h2, if_true, nthD_eq] at hij
    have hnd := dist_nodup nd
    simp [h1, h2] at hij
    exact (List.getElem_inj hnd).1 hij
theorem ChgT.to {k0 : Nat} (l : List Nat) {s s' : ST} (h : s'.nx = l.length ∧ lowTo l k0 = true ∧ k0 ≤ l.length ∧ dist l = true ∧ envTo (gT l s.nx) s.env s'.env ∧ heapTo l.length (gT l s.nx) s.heap s'.heap) : ChgT k0 s s' := by
  replace h : ToOk k0 l s s' := ⟨h.1, h.2.1, h.2.2.1, h.2.2.2.1, h.2.2.2.2.1, h.2.2.2.2.2⟩
  exact Chg.conv ⟨gT l s.nx, by have := cv_to (l := l) (nx := s.nx) h.low h.k h.nd h.heap; rw [← h.nx] at this; exact this, fun t => by simp only [ST.st, en_eq]; exact envTo_ok h.env t⟩ .refl
attribute [simp] nthD envTo heapTo gT lowTo dist ren renL renB
/-! ### Less is said -/
theorem WkA.refl {x : AV} : WkA x x := fun _ _ _ _ h => h
theorem WkA.any {x : AV} : WkA x .any := fun _ _ _ _ _ => .any
theorem WkA.trans {x y z : AV} (a : WkA x y) (b : WkA y z) : WkA x z := fun _ _ _ _ h => b _ _ _ _ (a _ _ _ _ h)
theorem WkA.nil {u : Bool} : WkA (.v (.slice none 0 0)) (.il [] 0 u) := fun S w f v h => by cases h; exact .nil
theorem WkA.cells {c d : List AV} {n : Nat} {u : Bool} (hl : d.length = c.length) (h : ∀ (i : Nat) x y, c[i]? = some x → d[i]? = some y → WkA x y) : WkA (.il c n u) (.il d n u) := fun S w f v hh => by
  cases hh with
  | nil => have : d = [] := by simpa using hl
           subst this; exact .nil
  | emp => have : d = [] := by simpa using hl
           subst this; exact .emp
  | @il f c n u vals b o cp hl1 hS hc h1 hr hn hf =>
    refine .il (vals := vals) (by omega) (fun hd => hS (fun e => hd (by subst e; simpa using hl))) hc h1 (fun i x y hx hy => ?_) hn hf
    have hi : i < c.length := by rw [← hl]; exact (List.getElem?_eq_some_iff.1 hx).1
    exact h i c[i] x (by simp [hi]) hx _ _ _ _ (hr i _ y (by simp [hi]) hy)
theorem WkA.tup {c d : List AV} (hl : d.length = c.length) (h : ∀ (i : Nat) x y, c[i]? = some x → d[i]? = some y → WkA x y) : WkA (.tup c) (.tup d) := fun S w f v hh => by
  cases hh with
  | tup hl1 hr =>
    refine .tup (by omega) (fun i x y hx hy => ?_)
    have hi : i < c.length := by rw [← hl]; exact (List.getElem?_eq_some_iff.1 hx).1
    exact h i c[i] x (by simp [hi]) hx _ _ _ _ (hr i _ y (by simp [hi]) hy)
def envWk : List (Nat × AV) → List (Nat × AV) → Prop
  | [], [] => True
  | (k, x) :: r, (k', y) :: r' => k = k' ∧ WkA x y ∧ envWk r r'
  | _, _ => False
def heapWk : HL → HL → Prop
  | [], [] => True
  | (k, x) :: r, (k', y) :: r' => k = k' ∧ WkB x y ∧ heapWk r r'
  | _, _ => False
theorem WkB.refl : ∀ {b : Blk}, WkB b b
  | .cells c => ⟨Nat.le_refl _, fun i x y hx hy => by rw [hx] at hy; cases hy; exact .refl⟩
  | .map e => ⟨rfl, fun i x y hx hy => by rw [hx] at hy; cases hy; exact ⟨rfl, .refl⟩⟩
  | .bld _ c => ⟨rfl, rfl, fun i x y hx hy => by rw [hx] at hy; cases hy; exact .refl⟩
theorem envWk_ok : ∀ {a b : List (Nat × AV)}, envWk a b → ∀ t, WkA (enF a t) (enF b t)
  | [], [], _, t => .refl
  | (k, x) :: r, (k', y) :: r', ⟨e, h1, h2⟩, t => by
    subst e
    simp only [enF_cons]
    split
    · exact h1
    · exact envWk_ok h2 t
theorem heapWk_ok : ∀ {a b : HL}, heapWk a b → ∀ i c', hpF b i = some c' → ∃ c, hpF a i = some c ∧ WkB c c'
  | [], [], _, i, c', h => by cases h
  | (k, x) :: r, (k', y) :: r', ⟨e, h1, h2⟩, i, c', h => by
    subst e
    simp only [hpF_cons] at h ⊢
    split at h
    · rename_i e; rw [if_pos e]; cases h; exact ⟨_, rfl, h1⟩
    · rename_i e; rw [if_neg e]; exact heapWk_ok h2 i c' h
theorem ChgT.weak {k0 : Nat} {s s' s'' : ST} (he : envWk s.env s'.env) (hh : heapWk s.heap s'.heap) (hn : s'.nx = s.nx) (h : ChgT k0 s' s'') : ChgT k0 s s'' :=
  Chg.weak ⟨fun t => by simp only [ST.st, en_eq]; exact envWk_ok he t, fun i b' hb => by simp only [ST.st, hp_eq] at hb ⊢; exact heapWk_ok hh i b' hb, hn⟩ h
/-! ### How functions end -/
theorem EndsP.chg {k : Nat} {rs : List SRes} {r : AV} {k' : Nat} {h' : HL} {e : Exit} {s s' : ST} (h : ChgT k s s') (h2 : EndsP k rs r k' h' e s') : EndsP k rs r k' h' e s := by
  obtain ⟨h3, s2, h4, h5⟩ := h2
  exact ⟨h3, s2, h.trans h4, h5⟩
theorem EndsP.same {k : Nat} {rs : List SRes} {r : AV} {H : HL} {e : Exit} {s : ST} (he : e = .ret ∨ e = .normal) (hr : resA s.st rs = some r) (hc : clo r = true) (low : lowTo (List.range k) k = true) (nd : dist (List.range k) = true)
    (hh : heapTo k (gT (List.range k) s.nx) s.heap H) : EndsP k rs r k H e s := by
  have := cv_to (l := List.range k) (nx := s.nx) (h := s.heap) (h' := H) low (by simp) nd (by simpa using hh)
  simp only [List.length_range] at this
  refine ⟨by rcases he with rfl | rfl <;> trivial, s, .refl, _, this, ?_⟩
  rw [(ren_clo _).1 r hc]; exact hr
/-! ### Slices that are returned, or kept, are no longer written to -/
def fzEnv (h : HL) (e : List (Nat × AV)) : List Nat → Option (List (Nat × AV))
  | [] => some []
  | t :: ts => match frzArg h (enF e t) with
    | some y => match fzEnv h e ts with
      | some r => some ((t, y) :: r)
      | none => none
    | none => none
theorem frzArg_fz {h : HL} {x y : AV} (hf : frzArg h x = some y) : y = x ∨ y = .any ∨ Fz1 (hp h) (hp []) x y := by
  cases x with
  | ref id off len esz cap =>
    simp only [frzArg] at hf
    split at hf
    · rename_i cs hcs
      split at hf
      · rename_i hok
        cases hf
        exact .inr (.inr ⟨cs, by rw [hp_eq]; exact hcs, rfl, hok.1, hok.2, rfl⟩)
      · cases hf
    · cases hf
  | v u =>
    simp only [frzArg] at hf
    split at hf
    · rename_i e; cases e
    · rename_i e; cases e; cases hf; exact .inr (.inr rfl)
    · rename_i e; cases e
    · split at hf
      · cases hf; exact .inl rfl
      · cases hf
  | il c n u => simp only [frzArg, Option.some.injEq] at hf; exact .inr (.inr hf.symm)
  | _ =>
    simp only [frzArg] at hf
    split at hf
    · cases hf; exact .inl rfl
    · cases hf
theorem fzEnv_ok {h : HL} {e : List (Nat × AV)} : ∀ {ts : List Nat} {r : List (Nat × AV)}, fzEnv h e ts = some r → ∀ t, enF r t = enF e t ∨ enF r t = .any ∨ Fz1 (hp h) (hp []) (enF e t) (enF r t)
  | [], r, hh, t => by cases hh; exact .inr (.inl rfl)
  | a :: ts, r, hh, t => by
    simp only [fzEnv] at hh
    split at hh
    · rename_i y hy
      split at hh
      · rename_i r' hr
        cases hh
        simp only [enF_cons]
        split
        · rename_i e; subst e; exact frzArg_fz hy
        · exact fzEnv_ok hr t
      · cases hh
    · cases hh
theorem ChgT.fz {k0 : Nat} {s s' : ST} (ts : List Nat) (hh : s'.heap = []) (hn : s'.nx = 0) (hk : k0 = 0) (h : fzEnv s.heap s.env ts = some s'.env) : ChgT k0 s s' := by
  subst hk
  refine Chg.fzn (b := ⟨en s'.env, hp s'.heap, s.nx⟩) ⟨fun t => ?_, fun i => ?_, rfl⟩ (Chg.conv ⟨fun i => s.nx + i, ⟨fun i hi => by omega, fun i _ => by simp, fun i b hb => ?_, fun i j hi => ?_⟩, fun t => ?_⟩ .refl)
  · simp only [ST.st, en_eq, hh]; exact fzEnv_ok h t
  · left; rw [hh]; rfl
  · simp [ST.st, hh] at hb
  · simp [ST.st, hh] at hi
  · have hc : clo (enF s'.env t) = true := by
      have : ∀ {ts : List Nat} {r : List (Nat × AV)}, fzEnv s.heap s.env ts = some r → ∀ t, clo (enF r t) = true := by
        intro ts
        induction ts with
        | nil => intro r hh t; cases hh; rfl
        | cons a ts ih =>
          intro r hh t
          simp only [fzEnv] at hh
          split at hh
          · rename_i y hy
            split at hh
            · rename_i r' hr
              cases hh
              simp only [enF_cons]
              split
              · exact frzArg_clo hy
              · exact ih hr t
            · cases hh
          · cases hh
      exact this h t
    right
    simp only [ST.st, en_eq]
    rw [(ren_clo _).1 _ hc]
theorem EndsP.fz {rs : List SRes} {r : AV} {e : Exit} {s : ST} (ts : List Nat) (env' : List (Nat × AV)) (he : e = .ret ∨ e = .normal) (h : fzEnv s.heap s.env ts = some env') (hr : resA (ST.mk env' [] 0).st rs = some r) (hc : clo r = true) : EndsP 0 rs r 0 [] e s :=
  .chg (.fz (s' := ⟨env', [], 0⟩) ts rfl rfl rfl h) (.pure he hr hc)
def idOf : AV → Nat
  | .ref id _ _ _ _ => id
  | .ptr id _ => id
  | .map id => id
  | _ => 0
attribute [simp] fzEnv idOf
/-! ### Lists of numbers -/
@[simp] theorem ints_len (l : List Int) : (ints l).length = l.length := by simp [ints]
@[simp] theorem ints_nil : ints [] = [] := rfl
@[simp] theorem ints_cons (x : Int) (l : List Int) : ints (x :: l) = .v (.int .i64 x) :: ints l := rfl
@[simp] theorem ints_app (a b : List Int) : ints (a ++ b) = ints a ++ ints b := by simp [ints]
@[simp] theorem ints_get? (l : List Int) (i : Nat) : (ints l)[i]? = (l[i]?).map fun n => .v (.int .i64 n) := by simp [ints]
@[simp] theorem ints_at (l : List Int) (i : Nat) (h : i < (ints l).length) : (ints l)[i] = .v (.int .i64 (l[i]'(by simpa using h))) := by simp [ints]
@[simp] theorem ints_take (l : List Int) (n : Nat) : (ints l).take n = ints (l.take n) := by simp [ints, List.map_take]
@[simp] theorem ints_drop (l : List Int) (n : Nat) : (ints l).drop n = ints (l.drop n) := by simp [ints, List.map_drop]
@[simp] theorem ints_ren (g : Nat → Nat) (l : List Int) : renL g (ints l) = ints l := by induction l with | nil => rfl | cons a l ih => simp [ih]
@[simp] theorem ints_clo (l : List Int) : cloL (ints l) = true := by induction l with | nil => rfl | cons a l ih => simp [ih]
@[simp] theorem ints_fr (id : Nat) (cs : List AV) (l : List Int) : frL id cs (ints l) = ints l := by induction l with | nil => rfl | cons a l ih => simp [ih]
@[simp] theorem ints_flat (l : List Int) : flatL (ints l) = true := by induction l with | nil => rfl | cons a l ih => simp [ih]
@[simp] theorem renL_app (g : Nat → Nat) (a b : List AV) : renL g (a ++ b) = renL g a ++ renL g b := by induction a with | nil => rfl | cons x a ih => simp [ih]
@[simp] theorem cloL_app (a b : List AV) : cloL (a ++ b) = (cloL a && cloL b) := by induction a with | nil => rfl | cons x a ih => simp [ih, Bool.and_assoc]
@[simp] theorem frL_app (id : Nat) (cs a b : List AV) : frL id cs (a ++ b) = frL id cs a ++ frL id cs b := by induction a with | nil => rfl | cons x a ih => simp [ih]
@[simp] theorem ints_take_app (l : List Int) (c : List AV) : (ints l ++ c).take l.length = ints l := by rw [List.take_left' (by simp)]
@[simp] theorem ints_app_get (l : List Int) (x : AV) : (ints l ++ [x])[l.length]? = some x := by rw [List.getElem?_append_right (by simp)]; simp
@[simp] theorem ints_take_app1 (l : List Int) (x : AV) : (ints l ++ [x]).take (l.length + 1) = ints l ++ [x] := by rw [List.take_of_length_le (by simp)]
@[simp] theorem natp1 (n : Nat) : ((n : Int) + 1 = 0) = False := by simp; omega
def unints : List AV → Option (List Int)
  | [] => some []
  | .v (.int .i64 n) :: r => match unints r with
    | some l => some (n :: l)
    | none => none
  | _ => none
@[simp] theorem unints_nil : unints [] = some [] := rfl
@[simp] theorem unints_cons (n : Int) (r : List AV) : unints (.v (.int .i64 n) :: r) = match unints r with | some l => some (n :: l) | none => none := rfl
@[simp] theorem unints_ints (l : List Int) : unints (ints l) = some l := by induction l with | nil => rfl | cons a l ih => simp [ih]
@[simp] theorem unints_ints_app (l : List Int) (r : List AV) : unints (ints l ++ r) = match unints r with | some m => some (l ++ m) | none => none := by
  induction l with
  | nil => simp; cases unints r <;> rfl
  | cons a l ih => simp [ih]; cases unints r <;> rfl
theorem unints_inv : ∀ {c : List AV} {l : List Int}, unints c = some l → c = ints l
  | [], l, h => by simp at h; subst h; rfl
  | x :: c, l, h => by
    unfold unints at h
    split at h
    · rename_i h0; cases h0
    · rename_i n r e
      cases e
      split at h
      · rename_i m hm
        cases h
        rw [unints_inv hm]; rfl
      · cases h
    · cases h
/-! ### Lists of lists -/
def eL (l : List Int) (u : Bool) : AV := .il (ints l) l.length u
def lls (ll : List (List Int)) : List AV := ll.map fun l => eL l false
@[simp] theorem lls_len (l : List (List Int)) : (lls l).length = l.length := by simp [lls]
@[simp] theorem lls_nil : lls [] = [] := rfl
@[simp] theorem lls_cons (x : List Int) (l : List (List Int)) : lls (x :: l) = .il (ints x) x.length false :: lls l := rfl
@[simp] theorem lls_app (a b : List (List Int)) : lls (a ++ b) = lls a ++ lls b := by simp [lls]
@[simp] theorem lls_get? (l : List (List Int)) (i : Nat) : (lls l)[i]? = (l[i]?).map fun x => .il (ints x) x.length false := by simp [lls, eL]
@[simp] theorem lls_at (l : List (List Int)) (i : Nat) (h : i < (lls l).length) : (lls l)[i] = .il (ints (l[i]'(by simpa using h))) (l[i]'(by simpa using h)).length false := by simp [lls, eL]
@[simp] theorem lls_take (l : List (List Int)) (n : Nat) : (lls l).take n = lls (l.take n) := by simp [lls, List.map_take]
@[simp] theorem lls_drop (l : List (List Int)) (n : Nat) : (lls l).drop n = lls (l.drop n) := by simp [lls, List.map_drop]
@[simp] theorem lls_ren (g : Nat → Nat) (l : List (List Int)) : renL g (lls l) = lls l := by induction l with | nil => rfl | cons a l ih => simp [ih]
@[simp] theorem lls_clo (l : List (List Int)) : cloL (lls l) = true := by induction l with | nil => rfl | cons a l ih => simp [ih]
@[simp] theorem lls_fr (id : Nat) (cs : List AV) (l : List (List Int)) : frL id cs (lls l) = lls l := by induction l with | nil => rfl | cons a l ih => simp [ih]
def unlls : List AV → Option (List (List Int))
  | [] => some []
  | .il c n false :: r => match unints c with
    | some x => if n = x.length then (match unlls r with
      | some l => some (x :: l)
      | none => none) else none
    | none => none
  | _ => none
@[simp] theorem unlls_nil : unlls [] = some [] := rfl
@[simp] theorem unlls_lls (l : List (List Int)) : unlls (lls l) = some l := by induction l with | nil => rfl | cons a l ih => simp [unlls, ih]
theorem unlls_inv : ∀ {c : List AV} {l : List (List Int)}, unlls c = some l → c = lls l
  | [], l, h => by simp at h; subst h; rfl
  | x :: c, l, h => by
    unfold unlls at h
    split at h
    · rename_i h0; cases h0
    · rename_i c n r e
      cases e
      split at h
      · rename_i x hx
        split at h
        · rename_i hn
          split at h
          · rename_i m hm
            cases h
            rw [unlls_inv hm, unints_inv hx, hn]; rfl
          · cases h
        · cases h
      · cases h
    · cases h
/-! ### Truth values -/
def bls (l : List Bool) : List AV := l.map fun b => .v (.bool b)
@[simp] theorem bls_len (l : List Bool) : (bls l).length = l.length := by simp [bls]
@[simp] theorem bls_nil : bls [] = [] := rfl
@[simp] theorem bls_cons (x : Bool) (l : List Bool) : bls (x :: l) = .v (.bool x) :: bls l := rfl
@[simp] theorem bls_app (a b : List Bool) : bls (a ++ b) = bls a ++ bls b := by simp [bls]
@[simp] theorem bls_get? (l : List Bool) (i : Nat) : (bls l)[i]? = (l[i]?).map fun n => .v (.bool n) := by simp [bls]
@[simp] theorem bls_at (l : List Bool) (i : Nat) (h : i < (bls l).length) : (bls l)[i] = .v (.bool (l[i]'(by simpa using h))) := by simp [bls]
@[simp] theorem bls_take (l : List Bool) (n : Nat) : (bls l).take n = bls (l.take n) := by simp [bls, List.map_take]
@[simp] theorem bls_drop (l : List Bool) (n : Nat) : (bls l).drop n = bls (l.drop n) := by simp [bls, List.map_drop]
@[simp] theorem bls_set (l : List Bool) (i : Nat) (b : Bool) : (bls l).set i (.v (.bool b)) = bls (l.set i b) := by simp [bls, List.map_set]
@[simp] theorem ints_set (l : List Int) (i : Nat) (b : Int) : (ints l).set i (.v (.int .i64 b)) = ints (l.set i b) := by simp [ints, List.map_set]
@[simp] theorem bls_ren (g : Nat → Nat) (l : List Bool) : renL g (bls l) = bls l := by induction l with | nil => rfl | cons a l ih => simp [ih]
@[simp] theorem bls_clo (l : List Bool) : cloL (bls l) = true := by induction l with | nil => rfl | cons a l ih => simp [ih]
@[simp] theorem bls_fr (id : Nat) (cs : List AV) (l : List Bool) : frL id cs (bls l) = bls l := by induction l with | nil => rfl | cons a l ih => simp [ih]
@[simp] theorem bls_flat (l : List Bool) : flatL (bls l) = true := by induction l with | nil => rfl | cons a l ih => simp [ih]
def unbls : List AV → Option (List Bool)
  | [] => some []
  | .v (.bool n) :: r => match unbls r with
    | some l => some (n :: l)
    | none => none
  | _ => none
@[simp] theorem unbls_nil : unbls [] = some [] := rfl
@[simp] theorem unbls_bls (l : List Bool) : unbls (bls l) = some l := by induction l with | nil => rfl | cons a l ih => simp [unbls, ih]
theorem unbls_inv : ∀ {c : List AV} {l : List Bool}, unbls c = some l → c = bls l
  | [], l, h => by simp at h; subst h; rfl
  | x :: c, l, h => by
    unfold unbls at h
    split at h
    · rename_i h0; cases h0
    · rename_i n r e
      cases e
      split at h
      · rename_i m hm
        cases h
        rw [unbls_inv hm]; rfl
      · cases h
    · cases h
@[simp] theorem splice_nil (p : Nat) (ys : List AV) : splice [] p ys = ys := by simp [splice]
@[simp] theorem splice_zero (x y : AV) (l : List AV) : splice (x :: l) 0 [y] = y :: l := by simp [splice]
@[simp] theorem splice_succ (x : AV) (l : List AV) (p : Nat) (ys : List AV) : splice (x :: l) (p + 1) ys = x :: splice l p ys := by simp [splice, Nat.add_assoc, Nat.add_comm 1]; rw [show p + (ys.length + 1) = (p + ys.length) + 1 by omega, List.drop_succ_cons]
@[simp] theorem not_succ_le {n : Nat} : (n + 1 ≤ n) = False := by simp
@[simp] theorem cap_le {a b : Nat} (h : a * b ≤ 1099511627776) : (a * b ≤ 1099511627776) = True := eq_true h
@[simp] theorem splice_bls (M : List Bool) (i : Nat) (b : Bool) (h : i < M.length) : splice (bls M) i [.v (.bool b)] = bls (M.set i b) := by rw [splice_one _ _ _ (by simpa using h), bls_set]
@[simp] theorem splice_ints (M : List Int) (i : Nat) (b : Int) (h : i < M.length) : splice (ints M) i [.v (.int .i64 b)] = ints (M.set i b) := by rw [splice_one _ _ _ (by simpa using h), ints_set]
theorem oLt {a b : Int} (h : a < b) : (a < b) = True := eq_true h
theorem oLe {a b : Int} (h : a ≤ b) : (a ≤ b) = True := eq_true h
theorem oLtN {a b : Nat} (h : a < b) : (a < b) = True := eq_true h
theorem oLeN {a b : Nat} (h : a ≤ b) : (a ≤ b) = True := eq_true h
theorem nLt {a b : Int} (h : ¬ a < b) : (a < b) = False := eq_false h
theorem nLe {a b : Int} (h : ¬ a ≤ b) : (a ≤ b) = False := eq_false h
theorem nLtN {a b : Nat} (h : ¬ a < b) : (a < b) = False := eq_false h
theorem nLeN {a b : Nat} (h : ¬ a ≤ b) : (a ≤ b) = False := eq_false h
end Go.Sx
