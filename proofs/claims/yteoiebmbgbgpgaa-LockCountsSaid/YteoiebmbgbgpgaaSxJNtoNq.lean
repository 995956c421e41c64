/- The interpreter, made quick for the kernel: the operations' effects are written out ahead. No conditions. -/
import Derived.Test.YteoiebmbgbgpgaaSxM
set_option linter.unusedVariables false
set_option linter.unusedSimpArgs false
section
namespace Go.Sx
inductive PB where
  | eff (f : (Nat → AV) → Option Eff)
  | call (g : FuncId) (args : List Operand)
  | callv (x : Operand) (args : List Operand)
structure PI where
  g : Option (Nat × Bool)
  d : Option Nat
  tm : List Nat
  b : PB
inductive PCode where
  | skip
  | reg (ops : List PI) (keep : List Nat)
  | draw (ops : List PI) (anc : List (List Nat)) (keep : List Nat)
  | seq (a b : PCode)
  | seqC (a b : PCode)
  | cond (c : Operand) (a b : PCode)
  | block (id : Nat) (b : PCode)
  | loop (b : PCode)
  | exit (id : Nat)
  | ret
  | scope (b : PCode)
def SOp.pb (P : Program) (s : SOp) : PB :=
  match s with
  | .call g a => .call g a
  | .callv x a => .callv x a
  | s => .eff fun e => s.eff P (evalA e)
def SIns.pi (P : Program) (i : SIns) : PI := ⟨i.guard, i.dst, i.op.tm, i.op.pb P⟩
def SCode.pc (P : Program) : SCode → PCode
  | .skip => .skip
  | .reg ops ks => .reg (ops.map (·.pi P)) ks
  | .draw ops anc ks => .draw (ops.map (·.pi P)) anc ks
  | .seq a b => .seq (a.pc P) (b.pc P)
  | .cond c a b => .cond c (a.pc P) (b.pc P)
  | .block id b => .block id (b.pc P)
  | .loop b => .loop (b.pc P)
  | .exit id => .exit id
  | .ret => .ret
  | .scope b => .scope (b.pc P)
section
variable (call : Caller)
def pCallAt (d : Option Nat) (tm : List Nat) (g : FuncId) (args : List AV) (s : ST) : Option (Foot × ST) :=
  match evCall call g args s.heap s.nx with
  | some c => some (⟨tm, d, c.rd, c.wr⟩, (ST.mk s.env (setL s.heap c.wr c.outs) (s.nx + c.cnt)).put d c.r)
  | none => none
def pOp (d : Option Nat) (tm : List Nat) (b : PB) (s : ST) : Option (Foot × ST) :=
  match b with
  | .eff f => match f (enF s.env) with
    | some E => match E.foot (hpF s.heap) s.nx with
      | some (v, ws, os) => some (⟨tm, d, E.rs, ws⟩, (ST.mk s.env (setL s.heap ws os) (s.nx + 1)).put d v)
      | none => none
    | none => none
  | .call g args => pCallAt call d tm g (args.map (evalA (enF s.env))) s
  | .callv x args => match evalA (enF s.env) x with
    | .fn (.func g) first captured => pCallAt call d tm g (first ++ args.map (evalA (enF s.env)) ++ captured) s
    | _ => none
def pIns (i : PI) (s : ST) : Option (Foot × ST) :=
  match i.g with
  | none => pOp call i.d i.tm i.b s
  | some (t, want) => match gd (enF s.env t) want with
    | some true => pOp call i.d (t :: i.tm) i.b s
    | some false => some (⟨[t], i.d, [], []⟩, s.put i.d (.v undef))
    | none => none
def pOps : List PI → ST → Option ST
  | [], s => some s
  | i :: is, s => match pIns call i s with
    | some (_, s') => pOps is s'
    | none => none
def pD : List PI → List Foot → ST → Option (List Foot × ST)
  | [], fs, s => some (fs, s)
  | i :: is, fs, s => match pIns call i s with
    | some (ft, s') => pD is (fs ++ [ft]) s'
    | none => none
def ST.keepF (s : ST) (ks : List Nat) : ST := { s with env := ks.map fun k => (k, enF s.env k) }
def pv (N k0 : Nat) : PCode → ST → Option (Exit × ST)
  | .skip, s => some (.normal, s)
  | .reg ops ks, s => match pOps call ops s with
    | some s' => some (.normal, s'.keepF ks)
    | none => none
  | .draw ops anc ks, s => match pD call ops [] s with
    | some (fs, s') => if indep [] anc fs then some (.normal, s'.keepF ks) else none
    | none => none
  | .seq a b, s => match pv N k0 a s with
    | some (.normal, s') => pv N k0 b s'
    | r => r
  | .seqC a b, s => none
  | .cond c a b, s => match evalA (enF s.env) c with
    | .v (.bool t) => if t then pv N k0 a s else pv N k0 b s
    | _ => none
  | .block id b, s => match pv N k0 b s with
    | some (.exit id', s') => if id' = id then some (.normal, s') else some (.exit id', s')
    | r => r
  | .loop b, s => iter k0 (pv N k0 b) N s
  | .exit id, s => some (.exit id, s)
  | .ret, s => some (.ret, s)
  | .scope b, s => match pv N k0 b s with
    | some (.goto _, _) => none
    | r => r
end
section
variable {P : Program} {call : Caller}
theorem pOp_eq (d : Option Nat) (tm : List Nat) (op : SOp) (s : ST) : pOp call d tm (op.pb P) s = evOp P call d tm op s := by
  unfold pOp
  rw [enF_eq, hpF_eq]
  cases op <;> rfl
theorem pIns_eq (i : SIns) (s : ST) : pIns call (i.pi P) s = evIns P call i s := by
  unfold pIns evIns SIns.pi
  rw [enF_eq]
  simp only [pOp_eq]
  rfl
theorem pOps_eq : ∀ (is : List SIns) (s : ST), pOps call (is.map (·.pi P)) s = evOps P call is s
  | [], s => rfl
  | i :: is, s => by
    simp only [List.map_cons, pOps, evOps, pIns_eq]
    cases evIns P call i s with
    | none => rfl
    | some p => exact pOps_eq is p.2
theorem pD_eq : ∀ (is : List SIns) (fs : List Foot) (s : ST), pD call (is.map (·.pi P)) fs s = evD P call is fs s
  | [], fs, s => rfl
  | i :: is, fs, s => by
    simp only [List.map_cons, pD, evD, pIns_eq]
    cases evIns P call i s with
    | none => rfl
    | some p => exact pD_eq is _ p.2
theorem keepF_eq (s : ST) (ks : List Nat) : s.keepF ks = s.keep ks := by unfold ST.keepF ST.keep; rw [enF_eq]
theorem pv_eq (N k0 : Nat) : ∀ (c : SCode), pv call N k0 (c.pc P) = ev P call N k0 c := by
  intro c
  induction c with
  | skip => rfl
  | reg ops ks => funext s; simp only [SCode.pc, pv, ev, pOps_eq, keepF_eq]; rfl
  | draw ops anc ks => funext s; simp only [SCode.pc, pv, ev, pD_eq, keepF_eq]; rfl
  | seq a b iha ihb => funext s; simp only [SCode.pc, pv, ev, iha, ihb]; rfl
  | cond c a b iha ihb => funext s; simp only [SCode.pc, pv, ev, iha, ihb, enF_eq]; rfl
  | block id b ih => funext s; simp only [SCode.pc, pv, ev, ih]; rfl
  | loop b ih => funext s; simp only [SCode.pc, pv, ev, ih]
  | exit id => rfl
  | ret => rfl
  | scope b ih => funext s; simp only [SCode.pc, pv, ev, ih]; rfl
end
structure PEnt where
  code : PCode
  rs : List SRes
  n : Nat
def lookP (tab : List (Nat × PEnt)) (g : Nat) : Option PEnt :=
  match tab with
  | [] => none
  | (i, e) :: r => cond (Nat.beq g i) (some e) (lookP r g)
def runP (tab : List (Nat × PEnt)) (N : Nat) : Nat → Caller
  | 0 => fun _ _ _ _ => none
  | d + 1 => fun g args h k => match lookP tab g with
    | none => none
    | some E => if Nat.ble args.length E.n then (match pv (runP tab N d) N k E.code ⟨args0 0 args, h, k⟩ with
      | some (.ret, s) => finish k E.rs s
      | some (.normal, s) => finish k E.rs s
      | _ => none) else none
structure PFn (P : Program) (g : FuncId) (E : PEnt) : Prop where
  ex : ∃ c, Fn P g c E.rs E.n ∧ E.code = c.pc P
def PTabOk (P : Program) : List (Nat × PEnt) → Prop
  | [] => True
  | (g, E) :: r => PFn P g E ∧ PTabOk P r
theorem ptab_get {P : Program} : ∀ {tab : List (Nat × PEnt)} {g : Nat} {E : PEnt}, PTabOk P tab → lookP tab g = some E → PFn P g E
  | [], g, E, _, h => by simp [lookP] at h
  | (i, e) :: r, g, E, ht, h => by
    simp only [lookP, beq_cond] at h
    split at h
    · rename_i hg; cases h; rw [hg]; exact ht.1
    · exact ptab_get ht.2 h
theorem runP_ok {P : Program} {tab : List (Nat × PEnt)} (ht : PTabOk P tab) (N : Nat) : ∀ d, CallOk P (runP tab N d)
  | 0 => fun g args h k r h' k' hh => by simp [runP] at hh
  | d + 1 => fun g args h k r h' k' hh => by
    have ih := runP_ok ht N d
    simp only [runP] at hh
    split at hh
    · cases hh
    · rename_i E hE
      obtain ⟨c, hF, hc⟩ := (ptab_get ht hE).ex
      split at hh
      · rename_i hn
        refine hF.runs (by simpa using hn) ?_
        have e0 : (⟨en (args0 0 args), hp h, k⟩ : St) = (⟨args0 0 args, h, k⟩ : ST).st := rfl
        rw [e0]
        rw [hc, pv_eq] at hh
        split at hh
        · rename_i s1 h1
          exact ev_run ih h1 (finish_ok hh _ (.inl rfl))
        · rename_i s1 h1
          exact ev_run ih h1 (finish_ok hh _ (.inr rfl))
        · cases hh
      · cases hh
end Go.Sx
end
section
namespace Go.Sx
theorem PFn.mk2 {P : Program} {g : FuncId} {p : PCode} {rs : List SRes} {n : Nat} (fn : Func) (c : Code) (hs : List (List Nat)) (h1 : P.funcs[g]? = some fn) (h2 : fn.body = some c) (h3 : (fn.name == "runtime.NumGoroutine") = false)
    (h4 : (comp P fn.ntmps c hs).map (fun x => (x.1.pc P, x.2)) = some (p, [])) (h5 : fn.results.toList.mapM (compRes P) = some rs) (h6 : n ≤ fn.ntmps) : PFn P g ⟨p, rs, n⟩ := by
  cases hc : comp P fn.ntmps c hs with
  | none => rw [hc] at h4; cases h4
  | some x =>
    obtain ⟨s, l⟩ := x
    rw [hc] at h4
    simp only [Option.map_some, Option.some.injEq, Prod.mk.injEq] at h4
    obtain ⟨h, rfl⟩ := h4
    exact ⟨s, ⟨fn, c, hs, h1, h2, h3, hc, h5, h6⟩, h.symm⟩
noncomputable def pcOf (P : Program) (fn : Func) (c : Code) (hs : List (List Nat)) : PCode := match comp P fn.ntmps c hs with
  | some x => x.1.pc P
  | none => .skip
theorem PFn.mk3 {P : Program} {g : FuncId} {rs : List SRes} {n : Nat} (fn : Func) (c : Code) (hs : List (List Nat)) (h1 : P.funcs[g]? = some fn) (h2 : fn.body = some c) (h3 : (fn.name == "runtime.NumGoroutine") = false)
    (h4 : (comp P fn.ntmps c hs).map (·.2) = some []) (h5 : fn.results.toList.mapM (compRes P) = some rs) (h6 : n ≤ fn.ntmps) : PFn P g ⟨pcOf P fn c hs, rs, n⟩ := by
  cases hc : comp P fn.ntmps c hs with
  | none => rw [hc] at h4; cases h4
  | some x =>
    obtain ⟨s, l⟩ := x
    rw [hc] at h4
    simp only [Option.map_some, Option.some.injEq] at h4
    subst h4
    exact ⟨s, ⟨fn, c, hs, h1, h2, h3, hc, h5, h6⟩, by show pcOf P fn c hs = s.pc P; unfold pcOf; rw [hc]⟩
end Go.Sx
end
