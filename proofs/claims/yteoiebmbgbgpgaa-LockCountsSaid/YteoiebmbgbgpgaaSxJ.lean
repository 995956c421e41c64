/- States, calls, and lists of operations that are carried out in order. No conditions. -/
import Derived.Test.YteoiebmbgbgpgaaSxI
import Derived.Tactics
set_option linter.unusedVariables false
set_option linter.unusedSimpArgs false
namespace Go.Sx
structure St where
  env : Nat → AV
  heap : Heap
  nx : Nat
def St.put (σ : St) (d : Option Nat) (v : AV) : St :=
  match d with
  | some d => { σ with env := upd σ.env d v }
  | none => σ
structure Real (N : Nat) (S : Nat → Prop) (w : World) (f : Place) (fr : Nat → Prop) (env : Nat → AV) (h : Heap) (a : Go.Act) : Prop where
  env : ∀ t, Rep S w f (env t) (a.tmps.getD t undef)
  wf : Wf S w f h
  fresh : ∀ id, fr id → f id = none
  size : a.tmps.size = N
  defers : a.defers = []
def RunsL (P : Program) (fid : FuncId) (t cnt : Nat) (args : List AV) (h : Heap) (r : AV) (h' : Heap) : Prop :=
  (∃ fn, P.funcs[fid]? = some fn ∧ fn.body.isSome = true ∧ (fn.name == "runtime.NumGoroutine") = false) ∧
  ∀ S w f vs, Reps S w f args vs → Wf S w f h → (∀ id, t ≤ id → id < t + cnt → f id = none) → (∃ B, ∀ id, B ≤ id → f id = none) →
    Calls P fid vs.toArray w fun e w' => ∃ S' f' v, e = .returned v ∧ Rep S' w' f' r v ∧ Wf S' w' f' h' ∧ Step (fun _ => True) S w f h S' w' f' h' ∧
      (∀ id, ¬ (t ≤ id ∧ id < t + cnt) → f' id = f id)
theorem callFunc_run {P : Program} {fid : FuncId} {args : Array Value} {w : World} (h : ∃ fn, P.funcs[fid]? = some fn ∧ fn.body.isSome = true ∧ (fn.name == "runtime.NumGoroutine") = false) :
    (callFunc fid args).run P w = .ok (.enter fid args) w := by
  obtain ⟨fn, h1, h2, h3⟩ := h
  have h4 : fn.body.isNone = false := by cases hb : fn.body <;> simp_all
  unfold callFunc
  rw [Sem.run_bind]
  simp only [run_program, Result.andThen_ok, h1]
  rw [if_neg (by rw [h3]; simp), if_neg (by rw [h4]; simp)]
  rfl
structure SIns where
  dst : Option Nat
  op : SOp
  guard : Option (Nat × Bool)
def RunOp (P : Program) (d : Option Nat) (s : SOp) (σ : St) (K : St → Prop) : Prop :=
  match s with
  | .call g args => ∃ r cnt h', RunsL P g σ.nx cnt (args.map (evalA σ.env)) σ.heap r h' ∧ K (St.put ⟨σ.env, h', σ.nx + cnt⟩ d r)
  | .callv x args => match evalA σ.env x with
    | .fn (.func g) first captured => ∃ r cnt h', RunsL P g σ.nx cnt (first ++ args.map (evalA σ.env) ++ captured) σ.heap r h' ∧ K (St.put ⟨σ.env, h', σ.nx + cnt⟩ d r)
    | _ => False
  | s => match s.eff P (evalA σ.env) with
    | some E => match E.exec σ.heap σ.nx with
      | some (v, h') => K (St.put ⟨σ.env, h', σ.nx + 1⟩ d v)
      | none => False
    | none => False
def gd (x : AV) (want : Bool) : Option Bool :=
  match x with
  | .v (.bool b) => some (cond want b (!b))
  | .v (.tuple _) => some false
  | _ => none
def RunIns (P : Program) (i : SIns) (σ : St) (K : St → Prop) : Prop :=
  match i.guard with
  | none => RunOp P i.dst i.op σ K
  | some (t, want) => match gd (σ.env t) want with
    | some true => RunOp P i.dst i.op σ K
    | some false => K (σ.put i.dst (.v undef))
    | none => False
def RunOps (P : Program) : List SIns → St → (St → Prop) → Prop
  | [], σ, K => K σ
  | i :: is, σ, K => RunIns P i σ fun σ' => RunOps P is σ' K
/-! ### Compiling a list of operations -/
def dstOk (N : Nat) : Option Nat → Bool
  | some d => decide (d < N)
  | none => true
def compIns (P : Program) (N : Nat) (ops : Array Oper) (o : Oper) : Option SIns :=
  match compOp P o.op with
  | none => none
  | some s =>
    if dstOk N o.dst = true then
      match o.guard with
      | none => some ⟨o.dst, s, none⟩
      | some (j, want) => match (ops[j]?).bind (·.dst) with
        | some t => some ⟨o.dst, s, some (t, want)⟩
        | none => none
    else none
theorem put_real {N S w f fr env h a} {d : Option Nat} {v : AV} {y : Value} (hr : Real N S w f fr env h a) (hd : dstOk N d = true) (hv : Rep S w f v y) (nx : Nat) :
    Real N S w f fr (St.put ⟨env, h, nx⟩ d v).env (St.put ⟨env, h, nx⟩ d v).heap (a.put d y) := by
  cases d with
  | none => exact hr
  | some d =>
    simp only [dstOk, decide_eq_true_eq] at hd
    refine ⟨fun t => ?_, hr.wf, hr.fresh, by simp [Go.Act.put, hr.size], hr.defers⟩
    simp only [St.put, Go.Act.put]
    by_cases e : t = d
    · subst e
      simpa [Array.getD, hr.size, hd] using hv
    · rw [upd_other _ _ e]
      have e3 : (a.tmps.setIfInBounds d y).getD t undef = a.tmps.getD t undef := by
        rw [Array.getD_eq_getD_getElem?, Array.getD_eq_getD_getElem?, Array.getElem?_setIfInBounds_ne (Ne.symm e)]
      rw [e3]; exact hr.env t
theorem put_nx (env : Nat → AV) (h : Heap) (a b : Nat) (d : Option Nat) (v : AV) : (St.put ⟨env, h, a⟩ d v).env = (St.put ⟨env, h, b⟩ d v).env ∧ (St.put ⟨env, h, a⟩ d v).heap = h := by cases d <;> exact ⟨rfl, rfl⟩
theorem put_nx' (env : Nat → AV) (h : Heap) (a : Nat) (d : Option Nat) (v : AV) : (St.put ⟨env, h, a⟩ d v).nx = a := by cases d <;> rfl
theorem env_step {K : Nat → Prop} {S w f h S' w' f' h'} {env : Nat → AV} {tmps : Array Value} (he : ∀ t, Rep S w f (env t) (tmps.getD t undef)) (wf : Wf S w f h) (st : Step K S w f h S' w' f' h') (hf : ∀ id l, f id = some l → f' id = some l) :
    ∀ t, Rep S' w' f' (env t) (tmps.getD t undef) := fun t => (he t).mono st.st (wf.stable st) hf
theorem yielded_of {ops : Array Oper} {tmps : Array Value} {j : Nat} {t : Nat} (h : (ops[j]?).bind (·.dst) = some t) {b : Bool} (hv : tmps.getD t undef = .bool b) : yielded ops tmps j = some b := by
  unfold yielded
  rw [h]
  have : tmps[t]? = some (.bool b) := by
    simp only [Array.getD] at hv
    split at hv
    · rename_i ht; simp [ht]; exact hv
    · simp [undef] at hv
  simp [this]
def After (N : Nat) (K : Nat → Prop) (S : Nat → Prop) (w : World) (f : Place) (h : Heap) (R : St → Prop) (a' : Go.Act) (w' : World) : Prop :=
  ∃ S' f' σ', R σ' ∧ Real N S' w' f' (σ'.nx ≤ ·) σ'.env σ'.heap a' ∧ Step K S w f h S' w' f' σ'.heap
theorem compBuiltin_call {P : Program} {b : Builtin} {args : Array Operand} {ts : Array TypeId} {s : SOp} (h : compBuiltin P b args ts = some s) : (∀ g as, s ≠ .call g as) ∧ ∀ x as, s ≠ .callv x as := by
  unfold compBuiltin at h
  repeat' split at h
  all_goals first
    | (simp only [Option.some.injEq] at h; subst h; exact ⟨fun _ _ h => (by cases h), fun _ _ h => (by cases h)⟩)
    | cases h
theorem binS_call (P : Program) (op : BinOp) (t : TypeId) (x y : Operand) : (∀ g as, binS P op t x y ≠ .call g as) ∧ ∀ z as, binS P op t x y ≠ .callv z as := by
  unfold binS
  constructor <;> intro a b h <;> repeat' split at h
  all_goals cases h
theorem convS_call (P : Program) (s d : TypeId) (x : Operand) : (∀ g as, convS P s d x ≠ .call g as) ∧ ∀ z as, convS P s d x ≠ .callv z as := by
  unfold convS
  constructor <;> intro a b h <;> repeat' split at h
  all_goals cases h
theorem unS_call (op : UnOp) (x : Operand) : (∀ g as, unS op x ≠ .call g as) ∧ ∀ z as, unS op x ≠ .callv z as := by
  unfold unS
  constructor <;> intro a b h <;> repeat' split at h
  all_goals cases h
theorem compOp_call {P : Program} {op : Op} {s : SOp} (h : compOp P op = some s) : (∀ g as, s = .call g as → ∃ c, op = .call c ∧ c.callee = .value (.func g) ∧ c.args.toList = as) ∧
    ∀ x as, s = .callv x as → ∃ c, op = .call c ∧ c.callee = .value x ∧ c.args.toList = as := by
  cases op
  case call c =>
    obtain ⟨callee, args, ts⟩ := c
    cases callee with
    | builtin b =>
      simp only [compOp] at h
      have := compBuiltin_call h
      exact ⟨fun g as e => absurd e (this.1 g as), fun x as e => absurd e (this.2 x as)⟩
    | value x =>
      simp only [compOp] at h
      split at h
      · rename_i he; cases he
      · rename_i g he
        cases he
        split at h
        · split at h
          · cases h; exact ⟨fun g as e => (by cases e), fun x as e => (by cases e)⟩
          · cases h
        · cases h
          exact ⟨fun g as e => (by cases e; exact ⟨_, rfl, rfl, rfl⟩), fun x as e => (by cases e)⟩
      · rename_i x' he
        cases he; cases h
        exact ⟨fun g as e => (by cases e), fun x as e => (by cases e; exact ⟨_, rfl, rfl, rfl⟩)⟩
      · cases h
    | invoke r m => cases h
  all_goals
    simp only [compOp] at h
    repeat' split at h
    all_goals first
      | (simp only [Option.some.injEq] at h; subst h; exact ⟨fun _ _ h => absurd h ((binS_call _ _ _ _ _).1 _ _), fun _ _ h => absurd h ((binS_call _ _ _ _ _).2 _ _)⟩)
      | (simp only [Option.some.injEq] at h; subst h; exact ⟨fun _ _ h => absurd h ((convS_call _ _ _ _).1 _ _), fun _ _ h => absurd h ((convS_call _ _ _ _).2 _ _)⟩)
      | (simp only [Option.some.injEq] at h; subst h; exact ⟨fun _ _ h => absurd h ((unS_call _ _).1 _ _), fun _ _ h => absurd h ((unS_call _ _).2 _ _)⟩)
      | (simp only [Option.some.injEq] at h; subst h; exact ⟨fun _ _ h => (by cases h), fun _ _ h => (by cases h)⟩)
      | cases h
theorem runOp_sound {P : Program} {N : Nat} {K : Nat → Prop} {o : Oper} {s : SOp} (hc : compOp P o.op = some s) (hd : dstOk N o.dst = true)
    {S w f a} {σ : St} {R : St → Prop} (hr : Real N S w f (σ.nx ≤ ·) σ.env σ.heap a) (hrun : RunOp P o.dst s σ R) (Q : Exit → Go.Act → World → Prop) :
    o.wp P a w (After N K S w f σ.heap R) Q := by
  have heval := evalA_rep hr.wf.gl hr.env
  have call : ∀ (g : FuncId) (args : List AV) (vs : List Value) (r : AV) (cnt : Nat) (h' : Heap), Reps S w f args vs → RunsL P g σ.nx cnt args σ.heap r h' → R (St.put ⟨σ.env, h', σ.nx + cnt⟩ o.dst r) →
      (execOp a.eval o).run P w = .ok (.enter g vs.toArray) w → o.wp P a w (After N K S w f σ.heap R) Q := fun g args vs r cnt h' hargs hruns hR hex => by
    unfold Oper.wp
    rw [hex, Oper.upon_enter]
    refine (hruns.2 S w f vs hargs hr.wf (fun id h1 _ => hr.fresh id h1) ⟨σ.nx, fun id h => hr.fresh id h⟩).mono ?_
    rintro e w' ⟨S', f', v, rfl, hv, hwf, hst, hf'⟩
    have hfm : ∀ id l, f id = some l → f' id = some l := fun id l hl => hst.ids id l trivial hl
    have hreal : Real N S' w' f' (σ.nx + cnt ≤ ·) σ.env h' a := ⟨env_step hr.env hr.wf hst hfm, hwf, fun id hid => by rw [hf' id (by omega)]; exact hr.fresh id (by omega), hr.size, hr.defers⟩
    refine ⟨S', f', _, hR, ?_, ?_⟩
    · have := put_real hreal hd hv (σ.nx + cnt)
      rw [put_nx']; exact this
    · rw [(put_nx σ.env h' (σ.nx + cnt) 0 o.dst r).2]
      exact hst.mono (fun _ _ => trivial)
  have eff : ∀ E, s.eff P (evalA σ.env) = some E → (match E.exec σ.heap σ.nx with | some (v, h') => R (St.put ⟨σ.env, h', σ.nx + 1⟩ o.dst v) | none => False) → o.wp P a w (After N K S w f σ.heap R) Q := fun E hE hx => by
    split at hx
    · rename_i v h' hexec
      obtain ⟨n, y, w', f', h1, h2, h3, h4, h5, h6⟩ := op_sound (P := P) (h := σ.heap) (id := σ.nx) hc (ρ := a.eval) heval (fun _ => rfl) (fun _ => rfl) hE hr.wf (hr.fresh σ.nx (Nat.le_refl _)) v h' hexec
      have hfm : ∀ id l, f id = some l → f' id = some l := fun id l hl => h5.ids id l trivial hl
      have hreal : Real N S w' f' (σ.nx + 1 ≤ ·) σ.env h' a := ⟨env_step hr.env hr.wf h5 hfm, h4, fun id hid => by rw [h6 id (by omega)]; exact hr.fresh id (by omega), hr.size, hr.defers⟩
      have fin : After N K S w f σ.heap R (a.put o.dst y) w' := by
        refine ⟨S, f', _, hx, ?_, ?_⟩
        · have := put_real hreal hd h3 (σ.nx + 1)
          rw [put_nx']; exact this
        · rw [(put_nx σ.env h' (σ.nx + 1) 0 o.dst v).2]
          exact h5.mono (fun _ _ => trivial)
      unfold Oper.wp
      rw [h1]
      rcases h2 with rfl | ⟨rfl, rfl⟩
      · exact fin
      · exact fin
    · exact hx.elim
  cases s
  case call g args =>
    obtain ⟨r, cnt, h', hruns, hR⟩ := hrun
    refine call g _ (args.map a.eval) r cnt h' (evalAs_rep heval args) hruns hR ?_
    obtain ⟨c, h1, h2, h3⟩ := (compOp_call hc).1 g args rfl
    have e : (args.map a.eval).toArray = c.args.map a.eval := by rw [← h3]; exact toArr _ _
    rw [e]
    have := callFunc_run (P := P) (args := c.args.map a.eval) (w := w) hruns.1
    simpa [execOp, h1, resolve, h2, Deferred.ofValue, Go.Act.eval, invoke] using this
  case callv x args =>
    simp only [RunOp] at hrun
    split at hrun
    · rename_i g first captured hx
      obtain ⟨r, cnt, h', hruns, hR⟩ := hrun
      obtain ⟨c, h1, h2, h3⟩ := (compOp_call hc).2 x args rfl
      have hv := heval x
      rw [hx] at hv
      generalize hev : a.eval x = v at hv
      cases hv with
      | @fn _ _ _ _ fs cs q1 q2 q3 q4 =>
        have hargs := evalAs_rep heval args
        have hreps : Reps S w f (first ++ args.map (evalA σ.env) ++ captured) (fs ++ args.map a.eval ++ cs) := by
          refine ⟨by simp [q1, q2], fun i x y hx hy => ?_⟩
          rw [List.getElem?_append, List.getElem?_append] at hx hy
          simp only [List.length_append, List.length_map, q1] at hx hy
          split at hx
          · rename_i c1
            rw [if_pos c1] at hy
            split at hx
            · rename_i c2
              rw [if_pos c2] at hy
              exact q3 i x y hx hy
            · rename_i c2
              rw [if_neg c2] at hy
              exact hargs.2 _ x y hx hy
          · rename_i c1
            rw [if_neg c1] at hy
            exact q4 _ x y hx hy
        refine call g _ (fs ++ args.map a.eval ++ cs) r cnt h' hreps hruns hR ?_
        have e : (fs ++ args.map a.eval ++ cs).toArray = fs.toArray ++ c.args.map a.eval ++ cs.toArray := by
          rw [← h3]; apply Array.ext'; simp
        rw [e]
        have := callFunc_run (P := P) (args := fs.toArray ++ c.args.map a.eval ++ cs.toArray) (w := w) hruns.1
        simpa [execOp, h1, resolve, h2, Deferred.ofValue, hev, invoke] using this
    · exact hrun.elim
  all_goals
    simp only [RunOp] at hrun
    split at hrun
    · rename_i E hE
      exact eff E hE hrun
    · exact hrun.elim
theorem compIns_ok {P : Program} {N : Nat} {ops : Array Oper} {o : Oper} {i : SIns} (h : compIns P N ops o = some i) :
    compOp P o.op = some i.op ∧ i.dst = o.dst ∧ dstOk N o.dst = true ∧
      ((o.guard = none ∧ i.guard = none) ∨ ∃ j want t, o.guard = some (j, want) ∧ i.guard = some (t, want) ∧ (ops[j]?).bind (·.dst) = some t) := by
  unfold compIns at h
  split at h
  · cases h
  · rename_i s hs
    split at h
    · rename_i hd
      split at h
      · rename_i hg; cases h; exact ⟨hs, rfl, hd, .inl ⟨hg, rfl⟩⟩
      · rename_i j want hg
        split at h
        · rename_i t ht; cases h; exact ⟨hs, rfl, hd, .inr ⟨j, want, t, hg, rfl, ht⟩⟩
        · cases h
    · cases h
theorem After.trans {N K S w f h S1 w1 f1 h1 R a' w'} (st : Step K S w f h S1 w1 f1 h1) (hh : After N K S1 w1 f1 h1 R a' w') : After N K S w f h R a' w' :=
  let ⟨S', f', σ', a, b, c⟩ := hh
  ⟨S', f', σ', a, b, st.trans c⟩
theorem upon_mono {P : Program} {o : Oper} {a : Go.Act} {n n' : Go.Act → World → Prop} {Q : Exit → Go.Act → World → Prop} {r : Result Next} (h : ∀ a w, n a w → n' a w) (hh : o.upon P a n Q r) : o.upon P a n' Q r := by
  cases r with
  | ok x w => cases x <;> first
    | exact h _ _ hh
    | exact hh
    | (refine Calls.mono hh ?_
       intro e w' he
       cases e <;> first | exact h _ _ he | exact he)
    | (exact Rows.mono hh fun v w' he => h _ _ he)
  | halt x w => cases x <;> exact hh
theorem gd_wanted {S w f} {ops : Array Oper} {tmps : Array Value} {j t : Nat} {x : AV} {want c : Bool} (hx : Rep S w f x (tmps.getD t undef)) (hg : gd x want = some c) (h : (ops[j]?).bind (·.dst) = some t) :
    (yielded ops tmps j == some want) = c := by
  unfold gd at hg
  split at hg
  · rename_i b
    generalize hu : tmps.getD t undef = u at hx
    cases hx
    cases hg
    rw [yielded_of h hu]
    cases b <;> cases want <;> rfl
  · rename_i ar
    cases hg
    generalize hu : tmps.getD t undef = u at hx
    cases hx
    have : yielded ops tmps j = none := by
      unfold yielded
      rw [h]
      simp only [Option.bind_some]
      cases ht : tmps[t]? with
      | none => rfl
      | some v =>
        have : tmps.getD t undef = v := by
          rw [Array.getD_eq_getD_getElem?, ht]; rfl
        rw [this] at hu
        subst hu; rfl
    rw [this]; rfl
  · cases hg
theorem runOps_sound {P : Program} {N : Nat} {K : Nat → Prop} {ops : Array Oper} {Q : Exit → Go.Act → World → Prop} : ∀ (l : List Oper) (is : List SIns), l.mapM (compIns P N ops) = some is →
    ∀ {S w f a} {σ : St} {R : St → Prop}, Real N S w f (σ.nx ≤ ·) σ.env σ.heap a → RunOps P is σ R → (∀ a' w', After N K S w f σ.heap R a' w' → Q .normal a' w') → wpList P ops Q l a w
  | [], is, hc, S, w, f, a, σ, R, hr, hrun, hQ => by
    simp at hc; subst hc
    exact hQ _ _ ⟨S, f, σ, hrun, hr, .refl _ _ _ _ _⟩
  | o :: l, is, hc, S, w, f, a, σ, R, hr, hrun, hQ => by
    simp only [List.mapM_cons, Option.bind_eq_bind, Option.pure_def] at hc
    cases hi : compIns P N ops o with
    | none => simp [hi] at hc
    | some i =>
      cases hl : l.mapM (compIns P N ops) with
      | none => simp [hi, hl] at hc
      | some is' =>
        simp [hi, hl] at hc; subst hc
        obtain ⟨h1, h2, h3, h4⟩ := compIns_ok hi
        simp only [RunOps] at hrun
        have main : RunOp P i.dst i.op σ (fun σ' => RunOps P is' σ' R) → o.wp P a w (wpList P ops Q l) Q := fun hop => by
          rw [h2] at hop
          have := runOp_sound (K := K) h1 h3 hr hop Q
          refine upon_mono (fun a' w' hafter => ?_) this
          obtain ⟨S', f', σ', hR, hreal, hst⟩ := hafter
          exact runOps_sound l is' hl hreal hR (fun a'' w'' h => hQ _ _ (h.trans hst))
        rcases h4 with ⟨g1, g2⟩ | ⟨j, want, t, g1, g2, g3⟩
        · simp only [RunIns, g2] at hrun
          exact wpList_plain g1 fun K' hK' => upon_mono (fun a w h => hK' a w h) (main hrun)
        · simp only [RunIns, g2] at hrun
          split at hrun
          · rename_i hb
            have hy := gd_wanted (hr.env t) hb g3
            refine wpList_step fun K' hK' => ?_
            rw [if_pos (by simp only [Region.wanted, g1]; exact hy)]
            exact upon_mono (fun a w h => hK' a w h) (main hrun)
          · rename_i hb
            have hy := gd_wanted (hr.env t) hb g3
            refine wpList_step fun K' hK' => ?_
            rw [if_neg (by simp only [Region.wanted, g1]; rw [hy]; simp)]
            refine hK' _ _ ?_
            rw [h2] at hrun
            have hput : Real N S w f ((σ.put o.dst (.v undef)).nx ≤ ·) (σ.put o.dst (.v undef)).env (σ.put o.dst (.v undef)).heap (a.put o.dst undef) := by
              have := put_real (y := undef) hr h3 (.v undef) σ.nx
              have e : (σ.put o.dst (.v undef)).nx = σ.nx := put_nx' σ.env σ.heap σ.nx o.dst (.v undef)
              rw [e]; exact this
            refine runOps_sound (K := K) l is' hl hput hrun (fun a'' w'' h => hQ _ _ ?_)
            have e : (σ.put o.dst (.v undef)).heap = σ.heap := (put_nx σ.env σ.heap σ.nx 0 o.dst (.v undef)).2
            rw [e] at h
            exact h
          · exact hrun.elim
end Go.Sx
