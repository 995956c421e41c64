/- Conditions on the quick codes, and specs as oracles of calls. No conditions. -/
import Derived.Test.YteoiebmbgbgpgaaSxO
set_option linter.unusedVariables false
set_option linter.unusedSimpArgs false
namespace Go.Sx
def ChgT (k0 : Nat) (s s' : ST) : Prop := Chg k0 s.st s'.st
theorem ChgT.refl {k0 : Nat} {s : ST} : ChgT k0 s s := Chg.refl
def thenE (next : ST → Prop) (Q : Exit → ST → Prop) : Exit → ST → Prop
  | .normal, s => next s
  | e, s => Q e s
def inBE (id : Nat) (Q : Exit → ST → Prop) : Exit → ST → Prop
  | .exit id', s => if id' = id then Q .normal s else Q (.exit id') s
  | e, s => Q e s
def noGoE (Q : Exit → ST → Prop) : Exit → ST → Prop
  | .goto _, _ => False
  | e, s => Q e s
def XP (call : Caller) (k0 : Nat) : PCode → ST → (Exit → ST → Prop) → Prop
  | .skip, s, Q => Q .normal s
  | .reg ops ks, s, Q => match pOps call ops s with
    | some s' => Q .normal (s'.keepF ks)
    | none => False
  | .draw ops anc ks, s, Q => match pD call ops [] s with
    | some (fs, s') => indep [] anc fs = true ∧ Q .normal (s'.keepF ks)
    | none => False
  | .seq a b, s, Q => XP call k0 a s (thenE (fun s' => XP call k0 b s' Q) Q)
  | .seqC a b, s, Q => False
  | .cond c a b, s, Q => match evalA (enF s.env) c with
    | .v (.bool t) => (t = true → XP call k0 a s Q) ∧ (t = false → XP call k0 b s Q)
    | _ => False
  | .block id b, s, Q => XP call k0 b s (inBE id Q)
  | .loop b, s, Q => ∃ I : Nat → ST → Prop, (∃ n s', ChgT k0 s s' ∧ I n s') ∧ ∀ n s, I n s → XP call k0 b s (thenE (fun s' => ∃ m s'', m < n ∧ ChgT k0 s' s'' ∧ I m s'') (fun e s' => ∃ s'', ChgT k0 s' s'' ∧ Q e s''))
  | .exit id, s, Q => Q (.exit id) s
  | .ret, s, Q => Q .ret s
  | .scope b, s, Q => XP call k0 b s (noGoE Q)
def Lift (Q : Exit → ST → Prop) (e : Exit) (σ : St) : Prop := ∃ s', σ = s'.st ∧ Q e s'
theorem runIns_mono {P : Program} : ∀ {i : SIns} {σ : St} {K K' : St → Prop}, (∀ σ, K σ → K' σ) → RunIns P i σ K → RunIns P i σ K' := by
  intro i σ K K' hK h
  have op : ∀ {d : Option Nat} {o : SOp}, RunOp P d o σ K → RunOp P d o σ K' := by
    intro d o h
    have eff : (match o.eff P (evalA σ.env) with
      | some E => match E.exec σ.heap σ.nx with
        | some (v, h') => K (St.put ⟨σ.env, h', σ.nx + 1⟩ d v)
        | none => False
      | none => False) → (match o.eff P (evalA σ.env) with
      | some E => match E.exec σ.heap σ.nx with
        | some (v, h') => K' (St.put ⟨σ.env, h', σ.nx + 1⟩ d v)
        | none => False
      | none => False) := fun h => by
      revert h
      cases o.eff P (evalA σ.env) with
      | none => exact fun h => h
      | some E =>
        simp only
        cases E.exec σ.heap σ.nx with
        | none => exact fun h => h
        | some p => obtain ⟨v, h'⟩ := p; exact fun h => hK _ h
    cases o
    case call g args => obtain ⟨r, cnt, h', h1, h2⟩ := h; exact ⟨r, cnt, h', h1, hK _ h2⟩
    case callv x args =>
      revert h
      simp only [RunOp]
      generalize evalA σ.env x = y
      intro h
      split at h
      · obtain ⟨r, cnt, h', h1, h2⟩ := h; exact ⟨r, cnt, h', h1, hK _ h2⟩
      · exact h.elim
    all_goals exact eff h
  revert h
  unfold RunIns
  generalize i.guard = gd
  intro h
  cases gd with
  | none => exact op h
  | some p =>
    obtain ⟨t, want⟩ := p
    revert h
    simp only
    generalize gd (σ.env t) want = y
    intro h
    split at h
    · exact op h
    · exact hK _ h
    · exact h.elim
theorem runOps_mono {P : Program} : ∀ {is : List SIns} {σ : St} {K K' : St → Prop}, (∀ σ, K σ → K' σ) → RunOps P is σ K → RunOps P is σ K' := by
    intro is
    have one := @runIns_mono P
    induction is with
    | nil => intro σ K K' hK h; exact hK _ h
    | cons i is ih => intro σ K K' hK h; exact one (fun σ' h' => ih hK h') h
theorem runDIns_mono {P : Program} : ∀ {i : SIns} {σ : St} {K K' : Foot → St → Prop}, (∀ f σ, K f σ → K' f σ) → RunDIns P i σ K → RunDIns P i σ K' := by
  intro i σ K K' hK h
  have op : ∀ {d : Option Nat} {tm : List Nat} {o : SOp}, RunDOp P d tm o σ K → RunDOp P d tm o σ K' := by
    intro d tm o h
    have eff : (match o.eff P (evalA σ.env) with
      | some E => match E.foot σ.heap σ.nx with
        | some (v, ws, os) => K ⟨tm, d, E.rs, ws⟩ (St.put ⟨σ.env, setAll σ.heap ws os, σ.nx + 1⟩ d v)
        | none => False
      | none => False) → (match o.eff P (evalA σ.env) with
      | some E => match E.foot σ.heap σ.nx with
        | some (v, ws, os) => K' ⟨tm, d, E.rs, ws⟩ (St.put ⟨σ.env, setAll σ.heap ws os, σ.nx + 1⟩ d v)
        | none => False
      | none => False) := fun h => by
      revert h
      cases o.eff P (evalA σ.env) with
      | none => exact fun h => h
      | some E =>
        simp only
        cases E.foot σ.heap σ.nx with
        | none => exact fun h => h
        | some p => obtain ⟨v, ws, os⟩ := p; exact fun h => hK _ _ h
    cases o
    case call g args => obtain ⟨r, cnt, rd, wr, outs, h1, h2⟩ := h; exact ⟨r, cnt, rd, wr, outs, h1, hK _ _ h2⟩
    case callv x args =>
      revert h
      simp only [RunDOp]
      generalize evalA σ.env x = y
      intro h
      split at h
      · obtain ⟨r, cnt, rd, wr, outs, h1, h2⟩ := h; exact ⟨r, cnt, rd, wr, outs, h1, hK _ _ h2⟩
      · exact h.elim
    all_goals exact eff h
  revert h
  unfold RunDIns
  generalize i.guard = gd
  intro h
  cases gd with
  | none => exact op h
  | some p =>
    obtain ⟨t, want⟩ := p
    revert h
    simp only
    generalize gd (σ.env t) want = y
    intro h
    split at h
    · exact op h
    · exact hK _ _ h
    · exact h.elim
theorem runD_mono {P : Program} : ∀ {is : List SIns} {fs : List Foot} {σ : St} {K K' : List Foot → St → Prop}, (∀ fs σ, K fs σ → K' fs σ) → RunD P is fs σ K → RunD P is fs σ K' := by
    intro is
    have one := @runDIns_mono P
    induction is with
    | nil => intro fs σ K K' hK h; exact hK _ _ h
    | cons i is ih => intro fs σ K K' hK h; exact one (fun f σ' h' => ih hK h') h
theorem X_mono {P : Program} {k0 : Nat} : ∀ {c : SCode} {σ : St} {Q Q' : Exit → St → Prop}, (∀ e σ, Q e σ → Q' e σ) → X P k0 c σ Q → X P k0 c σ Q' := by
  have ops := @runOps_mono P
  have dops := @runD_mono P
  intro c
  induction c with
  | skip => intro σ Q Q' hQ h; exact hQ _ _ h
  | reg o ks => intro σ Q Q' hQ h; exact ops (fun σ' h' => hQ _ _ h') h
  | draw o anc ks => intro σ Q Q' hQ h; exact dops (fun fs σ' h' => ⟨h'.1, hQ _ _ h'.2⟩) h
  | seq a b iha ihb =>
    intro σ Q Q' hQ h
    exact iha (fun e σ' h' => by cases e <;> first | exact hQ _ _ h' | (obtain ⟨σ'', q1, q2⟩ := h'; exact ⟨σ'', q1, ihb hQ q2⟩)) h
  | cond c a b iha ihb =>
    intro σ Q Q' hQ h
    revert h
    simp only [X]
    generalize evalA σ.env c = y
    intro h
    split at h
    · rename_i t
      cases t
      · exact ihb hQ h
      · exact iha hQ h
    · exact h.elim
  | block id b ih =>
    intro σ Q Q' hQ h
    refine ih (fun e σ' h' => ?_) h
    cases e <;> first | exact hQ _ _ h' | skip
    simp only [inBlk] at h' ⊢
    split at h'
    · rename_i e; rw [if_pos e]; exact hQ _ _ h'
    · rename_i e; rw [if_neg e]; exact hQ _ _ h'
  | loop b ih =>
    intro σ Q Q' hQ h
    obtain ⟨I, h1, h2⟩ := h
    refine ⟨I, h1, fun n σ hI => ih (fun e σ' h' => ?_) (h2 n σ hI)⟩
    cases e <;> first | exact h' | (obtain ⟨σ'', q1, q2⟩ := h'; exact ⟨σ'', q1, hQ _ _ q2⟩)
  | exit id => intro σ Q Q' hQ h; exact hQ _ _ h
  | ret => intro σ Q Q' hQ h; exact hQ _ _ h
  | scope b ih =>
    intro σ Q Q' hQ h
    exact ih (fun e σ' h' => by cases e <;> first | exact hQ _ _ h' | exact h') h
theorem XP_sound {P : Program} {call : Caller} (hc : CallOk P call) {k0 : Nat} : ∀ (c : SCode) {s : ST} {Q : Exit → ST → Prop}, XP call k0 (c.pc P) s Q → X P k0 c s.st (Lift Q) := by
  intro c
  induction c with
  | skip => intro s Q h; exact ⟨s, rfl, h⟩
  | reg ops ks =>
    intro s Q h
    simp only [SCode.pc, XP, pOps_eq] at h
    split at h
    · rename_i s' h1
      exact evOps_run hc (K := fun σ' => Lift Q .normal (σ'.keep ks)) h1 ⟨s'.keepF ks, by rw [keepF_eq]; rfl, h⟩
    · exact h.elim
  | draw ops anc ks =>
    intro s Q h
    simp only [SCode.pc, XP, pD_eq] at h
    split at h
    · rename_i fs s' h1
      exact evD_run hc (K := fun fs σ' => indep [] anc fs = true ∧ Lift Q .normal (σ'.keep ks)) h1 ⟨h.1, s'.keepF ks, by rw [keepF_eq]; rfl, h.2⟩
    · exact h.elim
  | seq a b iha ihb =>
    intro s Q h
    show X P k0 a s.st (orElse (fun σ' => ∃ σ'', Chg k0 σ' σ'' ∧ X P k0 b σ'' (Lift Q)) (Lift Q))
    refine X_mono (fun e σ' h' => ?_) (iha h)
    obtain ⟨s', rfl, h'⟩ := h'
    cases e <;> first | exact ⟨_, .refl, ihb h'⟩ | exact ⟨s', rfl, h'⟩
  | cond c a b iha ihb =>
    intro s Q h
    simp only [SCode.pc, XP, enF_eq] at h
    simp only [X]
    have e1 : evalA s.st.env c = evalA (en s.env) c := rfl
    rw [e1]
    split at h
    · rename_i t ht
      simp only [ht]
      cases t
      · exact ihb (h.2 rfl)
      · exact iha (h.1 rfl)
    · exact h.elim
  | block id b ih =>
    intro s Q h
    show X P k0 b s.st (inBlk id (Lift Q))
    refine X_mono (fun e σ' h' => ?_) (ih h)
    obtain ⟨s', rfl, h'⟩ := h'
    cases e <;> first | exact ⟨s', rfl, h'⟩ | skip
    simp only [inBE, inBlk] at h' ⊢
    split at h'
    · rename_i e; rw [if_pos e]; exact ⟨s', rfl, h'⟩
    · rename_i e; rw [if_neg e]; exact ⟨s', rfl, h'⟩
  | loop b ih =>
    intro s Q h
    obtain ⟨I, ⟨n, s', h1, h2⟩, h3⟩ := h
    refine ⟨fun n σ => ∃ s, σ = s.st ∧ I n s, ⟨n, s'.st, h1, s', rfl, h2⟩, ?_⟩
    rintro n σ ⟨s, rfl, hI⟩
    refine X_mono (fun e σ' h' => ?_) (ih (h3 n s hI))
    obtain ⟨s', rfl, h'⟩ := h'
    cases e with
    | normal =>
      obtain ⟨m, s'', q1, q2, q3⟩ := h'
      exact ⟨m, s''.st, q1, q2, s'', rfl, q3⟩
    | _ =>
      obtain ⟨s'', q1, q2⟩ := h'
      exact ⟨s''.st, q1, s'', rfl, q2⟩
  | exit id => intro s Q h; exact ⟨s, rfl, h⟩
  | ret => intro s Q h; exact ⟨s, rfl, h⟩
  | scope b ih =>
    intro s Q h
    show X P k0 b s.st (noGo (Lift Q))
    refine X_mono (fun e σ' h' => ?_) (ih h)
    obtain ⟨s', rfl, h'⟩ := h'
    cases e <;> first | exact ⟨s', rfl, h'⟩ | exact h'.elim
/-! ### Functions -/
def EndsP (k : Nat) (rs : List SRes) (r : AV) (k' : Nat) (h' : HL) (e : Exit) (s : ST) : Prop :=
  (match e with | .ret => True | .normal => True | _ => False) ∧ ∃ s', ChgT k s s' ∧ ∃ g, Cv k g s'.nx k' (hp s'.heap) (hp h') ∧ resA s'.st rs = some (ren g r)
theorem PFn.runs {P : Program} {g : FuncId} {E : PEnt} (F : PFn P g E) {call : Caller} (hc : CallOk P call) {k : Nat} {args : List AV} {h : HL} {r : AV} {k' : Nat} {h' : HL} (hn : args.length ≤ E.n)
    (hX : XP call k E.code ⟨args0 0 args, h, k⟩ (EndsP k E.rs r k' h')) : Runs P g k args (hp h) r k' (hp h') := by
  obtain ⟨c, hF, hcode⟩ := F.ex
  rw [hcode] at hX
  refine hF.runs hn (X_mono (fun e σ h1 => ?_) (XP_sound hc c hX))
  obtain ⟨s, rfl, h2, s', h3, g, h4, h5⟩ := h1
  exact ⟨h2, s'.st, h3, g, h4, h5⟩
theorem ren_clo (g : Nat → Nat) : (∀ x : AV, clo x = true → ren g x = x) ∧ ∀ x : List AV, cloL x = true → renL g x = x :=
  ⟨a, b⟩
where
  a : ∀ x : AV, clo x = true → ren g x = x
    | .ref _ _ _ _ _, h => by simp [clo] at h
    | .ptr _ _, h => by simp [clo] at h
    | .map _, h => by simp [clo] at h
    | .fn _ x y, h => by simp only [clo, Bool.and_eq_true] at h; simp only [ren, b x h.1, b y h.2]
    | .agg cs, h => by simp only [clo] at h; simp only [ren, b cs h]
    | .tup vs, h => by simp only [clo] at h; simp only [ren, b vs h]
    | .ifc _ x, h => by simp only [clo] at h; simp only [ren, a x h]
    | .any, _ => rfl
    | .v _, _ => rfl
    | .il _ _ _, _ => rfl
    | .elt _ _, _ => rfl
  b : ∀ x : List AV, cloL x = true → renL g x = x
    | [], _ => rfl
    | x :: r, h => by simp only [cloL, Bool.and_eq_true] at h; simp only [renL, a x h.1, b r h.2]
theorem EndsP.pure {rs : List SRes} {r : AV} {e : Exit} {s : ST} (he : e = .ret ∨ e = .normal) (hr : resA s.st rs = some r) (hc : clo r = true) : EndsP 0 rs r 0 [] e s := by
  refine ⟨by rcases he with rfl | rfl <;> trivial, s, .refl, fun i => s.nx + i, ⟨fun i hi => by omega, fun i _ => by omega, fun i b hb => by simp [hp] at hb, fun i j hi => (hi rfl).elim⟩, ?_⟩
  rw [(ren_clo _).1 r hc]; exact hr
/-! ### Specs as oracles -/
structure Sp where
  g : FuncId
  f : List AV → HL → Nat → Option (AV × HL × Nat)
def Sp.ok (P : Program) (s : Sp) : Prop := ∀ args h k r h' k', s.f args h k = some (r, h', k') → Runs P s.g k args (hp h) r k' (hp h')
def spc : List Sp → Caller
  | [], _, _, _, _ => none
  | s :: ss, g, args, h, k => if s.g = g then s.f args h k else spc ss g args h k
def SpsOk (P : Program) : List Sp → Prop
  | [] => True
  | s :: ss => s.ok P ∧ SpsOk P ss
theorem spc_ok {P : Program} : ∀ {ss : List Sp}, SpsOk P ss → CallOk P (spc ss)
  | [], _ => fun g args h k r h' k' hh => by simp [spc] at hh
  | s :: ss, ho => fun g args h k r h' k' hh => by
    simp only [spc] at hh
    split at hh
    · rename_i hg; rw [← hg]; exact ho.1 _ _ _ _ _ _ hh
    · exact spc_ok ho.2 _ _ _ _ _ _ _ hh
end Go.Sx
