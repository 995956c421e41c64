/- Code, and the conditions under which it does what is asked. No conditions. -/
import Derived.Test.YteoiebmbgbgpgaaSxKf
import Derived.Scope
import Derived.ScopeJumps
set_option linter.unusedVariables false
set_option linter.unusedSimpArgs false
namespace Go.Sx
def en : List (Nat × AV) → Nat → AV
  | [], _ => .any
  | (k, x) :: r, t => if t = k then x else en r t
def hp : List (Nat × Blk) → Heap
  | [], _ => none
  | (k, b) :: r, i => if i = k then some b else hp r i
def enF : List (Nat × AV) → Nat → AV
  | [], _ => .any
  | (k, x) :: r, t => cond (Nat.beq t k) x (enF r t)
def hpF : List (Nat × Blk) → Nat → Option Blk
  | [], _ => none
  | (k, b) :: r, i => cond (Nat.beq i k) (some b) (hpF r i)
theorem beq_cond {α : Type} (a b : Nat) (x y : α) : cond (Nat.beq a b) x y = if a = b then x else y := by
  by_cases h : a = b
  · subst h; simp
  · have : Nat.beq a b = false := by cases hh : Nat.beq a b with | false => rfl | true => exact absurd (Nat.eq_of_beq_eq_true hh) h
    simp [this, h]
theorem enF_eq : enF = en := by
  funext l t
  induction l with
  | nil => rfl
  | cons p r ih => obtain ⟨k, x⟩ := p; simp only [enF, en, beq_cond, ih]
theorem hpF_eq : hpF = hp := by
  funext l t
  induction l with
  | nil => rfl
  | cons p r ih => obtain ⟨k, x⟩ := p; simp only [hpF, hp, beq_cond, ih]
def hset : List (Nat × Blk) → Nat → Blk → List (Nat × Blk)
  | [], i, b => [(i, b)]
  | (k, c) :: r, i, b => if i = k then (k, b) :: r else (k, c) :: hset r i b
def hdel : List (Nat × Blk) → Nat → List (Nat × Blk)
  | [], _ => []
  | (k, c) :: r, i => if i = k then hdel r i else (k, c) :: hdel r i
theorem upd_en (l : List (Nat × AV)) (d : Nat) (x : AV) : upd (en l) d x = en ((d, x) :: l) := by
  funext t; simp only [upd, en]
theorem hp_hset : ∀ (l : List (Nat × Blk)) (i : Nat) (b : Blk) (j : Nat), hp (hset l i b) j = if j = i then some b else hp l j
  | [], i, b, j => by simp [hset, hp]
  | (k, c) :: r, i, b, j => by
    simp only [hset]
    split
    · rename_i e; subst e; simp only [hp]; split <;> rfl
    · rename_i e
      simp only [hp, hp_hset r i b j]
      by_cases e1 : j = k
      · subst e1; simp [Ne.symm e]
      · simp [e1]
theorem hp_hdel : ∀ (l : List (Nat × Blk)) (i : Nat) (j : Nat), hp (hdel l i) j = if j = i then none else hp l j
  | [], i, j => by simp [hdel, hp]
  | (k, c) :: r, i, j => by
    simp only [hdel]
    split
    · rename_i e; subst e
      rw [hp_hdel r i j]
      simp only [hp]; split <;> rfl
    · rename_i e
      simp only [hp, hp_hdel r i j]
      by_cases e1 : j = k
      · subst e1; simp [Ne.symm e]
      · simp [e1]
theorem upd_hp (l : List (Nat × Blk)) (i : Nat) (b : Blk) : upd (hp l) i (some b) = hp (hset l i b) := by
  funext j; rw [hp_hset]; rfl
theorem upd_hp_none (l : List (Nat × Blk)) (i : Nat) : upd (hp l) i none = hp (hdel l i) := by
  funext j; rw [hp_hdel]; rfl
def St.keep (σ : St) (ks : List Nat) : St := { σ with env := en (ks.map fun k => (k, σ.env k)) }
theorem en_keep (e : Nat → AV) : ∀ (ks : List Nat) (t : Nat), en (ks.map fun k => (k, e k)) t = e t ∨ en (ks.map fun k => (k, e k)) t = .any
  | [], t => .inr rfl
  | k :: ks, t => by
    simp only [List.map_cons, en]
    split
    · rename_i h; subst h; exact .inl rfl
    · exact en_keep e ks t
inductive SCode where
  | skip
  | reg (ops : List SIns) (keep : List Nat)
  | draw (ops : List SIns) (anc : List (List Nat)) (keep : List Nat)
  | seq (a b : SCode)
  | cond (c : Operand) (a b : SCode)
  | block (id : Nat) (b : SCode)
  | loop (b : SCode)
  | exit (id : Nat)
  | ret
  | scope (b : SCode)
def orElse (next : St → Prop) (Q : Exit → St → Prop) : Exit → St → Prop
  | .normal, σ => next σ
  | e, σ => Q e σ
def inBlk (id : Nat) (Q : Exit → St → Prop) : Exit → St → Prop
  | .exit id', σ => if id' = id then Q .normal σ else Q (.exit id') σ
  | e, σ => Q e σ
def noGo (Q : Exit → St → Prop) : Exit → St → Prop
  | .goto _, _ => False
  | e, σ => Q e σ
def X (P : Program) (k0 : Nat) : SCode → St → (Exit → St → Prop) → Prop
  | .skip, σ, Q => Q .normal σ
  | .reg ops ks, σ, Q => RunOps P ops σ fun σ' => Q .normal (σ'.keep ks)
  | .draw ops anc ks, σ, Q => RunD P ops [] σ fun fs σ' => indep [] anc fs = true ∧ Q .normal (σ'.keep ks)
  | .seq a b, σ, Q => X P k0 a σ (orElse (fun σ' => ∃ σ'', Chg k0 σ' σ'' ∧ X P k0 b σ'' Q) Q)
  | .cond c a b, σ, Q => match evalA σ.env c with
    | .v (.bool t) => if t then X P k0 a σ Q else X P k0 b σ Q
    | _ => False
  | .block id b, σ, Q => X P k0 b σ (inBlk id Q)
  | .loop b, σ, Q => ∃ I : Nat → St → Prop, (∃ n σ', Chg k0 σ σ' ∧ I n σ') ∧ ∀ n σ, I n σ → X P k0 b σ (orElse (fun σ' => ∃ m σ'', m < n ∧ Chg k0 σ' σ'' ∧ I m σ'') (fun e σ' => ∃ σ'', Chg k0 σ' σ'' ∧ Q e σ''))
  | .exit id, σ, Q => Q (.exit id) σ
  | .ret, σ, Q => Q .ret σ
  | .scope b, σ, Q => X P k0 b σ (noGo Q)
/-! ### Compiling -/
def gts : Code → List Nat
  | .goto l => [l]
  | .seq a b => gts a ++ gts b
  | .cond _ a b => gts a ++ gts b
  | .block _ b => gts b
  | .loop b => gts b
  | _ => []
def noLab : Code → Bool
  | .label _ => false
  | .seq a b => noLab a && noLab b
  | _ => true
def spine : Code → Option (Nat × Code)
  | .seq a b => match a with
    | .label l => if (gts b).contains l then some (l, b) else spine b
    | _ => spine b
  | _ => none
def GG (l : Nat) : Nat := 1000000 + 2 * l
def GB (l : Nat) : Nat := 1000001 + 2 * l
def labC (l : Nat) (r : SCode) : SCode := .block (GB l) (.loop (.block (GG l) (.seq r (.exit (GB l)))))
def seqC' (a b : Code) (a' b' : SCode) : Option SCode :=
  match a with
  | .label l => if (gts b).contains l then (if (spine b).isNone && (gts b).all (· == l) && noLab b then some (labC l b') else none) else (if (spine b).isSome then none else some (.seq .skip b'))
  | _ => if (spine b).isSome then (if (gts a).isEmpty && noLab a then some (.seq a' b') else none) else some (.seq a' b')
def compA (P : Program) (N : Nat) : Code → List (List Nat) → Option (SCode × List (List Nat))
  | .skip, hs => some (.skip, hs)
  | .region _ ops draw, hs => match hs with
    | [] => none
    | k :: hs => match ops.toList.mapM (compIns P N ops) with
      | some is => if draw then (if P.follows .mixedOrders && downOk (directs ops) then some (.draw is (closeAnc [] (directs ops)) k, hs) else none) else some (.reg is k, hs)
      | none => none
  | .seq a b, hs => if (spine a).isSome then none else match compA P N a hs with
    | none => none
    | some (a', hs) => match compA P N b hs with
      | none => none
      | some (b', hs) => match seqC' a b a' b' with
        | some s => some (s, hs)
        | none => none
  | .cond c a b, hs => if (spine a).isSome || (spine b).isSome then none else match compA P N a hs with
    | none => none
    | some (a', hs) => match compA P N b hs with
      | none => none
      | some (b', hs) => some (.cond c a' b', hs)
  | .block id b, hs => if (spine b).isSome || decide (1000000 ≤ id) then none else match compA P N b hs with
    | none => none
    | some (b', hs) => some (.block id b', hs)
  | .loop b, hs => if (spine b).isSome then none else match compA P N b hs with
    | none => none
    | some (b', hs) => some (.loop b', hs)
  | .exit id, hs => if id < 1000000 then some (.exit id, hs) else none
  | .ret, hs => some (.ret, hs)
  | .scope b, hs => match compA P N b hs with
    | none => none
    | some (b', hs) => if (spine b).isSome then some (b', hs) else (if (gts b).isEmpty then some (.scope b', hs) else none)
  | .label _, hs => some (.skip, hs)
  | .goto l, hs => some (.exit (GG l), hs)
  | .refuse _, hs => some (.cond (.const .nilFunc) .skip .skip, hs)
  | _, _ => none
def comp (P : Program) (N : Nat) (c : Code) (hs : List (List Nat)) : Option (SCode × List (List Nat)) :=
  if (spine c).isSome then none else compA P N c hs
/-! ### Soundness -/
def toX : Exit → Exit
  | .goto l => .exit (GG l)
  | e => e
def okE (c : Code) : Exit → Prop
  | .goto l => l ∈ gts c
  | .exit id => id < 1000000
  | _ => True
def Out (c : Code) (N k0 : Nat) (S : Nat → Prop) (w : World) (f : Place) (h : Heap) (Q : Exit → St → Prop) (e : Exit) (a' : Go.Act) (w' : World) : Prop :=
  okE c e ∧ After N (· < k0) S w f h (Q (toX e)) a' w'
def Rnd (P : Program) (k0 l : Nat) (r : SCode) (Q : Exit → St → Prop) (I : Nat → St → Prop) : Prop :=
  ∀ n σ, I n σ → X P k0 (.block (GG l) (.seq r (.exit (GB l)))) σ (orElse (fun σ' => ∃ m σ'', m < n ∧ Chg k0 σ' σ'' ∧ I m σ'') (fun e σ' => ∃ σ'', Chg k0 σ' σ'' ∧ inBlk (GB l) Q e σ''))
def Jn (P : Program) (N k0 l : Nat) (r : SCode) (S : Nat → Prop) (w : World) (f : Place) (h : Heap) (Q : Exit → St → Prop) (n : Nat) (a' : Go.Act) (w' : World) : Prop :=
  ∃ I, Rnd P k0 l r Q I ∧ After N (· < k0) S w f h (I n) a' w'
def JOut (l : Nat) (J : Go.Act → World → Prop) (N k0 : Nat) (S : Nat → Prop) (w : World) (f : Place) (h : Heap) (Q : Exit → St → Prop) : Exit → Go.Act → World → Prop
  | .goto l', a', w' => l' = l ∧ J a' w'
  | .exit id, a', w' => id < 1000000 ∧ After N (· < k0) S w f h (Q (.exit id)) a' w'
  | e, a', w' => After N (· < k0) S w f h (Q e) a' w'
theorem wp_scope_rel {P : Program} {c rest : Code} {Q : Exit → Go.Act → World → Prop} (l : Nat) (J : Nat → Go.Act → World → Prop) (hf : findLabel c l = some rest) {a w}
    (first : c.wp P (Exit.jump l (fun a w => ∃ n, J n a w) Q) a w)
    (pass : ∀ n a w, J n a w → rest.wp P (Exit.jump l (fun a' w' => ∃ m, m < n ∧ J m a' w') Q) a w) : (Code.scope c).wp P Q a w := by
  intro b k cs
  have hg : gotoIn l (.inScope c :: k) = some (.code rest :: .inScope c :: k) := by simp [gotoIn, hf]
  have key : ∀ n a w, J n a w → ∃ e a' w', Q e a' w' ∧ Arrives P (lone (b.at a (.code rest :: .inScope c :: k)) cs w) b k cs e a' w' := by
    intro n
    induction n using Nat.strongRecOn with
    | _ n ih =>
      intro a w hJ
      obtain ⟨e, a₁, w₁, hq, harr⟩ := pass n a w hJ b (.inScope c :: k) cs
      cases e with
      | normal => exact ⟨.normal, a₁, w₁, hq, Steps.trans harr (.one step_inScope)⟩
      | exit id => exact ⟨.exit id, a₁, w₁, hq, fun k' hk => harr k' (by simp [exitTo, hk])⟩
      | goto l' =>
        obtain ⟨rfl, m, hlt, hJ'⟩ := hq
        obtain ⟨e₂, a₂, w₂, hq₂, harr₂⟩ := ih m hlt a₁ w₁ hJ'
        exact ⟨e₂, a₂, w₂, hq₂, .of_steps (harr _ hg) harr₂⟩
      | ret => exact ⟨_, a₁, w₁, hq, harr⟩
      | panic ch => exact ⟨_, a₁, w₁, hq, harr⟩
      | outgrown => exact ⟨_, a₁, w₁, hq, harr⟩
  obtain ⟨e, a₁, w₁, hq, harr⟩ := first b (.inScope c :: k) cs
  cases e with
  | normal => exact ⟨.normal, a₁, w₁, hq, .head step_scope (Steps.trans harr (.one step_inScope))⟩
  | exit id => exact ⟨.exit id, a₁, w₁, hq, fun k' hk => .head step_scope (harr k' (by simp [exitTo, hk]))⟩
  | goto l' =>
    obtain ⟨rfl, n, hJ'⟩ := hq
    obtain ⟨e₂, a₂, w₂, hq₂, harr₂⟩ := key n a₁ w₁ hJ'
    exact ⟨e₂, a₂, w₂, hq₂, .of_steps (.head step_scope (harr _ hg)) harr₂⟩
  | ret => exact ⟨_, a₁, w₁, hq, .of_steps (.one step_scope) harr⟩
  | panic ch => exact ⟨_, a₁, w₁, hq, .of_steps (.one step_scope) harr⟩
  | outgrown => exact ⟨_, a₁, w₁, hq, .of_steps (.one step_scope) harr⟩
theorem wp_loop_rel {P : Program} {c : Code} {Q : Exit → Go.Act → World → Prop} (I : Nat → Go.Act → World → Prop) (round : ∀ n a w, I n a w → c.wp P (Exit.then (fun a' w' => ∃ m, m < n ∧ I m a' w') Q) a w) :
    ∀ n a w, I n a w → (Code.loop c).wp P Q a w := by
  intro n a w h0 b k cs
  have key : ∀ n a w, I n a w →
      ∃ e a' w', Q e a' w' ∧ Arrives P (lone (b.at a (.code c :: .inLoop c :: k)) cs w) b k cs e a' w' := by
    intro n
    induction n using Nat.strongRecOn with
    | _ n ih =>
      intro a w hI
      obtain ⟨e, a₁, w₁, hq, harr⟩ := round n a w hI b (.inLoop c :: k) cs
      cases e with
      | normal =>
        obtain ⟨m, hlt, hI₁⟩ := hq
        obtain ⟨e₂, a₂, w₂, hq₂, harr₂⟩ := ih m hlt a₁ w₁ hI₁
        exact ⟨e₂, a₂, w₂, hq₂, .of_steps (Steps.trans harr (.one step_inLoop)) harr₂⟩
      | exit id => exact ⟨_, a₁, w₁, hq, .pass (x := .inLoop c) rfl (fun _ _ => .inl (by simp)) harr⟩
      | goto l => exact ⟨_, a₁, w₁, hq, .pass (x := .inLoop c) rfl (fun _ _ => .inl (by simp)) harr⟩
      | ret => exact ⟨_, a₁, w₁, hq, .pass (x := .inLoop c) rfl (fun _ _ => .inl (by simp)) harr⟩
      | panic ch => exact ⟨_, a₁, w₁, hq, .pass (x := .inLoop c) rfl (fun _ _ => .inl (by simp)) harr⟩
      | outgrown => exact ⟨_, a₁, w₁, hq, .pass (x := .inLoop c) rfl (fun _ _ => .inl (by simp)) harr⟩
  obtain ⟨e, a', w', hq, harr⟩ := key _ a w h0
  exact ⟨e, a', w', hq, .of_steps (.one step_loop) harr⟩
theorem keep_real {N S w f a} {σ : St} (hr : Real N S w f (σ.nx ≤ ·) σ.env σ.heap a) (ks : List Nat) : Real N S w f ((σ.keep ks).nx ≤ ·) (σ.keep ks).env (σ.keep ks).heap a :=
  ⟨fun t => by
    simp only [St.keep]
    rcases en_keep σ.env ks t with h | h
    · rw [h]; exact hr.env t
    · rw [h]; exact .any, hr.wf, hr.fresh, hr.size, hr.defers⟩
theorem findLabel_noLab {l : Nat} : ∀ {c : Code}, noLab c = true → findLabel c l = none
  | .seq a b, h => by
    simp only [noLab, Bool.and_eq_true] at h
    simp only [findLabel, findLabel_noLab h.1, findLabel_noLab h.2]
  | .label _, h => by cases h
  | .skip, _ | .region .., _ | .cond .., _ | .block .., _ | .loop _, _ | .exit _, _ | .goto _, _ | .ret, _ | .scope _, _ | .refuse _, _ | .rangeFunc .., _ => rfl
theorem Jn.trans {P N k0 l r S w f h S1 w1 f1 h1 Q n a' w'} (st : Step (· < k0) S w f h S1 w1 f1 h1) (hj : Jn P N k0 l r S1 w1 f1 h1 Q n a' w') : Jn P N k0 l r S w f h Q n a' w' :=
  let ⟨I, hI, ha⟩ := hj; ⟨I, hI, ha.trans st⟩
def SoundA (P : Program) (N k0 : Nat) (c : Code) : Prop :=
  spine c = none → ∀ (s : SCode) (hs hs' : List (List Nat)), compA P N c hs = some (s, hs') → ∀ {S w f a} {σ : St} {Q : Exit → St → Prop},
    Real N S w f (σ.nx ≤ ·) σ.env σ.heap a → X P k0 s σ Q → c.wp P (Out c N k0 S w f σ.heap Q) a w
def SoundB (P : Program) (N k0 : Nat) (c : Code) : Prop :=
  ∀ l r, spine c = some (l, r) → ∀ (s : SCode) (hs hs' : List (List Nat)), compA P N c hs = some (s, hs') → findLabel c l = some (.seq .skip r) ∧ ∃ r',
    (∀ {S w f h Q n a1 w1}, Jn P N k0 l r' S w f h Q n a1 w1 → r.wp P (JOut l (fun a' w' => ∃ m, m < n ∧ Jn P N k0 l r' S w f h Q m a' w') N k0 S w f h Q) a1 w1) ∧
    ∀ {S w f a} {σ : St} {Q : Exit → St → Prop}, Real N S w f (σ.nx ≤ ·) σ.env σ.heap a → X P k0 s σ Q → c.wp P (JOut l (fun a' w' => ∃ n, Jn P N k0 l r' S w f σ.heap Q n a' w') N k0 S w f σ.heap Q) a w
theorem pass_ok {P : Program} {N k0 l : Nat} {r : Code} {r' : SCode} {hs hs'} (hA : SoundA P N k0 r) (hsp : spine r = none) (hc : compA P N r hs = some (r', hs')) (hg : ∀ l' ∈ gts r, l' = l)
    {S w f h Q n a1 w1} (hj : Jn P N k0 l r' S w f h Q n a1 w1) : r.wp P (JOut l (fun a' w' => ∃ m, m < n ∧ Jn P N k0 l r' S w f h Q m a' w') N k0 S w f h Q) a1 w1 := by
  obtain ⟨I, hI, S1, f1, σ1, h1, hr1, hst1⟩ := hj
  have hX := hI n σ1 h1
  simp only [X] at hX
  refine wp_mono (hA hsp r' hs hs' hc hr1 hX) (fun e a' w' ho => ?_)
  obtain ⟨hok, S2, f2, σ2, h2, hr2, hst2⟩ := ho
  have gb : GB l ≠ GG l := by simp only [GB, GG]; omega
  cases e with
  | normal =>
    obtain ⟨σ3, hc3, σ4, hc4, h4⟩ : ∃ σ3, Chg k0 σ2 σ3 ∧ ∃ σ4, Chg k0 σ3 σ4 ∧ Q .normal σ4 := by
      simpa only [toX, orElse, inBlk, if_neg gb, if_true] using h2
    obtain ⟨S3, f3, r3, st3⟩ := hc3.after hr2
    obtain ⟨S4, f4, r4, st4⟩ := hc4.after r3
    exact ⟨S4, f4, σ4, h4, r4, ((hst1.trans hst2).trans st3).trans st4⟩
  | goto l' =>
    obtain rfl : l' = l := hg l' hok
    obtain ⟨m, σ3, hm, hc3, h3⟩ : ∃ m σ3, m < n ∧ Chg k0 σ2 σ3 ∧ I m σ3 := by
      simpa only [toX, orElse, inBlk, if_true] using h2
    obtain ⟨S3, f3, r3, st3⟩ := hc3.after hr2
    exact ⟨rfl, m, hm, I, hI, S3, f3, σ3, h3, r3, (hst1.trans hst2).trans st3⟩
  | exit id =>
    have hlt : id < 1000000 := hok
    have e1 : id ≠ GG l := by simp only [GG]; omega
    have e2 : id ≠ GB l := by simp only [GB]; omega
    obtain ⟨σ3, hc3, h3⟩ : ∃ σ3, Chg k0 σ2 σ3 ∧ Q (.exit id) σ3 := by
      simpa only [toX, orElse, inBlk, if_neg e1, if_neg e2] using h2
    obtain ⟨S3, f3, r3, st3⟩ := hc3.after hr2
    exact ⟨hlt, S3, f3, σ3, h3, r3, (hst1.trans hst2).trans st3⟩
  | ret =>
    obtain ⟨σ3, hc3, h3⟩ : ∃ σ3, Chg k0 σ2 σ3 ∧ Q .ret σ3 := h2
    obtain ⟨S3, f3, r3, st3⟩ := hc3.after hr2
    exact ⟨S3, f3, σ3, h3, r3, (hst1.trans hst2).trans st3⟩
  | panic ch =>
    obtain ⟨σ3, hc3, h3⟩ : ∃ σ3, Chg k0 σ2 σ3 ∧ Q (.panic ch) σ3 := h2
    obtain ⟨S3, f3, r3, st3⟩ := hc3.after hr2
    exact ⟨S3, f3, σ3, h3, r3, (hst1.trans hst2).trans st3⟩
  | outgrown =>
    obtain ⟨σ3, hc3, h3⟩ : ∃ σ3, Chg k0 σ2 σ3 ∧ Q .outgrown σ3 := h2
    obtain ⟨S3, f3, r3, st3⟩ := hc3.after hr2
    exact ⟨S3, f3, σ3, h3, r3, (hst1.trans hst2).trans st3⟩
theorem okE_mono {c c' : Code} {e : Exit} (h : okE c e) (hg : ∀ l ∈ gts c, l ∈ gts c') : okE c' e := by
  cases e <;> simp only [okE] at h ⊢
  · exact h
  · exact hg _ h
theorem spine_seq {a b : Code} {l : Nat} {r : Code} (h : spine (.seq a b) = some (l, r)) : (a = .label l ∧ r = b ∧ (gts b).contains l = true) ∨ spine b = some (l, r) := by
  cases a <;> simp only [spine] at h
  case label l0 =>
    split at h
    · rename_i hc; cases h; exact .inl ⟨rfl, rfl, hc⟩
    · exact .inr h
  all_goals exact .inr h
theorem seqC_none {P : Program} {N : Nat} {a b : Code} {a' b' s : SCode} {hs hs1} (h : spine (.seq a b) = none) (ha : compA P N a hs = some (a', hs1)) (hc : seqC' a b a' b' = some s) : s = .seq a' b' ∧ spine b = none := by
  cases a <;> simp only [spine] at h <;> simp only [seqC', h, Option.isSome_none, Bool.false_eq_true, if_false, Option.some.injEq] at hc
  case label l0 =>
    split at h
    · cases h
    · rename_i hn
      simp only [compA, Option.some.injEq, Prod.mk.injEq] at ha
      obtain ⟨rfl, rfl⟩ := ha
      rw [if_neg hn] at hc
      simp only [h, Option.isSome_none, Bool.false_eq_true, if_false, Option.some.injEq] at hc
      exact ⟨hc.symm, h⟩
  all_goals exact ⟨hc.symm, h⟩
theorem seqC_tail {a b : Code} {a' b' s : SCode} {l r} (h : spine b = some (l, r)) (hc : seqC' a b a' b' = some s) : s = .seq a' b' ∧ gts a = [] ∧ noLab a = true := by
  cases a <;> simp only [seqC', h, Option.isSome_some, Option.isNone_some, if_true, Bool.false_and, Bool.false_eq_true, if_false] at hc
  case label l0 => split at hc <;> cases hc
  all_goals
    split at hc
    · rename_i hk
      simp only [Bool.and_eq_true] at hk
      cases hc
      exact ⟨rfl, by simpa using hk.1, hk.2⟩
    · cases hc
theorem sound {P : Program} {N k0 : Nat} : ∀ c : Code, SoundA P N k0 c ∧ SoundB P N k0 c := by
  intro c
  induction c with
  | skip =>
    refine ⟨fun _ s hs hs' hc S w f a σ Q hr hX => ?_, fun l r h => by simp [spine] at h⟩
    simp only [compA, Option.some.injEq, Prod.mk.injEq] at hc; obtain ⟨rfl, rfl⟩ := hc
    exact wp_skip ⟨trivial, S, f, σ, hX, hr, .refl _ _ _ _ _⟩
  | region id ops draw =>
    refine ⟨fun _ s hs hs' hc S w f a σ Q hr hX => ?_, fun l r h => by simp [spine] at h⟩
    simp only [compA] at hc
    split at hc
    · cases hc
    · rename_i ks hs
      split at hc
      · rename_i is his
        split at hc
        · rename_i hdraw
          subst hdraw
          split at hc
          · rename_i hok
            simp only [Bool.and_eq_true] at hok
            simp only [Option.some.injEq, Prod.mk.injEq] at hc; obtain ⟨rfl, rfl⟩ := hc
            refine runD_sound (K := (· < k0)) hok.1 his hok.2 (R := fun σ' => Q .normal (σ'.keep ks)) hr hX (fun a' w' hafter => ?_)
            obtain ⟨S', f', σ', h1, h2, h3⟩ := hafter
            exact ⟨trivial, S', f', σ'.keep ks, h1, keep_real h2 ks, h3⟩
          · cases hc
        · rename_i hdraw
          simp only [Option.some.injEq, Prod.mk.injEq] at hc; obtain ⟨rfl, rfl⟩ := hc
          have hd : draw = false := by simpa using hdraw
          subst hd
          refine wp_region_list (runOps_sound (K := (· < k0)) _ _ his hr hX (fun a' w' hafter => ?_))
          obtain ⟨S', f', σ', h1, h2, h3⟩ := hafter
          exact ⟨trivial, S', f', σ'.keep ks, h1, keep_real h2 ks, h3⟩
      · cases hc
  | seq x y ihx ihy =>
    obtain ⟨Ax, -⟩ := ihx
    obtain ⟨Ay, By⟩ := ihy
    refine ⟨fun hsp s hs hs' hc S w f a σ Q hr hX => ?_, fun l r hsp s hs hs' hc => ?_⟩
    · simp only [compA] at hc
      split at hc
      · cases hc
      · rename_i hx0
        have hx0 : spine x = none := by simpa using hx0
        split at hc
        · cases hc
        · rename_i x' hs1 hx
          split at hc
          · cases hc
          · rename_i y' hs2 hy
            split at hc
            · rename_i s0 hs0
              simp only [Option.some.injEq, Prod.mk.injEq] at hc; obtain ⟨rfl, rfl⟩ := hc
              obtain ⟨rfl, hy0⟩ := seqC_none hsp hx hs0
              refine wp_seq (wp_mono (Ax hx0 x' hs hs1 hx hr hX) (fun e a' w' ho => ?_))
              cases e with
              | normal =>
                obtain ⟨-, S', f', σ', ⟨σ'', hcv, h1⟩, h2, h3⟩ := ho
                obtain ⟨S3, f3, r3, st3⟩ := hcv.after h2
                exact wp_mono (Ay hy0 y' hs1 hs2 hy r3 h1) (fun e a'' w'' hh => ⟨okE_mono hh.1 (fun l hl => List.mem_append_right _ hl), hh.2.trans (h3.trans st3)⟩)
              | _ => exact ⟨okE_mono ho.1 (fun l hl => List.mem_append_left _ hl), ho.2⟩
            · cases hc
    · simp only [compA] at hc
      split at hc
      · cases hc
      · rename_i hx0
        have hx0 : spine x = none := by simpa using hx0
        split at hc
        · cases hc
        · rename_i x' hs1 hx
          split at hc
          · cases hc
          · rename_i y' hs2 hy
            split at hc
            · rename_i s0 hs0
              simp only [Option.some.injEq, Prod.mk.injEq] at hc; obtain ⟨rfl, rfl⟩ := hc
              rcases spine_seq hsp with ⟨rfl, rfl, hcon⟩ | hy0
              · simp only [seqC', hcon, if_true] at hs0
                split at hs0
                · rename_i hk
                  simp only [Bool.and_eq_true] at hk
                  cases hs0
                  have hr0 : spine r = none := by simpa using hk.1.1
                  have hg : ∀ l' ∈ gts r, l' = l := fun l' hl' => by simpa using List.all_eq_true.1 hk.1.2 l' hl'
                  refine ⟨by simp [findLabel], y', fun hj => pass_ok Ay hr0 hy hg hj, fun {S w f a σ Q} hr hX => ?_⟩
                  obtain ⟨I, ⟨n, σ0, hcv, hI⟩, round⟩ := hX
                  obtain ⟨S0, f0, hr0', hst0⟩ := hcv.after hr
                  have hj : Jn P N k0 l y' S w f σ.heap Q n a w := ⟨I, round, S0, f0, σ0, hI, hr0', hst0⟩
                  refine wp_seq (wp_label (wp_mono (pass_ok Ay hr0 hy hg hj) (fun e a' w' ho => ?_)))
                  cases e with
                  | goto l' => obtain ⟨e1, m, _, hm⟩ := ho; exact ⟨e1, m, hm⟩
                  | _ => exact ho
                · cases hs0
              · obtain ⟨rfl, hgx, hnx⟩ := seqC_tail hy0 hs0
                obtain ⟨hf, r', hp, hfirst⟩ := By l r hy0 y' hs1 hs2 hy
                refine ⟨by simp only [findLabel, findLabel_noLab hnx, hf], r', hp, fun {S w f a σ Q} hr hX => ?_⟩
                refine wp_seq (wp_mono (Ax hx0 x' hs hs1 hx hr hX) (fun e a' w' ho => ?_))
                cases e with
                | normal =>
                  obtain ⟨-, S', f', σ', ⟨σ'', hcv, h1⟩, h2, h3⟩ := ho
                  obtain ⟨S3, f3, r3, st3⟩ := hcv.after h2
                  refine wp_mono (hfirst r3 h1) (fun e a'' w'' hh => ?_)
                  cases e with
                  | goto l' => exact ⟨hh.1, hh.2.imp fun n hn => hn.trans (h3.trans st3)⟩
                  | exit id => exact ⟨hh.1, hh.2.trans (h3.trans st3)⟩
                  | _ => exact After.trans (h3.trans st3) hh
                | goto l' => have := ho.1; simp only [okE, hgx] at this; cases this
                | exit id => exact ⟨ho.1, ho.2⟩
                | _ => exact ho.2
            · cases hc
  | cond c x y ihx ihy =>
    obtain ⟨Ax, -⟩ := ihx
    obtain ⟨Ay, -⟩ := ihy
    refine ⟨fun _ s hs hs' hc S w f a σ Q hr hX => ?_, fun l r h => by simp [spine] at h⟩
    simp only [compA] at hc
    split at hc
    · cases hc
    · rename_i hsp
      simp only [Bool.or_eq_true, not_or] at hsp
      have hx0 : spine x = none := by simpa using hsp.1
      have hy0 : spine y = none := by simpa using hsp.2
      split at hc
      · cases hc
      · rename_i x' hs1 hx
        split at hc
        · cases hc
        · rename_i y' hs2 hy
          simp only [Option.some.injEq, Prod.mk.injEq] at hc; obtain ⟨rfl, rfl⟩ := hc
          simp only [X] at hX
          split at hX
          · rename_i t ht
            have hv := evalA_rep hr.wf.gl hr.env c
            rw [ht] at hv
            have hv' : a.eval c = .bool t := by generalize a.eval c = u at hv; cases hv; rfl
            refine wp_cond hv' ?_
            cases t
            · exact wp_mono (Ay hy0 y' hs1 hs2 hy hr hX) (fun e a' w' ho => ⟨okE_mono ho.1 (fun l hl => List.mem_append_right _ hl), ho.2⟩)
            · exact wp_mono (Ax hx0 x' hs hs1 hx hr hX) (fun e a' w' ho => ⟨okE_mono ho.1 (fun l hl => List.mem_append_left _ hl), ho.2⟩)
          · exact hX.elim
  | block id x ih =>
    obtain ⟨Ax, -⟩ := ih
    refine ⟨fun _ s hs hs' hc S w f a σ Q hr hX => ?_, fun l r h => by simp [spine] at h⟩
    simp only [compA] at hc
    split at hc
    · cases hc
    · rename_i hsp
      simp only [Bool.or_eq_true, not_or, decide_eq_true_eq, Nat.not_le] at hsp
      have hx0 : spine x = none := by simpa using hsp.1
      split at hc
      · cases hc
      · rename_i x' hs1 hx
        simp only [Option.some.injEq, Prod.mk.injEq] at hc; obtain ⟨rfl, rfl⟩ := hc
        refine wp_block (wp_mono (Ax hx0 x' hs hs1 hx hr hX) (fun e a' w' ho => ?_))
        obtain ⟨hok, S', f', σ', h1, h2, h3⟩ := ho
        cases e with
        | exit id' =>
          simp only [toX, inBlk] at h1
          simp only [Exit.inBlock]
          split
          · rename_i e; rw [if_pos e] at h1; exact ⟨trivial, S', f', σ', h1, h2, h3⟩
          · rename_i e; rw [if_neg e] at h1; exact ⟨hok, S', f', σ', h1, h2, h3⟩
        | goto l =>
          have hne : ¬ GG l = id := by have := hsp.2; simp only [GG]; omega
          simp only [toX, inBlk, if_neg hne] at h1
          exact ⟨hok, S', f', σ', h1, h2, h3⟩
        | _ => exact ⟨trivial, S', f', σ', h1, h2, h3⟩
  | loop x ih =>
    obtain ⟨Ax, -⟩ := ih
    refine ⟨fun _ s hs hs' hc S w f a σ Q hr hX => ?_, fun l r h => by simp [spine] at h⟩
    simp only [compA] at hc
    split at hc
    · cases hc
    · rename_i hsp
      have hx0 : spine x = none := by simpa using hsp
      split at hc
      · cases hc
      · rename_i x' hs1 hx
        simp only [Option.some.injEq, Prod.mk.injEq] at hc; obtain ⟨rfl, rfl⟩ := hc
        obtain ⟨I, ⟨n, σ0, hcv, hI⟩, round⟩ := hX
        obtain ⟨S0, f0, hr0, hst0⟩ := hcv.after hr
        refine wp_loop_rel (fun n a' w' => After N (· < k0) S w f σ.heap (I n) a' w') (fun n a' w' ho => ?_) n a w ⟨S0, f0, σ0, hI, hr0, hst0⟩
        obtain ⟨S', f', σ', h1, h2, h3⟩ := ho
        refine wp_mono (Ax hx0 x' hs hs1 hx h2 (round n σ' h1)) (fun e a'' w'' ho => ?_)
        obtain ⟨hok, ho⟩ := ho
        have other : (∃ S2 f2 σ2, (∃ σ3, Chg k0 σ2 σ3 ∧ Q (toX e) σ3) ∧ Real N S2 w'' f2 (σ2.nx ≤ ·) σ2.env σ2.heap a'' ∧ Step (· < k0) S' w' f' σ'.heap S2 w'' f2 σ2.heap) → Out (.loop x) N k0 S w f σ.heap Q e a'' w'' := fun ⟨S2, f2, σ2, ⟨σ3, hcv2, hQ⟩, q2, q3⟩ => by
          obtain ⟨S3, f3, r3, st3⟩ := hcv2.after q2
          exact ⟨okE_mono hok (fun l hl => hl), S3, f3, σ3, hQ, r3, (h3.trans q3).trans st3⟩
        cases e with
        | normal =>
          obtain ⟨S2, f2, σ2, ⟨m, σ3, hm, hcv2, hI2⟩, q2, q3⟩ := ho
          obtain ⟨S3, f3, r3, st3⟩ := hcv2.after q2
          exact ⟨m, hm, S3, f3, σ3, hI2, r3, (h3.trans q3).trans st3⟩
        | _ => exact other ho
  | exit id =>
    refine ⟨fun _ s hs hs' hc S w f a σ Q hr hX => ?_, fun l r h => by simp [spine] at h⟩
    simp only [compA] at hc
    split at hc
    · rename_i hlt
      simp only [Option.some.injEq, Prod.mk.injEq] at hc; obtain ⟨rfl, rfl⟩ := hc
      exact wp_exit ⟨hlt, S, f, σ, hX, hr, .refl _ _ _ _ _⟩
    · cases hc
  | goto l =>
    refine ⟨fun _ s hs hs' hc S w f a σ Q hr hX => ?_, fun l r h => by simp [spine] at h⟩
    simp only [compA, Option.some.injEq, Prod.mk.injEq] at hc; obtain ⟨rfl, rfl⟩ := hc
    exact wp_goto ⟨by simp [okE, gts], S, f, σ, hX, hr, .refl _ _ _ _ _⟩
  | ret =>
    refine ⟨fun _ s hs hs' hc S w f a σ Q hr hX => ?_, fun l r h => by simp [spine] at h⟩
    simp only [compA, Option.some.injEq, Prod.mk.injEq] at hc; obtain ⟨rfl, rfl⟩ := hc
    exact wp_ret ⟨trivial, S, f, σ, hX, hr, .refl _ _ _ _ _⟩
  | scope x ih =>
    obtain ⟨Ax, Bx⟩ := ih
    refine ⟨fun _ s hs hs' hc S w f a σ Q hr hX => ?_, fun l r h => by simp [spine] at h⟩
    simp only [compA] at hc
    split at hc
    · cases hc
    · rename_i x' hs1 hx
      split at hc
      · rename_i hsp
        simp only [Option.some.injEq, Prod.mk.injEq] at hc; obtain ⟨rfl, rfl⟩ := hc
        obtain ⟨⟨l, r⟩, hlr⟩ := Option.isSome_iff_exists.1 hsp
        obtain ⟨hf, r', hp, hfirst⟩ := Bx l r hlr x' hs hs1 hx
        refine wp_scope_rel l (fun n a' w' => Jn P N k0 l r' S w f σ.heap Q n a' w') hf (wp_mono (hfirst hr hX) (fun e a' w' ho => ?_)) (fun n a' w' hj => wp_seq (wp_skip (wp_mono (hp hj) (fun e a'' w'' ho => ?_))))
        · cases e with
          | goto l' => exact ho
          | exit id => exact ho
          | _ => exact ⟨trivial, ho⟩
        · cases e with
          | goto l' => exact ho
          | exit id => exact ho
          | _ => exact ⟨trivial, ho⟩
      · rename_i hsp
        have hx0 : spine x = none := by simpa using hsp
        split at hc
        · rename_i hg
          have hg : gts x = [] := by simpa using hg
          simp only [Option.some.injEq, Prod.mk.injEq] at hc; obtain ⟨rfl, rfl⟩ := hc
          refine wp_scope_straight (wp_mono (Ax hx0 x' hs hs1 hx hr hX) (fun e a' w' ho => ?_))
          obtain ⟨hok, ho⟩ := ho
          cases e with
          | goto l => simp only [okE, hg] at hok; cases hok
          | exit id => exact ⟨hok, ho⟩
          | _ => exact ⟨trivial, ho⟩
        · cases hc
  | refuse msg =>
    refine ⟨fun _ s hs hs' hc S w f a σ Q hr hX => ?_, fun l r h => by simp [spine] at h⟩
    simp only [compA, Option.some.injEq, Prod.mk.injEq] at hc; obtain ⟨rfl, rfl⟩ := hc
    exact hX.elim
  | label l =>
    refine ⟨fun _ s hs hs' hc S w f a σ Q hr hX => ?_, fun l r h => by simp [spine] at h⟩
    simp only [compA, Option.some.injEq, Prod.mk.injEq] at hc; obtain ⟨rfl, rfl⟩ := hc
    exact wp_label ⟨trivial, S, f, σ, hX, hr, .refl _ _ _ _ _⟩
  | _ => exact ⟨fun _ s hs hs' hc => by simp only [compA, reduceCtorEq] at hc, fun l r h => by simp [spine] at h⟩
theorem X_sound {P : Program} {N k0 : Nat} (c : Code) (s : SCode) (hs hs' : List (List Nat)) (hc : comp P N c hs = some (s, hs')) {S w f a} {σ : St} {Q : Exit → St → Prop}
    (hr : Real N S w f (σ.nx ≤ ·) σ.env σ.heap a) (hX : X P k0 s σ Q) : c.wp P (fun e a' w' => After N (· < k0) S w f σ.heap (Q (toX e)) a' w') a w := by
  unfold comp at hc
  split at hc
  · cases hc
  · rename_i hsp
    exact wp_mono ((sound c).1 (by simpa using hsp) s hs hs' hc hr hX) (fun e a' w' ho => ho.2)
/-! ### Functions -/
inductive SRes where
  | tmp (t : Nat)
  | cell (a : Nat) (n : Option Nat)
def compRes (P : Program) : ResultVar → Option SRes
  | .tmp t => some (.tmp t)
  | .cell a t => match aggN P t with
    | some n => some (.cell a n)
    | none => none
def SRes.get (σ : St) : SRes → Option AV
  | .tmp t => some (σ.env t)
  | .cell a n => match (match n with | none => effLoad1 (σ.env a) | some n => effLoadN n (σ.env a)) with
    | some E => match E.exec σ.heap σ.nx with
      | some (v, _) => some v
      | none => none
    | none => none
def resA (σ : St) (rs : List SRes) : Option AV :=
  match rs with
  | [r] => r.get σ
  | rs => match rs.mapM (SRes.get σ) with
    | some vs => some (.tup vs)
    | none => none
theorem load1_run {P : Program} {S w f h id x u t d v h'} {E : Eff} (wf : Wf S w f h) (hd : P.underlying t = some d) (hrow : d.isRow = false) (hx : Rep S w f x u) (hE : effLoad1 x = some E) (he : E.exec h id = some (v, h')) :
    ∃ ad y, u = .pointer (some ad) ∧ (loadVar t ad).run P w = .ok y w ∧ Rep S w f v y := by
  have hagg : ∀ w, (isAgg t).run P w = .ok false w := fun w => by
    unfold isAgg
    rw [Sem.run_bind, run_underlying hd w]
    cases d <;> simp_all [TypeDesc.isRow]
  have key : ∀ (a : Addr) (u : Value), w.cell? a = some u → (loadVar t a).run P w = .ok u w := fun a u hu => by simp [loadVar, hagg, hu]
  obtain ⟨bs, r, e1, e2, e3, e4⟩ := exec_inv he
  cases hx <;> simp only [effLoad1, Option.some.injEq, reduceCtorEq] at hE
  case ptr l hf =>
    subst hE
    obtain ⟨b, hb, rfl⟩ := getAll_one e1
    simp only at e2
    obtain ⟨y, hy, rfl⟩ := Option.map_eq_some_iff.1 e2
    obtain ⟨l', hl', hB⟩ := wf.hp.live _ _ hb
    rw [hf] at hl'; cases hl'
    cases b with
    | cells cs =>
      obtain ⟨u, h1, h2, _⟩ := hB.cell hy
      exact ⟨_, u, rfl, key _ _ h1, by rw [e3]; exact h2⟩
    | map es => cases hy
    | bld u cs =>
      obtain ⟨u, h1, h2, _⟩ := hB.ofBld.cell hy
      exact ⟨_, u, rfl, key _ _ h1, by rw [e3]; exact h2⟩
  case elt hl hS hc h1 hr =>
    rename_i cells off vals b o
    split at hE
    · rename_i x hx'
      cases hE
      cases e2
      have hi : off < cells.length := (List.getElem?_eq_some_iff.1 hx').1
      have hv : vals[off]? = some vals[off] := by simp
      exact ⟨_, _, rfl, key _ _ (hc off _ hv), by rw [e3]; exact (hr off x _ hx' hv).mono (fun _ h => h) (fun _ _ => rfl) (fun _ _ h => by cases h)⟩
    · cases hE
theorem loadN_run {P : Program} {S w f h id x u t d v h' n} {E : Eff} (wf : Wf S w f h) (hd : P.underlying t = some d) (hrow : d.isRow = true) (hi : (P.info? t).map (·.size) = some n) (hx : Rep S w f x u) (hE : effLoadN n x = some E) (he : E.exec h id = some (v, h')) :
    ∃ ad y, u = .pointer (some ad) ∧ (loadVar t ad).run P w = .ok y w ∧ Rep S w f v y := by
  have key : ∀ (b o : Nat) (vals : List Value), vals.length = n → (∀ i x, vals[i]? = some x → w.cell? ⟨b, o + i, none⟩ = some x) → (loadVar t ⟨b, o, none⟩).run P w = .ok (.agg vals.toArray) w := fun b o vals hl hc =>
    run_loadVar_mid w b o t vals d hc hd hrow (by rw [hl]; exact hi)
  obtain ⟨bs, r, e1, e2, e3, e4⟩ := exec_inv he
  cases hx <;> simp only [effLoadN, Option.some.injEq, reduceCtorEq] at hE
  case ptr l hf =>
    subst hE
    obtain ⟨b, hb, rfl⟩ := getAll_one e1
    simp only at e2
    obtain ⟨y, hy, rfl⟩ := Option.map_eq_some_iff.1 e2
    obtain ⟨l', hl', hB⟩ := wf.hp.live _ _ hb
    rw [hf] at hl'; cases hl'
    cases b with
    | cells cs =>
      simp only at hy
      split at hy
      · rename_i hle
        cases hy
        obtain ⟨vals, v1, v2, v3, v4⟩ := hB.take _ _ hle
        exact ⟨_, Value.agg vals.toArray, rfl, key _ _ vals v1 v4, by rw [e3]; exact Rep.agg v3.1 v2 v3.2⟩
      · cases hy
    | map es => cases hy
    | bld u es => cases hy
  case elt hl hS hc h1 hr =>
    rename_i cells off vals b o
    split at hE
    · rename_i hle
      cases hE
      cases e2
      refine ⟨_, Value.agg ((vals.drop off).take n).toArray, rfl, key b (o + off) ((vals.drop off).take n) (by simp; omega) (fun i x hx => ?_), ?_⟩
      · rw [List.getElem?_take] at hx
        split at hx
        · rw [List.getElem?_drop] at hx
          rw [Nat.add_assoc]; exact hc _ _ hx
        · cases hx
      · rw [e3]
        refine .agg (by simp; omega) (fun x hx => h1 x (List.mem_of_mem_drop (List.mem_of_mem_take hx))) (fun i x y hx hy => ?_)
        rw [List.getElem?_take] at hx hy
        split at hx
        · rename_i hlt
          rw [if_pos hlt] at hy
          rw [List.getElem?_drop] at hx hy
          exact (hr _ x y hx hy).mono (fun _ h => h) (fun _ _ => rfl) (fun _ _ h => by cases h)
        · cases hx
    · cases hE
def resRun (a : Go.Act) : ResultVar → Sem Value
  | .tmp t => pure (a.tmps.getD t undef)
  | .cell c t => do loadVar t (← asAddr (a.tmps.getD c undef))
theorem get_ok {P : Program} {N S w f a} {σ : St} (hr : Real N S w f (σ.nx ≤ ·) σ.env σ.heap a) {rv : ResultVar} {r : SRes} (hc : compRes P rv = some r) {x : AV} (hx : r.get σ = some x) :
    ∃ y, (resRun a rv).run P w = .ok y w ∧ Rep S w f x y := by
  cases rv with
  | tmp t =>
    cases hc
    cases hx
    exact ⟨_, rfl, hr.env t⟩
  | cell c t =>
    simp only [compRes] at hc
    split at hc
    · rename_i n hn
      cases hc
      obtain ⟨d, i, h1, h2, h3⟩ := aggN_ok hn
      simp only [SRes.get] at hx
      have hrep := hr.env c
      split at hx
      · rename_i E hE
        split at hx
        · rename_i v h' he
          cases hx
          have : ∃ ad y, a.tmps.getD c undef = .pointer (some ad) ∧ (loadVar t ad).run P w = .ok y w ∧ Rep S w f x y := by
            cases hd : d.isRow
            · rw [hd] at h3; simp at h3; subst h3
              exact load1_run hr.wf h1 hd hrep hE he
            · rw [hd] at h3; simp at h3; subst h3
              exact loadN_run hr.wf h1 hd (by rw [h2]; rfl) hrep hE he
          obtain ⟨ad, y, e1, e2, e3⟩ := this
          refine ⟨y, ?_, e3⟩
          simp only [resRun, e1, Sem.run_bind, asAddr, Sem.run_pure, Result.andThen_ok, e2]
        · cases hx
      · cases hx
    · cases hc
theorem results_run {P : Program} {N S w f a} {σ : St} (hr : Real N S w f (σ.nx ≤ ·) σ.env σ.heap a) : ∀ (rvs : List ResultVar) (rs : List SRes) (xs : List AV), rvs.mapM (compRes P) = some rs → rs.mapM (SRes.get σ) = some xs →
    ∃ ys : List Value, (rvs.mapM (resRun a)).run P w = .ok ys w ∧ Reps S w f xs ys
  | [], rs, xs, hc, hx => by
    simp at hc; subst hc
    simp at hx; subst hx
    exact ⟨[], by simp, .nil⟩
  | rv :: rvs, rs, xs, hc, hx => by
    simp only [List.mapM_cons, Option.bind_eq_bind, Option.pure_def] at hc
    cases h1 : compRes P rv with
    | none => simp [h1] at hc
    | some r =>
      cases h2 : rvs.mapM (compRes P) with
      | none => simp [h1, h2] at hc
      | some rs' =>
        simp [h1, h2] at hc; subst hc
        simp only [List.mapM_cons, Option.bind_eq_bind, Option.pure_def] at hx
        cases h3 : r.get σ with
        | none => simp [h3] at hx
        | some x =>
          cases h4 : rs'.mapM (SRes.get σ) with
          | none => simp [h3, h4] at hx
          | some xs' =>
            simp [h3, h4] at hx; subst hx
            obtain ⟨y, e1, e2⟩ := get_ok hr h1 h3
            obtain ⟨ys, e3, e4⟩ := results_run hr rvs rs' xs' h2 h4
            exact ⟨y :: ys, by simp [List.mapM_cons, e1, e3], .cons e2 e4⟩
theorem results_ok {P : Program} {N S w f a} {σ : St} {fn : Func} (hr : Real N S w f (σ.nx ≤ ·) σ.env σ.heap a) {rs : List SRes} (hc : fn.results.toList.mapM (compRes P) = some rs) {x : AV} (hx : resA σ rs = some x) :
    ∃ y, (results fn a.tmps).run P w = .ok y w ∧ Rep S w f x y := by
  have e0 : results fn a.tmps = (do
      let vs ← fn.results.mapM (resRun a)
      pure (if h : vs.size = 1 then vs[0] else .tuple vs)) := by
    unfold results
    congr 1
  have main : ∀ xs, rs.mapM (SRes.get σ) = some xs → ∃ ys : List Value, (fn.results.mapM (resRun a)).run P w = .ok ys.toArray w ∧ Reps S w f xs ys ∧ ys.length = rs.length := fun xs hxs => by
    obtain ⟨ys, h1, h2⟩ := results_run hr _ rs xs hc hxs
    refine ⟨ys, ?_, h2, ?_⟩
    · rw [Array.mapM_eq_mapM_toList, Sem.run_map, h1]; rfl
    · rw [h2.1]; exact (mapM_get hxs).1
  unfold resA at hx
  split at hx
  · rename_i r
    obtain ⟨ys, h1, h2, h3⟩ := main [x] (by simp [hx])
    match ys, h3 with
    | [y], _ =>
      refine ⟨y, ?_, h2.2 0 x y rfl rfl⟩
      rw [e0, Sem.run_bind, h1]; rfl
  · rename_i hne
    split at hx
    · rename_i vs hvs
      cases hx
      obtain ⟨ys, h1, h2, h3⟩ := main vs hvs
      refine ⟨.tuple ys.toArray, ?_, .tup h2.1 h2.2⟩
      rw [e0, Sem.run_bind, h1]
      have : ¬ (ys.toArray.size = 1) := fun e => by
        have : rs.length = 1 := by rw [← h3]; simpa using e
        match rs, this with
        | [r], _ => exact hne r rfl
      simp only [Result.andThen_ok, dif_neg this, Sem.run_pure]
    · cases hx
def Ends (k0 : Nat) (rs : List SRes) (r : AV) (k' : Nat) (h' : Heap) (e : Exit) (σ : St) : Prop :=
  (match e with | .ret => True | .normal => True | _ => False) ∧ ∃ σ', Chg k0 σ σ' ∧ ∃ g, Cv k0 g σ'.nx k' σ'.heap h' ∧ resA σ' rs = some (ren g r)
def args0 : Nat → List AV → List (Nat × AV)
  | _, [] => []
  | i, x :: r => (i, x) :: args0 (i + 1) r
theorem args0_get : ∀ (xs : List AV) (i t : Nat), en (args0 i xs) t = if i ≤ t then (xs[t - i]?).getD .any else .any
  | [], i, t => by simp [args0, en]
  | x :: r, i, t => by
    simp only [args0, en, args0_get r (i + 1) t]
    by_cases e : t = i
    · subst e; simp
    · rw [if_neg e]
      by_cases h : i ≤ t
      · rw [if_pos h, if_pos (by omega), show t - i = (t - (i + 1)) + 1 by omega, List.getElem?_cons_succ]
      · rw [if_neg h, if_neg (by omega)]
structure Fn (P : Program) (fid : FuncId) (s : SCode) (rs : List SRes) (n : Nat) : Prop where
  ex : ∃ fn c hs, P.funcs[fid]? = some fn ∧ fn.body = some c ∧ (fn.name == "runtime.NumGoroutine") = false ∧ comp P fn.ntmps c hs = some (s, []) ∧ fn.results.toList.mapM (compRes P) = some rs ∧ n ≤ fn.ntmps
theorem Fn.runs {P : Program} {fid s rs n} (F : Fn P fid s rs n) {k : Nat} {args : List AV} {h : Heap} {r : AV} {k' : Nat} {h' : Heap} (hn : args.length ≤ n)
    (hX : X P k s ⟨en (args0 0 args), h, k⟩ (Ends k rs r k' h')) : Runs P fid k args h r k' h' := by
  obtain ⟨fn, c, hs, h1, h2, h3, h4, h5, h6⟩ := F.ex
  refine ⟨⟨fn, h1, by rw [h2]; rfl, h3⟩, fun S w f vs hargs hwf hfr => ?_⟩
  have hreal : Real fn.ntmps S w f (k ≤ ·) (en (args0 0 args)) h { tmps := vs.toArray ++ Array.replicate (fn.ntmps - vs.toArray.size) undef, defers := [] } := by
    have hl := hargs.1
    refine ⟨fun t => ?_, hwf, hfr, by simp; omega, rfl⟩
    rw [args0_get, if_pos (Nat.zero_le _), Nat.sub_zero]
    cases ht : args[t]? with
    | none => exact .any
    | some x =>
      have hlt : t < args.length := (List.getElem?_eq_some_iff.1 ht).1
      have hv : vs[t]? = some vs[t] := by simp
      have e : (vs.toArray ++ Array.replicate (fn.ntmps - vs.toArray.size) undef).getD t undef = vs[t] := by
        rw [Array.getD_eq_getD_getElem?, Array.getElem?_append_left (by simp; omega)]
        simp [hv]
      rw [e]
      exact hargs.2 t x _ ht hv
  refine calls_of_wp h1 h2 (wp_mono (X_sound c s hs [] h4 hreal hX) (fun e a' w' ho => ?_))
  obtain ⟨S0, f0, σ0, ⟨he, σ', hchg, g, hcv, hres⟩, hr0, hst0⟩ := ho
  obtain ⟨S', f', hr', hst1⟩ := hchg.after hr0
  have hst := hst0.trans hst1
  obtain ⟨y, hy1, hy2⟩ := results_ok hr' h5 hres
  have fin : a'.defers = [] ∧ ∃ v, (results fn a'.tmps).run P w' = .ok v w' ∧ (fun (e : Ending) w' => ∃ S' f' v, e = .returned v ∧ Rep S' w' f' r v ∧ Wf S' w' f' h' ∧ Step (fun _ => True) S w f h S' w' f' h' ∧ (∀ id, k' ≤ id → f' id = none)) (.returned v) w' := by
    refine ⟨hr'.defers, y, hy1, S', fun i => f' (g i), y, rfl, rep_of_ren hy2 rfl, hcv.wf hr'.wf, ?_, fun i hi => hr'.fresh _ (hcv.high i hi)⟩
    have s2 := hst.trans hcv.step
    exact ⟨s2.kept, s2.own, s2.st, s2.st', fun i l _ hl => s2.ids i l (by
      rcases Nat.lt_or_ge i k with hlt | hge
      · exact hlt
      · rw [hfr i hge] at hl; cases hl) hl⟩
  cases e with
  | normal => exact fin
  | ret => exact fin
  | _ => exact he.elim
end Go.Sx
