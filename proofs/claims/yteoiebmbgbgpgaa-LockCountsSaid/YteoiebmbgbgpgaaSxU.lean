/- Specs of functions by the types of their arguments. No conditions. -/
import Derived.Test.YteoiebmbgbgpgaaSxV
set_option linter.unusedVariables false
set_option linter.unusedSimpArgs false
namespace Go.Sx
inductive Ty where
  | i | b | l | ll | bs | mp | tb | el | av
  | k (t : IntKind)
abbrev Ty.den : Ty → Type
  | .i => Int
  | .b => Bool
  | .l => List Int
  | .ll => List (List Int)
  | .bs => List Bool
  | .mp => List (List Int)
  | .tb => List Int
  | .el => List Int
  | .av => AV
  | .k _ => Int
def Ty.dec : (t : Ty) → AV → Option t.den
  | .i, x => match x with
    | .v (.int .i64 n) => some n
    | _ => none
  | .b, x => match x with
    | .v (.bool c) => some c
    | _ => none
  | .l, x => match x with
    | .il c n _ => match unints c with
      | some m => if n = m.length then some m else none
      | none => none
    | _ => none
  | .ll, x => match x with
    | .il c n _ => match unlls c with
      | some m => if n = m.length then some m else none
      | none => none
    | _ => none
  | .bs, x => match x with
    | .il c n _ => match unbls c with
      | some m => if n = m.length then some m else none
      | none => none
    | _ => none
  | .mp, x => match x with
    | .agg [.il c n _] => match unlls c with
      | some m => if n = m.length then some m else none
      | none => none
    | _ => none
  | .tb, x => match x with
    | .agg c => unints c
    | _ => none
  | .el, x => match x with
    | .elt c 0 => unints c
    | _ => none
  | .av, x => some x
  | .k t, x => match x with
    | .v (.int t' n) => if t' = t then some n else none
    | _ => none
def Ty.all : (t : Ty) → (t.den → AV → Prop) → Prop
  | .i, Q => ∀ n, Q n (.v (.int .i64 n))
  | .b, Q => ∀ n, Q n (.v (.bool n))
  | .l, Q => ∀ l u, Q l (.il (ints l) l.length u)
  | .ll, Q => ∀ l u, Q l (.il (lls l) l.length u)
  | .bs, Q => ∀ l u, Q l (.il (bls l) l.length u)
  | .mp, Q => ∀ l u, Q l (.agg [.il (lls l) l.length u])
  | .tb, Q => ∀ l, Q l (.agg (ints l))
  | .el, Q => ∀ l, Q l (.elt (ints l) 0)
  | .av, Q => ∀ x, Q x x
  | .k t, Q => ∀ n, Q n (.v (.int t n))
theorem Ty.all_dec {t : Ty} {Q : t.den → AV → Prop} (h : t.all Q) {x : AV} {a : t.den} (hx : t.dec x = some a) : Q a x := by
  cases t <;> simp only [Ty.dec] at hx <;> simp only [Ty.all] at h
  case i => split at hx <;> cases hx; exact h _
  case b => split at hx <;> cases hx; exact h _
  case l =>
    split at hx
    · split at hx
      · rename_i c n u l hl
        split at hx
        · rename_i hn; cases hx; rw [unints_inv hl, hn]; exact h _ _
        · cases hx
      · cases hx
    · cases hx
  case ll =>
    split at hx
    · split at hx
      · rename_i c n u l hl
        split at hx
        · rename_i hn; cases hx; rw [unlls_inv hl, hn]; exact h _ _
        · cases hx
      · cases hx
    · cases hx
  case bs =>
    split at hx
    · split at hx
      · rename_i c n u l hl
        split at hx
        · rename_i hn; cases hx; rw [unbls_inv hl, hn]; exact h _ _
        · cases hx
      · cases hx
    · cases hx
  case mp =>
    split at hx
    · split at hx
      · rename_i c n u l hl
        split at hx
        · rename_i hn; cases hx; rw [unlls_inv hl, hn]; exact h _ _
        · cases hx
      · cases hx
    · cases hx
  case tb =>
    split at hx
    · rename_i c; rw [unints_inv hx]; exact h _
    · cases hx
  case el =>
    split at hx
    · rename_i c; rw [unints_inv hx]; exact h _
    · cases hx
  case av => cases hx; exact h _
  case k t =>
    split at hx
    · split at hx
      · rename_i e; cases hx; subst e; exact h _
      · cases hx
    · cases hx
abbrev Out3 := Option (AV × HL × Nat)
abbrev Fun : List Ty → Type
  | [] => Out3
  | t :: ts => t.den → Fun ts
def app : (ts : List Ty) → Fun ts → List AV → Out3
  | [], f, [] => f
  | t :: ts, f, x :: xs => match t.dec x with
    | some a => app ts (f a) xs
    | none => none
  | _, _, _ => none
def spT (g : FuncId) (ts : List Ty) (F : Fun ts) : Sp := ⟨g, fun args h k => match h, k with
  | [], 0 => app ts F args
  | _, _ => none⟩
def OkT (P : Program) (g : FuncId) : (ts : List Ty) → Fun ts → List AV → Prop
  | [], F, acc => ∀ r h' k', F = some (r, h', k') → Runs P g 0 acc (hp []) r k' (hp h')
  | t :: ts, F, acc => t.all fun a x => OkT P g ts (F a) (acc ++ [x])
theorem okT_app {P : Program} {g : FuncId} : ∀ {ts : List Ty} {F : Fun ts} {acc : List AV}, OkT P g ts F acc → ∀ xs r h' k', app ts F xs = some (r, h', k') → Runs P g 0 (acc ++ xs) (hp []) r k' (hp h')
  | [], F, acc, h, xs, r, h', k', hh => by
    cases xs with
    | nil => simp only [app] at hh; rw [List.append_nil]; exact h r h' k' hh
    | cons x xs => simp [app] at hh
  | t :: ts, F, acc, h, xs, r, h', k', hh => by
    cases xs with
    | nil => simp [app] at hh
    | cons x xs =>
      simp only [app] at hh
      split at hh
      · rename_i a ha
        have := okT_app (Ty.all_dec h ha) xs r h' k' hh
        simpa using this
      · cases hh
theorem spT_ok {P : Program} {g : FuncId} {ts : List Ty} {F : Fun ts} (h : OkT P g ts F []) : (spT g ts F).ok P := by
  intro args hl k r h' k' hh
  simp only [spT] at hh
  split at hh
  · exact okT_app h args r h' k' hh
  · cases hh
def res (c : Bool) (r : AV) : Out3 := if c = true then some (r, [], 0) else none
theorem res_inv {c : Bool} {r r' : AV} {h' : HL} {k' : Nat} (h : res c r = some (r', h', k')) : c = true ∧ r' = r ∧ h' = [] ∧ k' = 0 := by
  unfold res at h
  split at h
  · rename_i hc; simp only [Option.some.injEq, Prod.mk.injEq] at h; exact ⟨hc, h.1.symm, h.2.1.symm, h.2.2.symm⟩
  · cases h
theorem okT_res {P : Program} {g : FuncId} {acc : List AV} {c : Bool} {r : AV} (h : c = true → Runs P g 0 acc (hpF []) r 0 (hpF [])) : ∀ r' h' k', res c r = some (r', h', k') → Runs P g 0 acc (hp []) r' k' (hp h') := by
  intro r' h' k' hh
  obtain ⟨hc, rfl, rfl, rfl⟩ := res_inv hh
  simpa only [hp_eq] using h hc
@[simp] theorem res_true (r : AV) : res true r = some (r, [], 0) := rfl
attribute [simp] spT app Ty.dec OkT Ty.all ChgT.refl
end Go.Sx
namespace Go.Sx
theorem PFn.rz {P : Program} {g : FuncId} {E : PEnt} (F : PFn P g E) {ss : List Sp} (hc : SpsOk P ss) {k : Nat} {args : List AV} {h : HL} {r : AV} {k' : Nat} {h' : HL} (hn : args.length ≤ E.n)
    (hX : ∀ Q : Exit → ST → Prop, (∀ e s, EndsP k E.rs r k' h' e s → Q e s) → XZ (rZ (spc ss)) k E.code ⟨args0 0 args, h, k⟩ Q) : Runs P g k args (hpF h) r k' (hpF h') := by
  have := F.runsZ hc hn (hX _ fun _ _ h => h)
  simpa only [hp_eq] using this
theorem EndsP.p {rs : List SRes} {r : AV} {e : Exit} {s : ST} (he : e = .ret ∨ e = .normal) (hr : resA s.st rs = some r) (hc : clo r = true) : EndsP 0 rs r 0 [] e s := .pure he hr hc
theorem XZ_for {R : Rsv} {k0 : Nat} {b : PCode} {s : ST} {Q : Exit → ST → Prop} {α : Type} (mk : α → ST) (μ : α → Nat) (inv : α → Prop) (a0 : α) (h0 : inv a0) (hs : ChgT k0 s (mk a0))
    (step : ∀ a, inv a → ∀ (N : ST → Prop) (Q' : Exit → ST → Prop), (∀ s' a', μ a' < μ a → inv a' → ChgT k0 s' (mk a') → N s') → (∀ e s s', ChgT k0 s s' → Q e s' → Q' e s) → XZ R k0 b (mk a) (thenE N Q')) :
    XZ R k0 (.loop b) s Q := by
  rw [XZ_loop]
  refine ⟨fun n s => ∃ a, n = μ a ∧ inv a ∧ s = mk a, ⟨μ a0, mk a0, hs, a0, rfl, h0, rfl⟩, ?_⟩
  rintro n s ⟨a, rfl, hi, rfl⟩
  refine step a hi _ _ (fun s' a' h1 h2 h3 => ?_) (fun e s s' h1 h2 => ⟨s', h1, h2⟩)
  exact ⟨μ a', mk a', h1, h3, a', rfl, h2, rfl⟩
end Go.Sx
