/- The effects of the operations on values and cells, each shown to be met by the model's operation. No conditions. -/
import Derived.Test.YtmakepdccccmaaaSxB
import Derived.Laws.Entries
namespace Go.Sx

/-! ### Plain values -/
def AV.val0 : AV → Option Value
  | .v x => some x
  | _ => none
def vals0 : List AV → Option (List Value)
  | [] => some []
  | x :: r => match x.val0, vals0 r with
    | some y, some s => some (y :: s)
    | _, _ => none
def AV.val1 : AV → Option Value
  | .v x => some x
  | .agg cs => (vals0 cs).map fun l => .agg l.toArray
  | _ => none
def AV.val : AV → Option Value
  | .v x => some x
  | .agg cs => (vals0 cs).map fun l => .agg l.toArray
  | .ifc t x => x.val1.map (.iface t)
  | _ => none

theorem vals0_rep {S w f} : ∀ {cs : List AV} {vals l : List Value}, vals.length = cs.length → (∀ (i : Nat) x y, cs[i]? = some x → vals[i]? = some y → Rep S w f x y) → vals0 cs = some l → vals = l
  | [], vals, l, hl, _, h => by simp [vals0] at h; subst h; exact List.length_eq_zero_iff.1 (by simpa using hl)
  | x :: r, [], l, hl, _, h => by simp at hl
  | x :: r, y :: vals, l, hl, hr, h => by
    simp only [vals0] at h
    split at h
    · rename_i y' s h1 h2
      cases h
      have e := vals0_rep (cs := r) (vals := vals) (by simpa using hl) (fun i x y hx hy => hr (i + 1) x y (by simpa using hx) (by simpa using hy)) h2
      have h0 := hr 0 x y (by simp) (by simp)
      cases x <;> simp only [AV.val0, Option.some.injEq, reduceCtorEq] at h1
      subst h1; cases h0; rw [e]
    · cases h

theorem val1_rep {S w f x y u} (h : Rep S w f x y) (hv : x.val1 = some u) : y = u := by
  cases h <;> simp only [AV.val1, Option.some.injEq, reduceCtorEq, Option.map_eq_some_iff] at hv
  case v => exact hv
  case agg hl h1 hr =>
    obtain ⟨l, h2, rfl⟩ := hv
    rw [vals0_rep hl hr h2]

theorem val_rep {S w f x y u} (h : Rep S w f x y) (hv : x.val = some u) : y = u := by
  cases h <;> simp only [AV.val, Option.some.injEq, reduceCtorEq, Option.map_eq_some_iff] at hv
  case v => exact hv
  case agg hl h1 hr =>
    obtain ⟨l, h2, rfl⟩ := hv
    rw [vals0_rep hl hr h2]
  case ifc h =>
    obtain ⟨l, h2, rfl⟩ := hv
    rw [val1_rep h h2]

/-- A constant, or a plain result. -/
def ofVal : Value → AV
  | .agg cs => if cs.toList.all (·.oneCell') then .agg (cs.toList.map .v) else .any
  | .tuple vs => .tup (vs.toList.map .v)
  | .iface t x => .ifc t (match x with
    | .agg cs => if cs.toList.all (·.oneCell') then .agg (cs.toList.map .v) else .any
    | y => .v y)
  | .func g a b => if a.size = 0 ∧ b.size = 0 then .fn g [] [] else .any
  | x => .v x

theorem rep_vs {S w f} (l : List Value) : ∀ (i : Nat) x y, (l.map AV.v)[i]? = some x → l[i]? = some y → Rep S w f x y := fun i x y hx hy => by
  rw [List.getElem?_map, hy] at hx
  simp at hx; subst hx; exact .v _

theorem rep_aggv {S w f} (cs : Array Value) : Rep S w f (if cs.toList.all (·.oneCell') then .agg (cs.toList.map .v) else .any) (.agg cs) := by
  split
  · rename_i h
    have := Rep.agg (S := S) (w := w) (f := f) (cells := cs.toList.map .v) (vals := cs.toList) (by simp) (fun x hx => by simpa using List.all_eq_true.1 h x hx) (rep_vs _)
    simpa using this
  · exact .any

theorem ofVal_rep {S w f} (x : Value) : Rep S w f (ofVal x) x := by
  unfold ofVal
  split
  · exact rep_aggv _
  · rename_i vs
    have := Rep.tup (S := S) (w := w) (f := f) (vs := vs.toList.map .v) (vals := vs.toList) (by simp) (rep_vs _)
    simpa using this
  · refine .ifc ?_
    split
    · exact rep_aggv _
    · exact .v _
  · split
    · rename_i g a b h
      have ha : a = #[] := Array.eq_empty_of_size_eq_zero h.1
      have hb : b = #[] := Array.eq_empty_of_size_eq_zero h.2
      subst ha hb
      exact .fn (fs := []) (cs := []) rfl rfl (fun i x y hx => by simp at hx) (fun i x y hx => by simp at hx)
    · exact .any
  · exact .v _

/-- Operands. -/
def evalA (env : Nat → AV) : Operand → AV
  | .tmp t => env t
  | .const v => ofVal v
  | .global _ => .any
  | .func f => .fn (.func f) [] []

theorem evalA_rep {S w f env} {a : Go.Act} (h : ∀ t, Rep S w f (env t) (a.tmps.getD t undef)) (x : Operand) : Rep S w f (evalA env x) (a.eval x) := by
  cases x with
  | tmp t => exact h t
  | const v => exact ofVal_rep v
  | global g => exact .any
  | func g => exact .fn (fs := []) (cs := []) rfl rfl (fun i x y hx => by simp at hx) (fun i x y hx => by simp at hx)

theorem evalAs_rep {S w f} {ρA : Operand → AV} {ρ : Operand → Value} (h : ∀ x, Rep S w f (ρA x) (ρ x)) (xs : List Operand) : Reps S w f (xs.map ρA) (xs.map ρ) :=
  ⟨by simp, fun i x y hx hy => by
    rw [List.getElem?_map] at hx hy
    cases hi : xs[i]? with
    | none => simp [hi] at hx
    | some o => simp [hi] at hx hy; subst hx hy; exact h o⟩

/-! ### Pure parts of the model, run without a world -/
def pureRun {α : Type} (P : Program) : Sem α → Option α
  | .pure a => some a
  | .program k => pureRun P (k P)
  | .mark _ k => pureRun P k
  | _ => none

theorem pureRun_run {α : Type} {P : Program} {s : Sem α} {a : α} (h : pureRun P s = some a) (w : World) : s.run P w = .ok a w := by
  induction s with
  | pure b => simp [pureRun] at h; subst h; rfl
  | program k ih => exact ih P h
  | mark m k ih => exact ih h
  | _ => simp [pureRun] at h

theorem pureRun_bind {α β : Type} (P : Program) (s : Sem α) (g : α → Sem β) : pureRun P (s >>= g) = (pureRun P s).bind fun a => pureRun P (g a) := by
  show pureRun P (s.bind g) = _
  induction s with
  | pure b => rfl
  | program k ih => simp only [Sem.bind, pureRun, ih]
  | mark m k ih => simp only [Sem.bind, pureRun, ih]
  | _ => rfl
@[simp] theorem pureRun_pure {α : Type} (P : Program) (a : α) : pureRun P (pure a : Sem α) = some a := rfl
@[simp] theorem pureRun_pure' {α : Type} (P : Program) (a : α) : pureRun P (Sem.pure a : Sem α) = some a := rfl
@[simp] theorem pureRun_program (P : Program) : pureRun P program = some P := rfl
theorem pureRun_map {α β : Type} (P : Program) (s : Sem α) (g : α → β) : pureRun P (g <$> s) = (pureRun P s).map g := by
  rw [map_eq_pure_bind, pureRun_bind]; cases pureRun P s <;> rfl

theorem good_plain {P ex S w f h id} {v : Value} {E : Eff} (hE : ret (ofVal v) = some E) (hr : pureRun P ex = some (.value v)) : Good P E ex S w f h id :=
  good_pure hE (pureRun_run hr w) (ofVal_rep v)

/-- A pure operation on two plain values. -/
def effPlain2 (P : Program) (g : Value → Value → Sem Value) (x y : AV) : Option Eff :=
  match x.val, y.val with
  | some u, some v => match pureRun P (g u v) with
    | some r => ret (ofVal r)
    | none => none
  | _, _ => none
theorem good_plain2 {P S w f h id} {g : Value → Value → Sem Value} {x y : AV} {u v : Value} {E : Eff} (hx : Rep S w f x u) (hy : Rep S w f y v) (hE : effPlain2 P g x y = some E) :
    Good P E (do pure (.value (← g u v))) S w f h id := by
  unfold effPlain2 at hE
  split at hE
  · rename_i u' v' h1 h2
    rw [val_rep hx h1, val_rep hy h2]
    split at hE
    · rename_i r hr
      exact good_plain hE (by rw [pureRun_bind, hr]; rfl)
    · cases hE
  · cases hE
def effPlain1 (P : Program) (g : Value → Sem Value) (x : AV) : Option Eff :=
  match x.val with
  | some u => match pureRun P (g u) with
    | some r => ret (ofVal r)
    | none => none
  | _ => none
theorem good_plain1 {P S w f h id} {g : Value → Sem Value} {x : AV} {u : Value} {E : Eff} (hx : Rep S w f x u) (hE : effPlain1 P g x = some E) :
    Good P E (do pure (.value (← g u))) S w f h id := by
  unfold effPlain1 at hE
  split at hE
  · rename_i u' h1
    rw [val_rep hx h1]
    split at hE
    · rename_i r hr
      exact good_plain hE (by rw [pureRun_bind, hr]; rfl)
    · cases hE
  · cases hE
def effPlains (P : Program) (g : List Value → Sem Value) (xs : List AV) : Option Eff :=
  match vals0 xs with
  | some us => match pureRun P (g us) with
    | some r => ret (ofVal r)
    | none => none
  | _ => none
theorem good_plains {P S w f h id} {g : List Value → Sem Value} {xs : List AV} {us : List Value} {E : Eff} (hx : Reps S w f xs us) (hE : effPlains P g xs = some E) :
    Good P E (do pure (.value (← g us))) S w f h id := by
  unfold effPlains at hE
  split at hE
  · rename_i u' h1
    rw [vals0_rep hx.1 hx.2 h1]
    split at hE
    · rename_i r hr
      exact good_plain hE (by rw [pureRun_bind, hr]; rfl)
    · cases hE
  · cases hE

/-! ### Loads and stores -/
def effLoad1 : AV → Option Eff
  | .ptr i off => some ⟨[i], [], fun bs _ => match bs with
    | [b] => (match b with
      | .cells cs => cs[off]?
      | _ => none).map (⟨·, [], none⟩)
    | _ => none⟩
  | .elt cells off => match cells[off]? with
    | some x => ret x
    | none => none
  | _ => none

theorem good_load1 {P S w f h id x y t d} {E : Eff} (hd : P.underlying t = some d) (hrow : d.isRow = false) (hx : Rep S w f x y) (hE : effLoad1 x = some E) :
    Good P E (do pure (.value (← Instr.loadAt t y))) S w f h id := by
  have hagg : ∀ w, (isAgg t).run P w = .ok false w := fun w => by
    unfold isAgg
    rw [Sem.run_bind, run_underlying hd w]
    cases d <;> simp_all [TypeDesc.isRow]
  have key : ∀ (a : Addr) (u : Value), w.cell? a = some u → (do pure (Next.value (← Instr.loadAt t (.pointer (some a)))) : Sem Next).run P w = .ok (.value u) w := fun a u hu => by
    simp [Instr.loadAt, Instr.sureAddr, loadVar, hagg, hu]
  cases hx <;> simp only [effLoad1, Option.some.injEq, reduceCtorEq] at hE
  case ptr l hf =>
    refine good_read hE.symm hf (fun b x hB hk => ?_)
    cases b with
    | cells cs =>
      obtain ⟨u, h1, h2, _⟩ := hB.cell hk
      exact ⟨u, key _ _ h1, h2⟩
    | map es => cases hk
  case elt hl hS hc h1 hr =>
    rename_i cells off vals b o
    split at hE
    · rename_i x hx'
      have hi : off < cells.length := (List.getElem?_eq_some_iff.1 hx').1
      have hv : vals[off]? = some vals[off] := by simp
      exact good_pure hE (key _ _ (hc off _ hv)) ((hr off x _ hx' hv).mono (fun _ h => h) (fun _ _ => rfl) (fun _ _ h => by cases h))
    · cases hE

def effLoadN (n : Nat) : AV → Option Eff
  | .ptr i off => some ⟨[i], [], fun bs _ => match bs with
    | [b] => (match b with
      | .cells cs => if off + n ≤ cs.length then some (AV.agg ((cs.drop off).take n)) else none
      | _ => none).map (⟨·, [], none⟩)
    | _ => none⟩
  | .elt cells off => if off + n ≤ cells.length then ret (.agg ((cells.drop off).take n)) else none
  | _ => none

theorem good_loadN {P S w f h id x y t d n} {E : Eff} (hd : P.underlying t = some d) (hrow : d.isRow = true) (hi : (P.info? t).map (·.size) = some n) (hx : Rep S w f x y) (hE : effLoadN n x = some E) :
    Good P E (do pure (.value (← Instr.loadAt t y))) S w f h id := by
  have key : ∀ (b o : Nat) (vals : List Value), vals.length = n → (∀ i x, vals[i]? = some x → w.cell? ⟨b, o + i, none⟩ = some x) →
      (do pure (Next.value (← Instr.loadAt t (.pointer (some ⟨b, o, none⟩)))) : Sem Next).run P w = .ok (.value (.agg vals.toArray)) w := fun b o vals hl hc => by
    rw [Sem.run_bind, run_loadAt_mid w b o t vals d hc hd hrow (by rw [hl]; exact hi)]
    rfl
  cases hx <;> simp only [effLoadN, Option.some.injEq, reduceCtorEq] at hE
  case ptr l hf =>
    refine good_read hE.symm hf (fun b x hB hk => ?_)
    cases b with
    | cells cs =>
      simp only at hk
      split at hk
      · rename_i hle
        cases hk
        obtain ⟨vals, v1, v2, v3, v4⟩ := hB.take _ _ hle
        exact ⟨Value.agg vals.toArray, key _ _ vals v1 v4, Rep.agg v3.1 v2 v3.2⟩
      · cases hk
    | map es => cases hk
  case elt hl hS hc h1 hr =>
    rename_i cells off vals b o
    split at hE
    · rename_i hle
      refine good_pure hE (key b (o + off) ((vals.drop off).take n) (by simp; omega) (fun i x hx => ?_)) (.agg (by simp; omega) (fun x hx => h1 x (List.mem_of_mem_drop (List.mem_of_mem_take hx))) (fun i x y hx hy => ?_))
      · rw [List.getElem?_take] at hx
        split at hx
        · rw [List.getElem?_drop] at hx
          rw [Nat.add_assoc]; exact hc _ _ hx
        · cases hx
      · rw [List.getElem?_take] at hx hy
        split at hx
        · rename_i hlt
          rw [if_pos hlt] at hy
          rw [List.getElem?_drop] at hx hy
          exact (hr _ x y hx hy).mono (fun _ h => h) (fun _ _ => rfl) (fun _ _ h => by cases h)
        · cases hx
    · cases hE

def effStore (n : Nat) (x y : AV) : Option Eff :=
  match x, y.cells? with
  | .ptr i off, some ys => if ys.length = n then some ⟨[i], [i], fun bs _ => match bs with
    | [.cells cs] => if off + n ≤ cs.length then some ⟨.any, [some (.cells (splice cs off ys))], none⟩ else none
    | _ => none⟩ else none
  | _, _ => none

theorem exec_wr {i : Nat} {k : List Blk → Nat → Option Res} {h : Heap} {id : Nat} {v h'} (he : Eff.exec ⟨[i], [i], k⟩ h id = some (v, h')) :
    ∃ b r, h i = some b ∧ k [b] id = some r ∧ v = r.v ∧ h' = (match r.nb with | none => setAll h [i] r.outs | some nb => upd (setAll h [i] r.outs) id (some nb)) := by
  simp only [Eff.exec, getAll] at he
  cases hb : h i with
  | none => simp [hb] at he
  | some b =>
    simp only [hb] at he
    cases hk : k [b] id with
    | none => simp [hk] at he
    | some r =>
      simp only [hk] at he
      refine ⟨b, r, rfl, hk, ?_, ?_⟩
      · split at he <;> simp_all
      · split at he <;> simp_all

theorem good_store {P S w f h id x y u v t n} {E : Eff} (hi : (P.info? t).map (·.size) = some n) (hx : Rep S w f x u) (hy : Rep S w f y v) (hE : effStore n x y = some E) :
    Good P E (do Instr.storeAt t u v; pure .skip) S w f h id := by
  unfold effStore at hE
  split at hE
  · rename_i i off ys hys
    split at hE
    · rename_i hn
      cases hE
      intro wf hid v' h' he
      obtain ⟨b, r, hb, hk, rfl, rfl⟩ := exec_wr he
      cases b with
      | cells cs =>
        simp only at hk
        split at hk
        · rename_i hle
          cases hk
          cases hx with
          | ptr hf =>
            rename_i l
            obtain ⟨h1, hr⟩ := cells_rep hy hys
            obtain ⟨l', hl', hB⟩ := wf.hp.live i _ hb
            rw [hf] at hl'; cases hl'
            obtain ⟨arr, tt, a1, a2, a3, a4, a5⟩ := hB
            have hlen := hr.1
            obtain ⟨w', hst, hwf, hstep⟩ := store_cells (P := P) wf hb hf off ys v.cells.toList (by omega) (by omega) h1 hr
            refine ⟨.skip, undef, w', f, ?_, .inr ⟨rfl, rfl⟩, .any, by simpa [setAll] using hwf, by simpa [setAll] using hstep, fun _ _ => rfl⟩
            cases hq : P.info? t with
            | none => simp [hq] at hi
            | some inf =>
              have hs : v.cells.size = inf.size := by simp [hq] at hi; have : v.cells.toList.length = v.cells.size := by simp
                                                      omega
              simp [Instr.storeAt, Instr.sureAddr, storeVar, sizeOf, typeInfo, hq, hs, hst]
        · cases hk
      | map es => cases hk
    · cases hE
  · cases hE

end Go.Sx
