/- An interpreter of the codes, sound for 'Runs': what it computes is what the function does. No conditions. -/
import Derived.Test.YteoiebmbgbgpgaaSxL
set_option linter.unusedVariables false
set_option linter.unusedSimpArgs false
namespace Go.Sx
abbrev HL := List (Nat × Blk)
mutual
def ids : AV → List Nat
  | .ref id _ _ _ _ => [id]
  | .ptr id _ => [id]
  | .map id => [id]
  | .fn _ a b => idsL a ++ idsL b
  | .agg cs => idsL cs
  | .tup vs => idsL vs
  | .ifc _ x => ids x
  | .any => []
  | .v _ => []
  | .il _ _ _ => []
  | .elt _ _ => []
def idsL : List AV → List Nat
  | [] => []
  | .v _ :: r => idsL r
  | x :: r => ids x ++ idsL r
end
def idsB : Blk → List Nat
  | .cells cs => idsL cs
  | .map es => es.flatMap fun p => ids p.2
  | .bld _ cs => idsL cs
mutual
def inA (p : Nat → Bool) : AV → Bool
  | .ref id _ _ _ _ => p id
  | .ptr id _ => p id
  | .map id => p id
  | .fn _ a b => inL p a && inL p b
  | .agg cs => inL p cs
  | .tup vs => inL p vs
  | .ifc _ x => inA p x
  | .any => true
  | .v _ => true
  | .il _ _ _ => true
  | .elt _ _ => true
def inL (p : Nat → Bool) : List AV → Bool
  | [] => true
  | x :: r => inA p x && inL p r
end
def inM (p : Nat → Bool) : List (Value × AV) → Bool
  | [] => true
  | (_, x) :: r => inA p x && inM p r
def inB (p : Nat → Bool) : Blk → Bool
  | .cells cs => inL p cs
  | .map es => inM p es
  | .bld _ cs => inL p cs
mutual
theorem ren_ren {p : Nat → Bool} {g g' : Nat → Nat} (h : ∀ i, p i = true → g' (g i) = i) : ∀ x : AV, inA p x = true → ren g' (ren g x) = x
  | .ref id _ _ _ _, hx => by simp only [inA] at hx; simp only [ren, h id hx]
  | .ptr id _, hx => by simp only [inA] at hx; simp only [ren, h id hx]
  | .map id, hx => by simp only [inA] at hx; simp only [ren, h id hx]
  | .fn _ a b, hx => by simp only [inA, Bool.and_eq_true] at hx; simp only [ren, ren_renL h a hx.1, ren_renL h b hx.2]
  | .agg cs, hx => by simp only [inA] at hx; simp only [ren, ren_renL h cs hx]
  | .tup vs, hx => by simp only [inA] at hx; simp only [ren, ren_renL h vs hx]
  | .ifc _ x, hx => by simp only [inA] at hx; simp only [ren, ren_ren h x hx]
  | .any, _ => rfl
  | .v _, _ => rfl
  | .il _ _ _, _ => rfl
  | .elt _ _, _ => rfl
theorem ren_renL {p : Nat → Bool} {g g' : Nat → Nat} (h : ∀ i, p i = true → g' (g i) = i) : ∀ x : List AV, inL p x = true → renL g' (renL g x) = x
  | [], _ => rfl
  | x :: r, hx => by simp only [inL, Bool.and_eq_true] at hx; simp only [renL, ren_ren h x hx.1, ren_renL h r hx.2]
end
theorem ren_renM {p : Nat → Bool} {g g' : Nat → Nat} (h : ∀ i, p i = true → g' (g i) = i) : ∀ es : List (Value × AV), inM p es = true → (es.map fun q => (q.1, ren g q.2)).map (fun q => (q.1, ren g' q.2)) = es
  | [], _ => rfl
  | (k, x) :: r, hx => by
    simp only [inM, Bool.and_eq_true] at hx
    have := ren_renM h r hx.2
    simp only [List.map_cons, ren_ren h x hx.1, this]
theorem ren_renB {p : Nat → Bool} {g g' : Nat → Nat} (h : ∀ i, p i = true → g' (g i) = i) {b : Blk} (hb : inB p b = true) : renB g' (renB g b) = b := by
  cases b with
  | cells cs => simp only [inB] at hb; simp only [renB, ren_renL h cs hb]
  | map es => simp only [inB] at hb; simp only [renB, ren_renM h es hb]
  | bld u cs => simp only [inB] at hb; simp only [renB, ren_renL h cs hb]
mutual
theorem bel_ren {p : Nat → Bool} {g : Nat → Nat} {k : Nat} (h : ∀ i, p i = true → g i < k) : ∀ x : AV, inA p x = true → bel k (ren g x)
  | .ref id _ _ _ _, hx => by simp only [inA] at hx; exact h id hx
  | .ptr id _, hx => by simp only [inA] at hx; exact h id hx
  | .map id, hx => by simp only [inA] at hx; exact h id hx
  | .fn _ a b, hx => by simp only [inA, Bool.and_eq_true] at hx; exact ⟨bel_renL h a hx.1, bel_renL h b hx.2⟩
  | .agg cs, hx => by simp only [inA] at hx; exact bel_renL h cs hx
  | .tup vs, hx => by simp only [inA] at hx; exact bel_renL h vs hx
  | .ifc _ x, hx => by simp only [inA] at hx; exact bel_ren h x hx
  | .any, _ => trivial
  | .v _, _ => trivial
  | .il _ _ _, _ => trivial
  | .elt _ _, _ => trivial
theorem bel_renL {p : Nat → Bool} {g : Nat → Nat} {k : Nat} (h : ∀ i, p i = true → g i < k) : ∀ x : List AV, inL p x = true → belL k (renL g x)
  | [], _ => trivial
  | x :: r, hx => by simp only [inL, Bool.and_eq_true] at hx; exact ⟨bel_ren h x hx.1, bel_renL h r hx.2⟩
end
theorem inM_get {p : Nat → Bool} : ∀ {es : List (Value × AV)} {i : Nat} {q : Value × AV}, inM p es = true → es[i]? = some q → inA p q.2 = true
  | [], i, q, _, h => by simp at h
  | (k, x) :: r, 0, q, h, hq => by simp at hq; subst hq; simp only [inM, Bool.and_eq_true] at h; exact h.1
  | (k, x) :: r, i + 1, q, h, hq => by simp only [inM, Bool.and_eq_true] at h; exact inM_get h.2 (by simpa using hq)
theorem bel_renB {p : Nat → Bool} {g : Nat → Nat} {k : Nat} (h : ∀ i, p i = true → g i < k) {b : Blk} (hb : inB p b = true) : belB k (renB g b) := by
  cases b with
  | cells cs => simp only [inB] at hb; exact bel_renL h cs hb
  | bld u cs => simp only [inB] at hb; exact bel_renL h cs hb
  | map es =>
    simp only [inB] at hb
    intro i q hq
    rw [List.getElem?_map] at hq
    obtain ⟨q0, h1, rfl⟩ := Option.map_eq_some_iff.1 hq
    exact bel_ren h _ (inM_get hb h1)
/-! ### Numbers in a list -/
def idx : List Nat → Nat → Nat
  | [], _ => 0
  | j :: l, i => cond (Nat.beq i j) 0 (idx l i + 1)
def memb : List Nat → Nat → Bool
  | [], _ => false
  | j :: l, i => cond (Nat.beq i j) true (memb l i)
def dist : List Nat → Bool
  | [] => true
  | j :: l => !memb l j && dist l
theorem memb_iff : ∀ {l : List Nat} {i : Nat}, memb l i = true ↔ i ∈ l
  | [], i => by simp [memb]
  | j :: l, i => by
    simp only [memb, List.mem_cons, beq_cond]
    by_cases e : i = j
    · simp [e]
    · simp [e, memb_iff]
theorem idx_get : ∀ {l : List Nat} {i : Nat}, i ∈ l → l[idx l i]? = some i
  | [], i, h => by simp at h
  | j :: l, i, h => by
    simp only [idx, beq_cond]
    by_cases e : i = j
    · simp [e]
    · simp only [e, if_false, List.getElem?_cons_succ]
      exact idx_get (by simpa [e] using h)
theorem idx_lt {l : List Nat} {i : Nat} (h : i ∈ l) : idx l i < l.length := (List.getElem?_eq_some_iff.1 (idx_get h)).1
theorem dist_nodup : ∀ {l : List Nat}, dist l = true → l.Nodup
  | [], _ => by simp
  | j :: l, h => by
    simp only [dist, Bool.and_eq_true, Bool.not_eq_true'] at h
    refine List.nodup_cons.2 ⟨fun hm => ?_, dist_nodup h.2⟩
    rw [memb_iff.2 hm] at h; cases h.1
theorem nodup_get {l : List Nat} (h : l.Nodup) {i j x : Nat} (hi : l[i]? = some x) (hj : l[j]? = some x) : i = j := by
  obtain ⟨h1, h2⟩ := List.getElem?_eq_some_iff.1 hi
  obtain ⟨h3, h4⟩ := List.getElem?_eq_some_iff.1 hj
  exact (List.getElem_inj h).1 (h2.trans h4.symm)
def reach : Nat → List Nat → List Nat → HL → List Nat
  | 0, _, done, _ => done
  | _, [], done, _ => done
  | n + 1, i :: todo, done, h => if memb done i then reach n todo done h else match hpF h i with
    | some b => reach n (idsB b ++ todo) (done ++ [i]) h
    | none => reach n todo done h
def enumH (g : Nat → Nat) (h : HL) : List Nat → Nat → HL
  | [], _ => []
  | i :: l, n => match hpF h i with
    | some b => (n, renB g b) :: enumH g h l (n + 1)
    | none => enumH g h l (n + 1)
theorem enumH_get (g : Nat → Nat) (h : HL) : ∀ (l : List Nat) (n j : Nat), hp (enumH g h l n) j = if n ≤ j then (match l[j - n]? with | some i => (hp h i).map (renB g) | none => none) else none
  | [], n, j => by simp [enumH, hp]
  | i :: l, n, j => by
    simp only [enumH, hpF_eq]
    by_cases e : j = n
    · subst e
      simp only [Nat.le_refl, if_true, Nat.sub_self, List.getElem?_cons_zero]
      cases hb : hp h i with
      | some b => simp [hp]
      | none => rw [enumH_get g h l (j + 1) j]; simp; omega
    · have : hp (match hp h i with | some b => (n, renB g b) :: enumH g h l (n + 1) | none => enumH g h l (n + 1)) j = hp (enumH g h l (n + 1)) j := by
        cases hp h i with
        | some b => simp [hp, e]
        | none => rfl
      rw [this, enumH_get g h l (n + 1) j]
      by_cases h1 : n ≤ j
      · rw [if_pos h1, if_pos (by omega), show j - n = (j - (n + 1)) + 1 by omega, List.getElem?_cons_succ]
      · rw [if_neg h1, if_neg (by omega)]
def allHp (h : HL) (p : Nat → Bool) (q : Blk → Bool) : List Nat → Bool
  | [] => true
  | i :: l => p i && (match hpF h i with | some b => q b | none => false) && allHp h p q l
theorem allHp_ok {h : HL} {p : Nat → Bool} {q : Blk → Bool} : ∀ {l : List Nat}, allHp h p q l = true → ∀ i ∈ l, p i = true ∧ ∃ b, hp h i = some b ∧ q b = true
  | [], _, i, hi => by simp at hi
  | j :: l, hh, i, hi => by
    simp only [allHp, hpF_eq, Bool.and_eq_true] at hh
    rcases List.mem_cons.1 hi with e | hi
    · subst e
      refine ⟨hh.1.1, ?_⟩
      have := hh.1.2
      split at this
      · rename_i b hb; exact ⟨b, hb, this⟩
      · cases this
    · exact allHp_ok hh.2 i hi
def keysLt (t : Nat) : HL → Bool
  | [] => true
  | (i, _) :: h => Nat.blt i t && keysLt t h
theorem keysLt_ok {t : Nat} : ∀ {h : HL}, keysLt t h = true → ∀ i, t ≤ i → hp h i = none
  | [], _, i, _ => rfl
  | (j, b) :: h, hh, i, hi => by
    simp only [keysLt, Bool.and_eq_true, Nat.blt_eq] at hh
    simp only [hp]
    rw [if_neg (by omega)]
    exact keysLt_ok hh.2 i hi
/-! ### Calls -/
abbrev Caller := FuncId → List AV → HL → Nat → Option (AV × HL × Nat)
def CallOk (P : Program) (call : Caller) : Prop := ∀ g args h k r h' k', call g args h k = some (r, h', k') → Runs P g k args (hp h) r k' (hp h')
structure CallRes where
  r : AV
  cnt : Nat
  rd : List Nat
  wr : List Nat
  outs : List (Option Blk)
def evCall (call : Caller) (g : FuncId) (args : List AV) (h : HL) (t : Nat) : Option CallRes :=
  let l := reach 1000 (idsL args) [] h
  if dist l && allHp h (Nat.blt · t) (inB (memb l)) l && inL (memb l) args then
    match call g (renL (idx l) args) (enumH (idx l) h l 0) l.length with
    | some (r, h', k') => if Nat.ble l.length k' && keysLt k' h' then
        some ⟨ren (gl l l.length t) r, k' - l.length, l, (List.range k').map (gl l l.length t), (List.range k').map fun i => (hp h' i).map (renB (gl l l.length t))⟩
      else none
    | none => none
  else none
theorem gl_idx {l : List Nat} {t i : Nat} (h : memb l i = true) : gl l l.length t (idx l i) = i := by
  have hm := memb_iff.1 h
  simp only [gl, idx_lt hm, if_true, idx_get hm, Option.getD_some]
theorem evCall_ok {P : Program} {call : Caller} (hc : CallOk P call) {g : FuncId} {args : List AV} {h : HL} {t : Nat} {c : CallRes} (hh : evCall call g args h t = some c) :
    RunsF P g t c.cnt args (hp h) c.rd c.wr c.outs c.r := by
  unfold evCall at hh
  generalize hl : reach 1000 (idsL args) [] h = l at hh
  simp only at hh
  split at hh
  · rename_i hok
    simp only [Bool.and_eq_true] at hok
    obtain ⟨⟨h1, h2⟩, h3⟩ := hok
    have hnd := dist_nodup h1
    have hall := allHp_ok h2
    split at hh
    · rename_i r h' k' hcall
      split at hh
      · rename_i hk
        simp only [Bool.and_eq_true, Nat.ble_eq] at hk
        cases hh
        have hR := hc _ _ _ _ _ _ _ hcall
        refine ⟨hR.1, fun H' hrd hnone => ?_⟩
        simp only at hrd hnone ⊢
        have hlt : ∀ i, i ∈ l → i < t := fun i hi => by have := (hall i hi).1; simpa using this
        have e1 : (renL (idx l) args).map (ren (gl l l.length t)) = args := by
          rw [← renL_eq]
          exact ren_renL (fun i hi => gl_idx hi) args h3
        have hlow : ∀ i, i < l.length → gl l l.length t i = l[i]?.getD 0 := fun i hi => by simp [gl, hi]
        have hhigh : ∀ i, l.length ≤ i → gl l l.length t i = t + (i - l.length) := fun i hi => by simp [gl]; omega
        have hmem : ∀ i (hi : i < l.length), l[i] ∈ l := fun i hi => List.getElem_mem hi
        have he : ∀ i, i < l.length → hp (enumH (idx l) h l 0) i = (hp h (l[i]?.getD 0)).map (renB (idx l)) := fun i hi => by
          rw [enumH_get]; simp [hi]
        have := hR.lift l t (H := H') (fun i hi => ?_) (fun i hi => ?_) hk.1 (keysLt_ok hk.2) (bel_renL (p := memb l) (fun i hi => idx_lt (memb_iff.1 hi)) args h3) (fun i b hb => ?_) (fun i b hb => ?_) (fun i j hi hj hij => ?_) (fun i h4 h5 => ?_)
        · rw [e1] at this; exact this
        · rw [he i hi]
          obtain ⟨_, b, hb, _⟩ := hall l[i] (hmem i hi)
          simp [hi, hb]
        · rw [enumH_get]; simp [hi]
        · have hi : i < l.length := by
            rcases Nat.lt_or_ge i l.length with h6 | h6
            · exact h6
            · rw [enumH_get] at hb; simp [h6] at hb
          rw [he i hi] at hb
          obtain ⟨b0, hb0, rfl⟩ := Option.map_eq_some_iff.1 hb
          obtain ⟨_, b1, hb1, hq⟩ := hall l[i] (hmem i hi)
          simp [hi] at hb0
          rw [hb0] at hb1; cases hb1
          exact bel_renB (p := memb l) (fun i hi => idx_lt (memb_iff.1 hi)) hq
        · have hi : i < l.length := by
            rcases Nat.lt_or_ge i l.length with h6 | h6
            · exact h6
            · rw [enumH_get] at hb; simp [h6] at hb
          rw [he i hi] at hb
          obtain ⟨b0, hb0, rfl⟩ := Option.map_eq_some_iff.1 hb
          obtain ⟨_, b1, hb1, hq⟩ := hall l[i] (hmem i hi)
          rw [hlow i hi]
          have hin : l[i]?.getD 0 ∈ l := by simp [hi]
          rw [hrd _ hin, hb0]
          simp [hi] at hb0
          rw [hb0] at hb1; cases hb1
          rw [ren_renB (fun i hi => gl_idx hi) hq]
        · rcases Nat.lt_or_ge i l.length with hi' | hi' <;> rcases Nat.lt_or_ge j l.length with hj' | hj'
          · rw [hlow i hi', hlow j hj'] at hij
            simp [hi', hj'] at hij
            exact (List.getElem_inj hnd).1 hij
          · rw [hlow i hi', hhigh j hj'] at hij
            simp [hi'] at hij
            have := hlt _ (hmem i hi'); omega
          · rw [hhigh i hi', hlow j hj'] at hij
            simp [hj'] at hij
            have := hlt _ (hmem j hj'); omega
          · rw [hhigh i hi', hhigh j hj'] at hij
            omega
        · rw [hhigh i h4]
          exact hnone _ (by omega) (by omega)
      · cases hh
    · cases hh
  · cases hh
/-! ### The interpreter -/
structure ST where
  env : List (Nat × AV)
  heap : HL
  nx : Nat
def ST.st (s : ST) : St := ⟨en s.env, hp s.heap, s.nx⟩
def ST.put (s : ST) (d : Option Nat) (v : AV) : ST :=
  match d with
  | some d => { s with env := (d, v) :: s.env }
  | none => s
def ST.keep (s : ST) (ks : List Nat) : ST := { s with env := ks.map fun k => (k, en s.env k) }
theorem ST.put_st (s : ST) (d : Option Nat) (v : AV) : (s.put d v).st = s.st.put d v := by
  cases d with
  | none => rfl
  | some d => simp only [ST.put, ST.st, St.put, upd_en]
def setL : HL → List Nat → List (Option Blk) → HL
  | h, i :: is, some b :: os => setL (hset h i b) is os
  | h, i :: is, none :: os => setL (hdel h i) is os
  | h, _, _ => h
theorem setL_hp : ∀ (h : HL) (is : List Nat) (os : List (Option Blk)), hp (setL h is os) = setAll (hp h) is os
  | h, [], _ => by simp [setL, setAll]
  | h, i :: is, [] => by simp [setL, setAll]
  | h, i :: is, some b :: os => by simp only [setL, setAll]; rw [setL_hp _ is os, ← upd_hp]
  | h, i :: is, none :: os => by simp only [setL, setAll]; rw [setL_hp _ is os, ← upd_hp_none]
section
variable (P : Program) (call : Caller)
def evCallAt (d : Option Nat) (tm : List Nat) (g : FuncId) (args : List AV) (s : ST) : Option (Foot × ST) :=
  match evCall call g args s.heap s.nx with
  | some c => some (⟨tm, d, c.rd, c.wr⟩, (ST.mk s.env (setL s.heap c.wr c.outs) (s.nx + c.cnt)).put d c.r)
  | none => none
def evOp (d : Option Nat) (tm : List Nat) (op : SOp) (s : ST) : Option (Foot × ST) :=
  match op with
  | .call g args => evCallAt call d tm g (args.map (evalA (en s.env))) s
  | .callv x args => match evalA (en s.env) x with
    | .fn (.func g) first captured => evCallAt call d tm g (first ++ args.map (evalA (en s.env)) ++ captured) s
    | _ => none
  | op => match op.eff P (evalA (en s.env)) with
    | some E => match E.foot (hp s.heap) s.nx with
      | some (v, ws, os) => some (⟨tm, d, E.rs, ws⟩, (ST.mk s.env (setL s.heap ws os) (s.nx + 1)).put d v)
      | none => none
    | none => none
def evIns (i : SIns) (s : ST) : Option (Foot × ST) :=
  match i.guard with
  | none => evOp P call i.dst i.op.tm i.op s
  | some (t, want) => match gd (en s.env t) want with
    | some true => evOp P call i.dst (t :: i.op.tm) i.op s
    | some false => some (⟨[t], i.dst, [], []⟩, s.put i.dst (.v undef))
    | none => none
def evOps : List SIns → ST → Option ST
  | [], s => some s
  | i :: is, s => match evIns P call i s with
    | some (_, s') => evOps is s'
    | none => none
def evD : List SIns → List Foot → ST → Option (List Foot × ST)
  | [], fs, s => some (fs, s)
  | i :: is, fs, s => match evIns P call i s with
    | some (ft, s') => evD is (fs ++ [ft]) s'
    | none => none
def gc (k0 : Nat) (s : ST) : ST :=
  let l := reach 1000 (s.env.flatMap (fun p => ids p.2) ++ (s.heap.map (·.1)).filter (Nat.blt · k0)) [] s.heap
  { s with heap := s.heap.filter fun p => memb l p.1 }
def iter (k0 : Nat) (f : ST → Option (Exit × ST)) : Nat → ST → Option (Exit × ST)
  | 0, _ => none
  | n + 1, s => match f s with
    | some (.normal, s') => iter k0 f n (gc k0 s')
    | r => r
def ev (N k0 : Nat) : SCode → ST → Option (Exit × ST)
  | .skip, s => some (.normal, s)
  | .reg ops ks, s => match evOps P call ops s with
    | some s' => some (.normal, s'.keep ks)
    | none => none
  | .draw ops anc ks, s => match evD P call ops [] s with
    | some (fs, s') => if indep [] anc fs then some (.normal, s'.keep ks) else none
    | none => none
  | .seq a b, s => match ev N k0 a s with
    | some (.normal, s') => ev N k0 b s'
    | r => r
  | .cond c a b, s => match evalA (en s.env) c with
    | .v (.bool t) => if t then ev N k0 a s else ev N k0 b s
    | _ => none
  | .block id b, s => match ev N k0 b s with
    | some (.exit id', s') => if id' = id then some (.normal, s') else some (.exit id', s')
    | r => r
  | .loop b, s => iter k0 (ev N k0 b) N s
  | .exit id, s => some (.exit id, s)
  | .ret, s => some (.ret, s)
  | .scope b, s => match ev N k0 b s with
    | some (.goto _, _) => none
    | r => r
end
section
variable {P : Program} {call : Caller} (hc : CallOk P call)
include hc
theorem evCallAt_run {d tm g args} {s : ST} {K : Foot → St → Prop} {ft s'} (h : evCallAt call d tm g args s = some (ft, s')) (hK : K ft s'.st) :
    ∃ r cnt rd wr outs, RunsF P g s.st.nx cnt args s.st.heap rd wr outs r ∧ K ⟨tm, d, rd, wr⟩ (St.put ⟨s.st.env, setAll s.st.heap wr outs, s.st.nx + cnt⟩ d r) := by
  unfold evCallAt at h
  split at h
  · rename_i c hcall
    cases h
    refine ⟨c.r, c.cnt, c.rd, c.wr, c.outs, evCall_ok hc hcall, ?_⟩
    rw [ST.put_st] at hK
    simpa only [ST.st, setL_hp] using hK
  · cases h
theorem evOp_run {d tm} {op : SOp} {s : ST} {K : Foot → St → Prop} {ft s'} (h : evOp P call d tm op s = some (ft, s')) (hK : K ft s'.st) : RunDOp P d tm op s.st K := by
  have eff : (match op.eff P (evalA (en s.env)) with
    | some E => match E.foot (hp s.heap) s.nx with
      | some (v, ws, os) => some ((⟨tm, d, E.rs, ws⟩ : Foot), (ST.mk s.env (setL s.heap ws os) (s.nx + 1)).put d v)
      | none => none
    | none => none) = some (ft, s') → (match op.eff P (evalA s.st.env) with
    | some E => match E.foot s.st.heap s.st.nx with
      | some (v, ws, os) => K ⟨tm, d, E.rs, ws⟩ (St.put ⟨s.st.env, setAll s.st.heap ws os, s.st.nx + 1⟩ d v)
      | none => False
    | none => False) := fun h => by
    simp only [ST.st]
    split at h
    · rename_i E hE
      split at h
      · rename_i v ws os hf
        cases h
        rw [ST.put_st] at hK
        simpa only [ST.st, setL_hp, hE, hf] using hK
      · cases h
    · cases h
  cases op
  case call g args => exact evCallAt_run hc h hK
  case callv x args =>
    simp only [evOp] at h
    simp only [RunDOp]
    have e : evalA s.st.env x = evalA (en s.env) x := rfl
    rw [e]
    split at h
    · rename_i g first captured hx
      simp only [hx]
      exact evCallAt_run hc h hK
    · cases h
  all_goals exact eff h
theorem evIns_run {i : SIns} {s : ST} {K : Foot → St → Prop} {ft s'} (h : evIns P call i s = some (ft, s')) (hK : K ft s'.st) : RunDIns P i s.st K := by
  unfold evIns at h
  unfold RunDIns
  split at h
  · rename_i hg
    simp only [hg]
    exact evOp_run hc h hK
  · rename_i t want hg
    simp only [hg]
    have e : s.st.env t = en s.env t := rfl
    rw [e]
    split at h
    · rename_i hb
      simp only [hb]
      exact evOp_run hc h hK
    · rename_i hb
      simp only [hb]
      cases h
      rw [ST.put_st] at hK
      exact hK
    · cases h
end
theorem foot_exec' {E : Eff} {h : Heap} {id : Nat} {v : AV} {ws : List Nat} {os : List (Option Blk)} (hf : E.foot h id = some (v, ws, os)) : E.exec h id = some (v, setAll h ws os) := foot_exec hf fun _ _ => rfl
theorem runsL_here {P : Program} {g : FuncId} {t cnt : Nat} {args : List AV} {H : Heap} {rd wr : List Nat} {outs : List (Option Blk)} {r : AV} (h : RunsF P g t cnt args H rd wr outs r) : RunsL P g t cnt args H r (setAll H wr outs) := by
  refine ⟨h.1, fun S w f vs h1 h2 h3 h4 => ?_⟩
  refine (h.2 H (fun _ _ => rfl) (fun i a b => ?_)).2 S w f vs h1 h2 h3 h4
  cases hh : H i with
  | none => rfl
  | some bl =>
    obtain ⟨lc, hlc, _⟩ := h2.hp.live i bl hh
    rw [h3 i a b] at hlc; cases hlc
theorem runOp_of_D {P : Program} {d tm} {op : SOp} {σ : St} {K : St → Prop} (h : RunDOp P d tm op σ fun _ σ' => K σ') : RunOp P d op σ K := by
  have eff : (match op.eff P (evalA σ.env) with
    | some E => match E.foot σ.heap σ.nx with
      | some (v, ws, os) => K (St.put ⟨σ.env, setAll σ.heap ws os, σ.nx + 1⟩ d v)
      | none => False
    | none => False) → (match op.eff P (evalA σ.env) with
    | some E => match E.exec σ.heap σ.nx with
      | some (v, h') => K (St.put ⟨σ.env, h', σ.nx + 1⟩ d v)
      | none => False
    | none => False) := fun h => by
    split at h
    · rename_i E hE
      split at h
      · rename_i v ws os hf
        simp only [foot_exec' hf]
        exact h
      · exact h.elim
    · exact h.elim
  cases op
  case call g args =>
    obtain ⟨r, cnt, rd, wr, outs, h1, h2⟩ := h
    exact ⟨r, cnt, _, runsL_here h1, h2⟩
  case callv x args =>
    simp only [RunDOp] at h
    simp only [RunOp]
    split at h
    · rename_i g first captured hx
      obtain ⟨r, cnt, rd, wr, outs, h1, h2⟩ := h
      simp only [hx]
      exact ⟨r, cnt, _, runsL_here h1, h2⟩
    · exact h.elim
  all_goals exact eff h
theorem runIns_of_D {P : Program} {i : SIns} {σ : St} {K : St → Prop} (h : RunDIns P i σ fun _ σ' => K σ') : RunIns P i σ K := by
  unfold RunDIns at h
  unfold RunIns
  split at h
  · rename_i hg; simp only [hg]; exact runOp_of_D h
  · rename_i t want hg
    simp only [hg]
    split at h
    · rename_i hb
      simp only [hb]; exact runOp_of_D h
    · rename_i hb
      simp only [hb]; exact h
    · exact h.elim
section
variable {P : Program} {call : Caller} (hc : CallOk P call)
include hc
theorem evOps_run : ∀ {is : List SIns} {s s' : ST} {K : St → Prop}, evOps P call is s = some s' → K s'.st → RunOps P is s.st K
  | [], s, s', K, h, hK => by simp only [evOps, Option.some.injEq] at h; subst h; exact hK
  | i :: is, s, s', K, h, hK => by
    simp only [evOps] at h
    split at h
    · rename_i ft s1 h1
      simp only [RunOps]
      exact runIns_of_D (evIns_run hc (K := fun _ σ' => RunOps P is σ' K) h1 (evOps_run h hK))
    · cases h
theorem evD_run : ∀ {is : List SIns} {fs fs' : List Foot} {s s' : ST} {K : List Foot → St → Prop}, evD P call is fs s = some (fs', s') → K fs' s'.st → RunD P is fs s.st K
  | [], fs, fs', s, s', K, h, hK => by simp only [evD, Option.some.injEq, Prod.mk.injEq] at h; obtain ⟨rfl, rfl⟩ := h; exact hK
  | i :: is, fs, fs', s, s', K, h, hK => by
    simp only [evD] at h
    split at h
    · rename_i ft s1 h1
      simp only [RunD]
      exact evIns_run hc (K := fun ft σ' => RunD P is (fs ++ [ft]) σ' K) h1 (evD_run h hK)
    · cases h
end
theorem ren_id : (∀ x : AV, ren (fun i => i) x = x) ∧ ∀ x : List AV, renL (fun i => i) x = x := by
  have h := @ren_ren (fun _ => true) (fun i => i) (fun i => i) (fun _ _ => rfl)
  constructor
  · exact ren_id'
  · exact renL_id'
where
  ren_id' : ∀ x : AV, ren (fun i => i) x = x
    | .ref _ _ _ _ _ => rfl
    | .ptr _ _ => rfl
    | .map _ => rfl
    | .fn _ a b => by simp only [ren, renL_id' a, renL_id' b]
    | .agg cs => by simp only [ren, renL_id' cs]
    | .tup vs => by simp only [ren, renL_id' vs]
    | .ifc _ x => by simp only [ren, ren_id' x]
    | .any => rfl
    | .v _ => rfl
    | .il _ _ _ => rfl
    | .elt _ _ => rfl
  renL_id' : ∀ x : List AV, renL (fun i => i) x = x
    | [] => rfl
    | x :: r => by simp only [renL, ren_id' x, renL_id' r]
theorem renB_id (b : Blk) : renB (fun i => i) b = b := by
  cases b with
  | cells cs => simp only [renB, ren_id.2]
  | bld u cs => simp only [renB, ren_id.2]
  | map es => simp only [renB, ren_id.1]; simp
theorem hp_filter (q : Nat → Bool) : ∀ (h : HL) (i : Nat), hp (h.filter fun p => q p.1) i = if q i then hp h i else none
  | [], i => by simp [hp]
  | (j, b) :: h, i => by
    rw [List.filter_cons]
    by_cases e : i = j
    · subst e
      cases hq : q i
      · simp only [Bool.false_eq_true, if_false]; rw [hp_filter q h i]; simp [hq]
      · simp [hp]
    · cases hq : q j
      · simp only [Bool.false_eq_true, if_false]; rw [hp_filter q h i]; simp [hp, e]
      · simp only [if_true, hp, e, if_false]; exact hp_filter q h i
theorem gc_conv (k0 : Nat) (s : ST) : Conv k0 s.st (gc k0 s).st := by
  refine ⟨fun i => i, ⟨fun _ _ => rfl, fun _ h => h, fun i b hb => ?_, fun i j _ _ h => h⟩, fun t => .inr (ren_id.1 _).symm⟩
  simp only [gc, ST.st] at hb ⊢
  rw [hp_filter] at hb
  split at hb
  · rw [renB_id]; exact hb
  · cases hb
theorem orElse_other {next : St → Prop} {Q : Exit → St → Prop} {e : Exit} {σ : St} (h : e ≠ .normal) (hQ : Q e σ) : orElse next Q e σ := by cases e <;> first | exact hQ | exact (h rfl).elim
section
variable {P : Program} {call : Caller} (hc : CallOk P call)
include hc
theorem ev_run {N k0 : Nat} : ∀ {c : SCode} {s s' : ST} {e : Exit} {Q : Exit → St → Prop}, ev P call N k0 c s = some (e, s') → Q e s'.st → X P k0 c s.st Q := by
  intro c
  induction c with
  | skip =>
    intro s s' e Q h hQ
    simp only [ev, Option.some.injEq, Prod.mk.injEq] at h; obtain ⟨rfl, rfl⟩ := h; exact hQ
  | reg ops ks =>
    intro s s' e Q h hQ
    simp only [ev] at h
    split at h
    · rename_i s1 h1
      simp only [Option.some.injEq, Prod.mk.injEq] at h; obtain ⟨rfl, rfl⟩ := h
      exact evOps_run hc (K := fun σ' => Q .normal (σ'.keep ks)) h1 hQ
    · cases h
  | draw ops anc ks =>
    intro s s' e Q h hQ
    simp only [ev] at h
    split at h
    · rename_i fs s1 h1
      split at h
      · rename_i hi
        simp only [Option.some.injEq, Prod.mk.injEq] at h; obtain ⟨rfl, rfl⟩ := h
        exact evD_run hc (K := fun fs σ' => indep [] anc fs = true ∧ Q .normal (σ'.keep ks)) h1 ⟨hi, hQ⟩
      · cases h
    · cases h
  | seq a b iha ihb =>
    intro s s' e Q h hQ
    simp only [ev] at h
    split at h
    · rename_i s1 h1
      exact iha h1 ⟨_, .refl, ihb h hQ⟩
    · rename_i hne
      refine iha h (orElse_other (fun he => ?_) hQ)
      subst he
      exact hne s' h
  | cond c a b iha ihb =>
    intro s s' e Q h hQ
    simp only [ev] at h
    simp only [X]
    have e1 : evalA s.st.env c = evalA (en s.env) c := rfl
    rw [e1]
    split at h
    · rename_i t ht
      simp only [ht]
      cases t
      · simp only [Bool.false_eq_true, if_false] at h ⊢; exact ihb h hQ
      · simp only [if_true] at h ⊢; exact iha h hQ
    · cases h
  | block id b ih =>
    intro s s' e Q h hQ
    simp only [ev] at h
    split at h
    · rename_i id' s1 h1
      refine ih h1 ?_
      simp only [inBlk]
      split at h
      · rename_i hid
        simp only [Option.some.injEq, Prod.mk.injEq] at h; obtain ⟨rfl, rfl⟩ := h
        rw [if_pos hid]; exact hQ
      · rename_i hid
        simp only [Option.some.injEq, Prod.mk.injEq] at h; obtain ⟨rfl, rfl⟩ := h
        rw [if_neg hid]; exact hQ
    · rename_i hne
      refine ih h ?_
      cases e with
      | exit id' => exact absurd h (hne id' s')
      | _ => exact hQ
  | loop b ih =>
    intro s s' e Q h hQ
    simp only [ev] at h
    simp only [X]
    refine ⟨fun n σ => ∃ s0 s' e, σ = s0.st ∧ iter k0 (ev P call N k0 b) n s0 = some (e, s') ∧ Q e s'.st ∧ e ≠ .normal, ⟨N, s.st, .refl, s, s', e, rfl, h, hQ, ?_⟩, ?_⟩
    · clear ih
      intro he
      subst he
      have : ∀ (n : Nat) (s : ST), iter k0 (ev P call N k0 b) n s ≠ some (.normal, s') := by
        intro n
        induction n with
        | zero => intro s h; simp [iter] at h
        | succ n ihn =>
          intro s h
          simp only [iter] at h
          split at h
          · exact ihn _ h
          · rename_i hne; exact hne s' h
      exact this N s h
    · rintro n σ ⟨s0, s1, e1, rfl, h1, h2, h3⟩
      cases n with
      | zero => simp [iter] at h1
      | succ n =>
        simp only [iter] at h1
        split at h1
        · rename_i s2 h4
          refine ih h4 ?_
          exact ⟨n, (gc k0 s2).st, Nat.lt_succ_self n, .conv (gc_conv k0 s2) .refl, gc k0 s2, s1, e1, rfl, h1, h2, h3⟩
        · exact ih h1 (orElse_other h3 ⟨_, .refl, h2⟩)
  | exit id =>
    intro s s' e Q h hQ
    simp only [ev, Option.some.injEq, Prod.mk.injEq] at h; obtain ⟨rfl, rfl⟩ := h; exact hQ
  | ret =>
    intro s s' e Q h hQ
    simp only [ev, Option.some.injEq, Prod.mk.injEq] at h; obtain ⟨rfl, rfl⟩ := h; exact hQ
  | scope b ih =>
    intro s s' e Q h hQ
    simp only [ev] at h
    split at h
    · cases h
    · rename_i hne
      refine ih h ?_
      cases e with
      | goto l => exact absurd h (hne l s')
      | _ => exact hQ
end
/-! ### Functions -/
structure Ent where
  code : SCode
  rs : List SRes
  n : Nat
def finish (k : Nat) (rs : List SRes) (s : ST) : Option (AV × HL × Nat) :=
  match resA s.st rs with
  | none => none
  | some r0 =>
    let L := (reach 1000 (ids r0 ++ (s.heap.map (·.1)).filter (Nat.blt · k)) [] s.heap).filter (Nat.ble k)
    let inv := fun i => if i < k then i else k + idx L i
    let p := fun i => Nat.blt i k || memb L i
    if dist L && allHp s.heap (Nat.blt · s.nx) (inB p) L && inA p r0 && (s.heap.filter fun q => Nat.blt q.1 k).all (fun q => inB p q.2) then
      some (ren inv r0, ((s.heap.filter fun q => Nat.blt q.1 k).map fun q => (q.1, renB inv q.2)) ++ enumH inv s.heap L k, k + L.length)
    else none
theorem hp_append : ∀ (a b : HL) (i : Nat), hp (a ++ b) i = match hp a i with | some x => some x | none => hp b i
  | [], b, i => by simp [hp]
  | (j, x) :: a, b, i => by
    simp only [List.cons_append, hp]
    split
    · rfl
    · exact hp_append a b i
theorem hp_map (F : Blk → Blk) : ∀ (h : HL) (i : Nat), hp (h.map fun q => (q.1, F q.2)) i = (hp h i).map F
  | [], i => rfl
  | (j, x) :: h, i => by
    simp only [List.map_cons, hp]
    split
    · rfl
    · exact hp_map F h i
theorem hp_mem : ∀ {h : HL} {i : Nat} {b : Blk}, hp h i = some b → (i, b) ∈ h
  | [], i, b, hb => by simp [hp] at hb
  | (j, x) :: h, i, b, hb => by
    simp only [hp] at hb
    split at hb
    · rename_i e; subst e; cases hb; simp
    · exact List.mem_cons_of_mem _ (hp_mem hb)
theorem finish_cv {k : Nat} {rs : List SRes} {s : ST} {r : AV} {h' : HL} {k' : Nat} (h : finish k rs s = some (r, h', k')) : ∃ g, Cv k g s.nx k' (hp s.heap) (hp h') ∧ resA s.st rs = some (ren g r) := by
  unfold finish at h
  split at h
  · cases h
  · rename_i r0 hr0
    generalize hL : (reach 1000 (ids r0 ++ (s.heap.map (·.1)).filter (Nat.blt · k)) [] s.heap).filter (Nat.ble k) = L at h
    have hLk : ∀ i ∈ L, k ≤ i := fun i hi => by rw [← hL] at hi; have := (List.mem_filter.1 hi).2; simpa using this
    simp only at h
    split at h
    · rename_i hok
      simp only [Bool.and_eq_true] at hok
      obtain ⟨⟨⟨h1, h2⟩, h3⟩, h4⟩ := hok
      cases h
      have hnd := dist_nodup h1
      have hall := allHp_ok h2
      refine ⟨fun i => if i < k then i else if i < k + L.length then (L[i - k]?).getD 0 else s.nx + i, ⟨fun i hi => by simp [hi], fun i hi => ?_, fun i b hb => ?_, fun i j hi hj hij => ?_⟩, ?_⟩
      · rw [if_neg (by omega), if_neg (by omega)]; omega
      · have hinv : ∀ i, (Nat.blt i k || memb L i) = true → (fun i => if i < k then i else if i < k + L.length then (L[i - k]?).getD 0 else s.nx + i) (if i < k then i else k + idx L i) = i := fun i hi => by
          simp only
          by_cases hik : i < k
          · simp [hik]
          · simp only [hik, if_false]
            have hm : i ∈ L := by
              simp only [Bool.or_eq_true, Nat.blt_eq, hik, false_or] at hi
              exact memb_iff.1 hi
            have := idx_lt hm
            rw [if_neg (by omega), if_pos (by omega), show k + idx L i - k = idx L i by omega, idx_get hm]
            rfl
        rw [hp_append] at hb
        by_cases hik : i < k
        · rw [hp_map, hp_filter (Nat.blt · k)] at hb
          have hq : Nat.blt i k = true := by simpa using hik
          simp only [hq, if_true] at hb
          cases hbi : hp s.heap i with
          | some b0 =>
            rw [hbi] at hb
            simp only [Option.map_some, Option.some.injEq] at hb
            subst hb
            rw [if_pos hik, hbi]
            have := List.all_eq_true.1 h4 (i, b0) (List.mem_filter.2 ⟨hp_mem hbi, hq⟩)
            rw [ren_renB hinv this]
          | none =>
            rw [hbi] at hb
            simp only [Option.map_none] at hb
            rw [enumH_get, if_neg (by omega)] at hb; cases hb
        · rw [hp_map, hp_filter (Nat.blt · k)] at hb
          have hq : Nat.blt i k = false := by
            cases hh : Nat.blt i k
            · rfl
            · simp at hh; omega
          simp only [hq, Bool.false_eq_true, if_false, Option.map_none] at hb
          rw [enumH_get, if_pos (by omega)] at hb
          cases hLi : L[i - k]? with
          | none => rw [hLi] at hb; cases hb
          | some j =>
            rw [hLi] at hb
            have hlt := (List.getElem?_eq_some_iff.1 hLi).1
            have hmem : j ∈ L := List.mem_of_getElem? hLi
            obtain ⟨_, b0, hb0, hq0⟩ := hall j hmem
            simp only [hb0, Option.map_some, Option.some.injEq] at hb
            subst hb
            rw [if_neg hik, if_pos (by omega)]
            simp only [Option.getD_some, hb0]
            rw [ren_renB hinv hq0]
      · have live : ∀ i, hp (((s.heap.filter fun q => Nat.blt q.1 k).map fun q => (q.1, renB (fun i => if i < k then i else k + idx L i) q.2)) ++ enumH (fun i => if i < k then i else k + idx L i) s.heap L k) i ≠ none → i < k + L.length := fun i hi => by
          rcases Nat.lt_or_ge i (k + L.length) with hlt | hge
          · exact hlt
          · exfalso
            apply hi
            rw [hp_append, hp_map, hp_filter (Nat.blt · k)]
            have hq : Nat.blt i k = false := by
              cases hh : Nat.blt i k
              · rfl
              · simp at hh; omega
            simp only [hq, Bool.false_eq_true, if_false, Option.map_none]
            rw [enumH_get, if_pos (by omega)]
            have : L[i - k]? = none := List.getElem?_eq_none (by omega)
            rw [this]
        have hi' := live i hi
        have hj' := live j hj
        have get : ∀ i, ¬ i < k → i < k + L.length → ∃ x, L[i - k]? = some x ∧ k ≤ x := fun i h1 h2 => by
          have hx : L[i - k]? = some L[i - k] := by simp
          exact ⟨_, hx, hLk _ (List.mem_of_getElem? hx)⟩
        by_cases hik : i < k <;> by_cases hjk : j < k
        · simpa [hik, hjk] using hij
        · obtain ⟨x, hx, hxk⟩ := get j hjk hj'
          simp only [hik, hjk, if_true, if_false, hj', hx, Option.getD_some] at hij; omega
        · obtain ⟨x, hx, hxk⟩ := get i hik hi'
          simp only [hik, hjk, if_true, if_false, hi', hx, Option.getD_some] at hij; omega
        · obtain ⟨x, hx, hxk⟩ := get i hik hi'
          obtain ⟨y, hy, hyk⟩ := get j hjk hj'
          simp only [hik, hjk, if_true, if_false, hi', hj', hx, hy, Option.getD_some] at hij
          subst hij
          have := nodup_get hnd hx hy
          omega
      · rw [hr0, ren_ren (p := fun i => Nat.blt i k || memb L i) (fun i hi => ?_) r0 h3]
        by_cases hik : i < k
        · simp [hik]
        · simp only [hik, if_false]
          have hm : i ∈ L := by
            simp only [Bool.or_eq_true, Nat.blt_eq, hik, false_or] at hi
            exact memb_iff.1 hi
          have := idx_lt hm
          rw [if_neg (by omega), if_pos (by omega), show k + idx L i - k = idx L i by omega, idx_get hm]
          rfl
    · cases h
theorem finish_ok {k : Nat} {rs : List SRes} {s : ST} {r : AV} {h' : HL} {k' : Nat} (h : finish k rs s = some (r, h', k')) (e : Exit) (he : e = .ret ∨ e = .normal) : Ends k rs r k' (hp h') e s.st :=
  ⟨by rcases he with rfl | rfl <;> trivial, s.st, .refl, finish_cv h⟩
def lookup (tab : List (Nat × Ent)) (g : Nat) : Option Ent :=
  match tab with
  | [] => none
  | (i, e) :: r => if g = i then some e else lookup r g
end Go.Sx
