/- Calls resolved by specs, where slices of the caller's are lent or given away; conditions on the quick codes. No conditions. -/
import Derived.Test.YteoiebmbgbgpgaaSxX
set_option linter.unusedVariables false
set_option linter.unusedSimpArgs false
namespace Go.Sx
/-! ### Values that hold no address at all -/
mutual
def flat : AV → Bool
  | .v _ => true
  | .any => true
  | .agg cs => flatL cs
  | .tup vs => flatL vs
  | .il _ _ _ => false
  | .ref _ _ _ _ _ => false
  | .ptr _ _ => false
  | .elt _ _ => false
  | .map _ => false
  | .fn _ _ _ => false
  | .ifc _ _ => false
def flatL : List AV → Bool
  | [] => true
  | x :: r => flat x && flatL r
end
theorem flatL_get : ∀ {l : List AV} {i : Nat} {x : AV}, flatL l = true → l[i]? = some x → flat x = true
  | [], i, x, _, h => by simp at h
  | a :: l, 0, x, hb, h => by simp only [flatL, Bool.and_eq_true] at hb; simp at h; subst h; exact hb.1
  | a :: l, i + 1, x, hb, h => by simp only [flatL, Bool.and_eq_true] at hb; exact flatL_get (l := l) (i := i) hb.2 (by simpa using h)
theorem rep_flat {S w f} {x : AV} {y : Value} (h : Rep S w f x y) : ∀ {S' w' f'}, flat x = true → Rep S' w' f' x y := by
  induction h with
  | any => intro S' w' f' _; exact .any
  | v u => intro S' w' f' _; exact .v u
  | agg hl h1 hr ih => intro S' w' f' hb; simp only [flat] at hb; exact .agg hl h1 (fun i x y hx hy => ih i x y hx hy (flatL_get hb hx))
  | tup hl hr ih => intro S' w' f' hb; simp only [flat] at hb; exact .tup hl (fun i x y hx hy => ih i x y hx hy (flatL_get hb hx))
  | _ => intro S' w' f' hb; simp [flat] at hb
/-! ### Arguments, as a callee has them that does not write to them -/
def frzArg (h : HL) : AV → Option AV
  | .ref id off len esz cap => match hpF h id with
    | some (.cells cs) => if off + len * esz ≤ cs.length ∧ cloL ((cs.drop off).take (len * esz)) = true then some (.il ((cs.drop off).take (len * esz)) len false) else none
    | _ => none
  | .v (.slice none 0 0) => some (.il [] 0 false)
  | .il c n _ => some (.il c n false)
  | x => if clo x = true then some x else none
def frzArgs (h : HL) : List AV → Option (List AV)
  | [] => some []
  | x :: r => match frzArg h x with
    | some y => match frzArgs h r with
      | some s => some (y :: s)
      | none => none
    | none => none
def refIds : List AV → List Nat
  | [] => []
  | .ref id _ _ _ _ :: r => id :: refIds r
  | _ :: r => refIds r
def Given (S : Nat → Prop) (f : Place) (ids : List Nat) (b : Nat) : Prop := S b ∨ ∃ i l, i ∈ ids ∧ f i = some l ∧ l.b = b
theorem clo_rep {S w f x y} (h : Rep S w f x y) (hc : clo x = true) : Rep S w (fun _ => none) x y :=
  rep_bel h (clo_bel x hc) (fun i l hi => absurd hi (Nat.not_lt_zero i))
theorem Rep.up {S S' : Nat → Prop} {w x y} (h : Rep S w (fun _ => none) x y) (hS : ∀ b, S b → S' b) : Rep S' w (fun _ => none) x y := h.mono hS (fun _ _ => rfl) (fun _ _ h => h)
theorem frzArg_ok {S w f} {H : Heap} {h : HL} (wf : Wf S w f H) {x y : AV} {v : Value} (hx : Rep S w f x v) (hf : frzArg h x = some y) (hrd : ∀ i ∈ refIds [x], H i = hp h i) :
    Rep (Given S f (refIds [x])) w (fun _ => none) y v := by
  cases x with
  | ref id off len esz cap =>
    cases hx with
    | @ref _ _ _ _ _ _ c l hl h1 h2 h3 h4 =>
    simp only [frzArg, hpF_eq] at hf
    have hh := hrd id (by simp [refIds])
    split at hf
    · rename_i cs hcs
      split at hf
      · rename_i hok
        cases hf
        rw [hcs] at hh
        obtain ⟨l', hl', hB⟩ := wf.hp.live id _ hh
        rw [hl] at hl'; cases hl'
        obtain ⟨vals, v1, v2, v3, v4⟩ := hB.take off (len * esz) hok.1
        have hlen : ((cs.drop off).take (len * esz)).length = len * esz := by simp; omega
        refine .il (vals := vals) (by rw [v1, hlen]) (fun _ => .inr ⟨id, l, by simp [refIds], hl, rfl⟩) v4 v2 (fun i x y hx hy => ?_) h4 (by simp)
        have hrep := v3.2 i x y hx hy
        exact (rep_bel hrep (belL_get (cloL_bel _ hok.2) hx) (fun i l hi => absurd hi (Nat.not_lt_zero i))).up (fun b hb => .inl hb)
      · cases hf
    · cases hf
  | v u =>
    simp only [frzArg] at hf
    cases hx
    split at hf
    · rename_i e; cases e
    · rename_i e
      cases e; cases hf
      exact .nil
    · rename_i e; cases e
    · split at hf
      · cases hf; exact .v _
      · cases hf
  | il c n u =>
    simp only [frzArg, Option.some.injEq] at hf
    subst hf
    cases hx with
    | nil => exact .nil
    | emp => exact .emp
    | il hl hS hc h1 hr hn hf => exact (Rep.il (f := fun _ => none) hl hS hc h1 hr hn (by simp)).mono (fun b hb => .inl hb) (fun _ _ => rfl) (fun _ _ h => h)
  | _ =>
    simp only [frzArg] at hf
    split at hf
    · rename_i hc
      cases hf
      exact (clo_rep hx hc).up (fun b hb => .inl hb)
    · cases hf
theorem refIds_cons (x : AV) (r : List AV) : refIds (x :: r) = refIds [x] ++ refIds r := by cases x <;> rfl
theorem frzArgs_ok {S w f} {H : Heap} {h : HL} (wf : Wf S w f H) : ∀ {xs ys : List AV} {vs : List Value}, Reps S w f xs vs → frzArgs h xs = some ys → (∀ i ∈ refIds xs, H i = hp h i) → Reps (Given S f (refIds xs)) w (fun _ => none) ys vs
  | [], ys, vs, hx, hf, hrd => by
    cases hf
    have : vs = [] := by have := hx.1; simpa using this
    subst this; exact .nil
  | x :: xs, ys, [], hx, hf, hrd => by have := hx.1; simp at this
  | x :: xs, ys, v :: vs, hx, hf, hrd => by
    simp only [frzArgs] at hf
    split at hf
    · rename_i y hy
      split at hf
      · rename_i s hs
        cases hf
        rw [refIds_cons] at hrd ⊢
        have hv : Rep S w f x v := hx.2 0 x v rfl rfl
        have hr : Reps S w f xs vs := ⟨by have := hx.1; simpa using this, fun i a b ha hb => hx.2 (i + 1) a b (by simpa using ha) (by simpa using hb)⟩
        have h1 := frzArg_ok wf hv hy (fun i hi => hrd i (by simp [hi]))
        have h2 := frzArgs_ok wf hr hs (fun i hi => hrd i (by simp [hi]))
        refine .cons (h1.up fun b hb => ?_) (h2.mono (fun b hb => ?_) (fun _ _ => rfl) (fun _ _ h => h))
        · rcases hb with hb | ⟨i, l, q1, q2, q3⟩
          · exact .inl hb
          · exact .inr ⟨i, l, by simp [q1], q2, q3⟩
        · rcases hb with hb | ⟨i, l, q1, q2, q3⟩
          · exact .inl hb
          · exact .inr ⟨i, l, by simp [q1], q2, q3⟩
      · cases hf
    · cases hf
theorem frzArgs_live {h : HL} : ∀ {xs ys : List AV}, frzArgs h xs = some ys → ∀ i ∈ refIds xs, ∃ b, hp h i = some b
  | [], ys, _, i, hi => by simp [refIds] at hi
  | x :: xs, ys, hf, i, hi => by
    simp only [frzArgs] at hf
    split at hf
    · rename_i y hy
      split at hf
      · rename_i s hs
        rw [refIds_cons, List.mem_append] at hi
        rcases hi with hi | hi
        · cases x <;> simp only [refIds, List.not_mem_nil, List.mem_cons, or_false] at hi
          subst hi
          simp only [frzArg, hpF_eq] at hy
          split at hy
          · rename_i cs hcs; exact ⟨_, hcs⟩
          · cases hy
        · exact frzArgs_live hs i hi
      · cases hf
    · cases hf
theorem wf_kept {S w f h w'} (wf : Wf S w f h) (hs : w.heap.size ≤ w'.heap.size) (hb : ∀ b, b < w.heap.size → w'.heap[b]? = w.heap[b]?) : Wf S w' f h :=
  ⟨⟨fun i b hi => let ⟨l, h1, h2⟩ := wf.hp.live i b hi; ⟨l, h1, h2.mono (fun _ h => h) (fun b hS => hb b (wf.st b hS).1) (fun _ _ h => h) (hb _ h2.lt)⟩, wf.hp.inj⟩,
    fun b hS => ⟨Nat.lt_of_lt_of_le (wf.st b hS).1 hs, (wf.st b hS).2⟩, wf.gl.mono (fun _ h => h) (fun b hS => hb b (wf.st b hS).1)⟩
theorem given_lt {S w f H} (wf : Wf S w f H) {ids : List Nat} (hlive : ∀ i ∈ ids, ∃ b, H i = some b) {b : Nat} (h : Given S f ids b) : b < w.heap.size := by
  rcases h with h | ⟨i, l, h1, h2, h3⟩
  · exact (wf.st b h).1
  · obtain ⟨bl, hbl⟩ := hlive i h1
    exact wf.own_lt ⟨i, l, by rw [hbl]; simp, h2, h3⟩
theorem lend_ok {P : Program} {g : FuncId} {h : HL} {args args' : List AV} {r : AV} {t : Nat} (hR : Runs P g 0 args' (hp []) r 0 (hp [])) (hf : frzArgs h args = some args') (hr : flat r = true) :
    RunsF P g t 0 args (hp h) (refIds args) [] [] r := by
  refine ⟨hR.1, fun H' hrd hnone => ⟨hR.1, fun S w f vs hargs wf hfr hB => ?_⟩⟩
  have hlive : ∀ i ∈ refIds args, ∃ b, H' i = some b := fun i hi => by
    obtain ⟨b, hb⟩ := frzArgs_live hf i hi
    exact ⟨b, by rw [hrd i hi]; exact hb⟩
  have h1 := frzArgs_ok wf hargs hf hrd
  have wf0 : Wf (Given S f (refIds args)) w (fun _ => none) (hp []) := ⟨⟨fun i b hb => by simp [hp] at hb, fun i j li lj hi => (hi rfl).elim⟩, fun b hb => ⟨given_lt wf hlive hb, fun ⟨_, _, h, _⟩ => h rfl⟩, wf.gl.mono (fun _ h => .inl h) (fun _ _ => rfl)⟩
  refine (hR.2 _ w _ vs h1 wf0 (fun _ _ => rfl)).mono ?_
  rintro e w' ⟨S', f', v, rfl, hv, hwf', hst, _⟩
  have hblk : ∀ b, b < w.heap.size → w'.heap[b]? = w.heap[b]? := fun b hb => hst.kept.block b hb (fun ⟨_, _, h, _⟩ => h rfl)
  refine ⟨S, f, v, rfl, rep_flat hv hr, wf_kept wf hst.kept.size hblk, ⟨⟨hst.kept.os, hst.kept.tape, hst.kept.output, hst.kept.size, fun b hb _ => hblk b hb⟩, fun _ h => .inl h, fun _ h => h, fun _ h => .inl h, fun _ _ _ h => h⟩, fun _ _ => rfl⟩
theorem setAll_split : ∀ (h : Heap) (a : List Nat) (b : List Nat) (o : List (Option Blk)), setAll h (a ++ b) (a.map (fun _ => none) ++ o) = setAll (setAll h a (a.map fun _ => none)) b o
  | h, [], b, o => rfl
  | h, i :: a, b, o => by simp only [List.cons_append, List.map_cons, setAll]; exact setAll_split _ a b o
theorem setAll_nones : ∀ (h : Heap) (a : List Nat) (j : Nat), setAll h a (a.map fun _ => none) j = if j ∈ a then none else h j
  | h, [], j => by simp [setAll]
  | h, i :: a, j => by
    simp only [List.map_cons, setAll]
    rw [setAll_nones _ a j]
    by_cases h1 : j ∈ a
    · simp [h1]
    · by_cases h2 : j = i
      · subst h2; simp [upd]
      · simp [h1, h2, upd]
theorem give_ok {P : Program} {g : FuncId} {h : HL} {args args' : List AV} {t cnt : Nat} {wr : List Nat} {outs : List (Option Blk)} {r : AV} (hR : RunsF P g t cnt args' (hp h) [] wr outs r) (hf : frzArgs h args = some args')
    (hcl : cloL args' = true) : RunsF P g t cnt args (hp h) (refIds args) (refIds args ++ wr) ((refIds args).map (fun _ => none) ++ outs) r := by
  refine ⟨hR.1, fun H' hrd hnone => ⟨hR.1, fun S w f vs hargs wf hfr hB => ?_⟩⟩
  have hlive : ∀ i ∈ refIds args, ∃ b, H' i = some b := fun i hi => by
    obtain ⟨b, hb⟩ := frzArgs_live hf i hi
    exact ⟨b, by rw [hrd i hi]; exact hb⟩
  have h1 := frzArgs_ok wf hargs hf hrd
  have h1' : Reps (Given S f (refIds args)) w f args' vs := ⟨h1.1, fun i x y hx hy => (h1.2 i x y hx hy).mono (fun _ h => h) (fun _ _ => rfl) (fun _ _ h => by cases h)⟩
  rw [setAll_split]
  generalize hH : setAll H' (refIds args) ((refIds args).map fun _ => none) = H2
  have hH2 : ∀ j, H2 j = if j ∈ refIds args then none else H' j := fun j => by rw [← hH]; exact setAll_nones _ _ _
  have live2 : ∀ j, H2 j ≠ none → j ∉ refIds args ∧ H2 j = H' j := fun j hj => by
    rw [hH2] at hj ⊢
    by_cases e : j ∈ refIds args
    · simp [e] at hj
    · simp [e]
  have hown : ∀ b, Own f H2 b → Own f H' b := fun b ⟨i, l, q1, q2, q3⟩ => ⟨i, l, by rw [← (live2 i q1).2]; exact q1, q2, q3⟩
  have wf2 : Wf (Given S f (refIds args)) w f H2 := by
    refine ⟨⟨fun i b hb => ?_, fun i j li lj hi hj => ?_⟩, fun b hb => ⟨given_lt wf hlive hb, ?_⟩, wf.gl.mono (fun _ h => .inl h) (fun _ _ => rfl)⟩
    · have := (live2 i (by rw [hb]; simp)).2
      rw [this] at hb
      obtain ⟨l, q1, q2⟩ := wf.hp.live i b hb
      exact ⟨l, q1, q2.mono (fun b h => .inl h) (fun _ _ => rfl) (fun _ _ h => h) rfl⟩
    · exact wf.hp.inj i j li lj (by rw [← (live2 i hi).2]; exact hi) (by rw [← (live2 j hj).2]; exact hj)
    · rintro ⟨i, l, q1, q2, q3⟩
      rcases hb with hb | ⟨j, lj, p1, p2, p3⟩
      · exact (wf.st b hb).2 (hown b ⟨i, l, q1, q2, q3⟩)
      · obtain ⟨bl, hbl⟩ := hlive j p1
        have := wf.hp.inj i j l lj (by rw [← (live2 i q1).2]; exact q1) (by rw [hbl]; simp) q2 p2 (q3.trans p3.symm)
        exact (live2 i q1).1 (this ▸ p1)
  refine ((hR.2 H2 (fun i hi => by cases hi) (fun i a b => ?_)).2 _ w f vs h1' wf2 hfr hB).mono ?_
  · rw [hH2]; split
    · rfl
    · exact hnone i a b
  rintro e w' ⟨S', f', v, rfl, hv, hwf', hst, hff⟩
  refine ⟨S', f', v, rfl, hv, hwf', ⟨⟨hst.kept.os, hst.kept.tape, hst.kept.output, hst.kept.size, fun b hb hO => hst.kept.block b hb (fun h => hO (hown b h))⟩, fun b hb => ?_, fun b hb => hst.st b (.inl hb), fun b hb => ?_, hst.ids⟩, hff⟩
  · rcases hst.own b hb with h | h
    · exact .inl (hown b h)
    · exact .inr h
  · rcases hst.st' b hb with (h | ⟨i, l, q1, q2, q3⟩) | h | h
    · exact .inl h
    · obtain ⟨bl, hbl⟩ := hlive i q1
      exact .inr (.inl ⟨i, l, by rw [hbl]; simp, q2, q3⟩)
    · exact .inr (.inl (hown b h))
    · exact .inr (.inr h)
/-! ### Resolvers -/
abbrev Rsv := FuncId → List AV → HL → Nat → Option CallRes
def RsvOk (P : Program) (R : Rsv) : Prop := ∀ g args h t c, R g args h t = some c → RunsF P g t c.cnt args (hp h) c.rd c.wr c.outs c.r
theorem frzArg_clo {h : HL} {x y : AV} (hf : frzArg h x = some y) : clo y = true := by
  cases x with
  | ref id off len esz cap =>
    simp only [frzArg] at hf
    split at hf
    · split at hf
      · cases hf; rfl
      · cases hf
    · cases hf
  | v u =>
    simp only [frzArg] at hf
    split at hf
    · rename_i e; cases e
    · cases hf; rfl
    · rename_i e; cases e
    · split at hf
      · cases hf; rfl
      · cases hf
  | il c n u => simp only [frzArg, Option.some.injEq] at hf; subst hf; rfl
  | _ =>
    simp only [frzArg] at hf
    split at hf
    · rename_i hc; cases hf; exact hc
    · cases hf
theorem frzArgs_clo {h : HL} : ∀ {xs ys : List AV}, frzArgs h xs = some ys → cloL ys = true
  | [], ys, hf => by cases hf; rfl
  | x :: xs, ys, hf => by
    simp only [frzArgs] at hf
    split at hf
    · rename_i y hy
      split at hf
      · rename_i s hs
        cases hf
        simp only [cloL, frzArg_clo hy, frzArgs_clo hs, Bool.and_self]
      · cases hf
    · cases hf
def postZ (ids : List Nat) (t : Nat) (r : AV) (h' : HL) (k' : Nat) : Option CallRes :=
  match h', k' with
  | [], 0 => if flat r = true then some ⟨r, 0, ids, [], []⟩ else if clo r = true then some ⟨r, 0, ids, ids, ids.map fun _ => none⟩ else none
  | h', k' => if keysLt k' h' = true then some ⟨ren (gl [] 0 t) r, k', ids, ids ++ (List.range k').map (gl [] 0 t), (ids.map fun _ => none) ++ (List.range k').map fun i => (hp h' i).map (renB (gl [] 0 t))⟩ else none
def rZ (call : Caller) : Rsv := fun g args h t =>
  match frzArgs h args with
  | some args' => match call g args' [] 0 with
    | some (r, h', k') => postZ (refIds args) t r h' k'
    | none => evCall call g args h t
  | none => evCall call g args h t
theorem evCall_clo' {call : Caller} {g : FuncId} {args : List AV} {h : HL} {t : Nat} (ha : cloL args = true) {r : AV} {h' : HL} {k' : Nat} (hc : call g args [] 0 = some (r, h', k')) (hk : keysLt k' h' = true) :
    evCall call g args h t = some ⟨ren (gl [] 0 t) r, k', [], (List.range k').map (gl [] 0 t), (List.range k').map fun i => (hp h' i).map (renB (gl [] 0 t))⟩ := by
  have i1 : ∀ x : List AV, cloL x = true → idsL x = [] := by
    have both : (∀ x : AV, clo x = true → ids x = []) ∧ ∀ x : List AV, cloL x = true → idsL x = [] := ⟨a, b⟩
    exact both.2
  have i2 : ∀ (p : Nat → Bool) (x : List AV), cloL x = true → inL p x = true := fun p => (⟨c p, d p⟩ : (∀ x : AV, clo x = true → inA p x = true) ∧ ∀ x : List AV, cloL x = true → inL p x = true).2
  unfold evCall
  rw [i1 args ha]
  have e0 : reach 1000 [] [] h = [] := rfl
  rw [e0]
  simp only [dist, allHp, i2 _ args ha, (ren_clo (idx [])).2 args ha, enumH, List.length_nil, Bool.and_self, if_true, hc, hk]
  have e : Nat.ble 0 k' = true := Nat.ble_eq_true_of_le (Nat.zero_le _)
  simp only [e, Bool.true_and, Nat.sub_zero, if_true]
where
  a : ∀ x : AV, clo x = true → ids x = []
    | .ref _ _ _ _ _, h => by simp [clo] at h
    | .ptr _ _, h => by simp [clo] at h
    | .map _, h => by simp [clo] at h
    | .fn _ x y, h => by simp only [clo, Bool.and_eq_true] at h; simp only [ids, b x h.1, b y h.2, List.append_nil]
    | .agg cs, h => by simp only [clo] at h; simp only [ids, b cs h]
    | .tup vs, h => by simp only [clo] at h; simp only [ids, b vs h]
    | .ifc _ x, h => by simp only [clo] at h; simp only [ids, a x h]
    | .any, _ => rfl
    | .v _, _ => rfl
    | .il _ _ _, _ => rfl
    | .elt _ _, _ => rfl
  b : ∀ x : List AV, cloL x = true → idsL x = []
    | [], _ => rfl
    | x :: r, h => by
      simp only [cloL, Bool.and_eq_true] at h
      have e : idsL (x :: r) = ids x ++ idsL r := by cases x <;> simp [idsL, ids]
      rw [e, a x h.1, b r h.2]; rfl
  c (p : Nat → Bool) : ∀ x : AV, clo x = true → inA p x = true
    | .ref _ _ _ _ _, h => by simp [clo] at h
    | .ptr _ _, h => by simp [clo] at h
    | .map _, h => by simp [clo] at h
    | .fn _ x y, h => by simp only [clo, Bool.and_eq_true] at h; simp only [inA, d p x h.1, d p y h.2, Bool.and_self]
    | .agg cs, h => by simp only [clo] at h; simp only [inA, d p cs h]
    | .tup vs, h => by simp only [clo] at h; simp only [inA, d p vs h]
    | .ifc _ x, h => by simp only [clo] at h; simp only [inA, c p x h]
    | .any, _ => rfl
    | .v _, _ => rfl
    | .il _ _ _, _ => rfl
    | .elt _ _, _ => rfl
  d (p : Nat → Bool) : ∀ x : List AV, cloL x = true → inL p x = true
    | [], _ => rfl
    | x :: r, h => by simp only [cloL, Bool.and_eq_true] at h; simp only [inL, c p x h.1, d p r h.2, Bool.and_self]
theorem rZ_ok {P : Program} {call : Caller} (hc : CallOk P call) : RsvOk P (rZ call) := by
  intro g args h t c hh
  unfold rZ at hh
  split at hh
  · rename_i args' hf
    split at hh
    · rename_i r h' k' hcall
      have hcl := frzArgs_clo hf
      have hR := hc _ _ _ _ _ _ _ hcall
      have gen : ∀ {r : AV} {h' : HL} {k' : Nat}, call g args' [] 0 = some (r, h', k') → keysLt k' h' = true → RunsF P g t k' args (hp h) (refIds args) (refIds args ++ (List.range k').map (gl [] 0 t)) ((refIds args).map (fun _ => none) ++ (List.range k').map fun i => (hp h' i).map (renB (gl [] 0 t))) (ren (gl [] 0 t) r) := fun {r h' k'} hcall hk => by
        have := evCall_ok hc (evCall_clo' (h := h) (t := t) hcl hcall hk)
        exact give_ok this hf hcl
      unfold postZ at hh
      split at hh
      · split at hh
        · rename_i hfl
          cases hh
          exact lend_ok hR hf hfl
        · split at hh
          · rename_i hcr
            cases hh
            have := gen hcall rfl
            simp only [List.range_zero, List.map_nil, List.append_nil, (ren_clo (gl [] 0 t)).1 r hcr] at this
            exact this
          · cases hh
      · split at hh
        · rename_i hk
          cases hh
          exact gen hcall hk
        · cases hh
    · exact evCall_ok hc hh
  · exact evCall_ok hc hh
/-! ### Carrying out -/
section
variable (R : Rsv)
def zCallAt (d : Option Nat) (tm : List Nat) (g : FuncId) (args : List AV) (s : ST) : Option (Foot × ST) :=
  match R g args s.heap s.nx with
  | some c => some (⟨tm, d, c.rd, c.wr⟩, (ST.mk s.env (setL s.heap c.wr c.outs) (s.nx + c.cnt)).put d c.r)
  | none => none
def zOp (d : Option Nat) (tm : List Nat) (b : PB) (s : ST) : Option (Foot × ST) :=
  match b with
  | .eff f => match f (enF s.env) with
    | some E => match E.foot (hpF s.heap) s.nx with
      | some (v, ws, os) => some (⟨tm, d, E.rs, ws⟩, (ST.mk s.env (setL s.heap ws os) (s.nx + 1)).put d v)
      | none => none
    | none => none
  | .call g args => zCallAt R d tm g (args.map (evalA (enF s.env))) s
  | .callv x args => match evalA (enF s.env) x with
    | .fn (.func g) first captured => zCallAt R d tm g (first ++ args.map (evalA (enF s.env)) ++ captured) s
    | _ => none
end
section
variable {P : Program} {R : Rsv} (hc : RsvOk P R)
include hc
theorem zCallAt_run {d tm g args} {s : ST} {K : Foot → St → Prop} {ft s'} (h : zCallAt R d tm g args s = some (ft, s')) (hK : K ft s'.st) :
    ∃ r cnt rd wr outs, RunsF P g s.st.nx cnt args s.st.heap rd wr outs r ∧ K ⟨tm, d, rd, wr⟩ (St.put ⟨s.st.env, setAll s.st.heap wr outs, s.st.nx + cnt⟩ d r) := by
  unfold zCallAt at h
  split at h
  · rename_i c hcall
    cases h
    refine ⟨c.r, c.cnt, c.rd, c.wr, c.outs, hc _ _ _ _ _ hcall, ?_⟩
    rw [ST.put_st] at hK
    simpa only [ST.st, setL_hp] using hK
  · cases h
theorem zOp_run {d tm} {op : SOp} {s : ST} {K : Foot → St → Prop} {ft s'} (h : zOp R d tm (op.pb P) s = some (ft, s')) (hK : K ft s'.st) : RunDOp P d tm op s.st K := by
  have eff : (match op.eff P (evalA (enF s.env)) with
    | some E => match E.foot (hpF s.heap) s.nx with
      | some (v, ws, os) => some ((⟨tm, d, E.rs, ws⟩ : Foot), (ST.mk s.env (setL s.heap ws os) (s.nx + 1)).put d v)
      | none => none
    | none => none) = some (ft, s') → (match op.eff P (evalA s.st.env) with
    | some E => match E.foot s.st.heap s.st.nx with
      | some (v, ws, os) => K ⟨tm, d, E.rs, ws⟩ (St.put ⟨s.st.env, setAll s.st.heap ws os, s.st.nx + 1⟩ d v)
      | none => False
    | none => False) := fun h => by
    rw [enF_eq, hpF_eq] at h
    simp only [ST.st]
    split at h
    · rename_i E hE
      split at h
      · rename_i v ws os hf
        cases h
        rw [ST.put_st] at hK
        simpa only [ST.st, setL_hp, hE, hf] using hK
      · cases h
    · cases h
  cases op
  case call g args =>
    simp only [SOp.pb, zOp, enF_eq] at h
    exact zCallAt_run hc h hK
  case callv x args =>
    simp only [SOp.pb, zOp, enF_eq] at h
    simp only [RunDOp]
    have e : evalA s.st.env x = evalA (en s.env) x := rfl
    rw [e]
    split at h
    · rename_i g first captured hx
      simp only [hx]
      exact zCallAt_run hc h hK
    · cases h
  all_goals exact eff h
end
def skd (x : AV) (want : Bool) : AV :=
  match x with
  | .v (.bool _) => .v (.bool !want)
  | x => x
theorem gd_true {x : AV} {want : Bool} (h : gd x want = some true) : x = .v (.bool want) := by
  unfold gd at h
  split at h
  · rename_i b; cases b <;> cases want <;> simp_all
  · cases h
  · cases h
theorem gd_false {x : AV} {want : Bool} (h : gd x want = some false) : skd x want = x := by
  unfold gd at h
  split at h
  · rename_i b; cases b <;> cases want <;> simp_all [skd]
  · rfl
  · cases h
def zOps (R : Rsv) (K : ST → Prop) : List PI → ST → Prop
  | [], s => K s
  | i :: is, s => match i.g with
    | none => match zOp R i.d i.tm i.b s with
      | some (_, s') => zOps R K is s'
      | none => False
    | some (t, want) => match gd (enF s.env t) want with
      | some c => (c = true → match zOp R i.d (t :: i.tm) i.b (s.put (some t) (.v (.bool want))) with
        | some (_, s') => zOps R K is s'
        | none => False) ∧ (c = false → zOps R K is ((s.put (some t) (skd (enF s.env t) want)).put i.d (.v undef)))
      | none => False
def zD (R : Rsv) (K : List Foot → ST → Prop) : List PI → List Foot → ST → Prop
  | [], fs, s => K fs s
  | i :: is, fs, s => match i.g with
    | none => match zOp R i.d i.tm i.b s with
      | some (ft, s') => zD R K is (fs ++ [ft]) s'
      | none => False
    | some (t, want) => match gd (enF s.env t) want with
      | some c => (c = true → match zOp R i.d (t :: i.tm) i.b (s.put (some t) (.v (.bool want))) with
        | some (ft, s') => zD R K is (fs ++ [ft]) s'
        | none => False) ∧ (c = false → zD R K is (fs ++ [⟨[t], i.d, [], []⟩]) ((s.put (some t) (skd (enF s.env t) want)).put i.d (.v undef)))
      | none => False
def LiftS (K : ST → Prop) (σ : St) : Prop := ∃ s', σ = s'.st ∧ K s'
theorem put_same {s : ST} {t : Nat} {v : AV} (h : enF s.env t = v) : (s.put (some t) v).st = s.st := by
  rw [ST.put_st]
  simp only [St.put, ST.st, enF_eq] at h ⊢
  congr 1
  funext j
  unfold upd
  split
  · rename_i e; subst e; exact h.symm
  · rfl
theorem zIns_run {P : Program} {R : Rsv} (hc : RsvOk P R) {i : SIns} {s : ST} {K : Foot → ST → Prop} (h : match i.guard with
    | none => match zOp R i.dst i.op.tm (i.op.pb P) s with
      | some (ft, s') => K ft s'
      | none => False
    | some (t, want) => match gd (enF s.env t) want with
      | some c => (c = true → match zOp R i.dst (t :: i.op.tm) (i.op.pb P) (s.put (some t) (.v (.bool want))) with
        | some (ft, s') => K ft s'
        | none => False) ∧ (c = false → K ⟨[t], i.dst, [], []⟩ ((s.put (some t) (skd (enF s.env t) want)).put i.dst (.v undef)))
      | none => False) : RunDIns P i s.st (fun ft σ => LiftS (K ft) σ) := by
  have go : ∀ {d tm} {op : SOp} {s : ST}, (match zOp R d tm (op.pb P) s with
      | some (ft, s') => K ft s'
      | none => False) → RunDOp P d tm op s.st (fun ft σ => LiftS (K ft) σ) := fun {d tm op s} h => by
    split at h
    · rename_i ft s' h1; exact zOp_run hc h1 ⟨s', rfl, h⟩
    · exact h.elim
  unfold RunDIns
  split at h
  · rename_i hg
    simp only [hg]
    exact go h
  · rename_i t want hg
    simp only [hg]
    have e : s.st.env t = enF s.env t := by rw [enF_eq]; rfl
    rw [e]
    split at h
    · rename_i c hb
      simp only [hb]
      cases c with
      | true =>
        have := go (h.1 rfl)
        rwa [put_same (gd_true hb)] at this
      | false =>
        refine ⟨_, ?_, h.2 rfl⟩
        rw [ST.put_st, put_same (gd_false hb).symm]
    · exact h.elim
theorem zOps_run {P : Program} {R : Rsv} (hc : RsvOk P R) : ∀ {is : List SIns} {s : ST} {K : ST → Prop}, zOps R K (is.map (·.pi P)) s → RunOps P is s.st (LiftS K)
  | [], s, K, h => ⟨s, rfl, h⟩
  | i :: is, s, K, h => by
    simp only [RunOps]
    refine runIns_mono (fun σ hσ => ?_) (runIns_of_D (K := fun σ => LiftS (fun s' => zOps R K (is.map (·.pi P)) s') σ) (zIns_run hc (K := fun _ s' => zOps R K (is.map (·.pi P)) s') h))
    obtain ⟨s', rfl, h'⟩ := hσ
    exact zOps_run hc h'
theorem zD_run {P : Program} {R : Rsv} (hc : RsvOk P R) : ∀ {is : List SIns} {fs : List Foot} {s : ST} {K : List Foot → ST → Prop}, zD R K (is.map (·.pi P)) fs s → RunD P is fs s.st (fun fs σ => LiftS (K fs) σ)
  | [], fs, s, K, h => ⟨s, rfl, h⟩
  | i :: is, fs, s, K, h => by
    simp only [RunD]
    refine runDIns_mono (fun ft σ hσ => ?_) (zIns_run hc (K := fun ft s' => zD R K (is.map (·.pi P)) (fs ++ [ft]) s') h)
    obtain ⟨s', rfl, h'⟩ := hσ
    exact zD_run hc h'
def XZ (R : Rsv) (k0 : Nat) : PCode → ST → (Exit → ST → Prop) → Prop
  | .skip, s, Q => Q .normal s
  | .reg ops ks, s, Q => zOps R (fun s' => Q .normal (s'.keepF ks)) ops s
  | .draw ops anc ks, s, Q => zD R (fun fs s' => indep [] anc fs = true ∧ Q .normal (s'.keepF ks)) ops [] s
  | .seq a b, s, Q => XZ R k0 a s (thenE (fun s' => XZ R k0 b s' Q) Q)
  | .seqC a b, s, Q => XZ R k0 a s (thenE (fun s' => ∃ s'', ChgT k0 s' s'' ∧ XZ R k0 b s'' Q) Q)
  | .cond c a b, s, Q => match evalA (enF s.env) c with
    | .v (.bool t) => (t = true → XZ R k0 a s Q) ∧ (t = false → XZ R k0 b s Q)
    | _ => False
  | .block id b, s, Q => XZ R k0 b s (inBE id Q)
  | .loop b, s, Q => ∃ I : Nat → ST → Prop, (∃ n s', ChgT k0 s s' ∧ I n s') ∧ ∀ n s, I n s → XZ R k0 b s (thenE (fun s' => ∃ m s'', m < n ∧ ChgT k0 s' s'' ∧ I m s'') (fun e s' => ∃ s'', ChgT k0 s' s'' ∧ Q e s''))
  | .exit id, s, Q => Q (.exit id) s
  | .ret, s, Q => Q .ret s
  | .scope b, s, Q => XZ R k0 b s (noGoE Q)
theorem XZ_sound {P : Program} {R : Rsv} (hc : RsvOk P R) {k0 : Nat} : ∀ (c : SCode) {s : ST} {Q : Exit → ST → Prop}, XZ R k0 (c.pc P) s Q → X P k0 c s.st (Lift Q) := by
  intro c
  induction c with
  | skip => intro s Q h; exact ⟨s, rfl, h⟩
  | reg ops ks =>
    intro s Q h
    have h1 := zOps_run hc h
    refine X_mono (c := .reg ops ks) (Q := fun e σ => e = .normal ∧ ∃ s' : ST, σ = (s'.keepF ks).st ∧ Q .normal (s'.keepF ks)) (fun e σ h => ?_) ?_
    · obtain ⟨rfl, s', h2, h3⟩ := h; exact ⟨_, h2, h3⟩
    · show RunOps P ops s.st _
      exact runOps_mono (fun σ ⟨s', e, h⟩ => ⟨rfl, s', by rw [e, keepF_eq]; rfl, h⟩) h1
  | draw ops anc ks =>
    intro s Q h
    have h1 := zD_run hc h
    show RunD P ops [] s.st _
    exact runD_mono (fun fs σ ⟨s', e, h2, h3⟩ => ⟨h2, s'.keepF ks, by rw [e, keepF_eq]; rfl, h3⟩) h1
  | seq a b iha ihb =>
    intro s Q h
    show X P k0 a s.st (orElse (fun σ' => ∃ σ'', Chg k0 σ' σ'' ∧ X P k0 b σ'' (Lift Q)) (Lift Q))
    refine X_mono (fun e σ' h' => ?_) (iha h)
    obtain ⟨s', rfl, h'⟩ := h'
    cases e <;> first | exact ⟨_, .refl, ihb h'⟩ | exact ⟨s', rfl, h'⟩
  | cond c a b iha ihb =>
    intro s Q h
    simp only [SCode.pc, XZ, enF_eq] at h
    simp only [X]
    have e1 : evalA s.st.env c = evalA (en s.env) c := rfl
    rw [e1]
    split at h
    · rename_i t ht
      simp only [ht]
      cases t
      · exact ihb (h.2 rfl)
      · exact iha (h.1 rfl)
    · exact h.elim
  | block id b ih =>
    intro s Q h
    show X P k0 b s.st (inBlk id (Lift Q))
    refine X_mono (fun e σ' h' => ?_) (ih h)
    obtain ⟨s', rfl, h'⟩ := h'
    cases e <;> first | exact ⟨s', rfl, h'⟩ | skip
    simp only [inBE, inBlk] at h' ⊢
    split at h'
    · rename_i e; rw [if_pos e]; exact ⟨s', rfl, h'⟩
    · rename_i e; rw [if_neg e]; exact ⟨s', rfl, h'⟩
  | loop b ih =>
    intro s Q h
    obtain ⟨I, ⟨n, s', h1, h2⟩, h3⟩ := h
    refine ⟨fun n σ => ∃ s, σ = s.st ∧ I n s, ⟨n, s'.st, h1, s', rfl, h2⟩, ?_⟩
    rintro n σ ⟨s, rfl, hI⟩
    refine X_mono (fun e σ' h' => ?_) (ih (h3 n s hI))
    obtain ⟨s', rfl, h'⟩ := h'
    cases e with
    | normal =>
      obtain ⟨m, s'', q1, q2, q3⟩ := h'
      exact ⟨m, s''.st, q1, q2, s'', rfl, q3⟩
    | _ =>
      obtain ⟨s'', q1, q2⟩ := h'
      exact ⟨s''.st, q1, s'', rfl, q2⟩
  | exit id => intro s Q h; exact ⟨s, rfl, h⟩
  | ret => intro s Q h; exact ⟨s, rfl, h⟩
  | scope b ih =>
    intro s Q h
    show X P k0 b s.st (noGo (Lift Q))
    refine X_mono (fun e σ' h' => ?_) (ih h)
    obtain ⟨s', rfl, h'⟩ := h'
    cases e <;> first | exact ⟨s', rfl, h'⟩ | exact h'.elim
/-! ### Codes in which changes are allowed between two parts -/
theorem PFn.runsZ {P : Program} {g : FuncId} {E : PEnt} (F : PFn P g E) {ss : List Sp} (hc : SpsOk P ss) {k : Nat} {args : List AV} {h : HL} {r : AV} {k' : Nat} {h' : HL} (hn : args.length ≤ E.n)
    (hX : XZ (rZ (spc ss)) k E.code ⟨args0 0 args, h, k⟩ (EndsP k E.rs r k' h')) : Runs P g k args (hp h) r k' (hp h') := by
  obtain ⟨c, hF, hcode⟩ := F.ex
  rw [hcode] at hX
  refine hF.runs hn (X_mono (fun e σ h1 => ?_) (XZ_sound (rZ_ok (spc_ok hc)) c hX))
  obtain ⟨s, rfl, h2, s', h3, g, h4, h5⟩ := h1
  exact ⟨h2, s'.st, h3, g, h4, h5⟩
end Go.Sx
