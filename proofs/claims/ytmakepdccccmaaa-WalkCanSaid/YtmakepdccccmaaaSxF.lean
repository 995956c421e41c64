/- append and copy. No conditions. -/
import Derived.Test.YtmakepdccccmaaaSxE
set_option linter.unusedVariables false
set_option linter.unusedSimpArgs false
namespace Go.Sx

/-! ### The cells that are appended or copied -/
def src (esz : Nat) : AV → Option (Nat × List Nat × (List Blk → Option (List AV)))
  | .v (.slice none 0 0) => some (0, [], fun _ => some [])
  | .v (.string s) => if esz = 1 then some (s.size, [], fun _ => some ((byteCells s).map .v)) else none
  | .il ys n _ => if ys.length = n * esz then some (n, [], fun _ => some ys) else none
  | .ref id off n esz' _ => if esz' = esz then some (n, [id], fun bs => match bs with
    | [.cells cs] => if off + n * esz ≤ cs.length then some ((cs.drop off).take (n * esz)) else none
    | _ => none) else none
  | _ => none

theorem Reps.none {S w f xs ys} (h : Reps S w (fun _ => none) xs ys) : Reps S w f xs ys := h.mono (fun _ h => h) (fun _ _ => rfl) (fun _ _ h => by cases h)

theorem getAll_one {h : Heap} {id : Nat} {bs : List Blk} (hb : getAll h [id] = some bs) : ∃ b, h id = some b ∧ bs = [b] := by
  simp only [getAll] at hb
  cases e : h id with
  | none => simp [e] at hb
  | some b => simp [e] at hb; exact ⟨b, rfl, hb.symm⟩

theorem src_ok {P : Program} {S w f h esz y u n ids g bs ys} {tx : TypeId} (hk : (∃ e', P.underlying tx = some (.slice e')) ∨ P.underlying tx = some .string)
    (wf : Wf S w f h) (hy : Rep S w f y u) (hs : src esz y = some (n, ids, g)) (hb : getAll h ids = some bs) (hg : g bs = some ys) :
    ∃ news, Src P esz tx u n news w ∧ Reps S w f ys news := by
  have ofCells : ∀ (b o c : Nat) (news : List Value), news.length = n * esz → (∀ j u, news[j]? = some u → w.cell? ⟨b, o + j, none⟩ = some u) → (∀ u ∈ news, u.oneCell' = true) → Src P esz tx (.slice (some ⟨b, o, none⟩) n c) n news w := fun b o c news hl hc h1 => by
    have hc' : ∀ j u, news[j]? = some u → w.cell? ((⟨b, o, none⟩ : Addr).add j) = some u := fun j u hu => by rw [add_lit]; exact hc j u hu
    exact ⟨hk, fun _ => rfl, run_firstCells_some w esz n _ n c news hl hc', run_firstCells_some w.drew esz n _ n c news hl (by simpa using hc'), hl, h1⟩
  unfold src at hs
  split at hs
  · cases hs
    cases hy
    cases hg
    exact ⟨[], ⟨hk, fun _ => rfl, run_firstCells_none w esz 0 0 0, run_firstCells_none w.drew esz 0 0 0, by simp, fun _ h => by cases h⟩, .nil⟩
  · split at hs
    · rename_i s he
      subst he
      cases hs
      cases hy
      cases hg
      exact ⟨byteCells s, ⟨hk, fun _ => rfl, firstCells_string s w, firstCells_string s w.drew, by rw [byteCells_length, Nat.mul_one], fun u hu => by
        obtain ⟨_, _, rfl⟩ := List.mem_map.1 hu
        rfl⟩, by simp, rep_vs _⟩
    · cases hs
  · split at hs
    · rename_i hl
      cases hs
      cases hg
      cases hy with
      | nil => exact ⟨[], ⟨hk, fun _ => rfl, run_firstCells_none w esz 0 0 0, run_firstCells_none w.drew esz 0 0 0, by simp, fun _ h => by cases h⟩, .nil⟩
      | il hvl hS hc h1 hr hn hf => exact ⟨_, ofCells _ _ _ _ (by rw [hvl, hl]) hc h1, Reps.none ⟨hvl, hr⟩⟩
    · cases hs
  · split at hs
    · rename_i he
      subst he
      cases hs
      obtain ⟨b, hb1, rfl⟩ := getAll_one hb
      cases b with
      | cells cs =>
        simp only at hg
        split at hg
        · rename_i hle
          cases hg
          cases hy with
          | ref hf q1 q2 q3 q4 =>
            obtain ⟨l', hl', hB⟩ := wf.hp.live _ _ hb1
            rw [hf] at hl'; cases hl'
            obtain ⟨vals, v1, v2, v3, v4⟩ := hB.take _ _ hle
            exact ⟨vals, ofCells _ _ _ _ v1 v4 v2, v3⟩
        · cases hg
      | map es => cases hg
    · cases hs
  · cases hs

/-! ### Kill and move -/
theorem wf_kill {S w f h} (wf : Wf S w f h) (id : Nat) : Wf S w f (upd h id none) ∧ Step (fun _ => True) S w f h S w f (upd h id none) := by
  have hsub : ∀ j, upd h id none j ≠ none → h j ≠ none := fun j hj => by
    by_cases e : j = id
    · subst e; simp at hj
    · rwa [upd_other _ _ e] at hj
  have hown : ∀ b, Own f (upd h id none) b → Own f h b := fun b ⟨j, l, h1, h2, h3⟩ => ⟨j, l, hsub j h1, h2, h3⟩
  refine ⟨⟨⟨fun j k hk => ?_, fun i j li lj hi hj => wf.hp.inj i j li lj (hsub i hi) (hsub j hj)⟩, fun b hb => ⟨(wf.st b hb).1, fun h => (wf.st b hb).2 (hown b h)⟩⟩,
    ⟨.refl _ _, fun b hb => .inl (hown b hb), fun _ h => h, fun _ h => .inl h, fun _ _ _ h => h⟩⟩
  by_cases e : j = id
  · subst e; simp at hk
  · rw [upd_other _ _ e] at hk; exact wf.hp.live j k hk

theorem wf_move {S w f h} (wf : Wf S w f h) {id nid : Nat} {cs : List AV} {l : Loc} (hk : h id = some (.cells cs)) (hl : f id = some l) (hn : f nid = none) (off k : Nat) (hle : off + k ≤ cs.length) :
    Wf S w (upd f nid (some ⟨l.b, l.base + off, l.n⟩)) (upd (upd h id none) nid (some (.cells ((cs.drop off).take k)))) ∧
      Step (fun _ => True) S w f h S w (upd f nid (some ⟨l.b, l.base + off, l.n⟩)) (upd (upd h id none) nid (some (.cells ((cs.drop off).take k)))) := by
  have hne : nid ≠ id := fun e => by subst e; rw [hn] at hl; cases hl
  have hown : Own f h l.b := ⟨id, l, by rw [hk]; simp, hl, rfl⟩
  have hh : ∀ j, j ≠ nid → upd (upd h id none) nid (some (.cells ((cs.drop off).take k))) j = h j ∨ upd (upd h id none) nid (some (.cells ((cs.drop off).take k))) j = none := fun j hj => by
    rw [upd_other _ _ hj]
    by_cases e : j = id
    · subst e; simp
    · rw [upd_other _ _ e]; exact .inl rfl
  obtain ⟨l', hl', hB⟩ := wf.hp.live id _ hk
  rw [hl] at hl'; cases hl'
  obtain ⟨arr, t, a1, a2, a3, a4, a5⟩ := hB
  refine ⟨wf_put wf (id' := nid) (l' := ⟨l.b, l.base + off, l.n⟩) (fun j hj => upd_other _ _ hj) (upd_same _ _ _) hh (upd_same _ _ _) (Nat.le_refl _) (fun _ _ _ => rfl) (fun j lj hj hnn hlj he => ?_) (fun hS => (wf.st _ hS).2 hown) (.inl hn) ?_,
    step_put (id' := nid) (l' := ⟨l.b, l.base + off, l.n⟩) (fun j hj => upd_other _ _ hj) (upd_same _ _ _) hh rfl rfl rfl (Nat.le_refl _) (fun _ _ _ => rfl) (.inl hn) (.inl hown)⟩
  · rw [upd_other _ _ hj] at hnn
    have e : j ≠ id := fun e => by subst e; simp at hnn
    rw [upd_other _ _ e] at hnn
    exact e (wf.hp.inj j id lj l hnn (by rw [hk]; simp) hlj hl he)
  · refine ⟨arr, t, a1, a2, by simp; omega, a4, fun i x y hx hy => ?_⟩
    rw [List.getElem?_take] at hx
    split at hx
    · rw [List.getElem?_drop] at hx
      exact (a5 (off + i) x y hx (by rw [← hy]; simp only; congr 1; omega)).mono (fun _ h => h) (fun _ _ => rfl) (upd_ext hn)
    · cases hx

/-! ### append -/
theorem nextslicecap_le (need cap : Nat) (h : cap < need) : Builtin.nextslicecap need cap ≤ 2 * need + 192 := by
  unfold Builtin.nextslicecap
  split
  · omega
  · split
    · omega
    · have grow : ∀ r c, c ≤ 2 * need + 192 → Builtin.growBy need r c ≤ 2 * need + 192 := fun r => by
        induction r with
        | zero => intro c hc; exact hc
        | succ r ih =>
          intro c hc
          simp only [Builtin.growBy]
          split
          · exact hc
          · exact ih _ (by omega)
      exact grow 4 cap (by omega)

theorem cap_bytes (need cap bytes : Nat) (h : cap < need) (hs : need * (bytes + 1) ≤ 1099511627776) : Builtin.nextslicecap need cap * bytes ≤ 281474976710656 := by
  have h1 := nextslicecap_le need cap h
  have h2 : Builtin.nextslicecap need cap * bytes ≤ (2 * need + 192) * bytes := Nat.mul_le_mul_right _ h1
  have h3 : (2 * need + 192) * bytes ≤ 194 * (need * (bytes + 1)) := by
    have : (2 * need + 192) ≤ 194 * need := by omega
    calc (2 * need + 192) * bytes ≤ (194 * need) * bytes := Nat.mul_le_mul_right _ this
      _ ≤ (194 * need) * (bytes + 1) := Nat.mul_le_mul_left _ (by omega)
      _ = 194 * (need * (bytes + 1)) := by rw [Nat.mul_assoc]
  omega

theorem run_append_room' {P : Program} (w : World) (t tx ty e : TypeId) (i : TypeInfo) (ht : P.underlying t = some (.slice e)) (hi : P.info? e = some i) (a : Addr) (sLen sCap : Nat) (x : Value) (n : Nat) (news : List Value) (hs : Src P i.size tx x n news w)
    (hroom : sLen + n ≤ sCap) :
    (Builtin.append_ #[t, tx] ty #[.slice (some a) sLen sCap, x]).run P w = ((storeCells (a.add (sLen * i.size)) news).run P w).andThen fun _ w' => .ok (.slice (some a) (sLen + n) sCap) w' := by
  rcases hs.kind with ⟨e', hk⟩ | hk <;> simp [Builtin.append_, run_underlying ht, run_underlying hk, sizeOf, typeInfo, hi, hs.len, hroom, hs.cells]
theorem run_append_nothing' {P : Program} (w : World) (t tx ty e : TypeId) (i : TypeInfo) (ht : P.underlying t = some (.slice e)) (hi : P.info? e = some i) (a : Option Addr) (sLen sCap : Nat) (x : Value) (hs : Src P i.size tx x 0 [] w)
    (hroom : sLen ≤ sCap) :
    (Builtin.append_ #[t, tx] ty #[.slice a sLen sCap, x]).run P w = .ok (.slice a sLen sCap) w := by
  rcases hs.kind with ⟨e', hk⟩ | hk <;> cases a <;> simp [Builtin.append_, run_underlying ht, run_underlying hk, sizeOf, typeInfo, hi, hs.len, hroom, hs.cells, storeCells]

def effApp (esz bytes : Nat) (x y : AV) : Option Eff :=
  match src esz y with
  | none => none
  | some (n, ids, g) =>
    match x with
    | .v (.slice none 0 0) => some ⟨ids, [], fun bs nid => match g bs with
      | none => none
      | some ys => if n = 0 then some ⟨.v (.slice none 0 0), [], none⟩ else if n * (bytes + 1) ≤ 1099511627776 then some ⟨.ref nid 0 n esz none, [], some (.cells ys)⟩ else none⟩
    | .il cells len full => some ⟨ids, [], fun bs nid => match g bs with
      | none => none
      | some ys => if n = 0 then some ⟨.il cells len full, [], none⟩
        else if full = true ∧ cells.length = len * esz ∧ (len + n) * (bytes + 1) ≤ 1099511627776 then some ⟨.ref nid 0 (len + n) esz none, [], some (.cells (cells ++ ys))⟩ else none⟩
    | .ref id off len esz' cap =>
      if esz' ≠ esz then none else
      match cap with
      | some c =>
        if len + n ≤ c then some ⟨id :: ids, [id], fun bs nid => match bs with
          | .cells cs :: rest => match g rest with
            | none => none
            | some ys => if off + len * esz ≤ cs.length then some ⟨.ref id off (len + n) esz (some c), [some (.cells (splice cs (off + len * esz) ys))], none⟩ else none
          | _ => none⟩
        else some ⟨id :: ids, [], fun bs nid => match bs with
          | .cells cs :: rest => match g rest with
            | none => none
            | some ys => if off + len * esz ≤ cs.length ∧ (len + n) * (bytes + 1) ≤ 1099511627776 then some ⟨.ref nid 0 (len + n) esz none, [], some (.cells ((cs.drop off).take (len * esz) ++ ys))⟩ else none
          | _ => none⟩
      | none => some ⟨id :: ids, [id], fun bs nid => match bs with
          | .cells cs :: rest => match g rest with
            | none => none
            | some ys =>
              if n = 0 then some ⟨.ref id off len esz none, [some (.cells cs)], none⟩
              else if 0 < esz ∧ off + (len + n) * esz ≤ cs.length then some ⟨.ref id off (len + n) esz none, [some (.cells (splice cs (off + len * esz) ys))], none⟩
              else if off + len * esz ≤ cs.length ∧ (len + n) * (bytes + 1) ≤ 1099511627776 then some ⟨.ref nid 0 (len + n) esz none, [none], some (.cells ((cs.drop off).take (len * esz) ++ ys))⟩ else none
          | _ => none⟩
    | _ => none

/-- A new array is made: its cells, and the rest. -/
theorem grow_ok {P : Program} {S w f h} (wf : Wf S w f h) {nid : Nat} (hn : f nid = none) {t tx ty e : TypeId} {i : TypeInfo} {z : Value} (ht : P.underlying t = some (.slice e)) (hi : P.info? e = some i) (hz : i.zero = some z)
    (hzs : z.cells.size = i.size) (hz1 : ∀ v ∈ z.cells.toList, v.oneCell' = true) (base : Option Addr) (sLen sCap : Nat) {olds : List Value} {xs : List AV}
    (hold : (Builtin.firstCells i.size sLen (.slice base sLen sCap)).run P w.drew = .ok olds.toArray w.drew) (hol : olds.length = sLen * i.size) (ho1 : ∀ v ∈ olds, v.oneCell' = true) (hor : Reps S w f xs olds)
    {u : Value} {n : Nat} {news : List Value} {ys : List AV} (hs : Src P i.size tx u n news w) (hyr : Reps S w f ys news) (hg : sCap < sLen + n) (hsz : (sLen + n) * (i.bytes + 1) ≤ 1099511627776) :
    ∃ y w' f', (do pure (Next.value (← Builtin.append_ #[t, tx] ty #[.slice base sLen sCap, u])) : Sem Next).run P w = .ok (.value y) w' ∧ Rep S w' f' (.ref nid 0 (sLen + n) i.size none) y ∧
      Wf S w' f' (upd h nid (some (.cells (xs ++ ys)))) ∧ Step (fun _ => True) S w f h S w' f' (upd h nid (some (.cells (xs ++ ys)))) ∧ (∀ j, j ≠ nid → f' j = f j) := by
  have hneed : sLen + n ≤ 1099511627776 := Nat.le_trans (Nat.le_mul_of_pos_right _ (by omega)) hsz
  have hrun := run_append_grow_src (P := P) w t tx ty e i z ht hi hz base sLen sCap olds hold u n news hs hg (by omega) (cap_bytes _ _ _ hg hsz)
  generalize hgc : grownCap w (sLen + n) sCap e = gc at hrun
  have hgc2 : sLen + n ≤ gc := by rw [← hgc]; unfold grownCap; exact Nat.le_add_right _ _
  have hsize : ((olds ++ news).toArray ++ Builtin.zeroCells z.cells (gc - (sLen + n))).size = gc * i.size := by
    simp only [Array.size_append, List.size_toArray, List.length_append, Builtin.zeroCells, Array.size_map, Array.size_range, hzs, hol, hs.newsLen]
    rw [← Nat.add_mul, ← Nat.add_mul]; congr 1; omega
  have hext : ∀ id l, f id = some l → upd f nid (some ⟨w.heap.size, 0, gc * i.size⟩) id = some l := upd_ext hn
  have hheap : (w.drew.alloc (.cells ((olds ++ news).toArray ++ Builtin.zeroCells z.cells (gc - (sLen + n))) e)).heap = w.heap.push (.cells ((olds ++ news).toArray ++ Builtin.zeroCells z.cells (gc - (sLen + n))) e) := rfl
  have hstab : ∀ b, S b → (w.drew.alloc (.cells ((olds ++ news).toArray ++ Builtin.zeroCells z.cells (gc - (sLen + n))) e)).heap[b]? = w.heap[b]? := fun b hb => Go.RowKit.Below.heap_alloc w.drew _ _ (wf.st b hb).1
  have h1 := wf_alloc wf hn (w' := w.drew.alloc (.cells ((olds ++ news).toArray ++ Builtin.zeroCells z.cells (gc - (sLen + n))) e)) (k := .cells (xs ++ ys)) (n := gc * i.size) hheap rfl rfl rfl (by
    have e0 := hor.1
    have e1 := hyr.1
    have e2 := hs.newsLen
    have e3 : (sLen + n) * i.size ≤ gc * i.size := Nat.mul_le_mul_right _ hgc2
    have e4 : (sLen + n) * i.size = sLen * i.size + n * i.size := Nat.add_mul _ _ _
    refine ⟨_, e, by rw [hheap]; simp, hsize, by simp only [List.length_append]; omega, fun j x hx => ?_, fun j x y hx hy => ?_⟩
    · have hm := Array.mem_of_getElem? hx
      rw [Array.mem_append] at hm
      rcases hm with hm | hm
      · simp only [List.mem_toArray, List.mem_append] at hm
        rcases hm with hm | hm
        · exact ho1 x hm
        · exact hs.one x hm
      · unfold Builtin.zeroCells at hm
        simp only [Array.mem_map, Array.mem_range] at hm
        obtain ⟨q, hq, rfl⟩ := hm
        have hq2 : q % z.cells.size < z.cells.size := Nat.mod_lt _ (by
          rcases Nat.eq_zero_or_pos z.cells.size with h0 | h0
          · rw [h0] at hq; simp at hq
          · exact h0)
        rw [show z.cells[q % z.cells.size]! = z.cells[q % z.cells.size] from getElem!_pos z.cells _ hq2]
        exact hz1 _ (by simp)
    · simp only [Nat.zero_add] at hy
      have hj : j < (xs ++ ys).length := (List.getElem?_eq_some_iff.1 hx).1
      simp only [List.length_append] at hj
      rw [Array.getElem?_append_left (by simp; omega), List.getElem?_toArray] at hy
      refine Rep.mono ?_ (fun _ h => h) hstab hext
      rw [List.getElem?_append] at hx hy
      by_cases c : j < xs.length
      · rw [if_pos c] at hx
        rw [if_pos (by omega)] at hy
        exact hor.2 j x y hx hy
      · rw [if_neg c] at hx
        rw [if_neg (by omega)] at hy
        exact hyr.2 (j - xs.length) x y hx (by rw [← hy]; congr 1; omega))
  refine ⟨_, _, _, by rw [Sem.run_bind, hrun]; rfl, ?_, h1.1, h1.2, fun j hj => upd_other _ _ hj⟩
  have := Rep.ref (S := S) (w := w.drew.alloc (.cells ((olds ++ news).toArray ++ Builtin.zeroCells z.cells (gc - (sLen + n))) e)) (off := 0) (len := sLen + n) (esz := i.size) (cap := none) (c := gc) (upd_same f nid (some (⟨w.heap.size, 0, gc * i.size⟩ : Loc))) (fun k hk => by cases hk) (fun _ => by simp) (by simp) hgc2
  simpa using this

end Go.Sx
