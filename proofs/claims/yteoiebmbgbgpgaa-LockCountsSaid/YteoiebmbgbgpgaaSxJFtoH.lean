/- append and copy. No conditions. -/
import Derived.Test.YteoiebmbgbgpgaaSxJGLtoE
set_option linter.unusedVariables false
set_option linter.unusedSimpArgs false
section
namespace Go.Sx
/-! ### The cells that are appended or copied -/
def src (esz : Nat) : AV → Option (Nat × List Nat × (List Blk → Option (List AV)))
  | .v (.slice none 0 0) => some (0, [], fun _ => some [])
  | .v (.slice (some ⟨_, _, none⟩) 0 _) => some (0, [], fun _ => some [])
  | .v (.string s) => if esz = 1 then some (s.size, [], fun _ => some ((byteCells s).map .v)) else none
  | .il ys n _ => if ys.length = n * esz then some (n, [], fun _ => some ys) else none
  | .ref id off n esz' _ => if esz' = esz then some (n, [id], fun bs => match bs with
    | [.cells cs] => if off + n * esz ≤ cs.length then some ((cs.drop off).take (n * esz)) else none
    | _ => none) else none
  | _ => none
theorem Reps.none {S w f xs ys} (h : Reps S w (fun _ => none) xs ys) : Reps S w f xs ys := h.mono (fun _ h => h) (fun _ _ => rfl) (fun _ _ h => by cases h)
theorem getAll_one {h : Heap} {id : Nat} {bs : List Blk} (hb : getAll h [id] = some bs) : ∃ b, h id = some b ∧ bs = [b] := by
  simp only [getAll] at hb
  cases e : h id with
  | none => simp [e] at hb
  | some b => simp [e] at hb; exact ⟨b, rfl, hb.symm⟩
theorem src_ok {P : Program} {S w f h esz y u n ids g bs ys} {tx : TypeId} (hk : (∃ e', P.underlying tx = some (.slice e')) ∨ P.underlying tx = some .string)
    (wf : Wf S w f h) (hy : Rep S w f y u) (hs : src esz y = some (n, ids, g)) (hb : getAll h ids = some bs) (hg : g bs = some ys) :
    ∃ news, Src P esz tx u n news w ∧ Reps S w f ys news := by
  have ofCells : ∀ (b o c : Nat) (news : List Value), news.length = n * esz → (∀ j u, news[j]? = some u → w.cell? ⟨b, o + j, none⟩ = some u) → (∀ u ∈ news, u.oneCell' = true) → Src P esz tx (.slice (some ⟨b, o, none⟩) n c) n news w := fun b o c news hl hc h1 => by
    have hc' : ∀ j u, news[j]? = some u → w.cell? ((⟨b, o, none⟩ : Addr).add j) = some u := fun j u hu => by rw [add_lit]; exact hc j u hu
    exact ⟨hk, fun _ => rfl, run_firstCells_some w esz n _ n c news hl hc', run_firstCells_some w.drew esz n _ n c news hl (by simpa using hc'), hl, h1⟩
  unfold src at hs
  split at hs
  · cases hs
    cases hy
    cases hg
    exact ⟨[], ⟨hk, fun _ => rfl, run_firstCells_none w esz 0 0 0, run_firstCells_none w.drew esz 0 0 0, by simp, fun _ h => by cases h⟩, .nil⟩
  · rename_i b o c
    cases hs
    cases hy
    cases hg
    exact ⟨[], ofCells b o c [] (by simp) (fun j u hu => by simp at hu) (fun u hu => by cases hu), .nil⟩
  · split at hs
    · rename_i s he
      subst he
      cases hs
      cases hy
      cases hg
      exact ⟨byteCells s, ⟨hk, fun _ => rfl, firstCells_string s w, firstCells_string s w.drew, by rw [byteCells_length, Nat.mul_one], fun u hu => by
        obtain ⟨_, _, rfl⟩ := List.mem_map.1 hu
        rfl⟩, by simp, rep_vs _⟩
    · cases hs
  · split at hs
    · rename_i hl
      cases hs
      cases hg
      cases hy with
      | nil => exact ⟨[], ⟨hk, fun _ => rfl, run_firstCells_none w esz 0 0 0, run_firstCells_none w.drew esz 0 0 0, by simp, fun _ h => by cases h⟩, .nil⟩
      | @emp _ _ b o s => exact ⟨[], ⟨hk, fun _ => rfl, run_firstCells_some w esz 0 ⟨b, o, some s⟩ 0 0 [] (by simp) (fun j u hu => by simp at hu), run_firstCells_some w.drew esz 0 ⟨b, o, some s⟩ 0 0 [] (by simp) (fun j u hu => by simp at hu), by simp, fun _ h => by cases h⟩, .nil⟩
      | il hvl hS hc h1 hr hn hf => exact ⟨_, ofCells _ _ _ _ (by rw [hvl, hl]) hc h1, Reps.none ⟨hvl, hr⟩⟩
    · cases hs
  · split at hs
    · rename_i he
      subst he
      cases hs
      obtain ⟨b, hb1, rfl⟩ := getAll_one hb
      cases b with
      | cells cs =>
        simp only at hg
        split at hg
        · rename_i hle
          cases hg
          cases hy with
          | ref hf q1 q2 q3 q4 =>
            obtain ⟨l', hl', hB⟩ := wf.hp.live _ _ hb1
            rw [hf] at hl'; cases hl'
            obtain ⟨vals, v1, v2, v3, v4⟩ := hB.take _ _ hle
            exact ⟨vals, ofCells _ _ _ _ v1 v4 v2, v3⟩
        · cases hg
      | map es => cases hg
      | bld u es => cases hg
    · cases hs
  · cases hs
/-! ### Kill and move -/
theorem wf_kill {S w f h} (wf : Wf S w f h) (id : Nat) : Wf S w f (upd h id none) ∧ Step (fun _ => True) S w f h S w f (upd h id none) := by
  have hsub : ∀ j, upd h id none j ≠ none → h j ≠ none := fun j hj => by
    by_cases e : j = id
    · subst e; simp at hj
    · rwa [upd_other _ _ e] at hj
  have hown : ∀ b, Own f (upd h id none) b → Own f h b := fun b ⟨j, l, h1, h2, h3⟩ => ⟨j, l, hsub j h1, h2, h3⟩
  refine ⟨⟨⟨fun j k hk => ?_, fun i j li lj hi hj => wf.hp.inj i j li lj (hsub i hi) (hsub j hj)⟩, fun b hb => ⟨(wf.st b hb).1, fun h => (wf.st b hb).2 (hown b h)⟩, wf.gl⟩,
    ⟨.refl _ _, fun b hb => .inl (hown b hb), fun _ h => h, fun _ h => .inl h, fun _ _ _ h => h⟩⟩
  by_cases e : j = id
  · subst e; simp at hk
  · rw [upd_other _ _ e] at hk; exact wf.hp.live j k hk
theorem wf_move {S w f h} (wf : Wf S w f h) {id nid : Nat} {cs : List AV} {l : Loc} (hk : h id = some (.cells cs)) (hl : f id = some l) (hn : f nid = none) (off k : Nat) (hle : off + k ≤ cs.length) :
    Wf S w (upd f nid (some ⟨l.b, l.base + off, l.n⟩)) (upd (upd h id none) nid (some (.cells ((cs.drop off).take k)))) ∧
      Step (fun _ => True) S w f h S w (upd f nid (some ⟨l.b, l.base + off, l.n⟩)) (upd (upd h id none) nid (some (.cells ((cs.drop off).take k)))) := by
  have hne : nid ≠ id := fun e => by subst e; rw [hn] at hl; cases hl
  have hown : Own f h l.b := ⟨id, l, by rw [hk]; simp, hl, rfl⟩
  have hh : ∀ j, j ≠ nid → upd (upd h id none) nid (some (.cells ((cs.drop off).take k))) j = h j ∨ upd (upd h id none) nid (some (.cells ((cs.drop off).take k))) j = none := fun j hj => by
    rw [upd_other _ _ hj]
    by_cases e : j = id
    · subst e; simp
    · rw [upd_other _ _ e]; exact .inl rfl
  obtain ⟨l', hl', hB⟩ := wf.hp.live id _ hk
  rw [hl] at hl'; cases hl'
  obtain ⟨arr, t, a1, a2, a3, a4, a5⟩ := hB
  refine ⟨wf_put wf (id' := nid) (l' := ⟨l.b, l.base + off, l.n⟩) (fun j hj => upd_other _ _ hj) (upd_same _ _ _) hh (upd_same _ _ _) (Nat.le_refl _) (fun _ _ _ => rfl) (fun j lj hj hnn hlj he => ?_) (fun hS => (wf.st _ hS).2 hown) (.inl hn) ?_,
    step_put (id' := nid) (l' := ⟨l.b, l.base + off, l.n⟩) (fun j hj => upd_other _ _ hj) (upd_same _ _ _) hh rfl rfl rfl (Nat.le_refl _) (fun _ _ _ => rfl) (.inl hn) (.inl hown)⟩
  · rw [upd_other _ _ hj] at hnn
    have e : j ≠ id := fun e => by subst e; simp at hnn
    rw [upd_other _ _ e] at hnn
    exact e (wf.hp.inj j id lj l hnn (by rw [hk]; simp) hlj hl he)
  · refine ⟨arr, t, a1, a2, by simp; omega, a4, fun i x y hx hy => ?_⟩
    rw [List.getElem?_take] at hx
    split at hx
    · rw [List.getElem?_drop] at hx
      exact (a5 (off + i) x y hx (by rw [← hy]; simp only; congr 1; omega)).mono (fun _ h => h) (fun _ _ => rfl) (upd_ext hn)
    · cases hx
/-! ### append -/
theorem nextslicecap_le (need cap : Nat) (h : cap < need) : Builtin.nextslicecap need cap ≤ 2 * need + 192 := by
  unfold Builtin.nextslicecap
  split
  · omega
  · split
    · omega
    · have grow : ∀ r c, c ≤ 2 * need + 192 → Builtin.growBy need r c ≤ 2 * need + 192 := fun r => by
        induction r with
        | zero => intro c hc; exact hc
        | succ r ih =>
          intro c hc
          simp only [Builtin.growBy]
          split
          · exact hc
          · exact ih _ (by omega)
      exact grow 4 cap (by omega)
theorem cap_bytes (need cap bytes : Nat) (h : cap < need) (hs : need * (bytes + 1) ≤ 1099511627776) : Builtin.nextslicecap need cap * bytes ≤ 281474976710656 := by
  have h1 := nextslicecap_le need cap h
  have h2 : Builtin.nextslicecap need cap * bytes ≤ (2 * need + 192) * bytes := Nat.mul_le_mul_right _ h1
  have h3 : (2 * need + 192) * bytes ≤ 194 * (need * (bytes + 1)) := by
    have : (2 * need + 192) ≤ 194 * need := by omega
    calc (2 * need + 192) * bytes ≤ (194 * need) * bytes := Nat.mul_le_mul_right _ this
      _ ≤ (194 * need) * (bytes + 1) := Nat.mul_le_mul_left _ (by omega)
      _ = 194 * (need * (bytes + 1)) := by rw [Nat.mul_assoc]
  omega
theorem run_append_room' {P : Program} (w : World) (t tx ty e : TypeId) (i : TypeInfo) (ht : P.underlying t = some (.slice e)) (hi : P.info? e = some i) (a : Addr) (sLen sCap : Nat) (x : Value) (n : Nat) (news : List Value) (hs : Src P i.size tx x n news w)
    (hroom : sLen + n ≤ sCap) :
    (Builtin.append_ #[t, tx] ty #[.slice (some a) sLen sCap, x]).run P w = ((storeCells (a.add (sLen * i.size)) news).run P w).andThen fun _ w' => .ok (.slice (some a) (sLen + n) sCap) w' := by
  rcases hs.kind with ⟨e', hk⟩ | hk <;> simp [Builtin.append_, run_underlying ht, run_underlying hk, sizeOf, typeInfo, hi, hs.len, hroom, hs.cells]
theorem run_append_nothing' {P : Program} (w : World) (t tx ty e : TypeId) (i : TypeInfo) (ht : P.underlying t = some (.slice e)) (hi : P.info? e = some i) (a : Option Addr) (sLen sCap : Nat) (x : Value) (hs : Src P i.size tx x 0 [] w)
    (hroom : sLen ≤ sCap) :
    (Builtin.append_ #[t, tx] ty #[.slice a sLen sCap, x]).run P w = .ok (.slice a sLen sCap) w := by
  rcases hs.kind with ⟨e', hk⟩ | hk <;> cases a <;> simp [Builtin.append_, run_underlying ht, run_underlying hk, sizeOf, typeInfo, hi, hs.len, hroom, hs.cells, storeCells]
def effApp (esz bytes : Nat) (x y : AV) : Option Eff :=
  match src esz y with
  | none => none
  | some (n, ids, g) =>
    match x with
    | .v (.slice none 0 0) => some ⟨ids, [], fun bs nid => match g bs with
      | none => none
      | some ys => if n = 0 then some ⟨.v (.slice none 0 0), [], none⟩ else if n * (bytes + 1) ≤ 1099511627776 then some ⟨.ref nid 0 n esz none, [], some (.cells ys)⟩ else none⟩
    | .il cells len full => some ⟨ids, [], fun bs nid => match g bs with
      | none => none
      | some ys => if n = 0 then some ⟨.il cells len full, [], none⟩
        else if full = true ∧ cells.length = len * esz ∧ (len + n) * (bytes + 1) ≤ 1099511627776 then some ⟨.ref nid 0 (len + n) esz none, [], some (.cells (cells ++ ys))⟩ else none⟩
    | .ref id off len esz' cap =>
      if esz' ≠ esz then none else
      match cap with
      | some c =>
        if len + n ≤ c then some ⟨id :: ids, [id], fun bs nid => match bs with
          | .cells cs :: rest => match g rest with
            | none => none
            | some ys => if off + len * esz ≤ cs.length then some ⟨.ref id off (len + n) esz (some c), [some (.cells (splice cs (off + len * esz) ys))], none⟩ else none
          | _ => none⟩
        else some ⟨id :: ids, [], fun bs nid => match bs with
          | .cells cs :: rest => match g rest with
            | none => none
            | some ys => if off + len * esz ≤ cs.length ∧ (len + n) * (bytes + 1) ≤ 1099511627776 then some ⟨.ref nid 0 (len + n) esz none, [], some (.cells ((cs.drop off).take (len * esz) ++ ys))⟩ else none
          | _ => none⟩
      | none => some ⟨id :: ids, [id], fun bs nid => match bs with
          | .cells cs :: rest => match g rest with
            | none => none
            | some ys =>
              if n = 0 then some ⟨.ref id off len esz none, [some (.cells cs)], none⟩
              else if 0 < esz ∧ off + (len + n) * esz ≤ cs.length then some ⟨.ref id off (len + n) esz none, [some (.cells (splice cs (off + len * esz) ys))], none⟩
              else if off + len * esz ≤ cs.length ∧ (len + n) * (bytes + 1) ≤ 1099511627776 then some ⟨.ref nid 0 (len + n) esz none, [none], some (.cells ((cs.drop off).take (len * esz) ++ ys))⟩ else none
          | _ => none⟩
    | _ => none
theorem grow_ok {P : Program} {S w f h} (wf : Wf S w f h) {nid : Nat} (hn : f nid = none) {t tx ty e : TypeId} {i : TypeInfo} {z : Value} (ht : P.underlying t = some (.slice e)) (hi : P.info? e = some i) (hz : i.zero = some z)
    (hzs : z.cells.size = i.size) (hz1 : ∀ v ∈ z.cells.toList, v.oneCell' = true) (base : Option Addr) (sLen sCap : Nat) {olds : List Value} {xs : List AV}
    (hold : (Builtin.firstCells i.size sLen (.slice base sLen sCap)).run P w.drew = .ok olds.toArray w.drew) (hol : olds.length = sLen * i.size) (ho1 : ∀ v ∈ olds, v.oneCell' = true) (hor : Reps S w f xs olds)
    {u : Value} {n : Nat} {news : List Value} {ys : List AV} (hs : Src P i.size tx u n news w) (hyr : Reps S w f ys news) (hg : sCap < sLen + n) (hsz : (sLen + n) * (i.bytes + 1) ≤ 1099511627776) :
    ∃ y w' f', (do pure (Next.value (← Builtin.append_ #[t, tx] ty #[.slice base sLen sCap, u])) : Sem Next).run P w = .ok (.value y) w' ∧ Rep S w' f' (.ref nid 0 (sLen + n) i.size none) y ∧
      Wf S w' f' (upd h nid (some (.cells (xs ++ ys)))) ∧ Step (fun _ => True) S w f h S w' f' (upd h nid (some (.cells (xs ++ ys)))) ∧ (∀ j, j ≠ nid → f' j = f j) := by
  have hneed : sLen + n ≤ 1099511627776 := Nat.le_trans (Nat.le_mul_of_pos_right _ (by omega)) hsz
  have hrun := run_append_grow_src (P := P) w t tx ty e i z ht hi hz base sLen sCap olds hold u n news hs hg (by omega) (cap_bytes _ _ _ hg hsz)
  generalize hgc : grownCap w (sLen + n) sCap e = gc at hrun
  have hgc2 : sLen + n ≤ gc := by rw [← hgc]; unfold grownCap; exact Nat.le_add_right _ _
  have hsize : ((olds ++ news).toArray ++ Builtin.zeroCells z.cells (gc - (sLen + n))).size = gc * i.size := by
    simp only [Array.size_append, List.size_toArray, List.length_append, Builtin.zeroCells, Array.size_map, Array.size_range, hzs, hol, hs.newsLen]
    rw [← Nat.add_mul, ← Nat.add_mul]; congr 1; omega
  have hext : ∀ id l, f id = some l → upd f nid (some ⟨w.heap.size, 0, gc * i.size⟩) id = some l := upd_ext hn
  have hheap : (w.drew.alloc (.cells ((olds ++ news).toArray ++ Builtin.zeroCells z.cells (gc - (sLen + n))) e)).heap = w.heap.push (.cells ((olds ++ news).toArray ++ Builtin.zeroCells z.cells (gc - (sLen + n))) e) := rfl
  have hstab : ∀ b, S b → (w.drew.alloc (.cells ((olds ++ news).toArray ++ Builtin.zeroCells z.cells (gc - (sLen + n))) e)).heap[b]? = w.heap[b]? := fun b hb => Go.RowKit.Below.heap_alloc w.drew _ _ (wf.st b hb).1
  have h1 := wf_alloc wf hn (w' := w.drew.alloc (.cells ((olds ++ news).toArray ++ Builtin.zeroCells z.cells (gc - (sLen + n))) e)) (k := .cells (xs ++ ys)) (n := gc * i.size) hheap rfl rfl rfl (by
    have e0 := hor.1
    have e1 := hyr.1
    have e2 := hs.newsLen
    have e3 : (sLen + n) * i.size ≤ gc * i.size := Nat.mul_le_mul_right _ hgc2
    have e4 : (sLen + n) * i.size = sLen * i.size + n * i.size := Nat.add_mul _ _ _
    refine ⟨_, e, by rw [hheap]; simp, hsize, by simp only [List.length_append]; omega, fun j x hx => ?_, fun j x y hx hy => ?_⟩
    · have hm := Array.mem_of_getElem? hx
      rw [Array.mem_append] at hm
      rcases hm with hm | hm
      · simp only [List.mem_toArray, List.mem_append] at hm
        rcases hm with hm | hm
        · exact ho1 x hm
        · exact hs.one x hm
      · unfold Builtin.zeroCells at hm
        simp only [Array.mem_map, Array.mem_range] at hm
        obtain ⟨q, hq, rfl⟩ := hm
        have hq2 : q % z.cells.size < z.cells.size := Nat.mod_lt _ (by
          rcases Nat.eq_zero_or_pos z.cells.size with h0 | h0
          · rw [h0] at hq; simp at hq
          · exact h0)
        rw [show z.cells[q % z.cells.size]! = z.cells[q % z.cells.size] from getElem!_pos z.cells _ hq2]
        exact hz1 _ (by simp)
    · simp only [Nat.zero_add] at hy
      have hj : j < (xs ++ ys).length := (List.getElem?_eq_some_iff.1 hx).1
      simp only [List.length_append] at hj
      rw [Array.getElem?_append_left (by simp; omega), List.getElem?_toArray] at hy
      refine Rep.mono ?_ (fun _ h => h) hstab hext
      rw [List.getElem?_append] at hx hy
      by_cases c : j < xs.length
      · rw [if_pos c] at hx
        rw [if_pos (by omega)] at hy
        exact hor.2 j x y hx hy
      · rw [if_neg c] at hx
        rw [if_neg (by omega)] at hy
        exact hyr.2 (j - xs.length) x y hx (by rw [← hy]; congr 1; omega))
  refine ⟨_, _, _, by rw [Sem.run_bind, hrun]; rfl, ?_, h1.1, h1.2, fun j hj => upd_other _ _ hj⟩
  have := Rep.ref (S := S) (w := w.drew.alloc (.cells ((olds ++ news).toArray ++ Builtin.zeroCells z.cells (gc - (sLen + n))) e)) (off := 0) (len := sLen + n) (esz := i.size) (cap := none) (c := gc) (upd_same f nid (some (⟨w.heap.size, 0, gc * i.size⟩ : Loc))) (fun k hk => by cases hk) (fun _ => by simp) (by simp) hgc2
  simpa using this
end Go.Sx
end
section
namespace Go.Sx
theorem exec_inv {E : Eff} {h : Heap} {id : Nat} {v h'} (he : E.exec h id = some (v, h')) : ∃ bs r, getAll h E.rs = some bs ∧ E.k bs id = some r ∧ v = r.v ∧
    h' = (match r.nb with | none => setAll h E.ws r.outs | some nb => upd (setAll h E.ws r.outs) id (some nb)) := by
  unfold Eff.exec at he
  split at he
  · cases he
  · rename_i bs hb
    split at he
    · cases he
    · rename_i r hr
      refine ⟨bs, r, hb, hr, ?_, ?_⟩
      · split at he <;> simp_all
      · split at he <;> simp_all
theorem getAll_cons {h : Heap} {id : Nat} {ids : List Nat} {bs : List Blk} (hb : getAll h (id :: ids) = some bs) : ∃ b rest, h id = some b ∧ getAll h ids = some rest ∧ bs = b :: rest := by
  simp only [getAll] at hb
  split at hb
  · rename_i b rest h1 h2
    exact ⟨b, rest, h1, h2, by simpa using hb.symm⟩
  · cases hb
theorem good_app {P S w f h nid x y u v t tx ty e i z} {E : Eff} (ht : P.underlying t = some (.slice e)) (hk : (∃ e', P.underlying tx = some (.slice e')) ∨ P.underlying tx = some .string) (hi : P.info? e = some i) (hz : i.zero = some z)
    (hzs : z.cells.size = i.size) (hz1 : z.cells.toList.all (·.oneCell') = true)
    (hx : Rep S w f x u) (hy : Rep S w f y v) (hE : effApp i.size i.bytes x y = some E) : Good P E (do pure (.value (← Builtin.append_ #[t, tx] ty #[u, v]))) S w f h nid := by
  intro wf hn v' h' he
  have hz1' : ∀ v ∈ z.cells.toList, v.oneCell' = true := fun v hv => by simpa using List.all_eq_true.1 hz1 v hv
  unfold effApp at hE
  split at hE
  · cases hE
  rename_i n ids g hs
  split at hE
  · -- nil
    cases hE
    cases hx
    obtain ⟨bs, r, hb, hr, rfl, rfl⟩ := exec_inv he
    simp only at hb hr
    split at hr
    · cases hr
    rename_i ys hg
    obtain ⟨news, hsrc, hyr⟩ := src_ok (P := P) (tx := tx) hk wf hy hs hb hg
    split at hr
    · rename_i h0
      subst h0; cases hr
      have : news = [] := List.length_eq_zero_iff.1 (by simpa using hsrc.newsLen)
      subst this
      exact ⟨_, .slice none 0 0, w, f, by rw [Sem.run_bind, run_append_nothing' w t tx ty e i ht hi none 0 0 v hsrc (Nat.le_refl _)]; rfl, .inl rfl, .v _, wf, .refl _ _ _ _ _, fun _ _ => rfl⟩
    · split at hr
      · rename_i h0 hsz
        cases hr
        have := grow_ok wf hn (ty := ty) ht hi hz hzs hz1' none 0 0 (olds := []) (xs := []) (run_firstCells_none w.drew i.size 0 0 0) (by simp) (fun _ h => by cases h) .nil hsrc hyr (by omega) (by simpa using hsz)
        simp only [Nat.zero_add, List.nil_append] at this
        obtain ⟨y', w', f', h1, h2, h3, h4, h5⟩ := this
        exact ⟨_, y', w', f', h1, .inl rfl, h2, by simpa [setAll] using h3, by simpa [setAll] using h4, h5⟩
      · cases hr
  · -- immutable
    rename_i cells len full
    cases hE
    obtain ⟨bs, r, hb, hr, rfl, rfl⟩ := exec_inv he
    simp only at hb hr
    split at hr
    · cases hr
    rename_i ys hg
    obtain ⟨news, hsrc, hyr⟩ := src_ok (P := P) (tx := tx) hk wf hy hs hb hg
    split at hr
    · rename_i h0
      subst h0; cases hr
      have : news = [] := List.length_eq_zero_iff.1 (by simpa using hsrc.newsLen)
      subst this
      refine ⟨_, u, w, f, ?_, .inl rfl, hx, wf, .refl _ _ _ _ _, fun _ _ => rfl⟩
      cases hx with
      | nil => rw [Sem.run_bind, run_append_nothing' w t tx ty e i ht hi none 0 0 v hsrc (Nat.le_refl _)]; rfl
      | emp => rw [Sem.run_bind, run_append_nothing' w t tx ty e i ht hi _ 0 0 v hsrc (Nat.le_refl _)]; rfl
      | il hvl hS hc h1 hr hn hf => rw [Sem.run_bind, run_append_nothing' w t tx ty e i ht hi _ _ _ v hsrc hn]; rfl
    · split at hr
      · rename_i h0 hb2
        obtain ⟨hfull, hcl, hsz⟩ := hb2
        cases hr
        cases hx with
        | nil =>
          have := grow_ok wf hn (ty := ty) ht hi hz hzs hz1' none 0 0 (olds := []) (xs := []) (run_firstCells_none w.drew i.size 0 0 0) (by simp) (fun _ h => by cases h) .nil hsrc hyr (by omega) (by simpa using hsz)
          simp only [Nat.zero_add, List.nil_append] at this
          obtain ⟨y', w', f', h1, h2, h3, h4, h5⟩ := this
          exact ⟨_, y', w', f', h1, .inl rfl, by simpa using h2, by simpa [setAll] using h3, by simpa [setAll] using h4, h5⟩
        | @emp _ _ b o s =>
          have := grow_ok wf hn (ty := ty) ht hi hz hzs hz1' (some ⟨b, o, some s⟩) 0 0 (olds := []) (xs := []) (run_firstCells_some w.drew i.size 0 ⟨b, o, some s⟩ 0 0 [] (by simp) (fun j u hu => by simp at hu)) (by simp) (fun _ h => by cases h) .nil hsrc hyr (by omega) (by simpa using hsz)
          simp only [Nat.zero_add, List.nil_append] at this
          obtain ⟨y', w', f', h1, h2, h3, h4, h5⟩ := this
          exact ⟨_, y', w', f', h1, .inl rfl, by simpa using h2, by simpa [setAll] using h3, by simpa [setAll] using h4, h5⟩
        | @il _ _ _ _ vals b o c hvl hS hc h1 hr hle hf =>
          have hc' := hf hfull
          subst hc'
          have hold : (Builtin.firstCells i.size c (.slice (some ⟨b, o, none⟩) c c)).run P w.drew = .ok vals.toArray w.drew :=
            run_firstCells_some w.drew i.size c ⟨b, o, none⟩ c c vals (by rw [hvl, hcl]) (fun j u hu => by rw [add_lit, World.cell?_drew]; exact hc j u hu)
          obtain ⟨y', w', f', h1', h2, h3, h4, h5⟩ := grow_ok wf hn (ty := ty) ht hi hz hzs hz1' (some ⟨b, o, none⟩) c c (xs := cells) hold (by rw [hvl, hcl]) h1 (Reps.none ⟨hvl, hr⟩) hsrc hyr (by omega) hsz
          exact ⟨_, y', w', f', h1', .inl rfl, h2, by simpa [setAll] using h3, by simpa [setAll] using h4, h5⟩
      · cases hr
  · -- a block of the heap
    rename_i id off len esz' cap
    split at hE
    · cases hE
    rename_i hesz
    have hesz' : esz' = i.size := Classical.not_not.1 hesz
    subst hesz'
    cases hx with
    | @ref _ _ _ _ _ _ c L hf q1 q2 q3 q4 =>
    -- growing out of a block
    have grow : ∀ (cs : List AV), h id = some (.cells cs) → off + len * i.size ≤ cs.length → c < len + n → (len + n) * (i.bytes + 1) ≤ 1099511627776 →
        ∀ {news ys}, Src P i.size tx v n news w → Reps S w f ys news →
        ∃ y w' f', (do pure (Next.value (← Builtin.append_ #[t, tx] ty #[.slice (some ⟨L.b, L.base + off, none⟩) len c, v])) : Sem Next).run P w = .ok (.value y) w' ∧ Rep S w' f' (.ref nid 0 (len + n) i.size none) y ∧
          Wf S w' f' (upd h nid (some (.cells ((cs.drop off).take (len * i.size) ++ ys)))) ∧ Step (fun _ => True) S w f h S w' f' (upd h nid (some (.cells ((cs.drop off).take (len * i.size) ++ ys)))) ∧ (∀ j, j ≠ nid → f' j = f j) :=
      fun cs hb1 hle hlt hsz news ys hsrc hyr => by
        obtain ⟨l', hl', hB⟩ := wf.hp.live _ _ hb1
        rw [hf] at hl'; cases hl'
        obtain ⟨vals, v1, v2, v3, v4⟩ := hB.take _ _ hle
        have hold : (Builtin.firstCells i.size len (.slice (some ⟨L.b, L.base + off, none⟩) len c)).run P w.drew = .ok vals.toArray w.drew :=
          run_firstCells_some w.drew i.size len _ len c vals v1 (fun j u hu => by rw [add_lit, World.cell?_drew]; exact v4 j u hu)
        exact grow_ok wf hn (ty := ty) ht hi hz hzs hz1' _ len c hold v1 v2 v3 hsrc hyr hlt hsz
    -- in place
    have room : ∀ (cs : List AV), h id = some (.cells cs) → off + len * i.size ≤ cs.length → len + n ≤ c → ∀ {news ys}, Src P i.size tx v n news w → Reps S w f ys news →
        ∃ w', (do pure (Next.value (← Builtin.append_ #[t, tx] ty #[.slice (some ⟨L.b, L.base + off, none⟩) len c, v])) : Sem Next).run P w = .ok (.value (.slice (some ⟨L.b, L.base + off, none⟩) (len + n) c)) w' ∧
          Wf S w' f (upd h id (some (.cells (splice cs (off + len * i.size) ys)))) ∧ Step (fun _ => True) S w f h S w' f (upd h id (some (.cells (splice cs (off + len * i.size) ys)))) :=
      fun cs hb1 hle hlt news ys hsrc hyr => by
        have e1 : (len + n) * i.size ≤ c * i.size := Nat.mul_le_mul_right _ hlt
        have e2 : (len + n) * i.size = len * i.size + n * i.size := Nat.add_mul _ _ _
        have e3 := hsrc.newsLen
        obtain ⟨w', hst, hwf, hstep⟩ := store_cells (P := P) wf hb1 hf (off + len * i.size) ys news hle (by omega) hsrc.one hyr
        refine ⟨w', ?_, hwf, hstep⟩
        rw [Sem.run_bind, run_append_room' w t tx ty e i ht hi _ len c v n news hsrc hlt, add_lit, Nat.add_assoc, hst]
        rfl
    split at hE
    · rename_i c0
      have hc0 := q1 c0 rfl
      subst hc0
      split at hE
      · rename_i hroom
        cases hE
        obtain ⟨bs, r, hb, hr, rfl, rfl⟩ := exec_inv he
        obtain ⟨b, rest, hb1, hb2, rfl⟩ := getAll_cons hb
        simp only at hr
        split at hr
        · rename_i cs rest' heq
          simp only [List.cons.injEq] at heq
          obtain ⟨rfl, rfl⟩ := heq
          split at hr
          · cases hr
          rename_i ys hg
          obtain ⟨news, hsrc, hyr⟩ := src_ok (P := P) (tx := tx) hk wf hy hs hb2 hg
          split at hr
          · rename_i hle
            cases hr
            obtain ⟨w', h1, h2, h3⟩ := room cs hb1 hle hroom hsrc hyr
            exact ⟨_, _, w', f, h1, .inl rfl, .ref hf (fun k hk => by cases hk; rfl) (fun hk => by cases hk) q3 hroom, by simpa [setAll] using h2, by simpa [setAll] using h3, fun _ _ => rfl⟩
          · cases hr
        · cases hr
      · rename_i hroom
        cases hE
        obtain ⟨bs, r, hb, hr, rfl, rfl⟩ := exec_inv he
        obtain ⟨b, rest, hb1, hb2, rfl⟩ := getAll_cons hb
        simp only at hr
        split at hr
        · rename_i cs rest' heq
          simp only [List.cons.injEq] at heq
          obtain ⟨rfl, rfl⟩ := heq
          split at hr
          · cases hr
          rename_i ys hg
          obtain ⟨news, hsrc, hyr⟩ := src_ok (P := P) (tx := tx) hk wf hy hs hb2 hg
          split at hr
          · rename_i hle
            cases hr
            obtain ⟨y', w', f', h1, h2, h3, h4, h5⟩ := grow cs hb1 hle.1 (by omega) hle.2 hsrc hyr
            exact ⟨_, y', w', f', h1, .inl rfl, h2, by simpa [setAll] using h3, by simpa [setAll] using h4, h5⟩
          · cases hr
        · cases hr
    · cases hE
      obtain ⟨bs, r, hb, hr, rfl, rfl⟩ := exec_inv he
      obtain ⟨b, rest, hb1, hb2, rfl⟩ := getAll_cons hb
      simp only at hr
      have q2' := q2 rfl
      split at hr
      · rename_i cs rest' heq
        simp only [List.cons.injEq] at heq
        obtain ⟨rfl, rfl⟩ := heq
        split at hr
        · cases hr
        rename_i ys hg
        obtain ⟨news, hsrc, hyr⟩ := src_ok (P := P) (tx := tx) hk wf hy hs hb2 hg
        split at hr
        · rename_i h0
          subst h0; cases hr
          have : news = [] := List.length_eq_zero_iff.1 (by simpa using hsrc.newsLen)
          subst this
          have hsame : upd h id (some (.cells cs)) = h := by
            funext j
            by_cases e : j = id
            · subst e; simp [hb1]
            · rw [upd_other _ _ e]
          exact ⟨_, _, w, f, by rw [Sem.run_bind, run_append_nothing' w t tx ty e i ht hi _ len c v hsrc q4]; rfl, .inl rfl, .ref hf q1 q2 q3 q4, by simpa [setAll, hsame] using wf, by simpa [setAll, hsame] using Step.refl _ _ _ _ _, fun _ _ => rfl⟩
        · rename_i h0
          split at hr
          · rename_i hle
            cases hr
            obtain ⟨l', hl', hB⟩ := wf.hp.live _ _ hb1
            rw [hf] at hl'; cases hl'
            have hlen : len + n ≤ c := by
              obtain ⟨arr, tt, a1, a2, a3, a4, a5⟩ := hB
              have h5 : (len + n) * i.size ≤ c * i.size := by omega
              exact Nat.le_of_mul_le_mul_right h5 hle.1
            have e2 : (len + n) * i.size = len * i.size + n * i.size := Nat.add_mul _ _ _
            obtain ⟨w', h1, h2, h3⟩ := room cs hb1 (by omega) hlen hsrc hyr
            exact ⟨_, _, w', f, h1, .inl rfl, .ref hf q1 q2 q3 hlen, by simpa [setAll] using h2, by simpa [setAll] using h3, fun _ _ => rfl⟩
          · split at hr
            · rename_i hnle hle
              cases hr
              by_cases hroom : len + n ≤ c
              · obtain ⟨w', h1, h2, h3⟩ := room cs hb1 hle.1 hroom hsrc hyr
                have e2 : (len + n) * i.size = len * i.size + n * i.size := Nat.add_mul _ _ _
                have e3 := hsrc.newsLen
                have e4 := hyr.1
                have hlen : off + (len + n) * i.size ≤ (splice cs (off + len * i.size) ys).length := by
                  rw [splice_len _ _ _ hle.1]; omega
                obtain ⟨h4, h5⟩ := wf_move h2 (id := id) (nid := nid) (l := L) (upd_same _ _ _) hf hn off ((len + n) * i.size) hlen
                have hcs : ((splice cs (off + len * i.size) ys).drop off).take ((len + n) * i.size) = (cs.drop off).take (len * i.size) ++ ys := by
                  apply List.ext_getElem?
                  intro j
                  rw [List.getElem?_take, List.getElem?_drop, splice_get _ _ _ hle.1, List.getElem?_append]
                  simp only [List.length_take, List.length_drop, List.getElem?_take, List.getElem?_drop]
                  by_cases c1 : j < len * i.size
                  · have a1 : j < (len + n) * i.size := by omega
                    have a2 : ¬ (off + len * i.size ≤ off + j ∧ off + j < off + len * i.size + ys.length) := by omega
                    have a3 : j < min (len * i.size) (cs.length - off) := by omega
                    rw [if_pos a1, if_neg a2, if_pos a3, if_pos c1]
                  · have a3 : ¬ j < min (len * i.size) (cs.length - off) := by omega
                    rw [if_neg a3]
                    have a4 : min (len * i.size) (cs.length - off) = len * i.size := by omega
                    rw [a4]
                    by_cases c2 : j < (len + n) * i.size
                    · have a2 : (off + len * i.size ≤ off + j ∧ off + j < off + len * i.size + ys.length) := by omega
                      rw [if_pos c2, if_pos a2]; congr 1; omega
                    · rw [if_neg c2, List.getElem?_eq_none (by omega)]
                rw [hcs] at h4 h5
                have hupd : upd (upd (upd h id (some (.cells (splice cs (off + len * i.size) ys)))) id none) nid (some (.cells ((cs.drop off).take (len * i.size) ++ ys))) = upd (upd h id none) nid (some (.cells ((cs.drop off).take (len * i.size) ++ ys))) := by
                  funext j; simp only [upd]; repeat' split
                  all_goals rfl
                rw [hupd] at h4 h5
                refine ⟨_, _, w', _, h1, .inl rfl, ?_, by simpa [setAll] using h4, by simpa [setAll] using h3.trans h5, fun j hj => upd_other _ _ hj⟩
                have := Rep.ref (S := S) (w := w') (off := 0) (len := len + n) (esz := i.size) (cap := none) (c := c) (upd_same f nid (some (⟨L.b, L.base + off, L.n⟩ : Loc))) (fun k hk => by cases hk) (fun _ => by simpa using q2') (by simpa using q3) hroom
                simpa using this
              · obtain ⟨y', w', f', h1, h2, h3, h4, h5⟩ := grow cs hb1 hle.1 (by omega) hle.2 hsrc hyr
                obtain ⟨h6, h7⟩ := wf_kill h3 id
                have hne : nid ≠ id := fun e => by subst e; rw [hn] at hf; cases hf
                have hupd : upd (upd h nid (some (.cells ((cs.drop off).take (len * i.size) ++ ys)))) id none = upd (upd h id none) nid (some (.cells ((cs.drop off).take (len * i.size) ++ ys))) := by
                  funext j; simp only [upd]
                  by_cases e1 : j = id
                  · subst e1; simp [Ne.symm hne]
                  · by_cases e2 : j = nid
                    · subst e2; simp [hne]
                    · simp [e1, e2]
                rw [hupd] at h6 h7
                exact ⟨_, y', w', f', h1, .inl rfl, h2, by simpa [setAll] using h6, by simpa [setAll] using h4.trans h7, h5⟩
            · cases hr
      · cases hr
  · cases hE
end Go.Sx
end
section
namespace Go.Sx
/-! ### Filled aggregates -/
def fillA : List AV → List (Nat × Nat × AV) → Option (List AV)
  | cs, [] => some cs
  | cs, (off, size, x) :: r => match x.cells? with
    | some ys => if ys.length = size ∧ off + size ≤ cs.length then fillA (splice cs off ys) r else none
    | none => none
theorem foldl_set (off : Nat) : ∀ (l : List Value) (k : Nat) (arr : Array Value), off + k + l.length ≤ arr.size →
    ((l.zipIdx k).foldl (fun cs (p : Value × Nat) => cs.setIfInBounds (off + p.2) p.1) arr).toList = arr.toList.take (off + k) ++ l ++ arr.toList.drop (off + k + l.length)
  | [], k, arr, h => by simp
  | v :: l, k, arr, h => by
    have ih := foldl_set off l (k + 1) (arr.setIfInBounds (off + k) v) (by simp at h ⊢; omega)
    simp only [List.zipIdx_cons, List.foldl_cons]
    rw [ih]
    have e := list_seg_step arr.toList (off + k) v l (by simp at h ⊢; omega)
    simpa [Array.toList_setIfInBounds, Nat.add_assoc] using e
theorem reps_splice {S w f cs ys} {vals news : List Value} {off : Nat} (h : Reps S w f cs vals) (h2 : Reps S w f ys news) (hle : off + ys.length ≤ cs.length) :
    Reps S w f (splice cs off ys) (vals.take off ++ news ++ vals.drop (off + news.length)) := by
  have e1 := h.1
  have e2 := h2.1
  refine ⟨by simp [splice]; omega, fun i x y hx hy => ?_⟩
  rw [splice_get _ _ _ (by omega)] at hx
  rw [List.getElem?_append, List.getElem?_append] at hy
  simp only [List.length_append, List.length_take, List.getElem?_take, List.getElem?_drop] at hy
  rw [Nat.min_eq_left (by omega)] at hy
  by_cases c1 : i < off
  · rw [if_neg (by omega)] at hx
    simp only [c1, if_true, show i < off + news.length by omega] at hy
    exact h.2 i x y hx hy
  · by_cases c2 : i < off + ys.length
    · rw [if_pos (by omega)] at hx
      rw [if_pos (by omega), if_neg c1] at hy
      exact h2.2 _ x y hx hy
    · rw [if_neg (by omega)] at hx
      rw [if_neg (by omega)] at hy
      exact h.2 i x y hx (by rw [← hy]; congr 1; omega)
theorem fill_ok {S w f} (place : Nat → Option (Nat × Nat)) : ∀ (parts : List (Nat × Nat × AV)) (parts' : List (Nat × Value)) (cs cs' : List AV) (vals : List Value),
    parts'.length = parts.length → (∀ (i : Nat) p q, parts[i]? = some p → parts'[i]? = some q → place q.1 = some (p.1, p.2.1) ∧ Rep S w f p.2.2 q.2) →
    Reps S w f cs vals → (∀ v ∈ vals, v.oneCell' = true) → fillA cs parts = some cs' →
    ∃ vals', Instr.fill place vals.toArray parts' = some vals'.toArray ∧ Reps S w f cs' vals' ∧ (∀ v ∈ vals', v.oneCell' = true) ∧ vals'.length = vals.length
  | [], [], cs, cs', vals, _, _, hr, h1, hf => by
    simp only [fillA, Option.some.injEq] at hf; subst hf
    exact ⟨vals, rfl, hr, h1, rfl⟩
  | [], _ :: _, _, _, _, hl, _, _, _, _ => by simp at hl
  | _ :: _, [], _, _, _, hl, _, _, _, _ => by simp at hl
  | (off, size, x) :: r, (i, v) :: r', cs, cs', vals, hl, hp, hr, h1, hf => by
    simp only [fillA] at hf
    obtain ⟨hpl, hrx⟩ := hp 0 (off, size, x) (i, v) rfl rfl
    simp only at hpl hrx
    split at hf
    · rename_i ys hys
      obtain ⟨h1y, hry⟩ := cells_rep hrx hys
      split at hf
      · rename_i hb
        have e1 := hry.1
        have e2 := hr.1
        have hfold := foldl_set off v.cells.toList 0 vals.toArray (by simp at e1 ⊢; omega)
        obtain ⟨vals', h3, h4, h5, h6⟩ := fill_ok place r r' (splice cs off ys) cs' (vals.take off ++ v.cells.toList ++ vals.drop (off + v.cells.toList.length)) (by simpa using hl)
          (fun j p q hp' hq' => hp (j + 1) p q (by simpa using hp') (by simpa using hq')) (reps_splice hr hry (by omega))
          (fun u hu => by
            simp only [List.mem_append] at hu
            rcases hu with (hu | hu) | hu
            · exact h1 u (List.mem_of_mem_take hu)
            · exact h1y u hu
            · exact h1 u (List.mem_of_mem_drop hu)) hf
        refine ⟨vals', ?_, h4, h5, by rw [h6]; simp; simp at e1; omega⟩
        simp only [Instr.fill, hpl]
        rw [if_neg (by simp at e1 ⊢; omega)]
        rw [← h3]
        congr 1
        apply Array.ext'
        rw [← Array.foldl_toList, Array.toList_zipIdx]
        simpa using hfold
      · cases hf
    · cases hf
def effBuild (zero : List Value) (parts : List (Nat × Nat × AV)) : Option Eff :=
  match fillA (zero.map .v) parts with
  | some cs => ret (.agg cs)
  | none => none
theorem good_build {P S w f h id t z} {zero : List Value} {parts : List (Nat × Nat × AV)} {parts' : List (Nat × Value)} {place : Nat → Option (Nat × Nat)} {E : Eff}
    (hz : (P.info? t).bind (·.zero) = some z) (hzc : z.cells.toList = zero) (h1 : zero.all (·.oneCell') = true)
    (hrun : ∀ cells : Array Value, Instr.fill place z.cells parts' = some cells → (Instr.build t parts'.toArray).run P w = .ok (.agg cells) w)
    (hl : parts'.length = parts.length) (hp : ∀ (i : Nat) p q, parts[i]? = some p → parts'[i]? = some q → place q.1 = some (p.1, p.2.1) ∧ Rep S w f p.2.2 q.2)
    (hE : effBuild zero parts = some E) : Good P E (do pure (.value (← Instr.build t parts'.toArray))) S w f h id := by
  unfold effBuild at hE
  split at hE
  · rename_i cs hcs
    have hzz : z.cells = zero.toArray := by subst hzc; simp
    obtain ⟨vals, h2, h3, h4, h5⟩ := fill_ok place parts parts' (zero.map .v) cs zero hl hp ⟨by simp, rep_vs _⟩ (fun v hv => by simpa using List.all_eq_true.1 h1 v hv) hcs
    refine good_pure hE (y := .agg vals.toArray) (by rw [Sem.run_bind, hrun _ (by rw [hzz]; exact h2)]; rfl) (.agg h3.1 h4 h3.2)
  · cases hE
theorem build_struct {P : Program} {w : World} {t fs z} {parts' : List (Nat × Value)} {places : Array (Nat × Nat)} (ht : P.underlying t = some (.struct fs)) (hz : (P.info? t).bind (·.zero) = some z)
    (hpl : (fs.mapM fun fd => do pure (fd.offset, ← sizeOf fd.type) : Sem (Array (Nat × Nat))).run P w = .ok places w) (cells : Array Value) (hf : Instr.fill (places[·]?) z.cells parts' = some cells) :
    (Instr.build t parts'.toArray).run P w = .ok (.agg cells) w := by
  cases hq : P.info? t with
  | none => simp [hq] at hz
  | some inf =>
    simp only [hq, Option.bind_some] at hz
    simp only [Instr.build, zeroValue, typeInfo, Sem.run_bind, run_program, Result.andThen_ok, hq, hz, Sem.run_pure, run_underlying ht, hpl, hf]
theorem build_array {P : Program} {w : World} {t n e z esz} {parts' : List (Nat × Value)} (ht : P.underlying t = some (.array n e)) (hz : (P.info? t).bind (·.zero) = some z)
    (he : (P.info? e).map (·.size) = some esz) (cells : Array Value) (hf : Instr.fill (fun i => some (i * esz, esz)) z.cells parts' = some cells) :
    (Instr.build t parts'.toArray).run P w = .ok (.agg cells) w := by
  cases hq : P.info? t with
  | none => simp [hq] at hz
  | some inf =>
    simp only [hq, Option.bind_some] at hz
    cases hq2 : P.info? e with
    | none => simp [hq2] at he
    | some inf2 =>
      have : inf2.size = esz := by simpa [hq2] using he
      subst this
      simp only [Instr.build, zeroValue, typeInfo, Sem.run_bind, run_program, Result.andThen_ok, hq, hz, Sem.run_pure, run_underlying ht, sizeOf, hq2, hf]
def effMks (len esz : Nat) (zeros : List Value) (parts : List (Nat × Nat × AV)) : Option Eff :=
  match fillA (zeros.map .v) parts with
  | some cs => effNew cs fun i => .ref i 0 len esz (some len)
  | none => none
theorem good_mks {P S w f h id t e esz len} {zeros : List Value} {parts : List (Nat × Nat × AV)} {parts' : List (Nat × Value)} {z : Value} {E : Eff}
    (ht : P.underlying t = some (.slice e)) (he : (P.info? e).map (·.size) = some esz) (hz : (P.info? e).bind (·.zero) = some z) (hpos : 0 < len * esz) (hmax : len * esz ≤ 16777216)
    (hzc : ((Array.range (len * esz)).map (z.cells[· % z.cells.size]!)).toList = zeros) (h1 : zeros.all (·.oneCell') = true)
    (hl : parts'.length = parts.length) (hp : ∀ (i : Nat) p q, parts[i]? = some p → parts'[i]? = some q → some (q.1 * esz, esz) = some (p.1, p.2.1) ∧ Rep S w f p.2.2 q.2)
    (hE : effMks len esz zeros parts = some E) : Good P E (do pure (.value (← Instr.buildSlice t len parts'.toArray))) S w f h id := by
  unfold effMks at hE
  split at hE
  · rename_i cs hcs
    obtain ⟨vals, h2, h3, h4, h5⟩ := fill_ok (fun i => some (i * esz, esz)) parts parts' (zeros.map .v) cs zeros hl hp ⟨by simp, rep_vs _⟩ (fun v hv => by simpa using List.all_eq_true.1 h1 v hv) hcs
    have hlen : vals.length = len * esz := by simp [h5, ← hzc]
    cases hq2 : P.info? e with
    | none => simp [hq2] at he
    | some inf2 =>
      have hsz : inf2.size = esz := by simpa [hq2] using he
      simp only [hq2, Option.bind_some] at hz
      have hzz : ((Array.range (len * esz)).map (z.cells[· % z.cells.size]!)) = zeros.toArray := by rw [← hzc]
      refine good_new (vals := vals) (t := e) hE (y := .slice (some ⟨w.heap.size, 0, none⟩) len len) ?_ h3 h4 (fun w' f' hf => ?_)
      · have hbig : ¬ (2 ^ 24 < len * esz) := by omega
        have hnz : ¬ (len * esz = 0) := by omega
        simp only [Instr.buildSlice, zeroValue, typeInfo, Sem.run_bind, run_program, Result.andThen_ok, hq2, hz, Sem.run_pure, run_underlying ht, sizeOf, hsz, hbig, hnz, if_false, hzz, h2, newRow, run_newObj, gt_iff_lt, World.alloc_eq]
      · have := Rep.ref (S := S) (w := w') (off := 0) (len := len) (esz := esz) (cap := some len) (c := len) hf (fun k hk => by cases hk; rfl) (fun hk => by cases hk) (by simp [hlen]) (Nat.le_refl _)
        simpa using this
  · cases hE
def effMks0 (esz : Nat) : Option Eff := effNew [] fun i => .ref i 0 0 esz (some 0)
theorem good_mks0 {P S w f h id t e esz} {E : Eff} (ht : P.underlying t = some (.slice e)) (he : (P.info? e).map (·.size) = some esz) (hE : effMks0 esz = some E) :
    Good P E (do pure (.value (← Instr.buildSlice t 0 #[]))) S w f h id := by
  cases hq2 : P.info? e with
  | none => simp [hq2] at he
  | some inf2 =>
    refine good_new (vals := []) (t := e) hE (y := .slice (some ⟨w.heap.size, 0, none⟩) 0 0) ?_ .nil (fun v hv => by cases hv) (fun w' f' hf => ?_)
    · have e0 : (Array.range 0).map (fun x => (#[] : Array Value)[x % 0]!) = #[] := by simp
      simp [Instr.buildSlice, typeInfo, hq2, run_underlying ht, sizeOf, newRow, Instr.fill, Array.range_zero']
    · have := Rep.ref (S := S) (w := w') (off := 0) (len := 0) (esz := esz) (cap := some 0) (c := 0) hf (fun k hk => by cases hk; rfl) (fun hk => by cases hk) (by simp) (Nat.le_refl _)
      simpa using this
def effMk (bytes : Nat) (z : Value) (l c : AV) : Option Eff :=
  match l.int?, c.int? with
  | some l, some c => if 0 ≤ l ∧ l ≤ c ∧ c.toNat * (bytes + 1) ≤ 1099511627776 then effNew (List.replicate c.toNat (.v z)) fun i => .ref i 0 l.toNat 1 (some c.toNat) else none
  | _, _ => none
theorem wrap_i64 (n : Int) (h0 : 0 ≤ n) (h1 : n ≤ 1099511627776) : IntKind.i64.wrap n = n := by
  have : IntKind.i64.wrap n = ((n + 9223372036854775808) % 18446744073709551616) - 9223372036854775808 := by
    simp [IntKind.wrap, IntKind.bits, IntKind.signed]
    omega
  omega
theorem good_mk {P S w f h id t e z l c l' c' inf} {E : Eff} (ht : P.underlying t = some (.slice e)) (he : P.info? e = some inf) (hes : inf.size = 1) (hz : inf.zero = some z) (hzc : z.cells = #[z]) (h1 : z.oneCell' = true)
    (hl : Rep S w f l l') (hc : Rep S w f c c') (hE : effMk inf.bytes z l c = some E) : Good P E (do pure (.value (← Instr.makeSlice t l' c'))) S w f h id := by
  unfold effMk at hE
  split at hE
  · rename_i n m hn hm
    obtain ⟨k, rfl⟩ := int_rep hl hn
    obtain ⟨k', rfl⟩ := int_rep hc hm
    split at hE
    · rename_i hb
      obtain ⟨h0, hnm, hsz⟩ := hb
      have hm0 : m.toNat ≤ 1099511627776 := Nat.le_trans (Nat.le_mul_of_pos_right _ (by omega)) hsz
      have hbytes : inf.bytes * m.toNat ≤ 1099511627776 := by
        have : inf.bytes * m.toNat = m.toNat * inf.bytes := Nat.mul_comm _ _
        have : m.toNat * inf.bytes ≤ m.toNat * (inf.bytes + 1) := Nat.mul_le_mul_left _ (by omega)
        omega
      have hbytesI : (inf.bytes : Int) * m ≤ 1099511627776 := by
        have e : ((inf.bytes * m.toNat : Nat) : Int) = (inf.bytes : Int) * m := by push_cast; rw [Int.toNat_of_nonneg (by omega)]
        omega
      have w1 := wrap_i64 n h0 (by omega)
      have w2 := wrap_i64 m (by omega) (by omega)
      refine good_new (vals := List.replicate m.toNat z) (t := e) hE (y := .slice (some ⟨w.heap.size, 0, none⟩) n.toNat m.toNat) ?_ ⟨by simp, fun i x y hx hy => ?_⟩ (fun v hv => by rw [List.eq_of_mem_replicate hv]; exact h1) (fun w' f' hf => ?_)
      · have c1 : ¬ (m < 0) := by omega
        have c2 : ¬ (281474976710656 < (inf.bytes : Int) * m) := by omega
        have c3 : ¬ (n < 0) := by omega
        have c4 : ¬ (m < n) := by omega
        have harr : (Array.range m.toNat).map (fun x => z.cells[x % z.cells.size]!) = (List.replicate m.toNat z).toArray := by
          rw [hzc]
          apply Array.ext
          · simp
          · intro i hi1 hi2
            simp [Nat.mod_one]
        by_cases hz0 : m.toNat = 0
        · simp [Instr.makeSlice, run_underlying ht, asInt, asIntOf, typeInfo, he, w1, w2, c1, c2, c3, c4, hes, hz0, newRow, sizeOf, Array.range_zero']
        · have harr' := harr
          rw [hzc] at harr'
          simp [Instr.makeSlice, run_underlying ht, asInt, asIntOf, typeInfo, he, w1, w2, c1, c2, c3, c4, hes, hz0, newRow, sizeOf, zeroValue, hz, hzc]
          rw [show (List.replicate m.toNat z).toArray = Array.replicate m.toNat z by simp] at harr'
          simp at harr'
          rw [harr']
      · rw [List.getElem?_replicate] at hx hy
        split at hx
        · rename_i hlt
          rw [if_pos hlt] at hy
          cases hx; cases hy; exact .v _
        · cases hx
      · have := Rep.ref (S := S) (w := w') (off := 0) (len := n.toNat) (esz := 1) (cap := some m.toNat) (c := m.toNat) hf (fun k hk => by cases hk; rfl) (fun hk => by cases hk) (by simp) (by omega)
        simpa using this
    · cases hE
  · cases hE
/-! ### nil -/
theorem good_nilck {P S w f h id x u} {E : Eff} (o : Oper) (ρ : Operand → Value) (a : Operand) (ho : o.op = .nilCheck a) (hu : ρ a = u) (hx : Rep S w f x u) (hE : effNilck x = some E) : Good P E (execOp ρ o) S w f h id := by
  cases hx <;> simp only [effNilck, reduceCtorEq] at hE
  case ptr hf => exact good_pure hE (by simp [execOp, ho, hu]) (.ptr hf)
  case elt hl hS hc h1 hr => exact good_pure hE (by simp [execOp, ho, hu]) (.elt hl hS hc h1 hr)
  case fn g first captured fs cs h1 h2 hr1 hr2 =>
    cases g <;> simp only [effNilck, reduceCtorEq] at hE
    exact good_pure hE (by simp [execOp, ho, hu]) (.fn h1 h2 hr1 hr2)
def nilType : TypeDesc → Option Value
  | .slice _ => some (.slice none 0 0)
  | .pointer _ => some (.pointer none)
  | .map _ _ => some (.map none)
  | .func _ _ _ => some .nilFunc
  | .interface _ => some .nilIface
  | _ => none
def nilOf : Value → Option Bool
  | .slice a _ _ => some a.isNone
  | .pointer a => some a.isNone
  | .map a => some a.isNone
  | .nilFunc => some true
  | .func _ _ _ => some false
  | .nilIface => some true
  | .iface _ _ => some false
  | _ => none
def fits : TypeDesc → Value → Bool
  | .slice _, .slice _ _ _ => true
  | .pointer _, .pointer _ => true
  | .map _ _, .map _ => true
  | .func _ _ _, .nilFunc => true
  | .func _ _ _, .func _ _ _ => true
  | .interface _, .nilIface => true
  | .interface _, .iface _ _ => true
  | _, _ => false
def nilA : TypeDesc → AV → Option Bool
  | d, .v x => if fits d x then nilOf x else none
  | .slice _, .ref _ _ _ _ _ => some false
  | .slice _, .il _ len _ => if len = 0 then none else some false
  | .func _ _ _, .fn _ _ _ => some false
  | .pointer _, .ptr _ _ => some false
  | .pointer _, .elt _ _ => some false
  | .interface _, .ifc _ _ => some false
  | .map _ _, .map _ => some false
  | _, _ => none
def effEqn (neg : Bool) (d : TypeDesc) (x : AV) : Option Eff :=
  match nilA d x with
  | some b => ret (.v (.bool (if neg then !b else b)))
  | none => none
theorem nilA_ok {S w f d x u b} (hx : Rep S w f x u) (h : nilA d x = some b) : fits d u = true ∧ nilOf u = some b := by
  cases hx
  case v =>
    have h' : (if fits d u then nilOf u else none) = some b := by
      cases d <;> simpa [nilA] using h
    split at h' <;> simp_all
  all_goals cases d <;> simp only [nilA, reduceCtorEq, Option.some.injEq] at h
  case il => split at h <;> simp_all [fits, nilOf]
  case nil => simp at h
  case emp => simp at h
  all_goals (subst h; exact ⟨rfl, rfl⟩)
theorem equal_nil' {P : Program} {t : TypeId} {d : TypeDesc} {u n : Value} {b : Bool} (hd : P.underlying t = some d) (hn : nilType d = some n) (hf : fits d u = true) (hb : nilOf u = some b) (w : World) (k : Nat) :
    (Op.equalIn (k + 1) t u n).run P w = .ok b w ∧ (Op.equalIn (k + 1) t n u).run P w = .ok b w := by
  cases d <;> simp only [nilType, Option.some.injEq, reduceCtorEq] at hn <;> subst hn <;> cases u <;> simp only [fits, reduceCtorEq, Bool.false_eq_true] at hf <;> simp only [nilOf, Option.some.injEq] at hb <;> subst hb
  all_goals simp only [Op.equalIn, Sem.run_bind, run_underlying hd, Result.andThen_ok]
  all_goals first
    | exact ⟨rfl, rfl⟩
    | (rename_i a; cases a <;> exact ⟨rfl, rfl⟩)
    | (rename_i a _ _; cases a <;> exact ⟨rfl, rfl⟩)
theorem equal_nil {P : Program} {t : TypeId} {d : TypeDesc} {u n : Value} {b : Bool} (hd : P.underlying t = some d) (hn : nilType d = some n) (hf : fits d u = true) (hb : nilOf u = some b) (w : World) :
    (Op.equal t u n).run P w = .ok b w ∧ (Op.equal t n u).run P w = .ok b w := equal_nil' hd hn hf hb w 9999
end Go.Sx
end
