/- strings.Builder: its own block, rows of bytes, pointers to it; slices of strings. No conditions. -/
import Derived.Test.YteoiebmbgbgpgaaSxHm
import Derived.Lib.Builder
import Derived.Lib.UnsafeStr
import Derived.Laws.Externs
set_option linter.unusedVariables false
set_option linter.unusedSimpArgs false
namespace Go.Sx
/-! ### A new builder -/
def effAllocB (zero : List Value) : Option Eff := some ⟨[], [], fun _ i => some ⟨.ptr i 0, [], some (.bld false (zero.map .v))⟩⟩
theorem good_allocB {P S w f h id t z} {zero : List Value} {E : Eff} (ht : t = BT) (hz : (P.info? t).bind (·.zero) = some z) (hzc : z.cells.toList = zero) (h1 : zero.all (·.oneCell') = true) (hE : effAllocB zero = some E) :
    Good P E (do pure (.value (← Instr.alloc t true (.tuple #[])))) S w f h id := by
  subst hzc
  cases hE
  intro wf hid v h' he
  simp only [Eff.exec, getAll, setAll, Option.some.injEq, Prod.mk.injEq] at he
  obtain ⟨rfl, rfl⟩ := he
  have h1' : ∀ v ∈ z.cells.toList, v.oneCell' = true := fun v hv => by simpa using List.all_eq_true.1 h1 v hv
  have hrun : (do pure (Next.value (← Instr.alloc t true (.tuple #[]))) : Sem Next).run P w = .ok (.value (.pointer (some ⟨w.heap.size, 0, none⟩))) (w.alloc (.cells z.cells t)) := by
    cases hq : P.info? t with
    | none => simp [hq] at hz
    | some i =>
      simp only [hq, Option.bind_some] at hz
      simp [Instr.alloc, zeroValue, typeInfo, hq, hz, newVar, newRow]
  obtain ⟨hwf, hst⟩ := wf_alloc wf hid (w' := w.alloc (.cells z.cells t)) (o := .cells z.cells t) (k := .bld false (z.cells.toList.map .v)) (n := z.cells.size) rfl rfl rfl rfl
    ⟨z.cells, t, by rw [show (w.alloc (.cells z.cells t)).heap = w.heap.push (.cells z.cells t) from rfl]; simp, rfl, by simp, fun i x hx => h1' x (by simpa using Array.mem_of_getElem? hx), fun i x y hx hy => by
      simp only [Nat.zero_add] at hy
      rw [List.getElem?_map, Array.getElem?_toList, hy] at hx
      cases hx; exact .v _, by simpa [bT] using ht, rfl, fun _ => by simp⟩
  exact ⟨_, _, _, _, hrun, .inl rfl, by simpa using Rep.ptr (S := S) (w := w.alloc (.cells z.cells t)) (off := 0) (upd_same f id (some (⟨w.heap.size, 0, z.cells.size⟩ : Loc))), hwf, hst, fun j hj => upd_other _ _ hj⟩
/-! ### The builder's pointer to itself -/
def effSame (n : Nat) (x : AV) : Option Eff :=
  match x with
  | .ptr i off => if off = 0 then some ⟨[i], [], fun bs _ => match bs with
    | [b] => (match b with
      | .bld false cs => if cs.length = n then some (AV.ptr i 0) else none
      | _ => none).map (⟨·, [], none⟩)
    | _ => none⟩ else none
  | _ => none
theorem good_same {P S w f h id x u src dst n} {E : Eff} (hrun : ∀ (l : Loc) cs, BRep S w f (.bld false cs) l → cs.length = n → (convert src dst (.pointer (some ⟨l.b, 0, none⟩))).run P w = .ok (.pointer (some ⟨l.b, 0, none⟩)) w)
    (hx : Rep S w f x u) (hE : effSame n x = some E) : Good P E (do pure (.value (← convert src dst u))) S w f h id := by
  unfold effSame at hE
  split at hE
  · rename_i i off
    split at hE
    · rename_i h0
      subst h0
      simp only [Option.some.injEq] at hE
      cases hx with
      | @ptr _ _ _ l hf =>
        refine good_read hE.symm hf (fun b x hB hk => ?_)
        cases b with
        | cells cs => cases hk
        | map es => cases hk
        | bld u cs =>
          cases u
          · simp only at hk
            split at hk
            · rename_i hl
              cases hk
              have hB' := hB
              obtain ⟨arr, t', a1, a2, a3, a4, a5, a6, a7, a8⟩ := hB'
              refine ⟨_, ?_, .ptr hf⟩
              rw [Sem.run_bind, a7, hrun l cs hB hl]; rfl
            · cases hk
          · cases hk
    · cases hE
  · cases hE
theorem run_toU {P : Program} {S w f src dst t j cs} {l : Loc} (hs : P.underlying src = some (.pointer t)) (hd : P.underlying dst = some .unsafePointer) (ht : P.info? t = some j) (hj : j.size ≠ 0) (hB : BRep S w f (.bld false cs) l) (hl : cs.length = j.size) :
    (convert src dst (.pointer (some ⟨l.b, 0, none⟩))).run P w = .ok (.pointer (some ⟨l.b, 0, none⟩)) w := by
  obtain ⟨arr, t', a1, a2, a3, a4, a5, a6, a7, a8⟩ := hB
  exact Lib.run_to_unsafe w ⟨l.b, 0, none⟩ hs hd ht hj (e := t') (cells := arr.size) (by simp [World.shape?, a1]) (by have := a8 rfl; simp only; omega)
theorem run_fromU {P : Program} {S w f src dst u j cs} {l : Loc} (hs : P.underlying src = some .unsafePointer) (hd : P.underlying dst = some (.pointer u)) (hu : P.info? u = some j) (hlies : liesAt P P.depth BT (j.size / P.cellsOf BT) 0 u 1 = true) (hB : BRep S w f (.bld false cs) l) (hl : cs.length = j.size) :
    (convert src dst (.pointer (some ⟨l.b, 0, none⟩))).run P w = .ok (.pointer (some ⟨l.b, 0, none⟩)) w := by
  obtain ⟨arr, t', a1, a2, a3, a4, a5, a6, a7, a8⟩ := hB
  have h8 := a8 rfl
  exact Lib.run_from_unsafe w ⟨l.b, 0, none⟩ hs hd hu (e := t') (cells := arr.size) (by simp [World.shape?, a1]) (by rw [a6, a2, h8, hl]; simpa [bT] using hlies)
def effPeq (neg : Bool) (x y : AV) : Option Eff :=
  match x, y with
  | .ptr i a, .ptr j b => if i = j ∧ a = b then ret (.v (.bool (!neg))) else none
  | _, _ => none
theorem good_peq {P S w f h id neg t te j} {o1 o2 : Operand} {x y : AV} {u v : Value} {E : Eff} (ht : P.underlying t = some (.pointer te)) (hte : P.info? te = some j) (hx : Rep S w f x u) (hy : Rep S w f y v) (hE : effPeq neg x y = some E) :
    Good P E (do pure (.value (← (do eqGuard (if neg then .neq else .eql) t o1 o2 u v; binOp (if neg then .neq else .eql) t u v)))) S w f h id := by
  unfold effPeq at hE
  split at hE
  · rename_i i a j b
    split at hE
    · rename_i hc
      obtain ⟨rfl, rfl⟩ := hc
      cases hx with
      | @ptr _ _ _ l hf =>
      cases hy with
      | @ptr _ _ _ l' hf' =>
      rw [hf] at hf'; cases hf'
      have heq : ∀ a : Addr, (Op.equal t (.pointer (some a)) (.pointer (some a))).run P w = .ok true w := fun a => by
        have h : ∀ d : Nat, (Op.equalIn (d + 1) t (.pointer (some a)) (.pointer (some a))).run P w = .ok true w := fun d => by
          simp [Op.equalIn, run_underlying ht, sizeOf, typeInfo, hte, Go.run_sameAddr_same]
        exact h 9999
      cases neg
      · exact good_pure hE (by simp [eqGuard, binOp, heq, Result.andThen]) (.v _)
      · exact good_pure hE (by simp [eqGuard, binOp, heq, Result.andThen]) (.v _)
    · cases hE
  · cases hE
/-! ### Rows of bytes -/
theorem store_byt {P : Program} {S w f h} (wf : Wf S w f h) {id : Nat} {cs : List AV} {l : Loc} (hk : h id = some (.bld true cs)) (hl : f id = some l)
    (off : Nat) (ys : List AV) (vals : List Value) (hle0 : off ≤ cs.length) (hroom : l.base + off + vals.length ≤ l.n) (h1 : ∀ v ∈ vals, v.oneCell' = true) (hr : Reps S w f ys vals) :
    ∃ w', (storeCells ⟨l.b, l.base + off, none⟩ vals).run P w = .ok () w' ∧ Wf S w' f (upd h id (some (.bld true (splice cs off ys)))) ∧
      Step (fun _ => True) S w f h S w' f (upd h id (some (.bld true (splice cs off ys)))) := by
  obtain ⟨l', hl', hB⟩ := wf.hp.live id _ hk
  rw [hl] at hl'; cases hl'
  obtain ⟨arr, t, a1, a2, a3, a4, a5, a6, a7, a8⟩ := hB
  have hlt : l.b < w.heap.size := (Array.getElem?_eq_some_iff.1 a1).1
  have hst := run_storeCells_at P l.b (l.base + off) t vals 0 arr w a1 (by omega) h1
  simp only [Nat.add_zero] at hst
  refine ⟨_, hst, ?_⟩
  have hoth : ∀ b, b ≠ l.b → (w.setRow l.b (arr.toList.take (l.base + off) ++ vals ++ arr.toList.drop (l.base + off + vals.length)).toArray).heap[b]? = w.heap[b]? :=
    fun b hb => setRow_other w l.b b _ (by omega)
  refine wf_write wf hk hl rfl rfl rfl (by simp [World.setRow]) hoth ?_
  have hlen : (arr.toList.take (l.base + off) ++ vals ++ arr.toList.drop (l.base + off + vals.length)).length = arr.size := by simp; omega
  have hget : ∀ i : Nat, (arr.toList.take (l.base + off) ++ vals ++ arr.toList.drop (l.base + off + vals.length))[i]? = if l.base + off ≤ i ∧ i < l.base + off + vals.length then vals[i - (l.base + off)]? else arr[i]? := fun i => by
    rw [List.getElem?_append, List.getElem?_append]
    simp only [List.length_append, List.length_take, List.getElem?_take, List.getElem?_drop, Array.length_toList, Array.getElem?_toList]
    rw [Nat.min_eq_left (by omega)]
    by_cases c1 : i < l.base + off
    · have : i < l.base + off + vals.length := by omega
      simp [c1, this]; omega
    · by_cases c2 : i < l.base + off + vals.length
      · simp [c1, c2, show l.base + off ≤ i by omega]
      · rw [if_neg c2, if_neg (by omega)]; congr 1; omega
  refine ⟨_, t, setRow_heap w l.b arr _ t _ a1, by simpa using hlen.trans a2, ?_, fun i x hx => ?_, fun i x y hx hy => ?_, a6, a7, fun hu => by cases hu⟩
  · rw [splice_len _ _ _ hle0]; have := hr.1; omega
  · rw [List.getElem?_toArray, hget] at hx
    split at hx
    · exact h1 x (List.mem_of_getElem? hx)
    · exact a4 i x hx
  · rw [List.getElem?_toArray, hget] at hy
    rw [splice_get _ _ _ hle0] at hx
    have hS : ∀ b, S b → (w.setRow l.b (arr.toList.take (l.base + off) ++ vals ++ arr.toList.drop (l.base + off + vals.length)).toArray).heap[b]? = w.heap[b]? := fun b hb =>
      hoth b (fun e => (wf.st b hb).2 ⟨id, l, by rw [hk]; simp, hl, e.symm⟩)
    have hlen2 := hr.1
    by_cases c : off ≤ i ∧ i < off + ys.length
    · rw [if_pos c] at hx
      rw [if_pos (by omega)] at hy
      exact (hr.2 (i - off) x y hx (by rw [← hy]; congr 1; omega)).mono (fun _ h => h) hS (fun _ _ h => h)
    · rw [if_neg c] at hx
      rw [if_neg (by omega)] at hy
      exact (a5 i x y hx hy).mono (fun _ h => h) hS (fun _ _ h => h)
theorem wf_moveB {S w f h} (wf : Wf S w f h) {id nid : Nat} {cs : List AV} {l : Loc} (hk : h id = some (.bld true cs)) (hl : f id = some l) (hn : f nid = none) :
    Wf S w (upd f nid (some ⟨l.b, l.base, l.n⟩)) (upd (upd h id none) nid (some (.bld true cs))) ∧
      Step (fun _ => True) S w f h S w (upd f nid (some ⟨l.b, l.base, l.n⟩)) (upd (upd h id none) nid (some (.bld true cs))) := by
  have hne : nid ≠ id := fun e => by subst e; rw [hn] at hl; cases hl
  have hown : Own f h l.b := ⟨id, l, by rw [hk]; simp, hl, rfl⟩
  have hh : ∀ j, j ≠ nid → upd (upd h id none) nid (some (.bld true cs)) j = h j ∨ upd (upd h id none) nid (some (.bld true cs)) j = none := fun j hj => by
    rw [upd_other _ _ hj]
    by_cases e : j = id
    · subst e; simp
    · rw [upd_other _ _ e]; exact .inl rfl
  obtain ⟨l', hl', hB⟩ := wf.hp.live id _ hk
  rw [hl] at hl'; cases hl'
  obtain ⟨arr, t, a1, a2, a3, a4, a5, a6, a7, a8⟩ := hB
  refine ⟨wf_put wf (id' := nid) (l' := ⟨l.b, l.base, l.n⟩) (fun j hj => upd_other _ _ hj) (upd_same _ _ _) hh (upd_same _ _ _) (Nat.le_refl _) (fun _ _ _ => rfl) (fun j lj hj hnn hlj he => ?_) (fun hS => (wf.st _ hS).2 hown) (.inl hn) ?_,
    step_put (id' := nid) (l' := ⟨l.b, l.base, l.n⟩) (fun j hj => upd_other _ _ hj) (upd_same _ _ _) hh rfl rfl rfl (Nat.le_refl _) (fun _ _ _ => rfl) (.inl hn) (.inl hown)⟩
  · rw [upd_other _ _ hj] at hnn
    have e : j ≠ id := fun e => by subst e; simp at hnn
    rw [upd_other _ _ e] at hnn
    exact e (wf.hp.inj j id lj l hnn (by rw [hk]; simp) hlj hl he)
  · exact ⟨arr, t, a1, a2, a3, a4, fun i x y hx hy => (a5 i x y hx hy).mono (fun _ h => h) (fun _ _ => rfl) (upd_ext hn), a6, a7, a8⟩
theorem growB_ok {P : Program} {S w f h} (wf : Wf S w f h) {nid : Nat} (hn : f nid = none) {t tx ty e : TypeId} {i : TypeInfo} {z : Value} (hUT : e = UT) (ht : P.underlying t = some (.slice e)) (hi : P.info? e = some i) (hz : i.zero = some z)
    (hzs : z.cells.size = i.size) (hz1 : ∀ v ∈ z.cells.toList, v.oneCell' = true) (base : Option Addr) (sLen sCap : Nat) {olds : List Value} {xs : List AV}
    (hold : (Builtin.firstCells i.size sLen (.slice base sLen sCap)).run P w.drew = .ok olds.toArray w.drew) (hol : olds.length = sLen * i.size) (ho1 : ∀ v ∈ olds, v.oneCell' = true) (hor : Reps S w f xs olds)
    {u : Value} {n : Nat} {news : List Value} {ys : List AV} (hs : Src P i.size tx u n news w) (hyr : Reps S w f ys news) (hg : sCap < sLen + n) (hsz : (sLen + n) * (i.bytes + 1) ≤ 1099511627776) :
    ∃ y w' f', (do pure (Next.value (← Builtin.append_ #[t, tx] ty #[.slice base sLen sCap, u])) : Sem Next).run P w = .ok (.value y) w' ∧ Rep S w' f' (.ref nid 0 (sLen + n) i.size none) y ∧
      Wf S w' f' (upd h nid (some (.bld true (xs ++ ys)))) ∧ Step (fun _ => True) S w f h S w' f' (upd h nid (some (.bld true (xs ++ ys)))) ∧ (∀ j, j ≠ nid → f' j = f j) := by
  have hneed : sLen + n ≤ 1099511627776 := Nat.le_trans (Nat.le_mul_of_pos_right _ (by omega)) hsz
  have hrun := run_append_grow_src (P := P) w t tx ty e i z ht hi hz base sLen sCap olds hold u n news hs hg (by omega) (cap_bytes _ _ _ hg hsz)
  generalize hgc : grownCap w (sLen + n) sCap e = gc at hrun
  have hgc2 : sLen + n ≤ gc := by rw [← hgc]; unfold grownCap; exact Nat.le_add_right _ _
  have hsize : ((olds ++ news).toArray ++ Builtin.zeroCells z.cells (gc - (sLen + n))).size = gc * i.size := by
    simp only [Array.size_append, List.size_toArray, List.length_append, Builtin.zeroCells, Array.size_map, Array.size_range, hzs, hol, hs.newsLen]
    rw [← Nat.add_mul, ← Nat.add_mul]; congr 1; omega
  have hext : ∀ id l, f id = some l → upd f nid (some ⟨w.heap.size, 0, gc * i.size⟩) id = some l := upd_ext hn
  have hheap : (w.drew.alloc (.cells ((olds ++ news).toArray ++ Builtin.zeroCells z.cells (gc - (sLen + n))) e)).heap = w.heap.push (.cells ((olds ++ news).toArray ++ Builtin.zeroCells z.cells (gc - (sLen + n))) e) := rfl
  have hstab : ∀ b, S b → (w.drew.alloc (.cells ((olds ++ news).toArray ++ Builtin.zeroCells z.cells (gc - (sLen + n))) e)).heap[b]? = w.heap[b]? := fun b hb => Go.RowKit.Below.heap_alloc w.drew _ _ (wf.st b hb).1
  have h1 := wf_alloc wf hn (w' := w.drew.alloc (.cells ((olds ++ news).toArray ++ Builtin.zeroCells z.cells (gc - (sLen + n))) e)) (k := .bld true (xs ++ ys)) (n := gc * i.size) hheap rfl rfl rfl (by
    have e0 := hor.1
    have e1 := hyr.1
    have e2 := hs.newsLen
    have e3 : (sLen + n) * i.size ≤ gc * i.size := Nat.mul_le_mul_right _ hgc2
    have e4 : (sLen + n) * i.size = sLen * i.size + n * i.size := Nat.add_mul _ _ _
    refine ⟨_, e, by rw [hheap]; simp, hsize, by simp only [List.length_append]; omega, fun j x hx => ?_, fun j x y hx hy => ?_, by simpa [bT] using hUT, rfl, fun hu => by cases hu⟩
    · have hm := Array.mem_of_getElem? hx
      rw [Array.mem_append] at hm
      rcases hm with hm | hm
      · simp only [List.mem_toArray, List.mem_append] at hm
        rcases hm with hm | hm
        · exact ho1 x hm
        · exact hs.one x hm
      · unfold Builtin.zeroCells at hm
        simp only [Array.mem_map, Array.mem_range] at hm
        obtain ⟨q, hq, rfl⟩ := hm
        have hq2 : q % z.cells.size < z.cells.size := Nat.mod_lt _ (by
          rcases Nat.eq_zero_or_pos z.cells.size with h0 | h0
          · rw [h0] at hq; simp at hq
          · exact h0)
        rw [show z.cells[q % z.cells.size]! = z.cells[q % z.cells.size] from getElem!_pos z.cells _ hq2]
        exact hz1 _ (by simp)
    · simp only [Nat.zero_add] at hy
      have hj : j < (xs ++ ys).length := (List.getElem?_eq_some_iff.1 hx).1
      simp only [List.length_append] at hj
      rw [Array.getElem?_append_left (by simp; omega), List.getElem?_toArray] at hy
      refine Rep.mono ?_ (fun _ h => h) hstab hext
      rw [List.getElem?_append] at hx hy
      by_cases c : j < xs.length
      · rw [if_pos c] at hx
        rw [if_pos (by omega)] at hy
        exact hor.2 j x y hx hy
      · rw [if_neg c] at hx
        rw [if_neg (by omega)] at hy
        exact hyr.2 (j - xs.length) x y hx (by rw [← hy]; congr 1; omega))
  refine ⟨_, _, _, by rw [Sem.run_bind, hrun]; rfl, ?_, h1.1, h1.2, fun j hj => upd_other _ _ hj⟩
  have := Rep.ref (S := S) (w := w.drew.alloc (.cells ((olds ++ news).toArray ++ Builtin.zeroCells z.cells (gc - (sLen + n))) e)) (off := 0) (len := sLen + n) (esz := i.size) (cap := none) (c := gc) (upd_same f nid (some (⟨w.heap.size, 0, gc * i.size⟩ : Loc))) (fun k hk => by cases hk) (fun _ => by simp) (by simp) hgc2
  simpa using this
def effAppB (bytes : Nat) (x y : AV) : Option Eff :=
  match src 1 y with
  | none => none
  | some (n, ids, g) =>
    match x with
    | .v (.slice none 0 0) => some ⟨ids, [], fun bs nid => match g bs with
      | none => none
      | some ys => if 0 < n ∧ n * (bytes + 1) ≤ 1099511627776 then some ⟨.ref nid 0 n 1 none, [], some (.bld true ys)⟩ else none⟩
    | .ref id off len esz cap => if off = 0 ∧ esz = 1 ∧ cap = none then some ⟨id :: ids, [id], fun bs nid => match bs with
      | .bld true cs :: rest => match g rest with
        | none => none
        | some ys => if 0 < n ∧ len = cs.length ∧ (len + n) * (bytes + 1) ≤ 1099511627776 then some ⟨.ref nid 0 (len + n) 1 none, [none], some (.bld true (cs ++ ys))⟩ else none
      | _ => none⟩ else none
    | _ => none
theorem good_appB {P S w f h nid x y u v t tx ty e i z} {E : Eff} (hUT : e = UT) (hi1 : i.size = 1) (ht : P.underlying t = some (.slice e)) (hk : (∃ e', P.underlying tx = some (.slice e')) ∨ P.underlying tx = some .string) (hi : P.info? e = some i) (hz : i.zero = some z)
    (hzs : z.cells.size = i.size) (hz1 : z.cells.toList.all (·.oneCell') = true)
    (hx : Rep S w f x u) (hy : Rep S w f y v) (hE : effAppB i.bytes x y = some E) : Good P E (do pure (.value (← Builtin.append_ #[t, tx] ty #[u, v]))) S w f h nid := by
  intro wf hn v' h' he
  have hz1' : ∀ v ∈ z.cells.toList, v.oneCell' = true := fun v hv => by simpa using List.all_eq_true.1 hz1 v hv
  unfold effAppB at hE
  split at hE
  · cases hE
  rename_i n ids g hs
  rw [← hi1] at hs
  split at hE
  · cases hE
    cases hx
    obtain ⟨bs, r, hb, hr, rfl, rfl⟩ := exec_inv he
    simp only at hb hr
    split at hr
    · cases hr
    rename_i ys hg
    obtain ⟨news, hsrc, hyr⟩ := src_ok (P := P) (tx := tx) hk wf hy hs hb hg
    split at hr
    · rename_i hc
      cases hr
      have := growB_ok wf hn (ty := ty) hUT ht hi hz hzs hz1' none 0 0 (olds := []) (xs := []) (run_firstCells_none w.drew i.size 0 0 0) (by simp) (fun _ h => by cases h) .nil hsrc hyr (by omega) (by simpa using hc.2)
      simp only [Nat.zero_add, List.nil_append] at this
      obtain ⟨y', w', f', h1, h2, h3, h4, h5⟩ := this
      rw [hi1] at h2
      exact ⟨_, y', w', f', h1, .inl rfl, h2, by simpa [setAll] using h3, by simpa [setAll] using h4, h5⟩
    · cases hr
  · rename_i id off len esz cap
    split at hE
    · rename_i h0
      obtain ⟨rfl, rfl, rfl⟩ := h0
      cases hE
      obtain ⟨bs, r, hb, hr, rfl, rfl⟩ := exec_inv he
      obtain ⟨b, rest, hb1, hb2, rfl⟩ := getAll_cons hb
      simp only at hr
      split at hr
      · rename_i cs rest' heq
        simp only [List.cons.injEq] at heq
        obtain ⟨rfl, rfl⟩ := heq
        split at hr
        · cases hr
        rename_i ys hg
        obtain ⟨news, hsrc, hyr⟩ := src_ok (P := P) (tx := tx) hk wf hy hs hb2 hg
        split at hr
        · rename_i hc
          obtain ⟨hc1, hc2, hc3⟩ := hc
          subst hc2
          cases hr
          cases hx with
          | @ref _ _ _ _ _ _ c L hf q1 q2 q3 q4 =>
          rw [Nat.mul_one] at q3
          have q2' := q2 rfl
          have hnn := hsrc.newsLen
          rw [hi1, Nat.mul_one] at hnn
          obtain ⟨l', hl', hB⟩ := wf.hp.live _ _ hb1
          rw [hf] at hl'; cases hl'
          have hbase : L.base = 0 := by obtain ⟨arr, t', a1, a2, a3, a4, a5, a6, a7, a8⟩ := hB; exact a7
          by_cases hroom : cs.length + n ≤ c
          · obtain ⟨w', hst, h2, h3⟩ := store_byt (P := P) wf hb1 hf cs.length ys news (Nat.le_refl _) (by omega) hsrc.one hyr
            have hcs : splice cs cs.length ys = cs ++ ys := by simp [splice]
            rw [hcs] at h2 h3
            obtain ⟨h4, h5⟩ := wf_moveB h2 (id := id) (nid := nid) (l := L) (upd_same _ _ _) hf hn
            have hupd : upd (upd (upd h id (some (.bld true (cs ++ ys)))) id none) nid (some (.bld true (cs ++ ys))) = upd (upd h id none) nid (some (.bld true (cs ++ ys))) := by
              funext j; simp only [upd]; repeat' split
              all_goals rfl
            rw [hupd] at h4 h5
            refine ⟨_, .slice (some ⟨L.b, L.base + 0, none⟩) (cs.length + n) c, w', _, ?_, .inl rfl, ?_, by simpa [setAll] using h4, by simpa [setAll] using h3.trans h5, fun j hj => upd_other _ _ hj⟩
            · rw [Sem.run_bind, run_append_room' w t tx ty e i ht hi _ cs.length c v n news hsrc hroom, add_lit, hi1, Nat.mul_one, Nat.add_zero, hst]
              rfl
            · exact Rep.ref (S := S) (w := w') (off := 0) (len := cs.length + n) (esz := 1) (cap := none) (c := c) (upd_same f nid (some (⟨L.b, L.base, L.n⟩ : Loc))) (fun k hk => by cases hk) (fun _ => by simpa using q2') (by simpa using q3) hroom
          · obtain ⟨vals, v1, v2, v3, v4⟩ := hB.ofBld.take 0 cs.length (by omega)
            have hold : (Builtin.firstCells i.size cs.length (.slice (some ⟨L.b, L.base + 0, none⟩) cs.length c)).run P w.drew = .ok vals.toArray w.drew :=
              run_firstCells_some w.drew i.size cs.length _ cs.length c vals (by rw [hi1, Nat.mul_one]; exact v1) (fun j u hu => by rw [add_lit, World.cell?_drew]; exact v4 j u hu)
            have v3' : Reps S w f cs vals := by simpa using v3
            obtain ⟨y', w', f', h1, h2, h3, h4, h5⟩ := growB_ok wf hn (ty := ty) hUT ht hi hz hzs hz1' _ cs.length c hold (by rw [hi1, Nat.mul_one]; exact v1) v2 v3' hsrc hyr (by omega) hc3
            rw [hi1] at h2
            obtain ⟨h6, h7⟩ := wf_kill h3 id
            have hne : nid ≠ id := fun e => by subst e; rw [hn] at hf; cases hf
            have hupd : upd (upd h nid (some (.bld true (cs ++ ys)))) id none = upd (upd h id none) nid (some (.bld true (cs ++ ys))) := by
              funext j; simp only [upd]
              by_cases e1 : j = id
              · subst e1; simp [Ne.symm hne]
              · by_cases e2 : j = nid <;> simp [e1, e2, hne]
            rw [hupd] at h6 h7
            exact ⟨_, y', w', f', h1, .inl rfl, h2, by simpa [setAll] using h6, by simpa [setAll] using h4.trans h7, h5⟩
        · cases hr
      · cases hr
    · cases hE
  · cases hE
def effSdata : AV → Option Eff
  | .ref i off len _ _ => if len = 0 then none else ret (.ptr i off)
  | _ => none
theorem good_sdata {P S w f h id x u ts ty} {E : Eff} (hx : Rep S w f x u) (hE : effSdata x = some E) : Good P E (do pure (.value (← Builtin.unsafeSliceData_ ts ty #[u]))) S w f h id := by
  unfold effSdata at hE
  split at hE
  · cases hx with
    | @ref _ _ _ _ _ _ c L hf q1 q2 q3 q4 =>
    split at hE
    · cases hE
    · rename_i hne
      refine good_pure hE ?_ (.ptr hf)
      rw [Sem.run_bind, Lib.run_unsafeSliceData_row _ ts ty _ _ _ (by omega)]; rfl
  · cases hE
def bytesA : List AV → Option (List UInt8)
  | [] => some []
  | x :: r => match x, bytesA r with
    | .v (.int .u8 x), some l => if 0 ≤ x ∧ x < 256 then some (x.toNat.toUInt8 :: l) else none
    | _, _ => none
theorem bytesA_rep {S w f} : ∀ {cs : List AV} {l : List UInt8} {vals : List Value}, bytesA cs = some l → vals.length = cs.length → (∀ (i : Nat) x y, cs[i]? = some x → vals[i]? = some y → Rep S w f x y) → vals = l.map fun x => .int .u8 x.toNat
  | [], l, vals, h, hl, _ => by
    simp only [bytesA, Option.some.injEq] at h; subst h
    exact List.length_eq_zero_iff.1 (by simpa using hl)
  | x :: r, l, [], h, hl, _ => by simp at hl
  | x :: r, l, y :: vals, h, hl, hr => by
    simp only [bytesA] at h
    split at h
    · rename_i n l' h1
      split at h
      · rename_i hn
        cases h
        have h0 := hr 0 (.v (.int .u8 n)) y rfl rfl
        cases h0
        rw [bytesA_rep (vals := vals) h1 (by simpa using hl) (fun i x y hx hy => hr (i + 1) x y (by simpa using hx) (by simpa using hy)), List.map_cons]
        congr 1
        obtain ⟨m, rfl⟩ := Int.eq_ofNat_of_zero_le hn.1
        have : m < 256 := by omega
        simp; omega
      · cases h
    · cases h
def effUstr (x n : AV) : Option Eff :=
  match x, n with
  | .ptr i off, .v (.int .i64 m) => if off = 0 then some ⟨[i], [i], fun bs _ => match bs with
    | [.bld true cs] => match bytesA cs with
      | some l => if l ≠ [] ∧ m = l.length ∧ l.length ≤ 9223372036854775807 then some ⟨.v (.string ⟨l.toArray⟩), [none], none⟩ else none
      | none => none
    | _ => none⟩ else none
  | _, _ => none
theorem good_ustr {P S w f h id x y u v pt it ty} {E : Eff} (hp : P.underlying pt = some (.pointer UT)) (hc : P.cellsOf UT = 1) (hx : Rep S w f x u) (hy : Rep S w f y v) (hE : effUstr x y = some E) :
    Good P E (do pure (.value (← Builtin.unsafeString_ #[pt, it] ty #[u, v]))) S w f h id := by
  unfold effUstr at hE
  split at hE
  · rename_i i off m
    split at hE
    · rename_i h0
      subst h0
      cases hE
      cases hy
      cases hx with
      | @ptr _ _ _ L hf =>
      intro wf hid v' h' he
      obtain ⟨b, r, hb, hk, rfl, rfl⟩ := exec_wr he
      split at hk
      · rename_i cs heq
        simp only [List.cons.injEq, and_true] at heq
        subst heq
        split at hk
        · rename_i l hl
          split at hk
          · rename_i hc2
            obtain ⟨hne, rfl, hlt⟩ := hc2
            cases hk
            obtain ⟨L', hl', hB⟩ := wf.hp.live i _ hb
            rw [hf] at hl'; cases hl'
            obtain ⟨vals, v1, v2, v3, v4⟩ := hB.ofBld.take 0 cs.length (by omega)
            have hv := bytesA_rep hl v1 (by simpa using v3.2)
            obtain ⟨arr, t, a1, a2, a3, a4, a5, a6, a7, a8⟩ := hB
            have hll : l.length = cs.length := by rw [← v1, hv, List.length_map]
            have hrun := Lib.run_unsafeString_row (P := P) w pt it ty UT hp hc L.b arr.size (by simp [World.shape?, a1, a6, bT]) l hne (by omega) hlt (fun j x hx => by
              rw [add_lit, Nat.zero_add]
              have := v4 j (.int .u8 x.toNat) (by rw [hv, List.getElem?_map, hx]; rfl)
              simpa [a7] using this)
            have hown : Own f h L.b := ⟨i, L, by rw [hb]; simp, hf, rfl⟩
            have hsz : (w.freeze ⟨L.b, 0, none⟩ l.length).heap.size = w.heap.size := by unfold World.freeze; split <;> simp
            have hoth : ∀ b, b ≠ L.b → (w.freeze ⟨L.b, 0, none⟩ l.length).heap[b]? = w.heap[b]? := fun b hb => by
              unfold World.freeze; split
              · rfl
              · simp only [Array.getElem?_modify]; rw [if_neg (Ne.symm hb)]
            have hos : (w.freeze ⟨L.b, 0, none⟩ l.length).os = w.os ∧ (w.freeze ⟨L.b, 0, none⟩ l.length).tape = w.tape ∧ (w.freeze ⟨L.b, 0, none⟩ l.length).output = w.output := by
              unfold World.freeze; split <;> exact ⟨rfl, rfl, rfl⟩
            have hS : ∀ b, S b → b ≠ L.b := fun b hb e => (wf.st b hb).2 (e ▸ hown)
            have hsub : ∀ j, upd h i none j ≠ none → j ≠ i ∧ h j ≠ none := fun j hj => by
              by_cases e : j = i
              · subst e; simp at hj
              · exact ⟨e, by rwa [upd_other _ _ e] at hj⟩
            have hown' : ∀ b, Own f (upd h i none) b → Own f h b := fun b ⟨j, l, h1, h2, h3⟩ => ⟨j, l, (hsub j h1).2, h2, h3⟩
            refine ⟨_, .string ⟨l.toArray⟩, w.freeze ⟨L.b, 0, none⟩ l.length, f, ?_, .inl rfl, .v _, ?_, ?_, fun _ _ => rfl⟩
            · rw [Sem.run_bind, a7]
              simp only [Nat.zero_add]
              rw [hrun]; rfl
            · show Wf S _ f (upd h i none)
              refine ⟨⟨fun j k hk => ?_, fun a b la lb ha hb' => wf.hp.inj a b la lb (hsub a ha).2 (hsub b hb').2⟩, fun b hb => ⟨by rw [hsz]; exact (wf.st b hb).1, fun h => (wf.st b hb).2 (hown' b h)⟩, wf.gl.mono (fun _ h => h) (fun b hb => hoth b (hS b hb))⟩
              obtain ⟨hji, _⟩ := hsub j (by rw [hk]; simp)
              rw [upd_other _ _ hji] at hk
              obtain ⟨lj, hlj, hBj⟩ := wf.hp.live j k hk
              exact ⟨lj, hlj, hBj.mono (fun _ h => h) (fun b hb => hoth b (hS b hb)) (fun _ _ h => h) (hoth _ (fun e => hji (wf.hp.inj j i lj L (by rw [hk]; simp) (by rw [hb]; simp) hlj hf e)))⟩
            · show Step (fun _ => True) S w f h S _ f (upd h i none)
              exact ⟨⟨hos.1, hos.2.1, hos.2.2, by omega, fun b hb hO => hoth b (fun e => hO (e ▸ hown))⟩, fun b hb => .inl (hown' b hb), fun _ h => h, fun _ h => .inl h, fun _ _ _ h => h⟩
          · cases hk
        · cases hk
      · cases hk
    · cases hE
  · cases hE
/-! ### Slices of strings -/
def effSlcS (P : Program) (t : TypeId) (x : AV) (lo hi : Option AV) : Option Eff :=
  match x.val, lo.map AV.val, hi.map AV.val with
  | some (.string s), some none, _ => none
  | some (.string s), _, some none => none
  | some (.string s), a, b => match pureRun P (Instr.sliceAt t (.string s) (a.bind id) (b.bind id) none) with
    | some r => ret (ofVal r)
    | none => none
  | _, _, _ => none
theorem good_slcS {P S w f h id t x u} {lo hi : Option AV} {a b : Option Value} {E : Eff} (hx : Rep S w f x u) (hlo : RepO S w f lo a) (hhi : RepO S w f hi b) (hE : effSlcS P t x lo hi = some E) :
    Good P E (do pure (.value (← Instr.sliceAt t u a b none))) S w f h id := by
  unfold effSlcS at hE
  split at hE
  · cases hE
  · cases hE
  · rename_i s hs hn1 hn2
    have hu := val_rep hx hs
    subst hu
    have ha : a = (lo.map AV.val).bind _root_.id := by
      cases lo with
      | none => cases a with
        | none => rfl
        | some a => exact hlo.elim
      | some y => cases a with
        | none => exact hlo.elim
        | some a =>
          cases hv : y.val with
          | none => exact (hn1 (by simp [hv])).elim
          | some v => simp [hv, val_rep hlo hv]
    have hb : b = (hi.map AV.val).bind _root_.id := by
      cases hi with
      | none => cases b with
        | none => rfl
        | some a => exact hhi.elim
      | some y => cases b with
        | none => exact hhi.elim
        | some a =>
          cases hv : y.val with
          | none => exact (hn2 (by simp [hv])).elim
          | some v => simp [hv, val_rep hhi hv]
    rw [ha, hb]
    split at hE
    · rename_i r hr
      exact good_plain hE (by rw [pureRun_bind, hr]; rfl)
    · cases hE
  · cases hE
/-! ### internal/abi.NoEscape -/
def isNoEsc (P : Program) (f : FuncId) : Bool :=
  match P.funcs[f]? with
  | some fn => fn.body.isNone && (fn.name == "internal/abi.NoEscape" && fn.origin == "")
  | none => false
theorem run_noEsc {P : Program} {f : FuncId} (h : isNoEsc P f = true) (v : Value) (w : World) : (callFunc f #[v]).run P w = .ok (.value v) w := by
  unfold isNoEsc at h
  split at h
  · rename_i fn hf
    simp only [Bool.and_eq_true, beq_iff_eq] at h
    obtain ⟨h1, h2, h3⟩ := h
    have e1 : Extern.findNext fn = none := by
      simp only [Extern.findNext, h2, h3]
      have a1 : Extern.allNextRows.lookup "internal/abi.NoEscape" = none := by kernel_rfl
      have a2 : Extern.allNextRows.lookup "" = none := by kernel_rfl
      rw [a1, a2]; rfl
    have e2 : Extern.find fn = some Extern.AbiNoEscape.same := by
      simp only [Extern.find, h2, h3]
      have a1 : Extern.allGenericRows.lookup "internal/abi.NoEscape" = none := by kernel_rfl
      have a2 : Extern.allTypedRows.lookup "internal/abi.NoEscape" = none := by kernel_rfl
      have a3 : Extern.allRows.lookup "internal/abi.NoEscape" = some Extern.AbiNoEscape.same := by kernel_rfl
      rw [a1, a2, a3]; rfl
    rw [run_callFunc_extern hf (by rw [h2]; decide) h1 e1 e2]
    rfl
  · cases h
end Go.Sx
