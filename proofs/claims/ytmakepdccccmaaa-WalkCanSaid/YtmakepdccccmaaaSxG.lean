/- append, copy and literals are met. No conditions. -/
import Derived.Test.YtmakepdccccmaaaSxF
set_option linter.unusedVariables false
set_option linter.unusedSimpArgs false
namespace Go.Sx

theorem exec_inv {E : Eff} {h : Heap} {id : Nat} {v h'} (he : E.exec h id = some (v, h')) : ∃ bs r, getAll h E.rs = some bs ∧ E.k bs id = some r ∧ v = r.v ∧
    h' = (match r.nb with | none => setAll h E.ws r.outs | some nb => upd (setAll h E.ws r.outs) id (some nb)) := by
  unfold Eff.exec at he
  split at he
  · cases he
  · rename_i bs hb
    split at he
    · cases he
    · rename_i r hr
      refine ⟨bs, r, hb, hr, ?_, ?_⟩
      · split at he <;> simp_all
      · split at he <;> simp_all

theorem getAll_cons {h : Heap} {id : Nat} {ids : List Nat} {bs : List Blk} (hb : getAll h (id :: ids) = some bs) : ∃ b rest, h id = some b ∧ getAll h ids = some rest ∧ bs = b :: rest := by
  simp only [getAll] at hb
  split at hb
  · rename_i b rest h1 h2
    exact ⟨b, rest, h1, h2, by simpa using hb.symm⟩
  · cases hb

theorem Reps.vals {S w f xs ys} {vals : List Value} (h : Reps S w f xs ys) (e : ys = vals) : Reps S w f xs vals := e ▸ h

theorem good_app {P S w f h nid x y u v t tx ty e i z} {E : Eff} (ht : P.underlying t = some (.slice e)) (hk : (∃ e', P.underlying tx = some (.slice e')) ∨ P.underlying tx = some .string) (hi : P.info? e = some i) (hz : i.zero = some z)
    (hzs : z.cells.size = i.size) (hz1 : z.cells.toList.all (·.oneCell') = true)
    (hx : Rep S w f x u) (hy : Rep S w f y v) (hE : effApp i.size i.bytes x y = some E) : Good P E (do pure (.value (← Builtin.append_ #[t, tx] ty #[u, v]))) S w f h nid := by
  intro wf hn v' h' he
  have hz1' : ∀ v ∈ z.cells.toList, v.oneCell' = true := fun v hv => by simpa using List.all_eq_true.1 hz1 v hv
  unfold effApp at hE
  split at hE
  · cases hE
  rename_i n ids g hs
  split at hE
  · -- nil
    cases hE
    cases hx
    obtain ⟨bs, r, hb, hr, rfl, rfl⟩ := exec_inv he
    simp only at hb hr
    split at hr
    · cases hr
    rename_i ys hg
    obtain ⟨news, hsrc, hyr⟩ := src_ok (P := P) (tx := tx) hk wf hy hs hb hg
    split at hr
    · rename_i h0
      subst h0; cases hr
      have : news = [] := List.length_eq_zero_iff.1 (by simpa using hsrc.newsLen)
      subst this
      exact ⟨_, .slice none 0 0, w, f, by rw [Sem.run_bind, run_append_nothing' w t tx ty e i ht hi none 0 0 v hsrc (Nat.le_refl _)]; rfl, .inl rfl, .v _, wf, .refl _ _ _ _ _, fun _ _ => rfl⟩
    · split at hr
      · rename_i h0 hsz
        cases hr
        have := grow_ok wf hn (ty := ty) ht hi hz hzs hz1' none 0 0 (olds := []) (xs := []) (run_firstCells_none w.drew i.size 0 0 0) (by simp) (fun _ h => by cases h) .nil hsrc hyr (by omega) (by simpa using hsz)
        simp only [Nat.zero_add, List.nil_append] at this
        obtain ⟨y', w', f', h1, h2, h3, h4, h5⟩ := this
        exact ⟨_, y', w', f', h1, .inl rfl, h2, by simpa [setAll] using h3, by simpa [setAll] using h4, h5⟩
      · cases hr
  · -- immutable
    rename_i cells len full
    cases hE
    obtain ⟨bs, r, hb, hr, rfl, rfl⟩ := exec_inv he
    simp only at hb hr
    split at hr
    · cases hr
    rename_i ys hg
    obtain ⟨news, hsrc, hyr⟩ := src_ok (P := P) (tx := tx) hk wf hy hs hb hg
    split at hr
    · rename_i h0
      subst h0; cases hr
      have : news = [] := List.length_eq_zero_iff.1 (by simpa using hsrc.newsLen)
      subst this
      refine ⟨_, u, w, f, ?_, .inl rfl, hx, wf, .refl _ _ _ _ _, fun _ _ => rfl⟩
      cases hx with
      | nil => rw [Sem.run_bind, run_append_nothing' w t tx ty e i ht hi none 0 0 v hsrc (Nat.le_refl _)]; rfl
      | il hvl hS hc h1 hr hn hf => rw [Sem.run_bind, run_append_nothing' w t tx ty e i ht hi _ _ _ v hsrc hn]; rfl
    · split at hr
      · rename_i h0 hb2
        obtain ⟨hfull, hcl, hsz⟩ := hb2
        cases hr
        cases hx with
        | nil =>
          have := grow_ok wf hn (ty := ty) ht hi hz hzs hz1' none 0 0 (olds := []) (xs := []) (run_firstCells_none w.drew i.size 0 0 0) (by simp) (fun _ h => by cases h) .nil hsrc hyr (by omega) (by simpa using hsz)
          simp only [Nat.zero_add, List.nil_append] at this
          obtain ⟨y', w', f', h1, h2, h3, h4, h5⟩ := this
          exact ⟨_, y', w', f', h1, .inl rfl, by simpa using h2, by simpa [setAll] using h3, by simpa [setAll] using h4, h5⟩
        | @il _ _ _ _ vals b o c hvl hS hc h1 hr hle hf =>
          have hc' := hf hfull
          subst hc'
          have hold : (Builtin.firstCells i.size c (.slice (some ⟨b, o, none⟩) c c)).run P w.drew = .ok vals.toArray w.drew :=
            run_firstCells_some w.drew i.size c ⟨b, o, none⟩ c c vals (by rw [hvl, hcl]) (fun j u hu => by rw [add_lit, World.cell?_drew]; exact hc j u hu)
          obtain ⟨y', w', f', h1', h2, h3, h4, h5⟩ := grow_ok wf hn (ty := ty) ht hi hz hzs hz1' (some ⟨b, o, none⟩) c c (xs := cells) hold (by rw [hvl, hcl]) h1 (Reps.none ⟨hvl, hr⟩) hsrc hyr (by omega) hsz
          exact ⟨_, y', w', f', h1', .inl rfl, h2, by simpa [setAll] using h3, by simpa [setAll] using h4, h5⟩
      · cases hr
  · -- a block of the heap
    rename_i id off len esz' cap
    split at hE
    · cases hE
    rename_i hesz
    have hesz' : esz' = i.size := Classical.not_not.1 hesz
    subst hesz'
    cases hx with
    | @ref _ _ _ _ _ _ c L hf q1 q2 q3 q4 =>
    -- growing out of a block
    have grow : ∀ (cs : List AV), h id = some (.cells cs) → off + len * i.size ≤ cs.length → c < len + n → (len + n) * (i.bytes + 1) ≤ 1099511627776 →
        ∀ {news ys}, Src P i.size tx v n news w → Reps S w f ys news →
        ∃ y w' f', (do pure (Next.value (← Builtin.append_ #[t, tx] ty #[.slice (some ⟨L.b, L.base + off, none⟩) len c, v])) : Sem Next).run P w = .ok (.value y) w' ∧ Rep S w' f' (.ref nid 0 (len + n) i.size none) y ∧
          Wf S w' f' (upd h nid (some (.cells ((cs.drop off).take (len * i.size) ++ ys)))) ∧ Step (fun _ => True) S w f h S w' f' (upd h nid (some (.cells ((cs.drop off).take (len * i.size) ++ ys)))) ∧ (∀ j, j ≠ nid → f' j = f j) :=
      fun cs hb1 hle hlt hsz news ys hsrc hyr => by
        obtain ⟨l', hl', hB⟩ := wf.hp.live _ _ hb1
        rw [hf] at hl'; cases hl'
        obtain ⟨vals, v1, v2, v3, v4⟩ := hB.take _ _ hle
        have hold : (Builtin.firstCells i.size len (.slice (some ⟨L.b, L.base + off, none⟩) len c)).run P w.drew = .ok vals.toArray w.drew :=
          run_firstCells_some w.drew i.size len _ len c vals v1 (fun j u hu => by rw [add_lit, World.cell?_drew]; exact v4 j u hu)
        exact grow_ok wf hn (ty := ty) ht hi hz hzs hz1' _ len c hold v1 v2 v3 hsrc hyr hlt hsz
    -- in place
    have room : ∀ (cs : List AV), h id = some (.cells cs) → off + len * i.size ≤ cs.length → len + n ≤ c → ∀ {news ys}, Src P i.size tx v n news w → Reps S w f ys news →
        ∃ w', (do pure (Next.value (← Builtin.append_ #[t, tx] ty #[.slice (some ⟨L.b, L.base + off, none⟩) len c, v])) : Sem Next).run P w = .ok (.value (.slice (some ⟨L.b, L.base + off, none⟩) (len + n) c)) w' ∧
          Wf S w' f (upd h id (some (.cells (splice cs (off + len * i.size) ys)))) ∧ Step (fun _ => True) S w f h S w' f (upd h id (some (.cells (splice cs (off + len * i.size) ys)))) :=
      fun cs hb1 hle hlt news ys hsrc hyr => by
        have e1 : (len + n) * i.size ≤ c * i.size := Nat.mul_le_mul_right _ hlt
        have e2 : (len + n) * i.size = len * i.size + n * i.size := Nat.add_mul _ _ _
        have e3 := hsrc.newsLen
        obtain ⟨w', hst, hwf, hstep⟩ := store_cells (P := P) wf hb1 hf (off + len * i.size) ys news hle (by omega) hsrc.one hyr
        refine ⟨w', ?_, hwf, hstep⟩
        rw [Sem.run_bind, run_append_room' w t tx ty e i ht hi _ len c v n news hsrc hlt, add_lit, Nat.add_assoc, hst]
        rfl
    split at hE
    · rename_i c0
      have hc0 := q1 c0 rfl
      subst hc0
      split at hE
      · rename_i hroom
        cases hE
        obtain ⟨bs, r, hb, hr, rfl, rfl⟩ := exec_inv he
        obtain ⟨b, rest, hb1, hb2, rfl⟩ := getAll_cons hb
        simp only at hr
        split at hr
        · rename_i cs rest' heq
          simp only [List.cons.injEq] at heq
          obtain ⟨rfl, rfl⟩ := heq
          split at hr
          · cases hr
          rename_i ys hg
          obtain ⟨news, hsrc, hyr⟩ := src_ok (P := P) (tx := tx) hk wf hy hs hb2 hg
          split at hr
          · rename_i hle
            cases hr
            obtain ⟨w', h1, h2, h3⟩ := room cs hb1 hle hroom hsrc hyr
            exact ⟨_, _, w', f, h1, .inl rfl, .ref hf (fun k hk => by cases hk; rfl) (fun hk => by cases hk) q3 hroom, by simpa [setAll] using h2, by simpa [setAll] using h3, fun _ _ => rfl⟩
          · cases hr
        · cases hr
      · rename_i hroom
        cases hE
        obtain ⟨bs, r, hb, hr, rfl, rfl⟩ := exec_inv he
        obtain ⟨b, rest, hb1, hb2, rfl⟩ := getAll_cons hb
        simp only at hr
        split at hr
        · rename_i cs rest' heq
          simp only [List.cons.injEq] at heq
          obtain ⟨rfl, rfl⟩ := heq
          split at hr
          · cases hr
          rename_i ys hg
          obtain ⟨news, hsrc, hyr⟩ := src_ok (P := P) (tx := tx) hk wf hy hs hb2 hg
          split at hr
          · rename_i hle
            cases hr
            obtain ⟨y', w', f', h1, h2, h3, h4, h5⟩ := grow cs hb1 hle.1 (by omega) hle.2 hsrc hyr
            exact ⟨_, y', w', f', h1, .inl rfl, h2, by simpa [setAll] using h3, by simpa [setAll] using h4, h5⟩
          · cases hr
        · cases hr
    · cases hE
      obtain ⟨bs, r, hb, hr, rfl, rfl⟩ := exec_inv he
      obtain ⟨b, rest, hb1, hb2, rfl⟩ := getAll_cons hb
      simp only at hr
      have q2' := q2 rfl
      split at hr
      · rename_i cs rest' heq
        simp only [List.cons.injEq] at heq
        obtain ⟨rfl, rfl⟩ := heq
        split at hr
        · cases hr
        rename_i ys hg
        obtain ⟨news, hsrc, hyr⟩ := src_ok (P := P) (tx := tx) hk wf hy hs hb2 hg
        split at hr
        · rename_i h0
          subst h0; cases hr
          have : news = [] := List.length_eq_zero_iff.1 (by simpa using hsrc.newsLen)
          subst this
          have hsame : upd h id (some (.cells cs)) = h := by
            funext j
            by_cases e : j = id
            · subst e; simp [hb1]
            · rw [upd_other _ _ e]
          exact ⟨_, _, w, f, by rw [Sem.run_bind, run_append_nothing' w t tx ty e i ht hi _ len c v hsrc q4]; rfl, .inl rfl, .ref hf q1 q2 q3 q4, by simpa [setAll, hsame] using wf, by simpa [setAll, hsame] using Step.refl _ _ _ _ _, fun _ _ => rfl⟩
        · rename_i h0
          split at hr
          · rename_i hle
            cases hr
            obtain ⟨l', hl', hB⟩ := wf.hp.live _ _ hb1
            rw [hf] at hl'; cases hl'
            have hlen : len + n ≤ c := by
              obtain ⟨arr, tt, a1, a2, a3, a4, a5⟩ := hB
              have h5 : (len + n) * i.size ≤ c * i.size := by omega
              exact Nat.le_of_mul_le_mul_right h5 hle.1
            have e2 : (len + n) * i.size = len * i.size + n * i.size := Nat.add_mul _ _ _
            obtain ⟨w', h1, h2, h3⟩ := room cs hb1 (by omega) hlen hsrc hyr
            exact ⟨_, _, w', f, h1, .inl rfl, .ref hf q1 q2 q3 hlen, by simpa [setAll] using h2, by simpa [setAll] using h3, fun _ _ => rfl⟩
          · split at hr
            · rename_i hnle hle
              cases hr
              by_cases hroom : len + n ≤ c
              · obtain ⟨w', h1, h2, h3⟩ := room cs hb1 hle.1 hroom hsrc hyr
                have e2 : (len + n) * i.size = len * i.size + n * i.size := Nat.add_mul _ _ _
                have e3 := hsrc.newsLen
                have e4 := hyr.1
                have hlen : off + (len + n) * i.size ≤ (splice cs (off + len * i.size) ys).length := by
                  rw [splice_len _ _ _ hle.1]; omega
                obtain ⟨h4, h5⟩ := wf_move h2 (id := id) (nid := nid) (l := L) (upd_same _ _ _) hf hn off ((len + n) * i.size) hlen
                have hcs : ((splice cs (off + len * i.size) ys).drop off).take ((len + n) * i.size) = (cs.drop off).take (len * i.size) ++ ys := by
                  apply List.ext_getElem?
                  intro j
                  rw [List.getElem?_take, List.getElem?_drop, splice_get _ _ _ hle.1, List.getElem?_append]
                  simp only [List.length_take, List.length_drop, List.getElem?_take, List.getElem?_drop]
                  by_cases c1 : j < len * i.size
                  · have a1 : j < (len + n) * i.size := by omega
                    have a2 : ¬ (off + len * i.size ≤ off + j ∧ off + j < off + len * i.size + ys.length) := by omega
                    have a3 : j < min (len * i.size) (cs.length - off) := by omega
                    rw [if_pos a1, if_neg a2, if_pos a3, if_pos c1]
                  · have a3 : ¬ j < min (len * i.size) (cs.length - off) := by omega
                    rw [if_neg a3]
                    have a4 : min (len * i.size) (cs.length - off) = len * i.size := by omega
                    rw [a4]
                    by_cases c2 : j < (len + n) * i.size
                    · have a2 : (off + len * i.size ≤ off + j ∧ off + j < off + len * i.size + ys.length) := by omega
                      rw [if_pos c2, if_pos a2]; congr 1; omega
                    · rw [if_neg c2, List.getElem?_eq_none (by omega)]
                rw [hcs] at h4 h5
                have hupd : upd (upd (upd h id (some (.cells (splice cs (off + len * i.size) ys)))) id none) nid (some (.cells ((cs.drop off).take (len * i.size) ++ ys))) = upd (upd h id none) nid (some (.cells ((cs.drop off).take (len * i.size) ++ ys))) := by
                  funext j; simp only [upd]; repeat' split
                  all_goals rfl
                rw [hupd] at h4 h5
                refine ⟨_, _, w', _, h1, .inl rfl, ?_, by simpa [setAll] using h4, by simpa [setAll] using h3.trans h5, fun j hj => upd_other _ _ hj⟩
                have := Rep.ref (S := S) (w := w') (off := 0) (len := len + n) (esz := i.size) (cap := none) (c := c) (upd_same f nid (some (⟨L.b, L.base + off, L.n⟩ : Loc))) (fun k hk => by cases hk) (fun _ => by simpa using q2') (by simpa using q3) hroom
                simpa using this
              · obtain ⟨y', w', f', h1, h2, h3, h4, h5⟩ := grow cs hb1 hle.1 (by omega) hle.2 hsrc hyr
                obtain ⟨h6, h7⟩ := wf_kill h3 id
                have hne : nid ≠ id := fun e => by subst e; rw [hn] at hf; cases hf
                have hupd : upd (upd h nid (some (.cells ((cs.drop off).take (len * i.size) ++ ys)))) id none = upd (upd h id none) nid (some (.cells ((cs.drop off).take (len * i.size) ++ ys))) := by
                  funext j; simp only [upd]
                  by_cases e1 : j = id
                  · subst e1; simp [Ne.symm hne]
                  · by_cases e2 : j = nid
                    · subst e2; simp [hne]
                    · simp [e1, e2]
                rw [hupd] at h6 h7
                exact ⟨_, y', w', f', h1, .inl rfl, h2, by simpa [setAll] using h6, by simpa [setAll] using h4.trans h7, h5⟩
            · cases hr
      · cases hr
  · cases hE

end Go.Sx
