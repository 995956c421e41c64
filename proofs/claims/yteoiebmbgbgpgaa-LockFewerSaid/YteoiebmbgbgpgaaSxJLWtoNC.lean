/- What the laws of the lock layer have in common: works, an order made by numbers is checked. No conditions. -/
import Derived.Test.YteoiebmbgbgpgaaSxJMWtoLVe
import Derived.Test.YteoiebmbgbgpgaaSxJLE1toLEw
set_option linter.unusedVariables false
set_option linter.unusedSimpArgs false
set_option maxRecDepth 4000
namespace Go.Sx.Lk
open Go Go.Sx Go.Proofs
section
def s15 : Sp := spT 15 [] (res true (vB true))
@[simp] theorem s15_g : s15.g = 15 := rfl
@[simp] theorem s15_f : s15.f = (spT 15 [] (res true (vB true))).f := rfl
theorem s15_ok : s15.ok Try.prog := by
  apply spT_ok
  simp only [OkT]
  intro r h' k' hh
  obtain ⟨_, rfl, rfl, rfl⟩ := res_inv hh
  exact k100_ok
theorem iota_zs (n : Nat) : iota n = zs (List.range n) := rfl
theorem erase_perm : ∀ (l : List Int) (k : Nat) (h : k < l.length), (l[k] :: l.eraseIdx k).Perm l
  | [], k, h => by simp at h
  | x :: r, 0, h => by simp
  | x :: r, k + 1, h => by
    simp only [List.getElem_cons_succ, List.eraseIdx_cons_succ]
    exact (List.Perm.swap _ _ _).trans ((erase_perm r k (by simpa using h)).cons x)
theorem mtS_perm (O : List Int) (n : Nat) : ∀ {i : Nat}, i ≤ n → ((mtS O n i).1 ++ (mtS O n i).2).Perm (iota n)
  | 0, _ => by simp [mtS]
  | i + 1, h => by
    have ih := mtS_perm O n (i := i) (by omega)
    have hl := mtS_len O n (i := i) (by omega)
    have hp : 0 < (mtS O n i).1.length := by omega
    simp only [mtS]
    generalize hk : (O.getD i 0).toNat % (mtS O n i).1.length = k
    have hkl : k < (mtS O n i).1.length := by rw [← hk]; exact Nat.mod_lt _ hp
    refine List.Perm.trans ?_ ih
    have e : (mtS O n i).1.getD k 0 = (mtS O n i).1[k] := by rw [List.getD_eq_getElem?_getD, List.getElem?_eq_getElem hkl]; rfl
    rw [e, ← List.append_assoc]
    refine List.perm_append_comm.trans ?_
    rw [List.singleton_append, ← List.cons_append]
    exact (erase_perm _ k hkl).append_right _
theorem chkN_of {n : Nat} : ∀ {l : List Nat}, l.Nodup → (∀ x ∈ l, x < n) → chkN n l = true
  | [], _, _ => rfl
  | x :: r, hd, hb => by
    simp only [chkN, Bool.and_eq_true, Bool.not_eq_true']
    refine ⟨⟨blt_iff.2 (hb x (by simp)), ?_⟩, chkN_of (List.nodup_cons.1 hd).2 fun y hy => hb y (by simp [hy])⟩
    cases h : memN x r
    · rfl
    · exact absurd (memN_iff.1 h) (List.nodup_cons.1 hd).1
theorem perm_chk {l : List Int} {n : Nat} (h0 : 0 < n) (h7 : n ≤ 7) (hp : l.Perm (iota n)) : chkF l = 0 := by
  have hm : (l.map Int.toNat).Perm (List.range n) := by
    have := hp.map Int.toNat
    rwa [iota_zs, toNat_zs] at this
  have hz : l = zs (l.map Int.toNat) := by
    have : ∀ x ∈ l, (x.toNat : Int) = x := fun x hx => by
      have := hp.mem_iff.1 hx
      rw [iota_zs] at this
      simp only [zs, List.mem_map] at this
      obtain ⟨k, _, rfl⟩ := this
      simp
    rw [zs, List.map_map]
    exact (List.map_id l).symm.trans (List.map_congr_left fun x hx => (this x hx).symm)
  have hlen : (l.map Int.toNat).length = n := by rw [hm.length_eq, List.length_range]
  rw [hz]
  refine chkN_F (by omega) (by omega) (chkN_of (hm.nodup_iff.2 List.nodup_range) fun x hx => ?_)
  rw [hlen]
  exact List.mem_range.1 (hm.mem_iff.1 hx)
theorem made_chk {s : Int} {O : List Int} {most : Int} (h : gTr s O most = true) : chkF (mtL s.toNat O most.toNat) = 0 := by
  simp only [gTr, Bool.and_eq_true, decide_eq_true_eq, within_iff, List.all_eq_true] at h
  obtain ⟨⟨⟨hs, hO⟩, hOb⟩, hm⟩ := h
  have hml : s.toNat % most.toNat < most.toNat := Nat.mod_lt _ (by omega)
  have hl := mtS_len O (1 + s.toNat % most.toNat) (Nat.le_refl _)
  have hp := mtS_perm O (1 + s.toNat % most.toNat) (Nat.le_refl _)
  have h1 : (mtS O (1 + s.toNat % most.toNat) (1 + s.toNat % most.toNat)).1 = [] := List.length_eq_zero_iff.1 (by omega)
  rw [h1, List.nil_append] at hp
  exact perm_chk (by omega) (by omega) hp
theorem made_most {s : Int} {O : List Int} {most : Int} (h : gTr s O most = true) : (mtL s.toNat O most.toNat).length ≤ most := by
  simp only [gTr, Bool.and_eq_true, decide_eq_true_eq, within_iff, List.all_eq_true] at h
  obtain ⟨⟨⟨hs, hO⟩, hOb⟩, hm⟩ := h
  have hml : s.toNat % most.toNat < most.toNat := Nat.mod_lt _ (by omega)
  unfold mtL
  rw [mtS_out]
  omega
theorem gTr_of {s : Int} {l : List Int} {most : Int} (hs : 0 ≤ s ∧ s ≤ 255) (hl : l.length = 7) (hb : ∀ x ∈ l, 0 ≤ x ∧ x ≤ 255) (hm : 1 ≤ most ∧ most ≤ 7 := by omega) : gTr s l most = true := by
  simp only [gTr, Bool.and_eq_true, decide_eq_true_eq, within_iff, List.all_eq_true]
  exact ⟨⟨⟨hs, hl⟩, hb⟩, hm⟩
end
section
theorem cktA : ∀ n, n < 8 → (perN n).all ckt = true := by
  intro n hn
  have : n = 0 ∨ n = 1 ∨ n = 2 ∨ n = 3 ∨ n = 4 ∨ n = 5 ∨ n = 6 ∨ n = 7 := by omega
  rcases this with rfl | rfl | rfl | rfl | rfl | rfl | rfl | rfl
  · exact kt0
  · exact kt1
  · exact kt2
  · exact kt3
  · exact kt4
  · exact kt5
  · exact kt6
  · exact per7 kt70 kt71 kt72 kt73 kt74 kt75 kt76
theorem adjF_iff {l : List Int} (h : chkF l = 0) {a b : Int} (ha : 0 ≤ a) (hb : 0 ≤ b) : adjF l a b = true ↔ Cl l a b ∨ Cl l b a := by
  unfold adjF
  rw [clF_bit h, Int.toNat_of_nonneg ha, Int.toNat_of_nonneg hb]
structure TwF (l : List Int) : Prop where
  some : (twF l).1.2 = true → okx (adjF l) [] l (twF l).2 ∧ ∀ ys, okx (adjF l) [] l ys → lexLe (twF l).2 ys
  none : (twF l).1.2 = false → ∀ ys, ¬ okx (adjF l) [] l ys
  bt : bt (adjF l) l [] = if (twF l).1.2 = true then Option.some (twF l).2 else Option.none
  srt : srtB (psd l) = true ↔ ∀ a b, ¬ Cl l a b
theorem tw_facts {l : List Int} (h : chkF l = 0) : TwF l := by
  have hck := h
  obtain ⟨m, rfl, hm⟩ := per_all cktA h
  simp only [ckt, ckt1, Bool.and_eq_true] at hm
  obtain ⟨h1, h2⟩ := hm
  have hadj : adjF (zs m) = adjL (clN m) := by
    funext a b
    unfold adjF adjL
    rw [clN_eq]
  have hbt := btN_eq (clN m) m []
  simp only [List.map_nil] at hbt
  have htw := twN_eq m
  have key : bt (adjF (zs m)) (zs m) [] = if (twF (zs m)).1.2 = true then some (twF (zs m)).2 else none := by
    rw [hadj, hbt, htw]
    generalize twN (clN m) m = q at *
    obtain ⟨⟨I, ok⟩, out⟩ := q
    cases hb : btN (clN m) m [] with
    | none =>
      rw [hb] at h1
      simp only [cktw, Bool.not_eq_true'] at h1
      subst h1
      simp [decS]
    | some c =>
      rw [hb] at h1
      simp only [cktw, Bool.and_eq_true] at h1
      obtain ⟨rfl, h4⟩ := h1
      have h5 := eqN_eq h4
      subst h5
      simp [decS, zs, dec, Function.comp_def]
  have hsp := bt_spec (adjF (zs m)) (zs m) []
  refine ⟨fun ht => ?_, fun ht => ?_, key, ?_⟩
  · rw [if_pos ht] at key
    obtain ⟨xs, e1, e2, e3⟩ := hsp.1 _ key
    simp only [List.reverse_nil, List.map_nil, List.nil_append] at e1
    rw [e1]; exact ⟨e2, e3⟩
  · rw [if_neg (by rw [ht]; simp)] at key
    exact hsp.2 key
  · rw [psdN_eq, srtN_eq, eqBt_eq h2, List.all_eq_true]
    constructor
    · intro hz a b hc
      have hcc := hc
      obtain ⟨c, h3, h4, h5⟩ := hc
      have hma := chk_mem hck a (h3.subset (by simp))
      have hmb := chk_mem hck b (h3.subset (by simp))
      have hbit := (clF_bit hck a.toNat b.toNat).2 (.inl (by rw [Int.toNat_of_nonneg hma.1, Int.toNat_of_nonneg hmb.1]; exact hcc))
      have hz0 : (clF (zs m)).getD a.toNat 0 = 0 := by
        rw [List.getD_eq_getElem?_getD]
        cases hg : (clF (zs m))[a.toNat]? with
        | none => rfl
        | some v =>
          have := hz v (by rw [← clN_eq]; exact List.mem_of_getElem? hg)
          rw [Nat.beq_eq] at this
          exact this.symm
      rw [hz0] at hbit
      simp at hbit
    · intro hn v hv
      rw [Nat.beq_eq]
      rw [← clN_eq] at hv
      obtain ⟨i, hi⟩ := List.getElem?_of_mem hv
      rcases Nat.eq_zero_or_pos v with rfl | hp
      · rfl
      · obtain ⟨j, hj⟩ := Nat.exists_testBit_of_ne_zero (x := v) (by omega)
        have := (clF_bit hck i j).1 (by rw [List.getD_eq_getElem?_getD, hi]; exact hj)
        rcases this with h | h
        · exact absurd h (hn _ _)
        · exact absurd h (hn _ _)
theorem adjF_symm {l : List Int} (h : chkF l = 0) (a b : Int) : adjF l a b = adjF l b a := by
  rw [Bool.eq_iff_iff]
  unfold adjF
  rw [clF_bit h, clF_bit h]
  exact or_comm
theorem adjF_irr {l : List Int} (h : chkF l = 0) (a : Int) : adjF l a a = false := by
  rw [Bool.eq_false_iff]
  unfold adjF
  rw [Ne, clF_bit h]
  rintro (⟨c, h1, h2, h3⟩ | ⟨c, h1, h2, h3⟩) <;> omega
theorem two_iff {l : List Int} (h : chkF l = 0) : (twF l).1.2 = true ↔ ∃ col : Int → Int, (∀ a, col a = 0 ∨ col a = 1) ∧ ∀ a b, Cl l a b → col a ≠ col b := by
  have hf := tw_facts h
  have hm := chk_mem h
  constructor
  · intro ht
    obtain ⟨col, h1, h2⟩ := okx_col (adjF_symm h) (adjF_irr h) (hf.some ht).1
    refine ⟨col, h1, fun a b hc => ?_⟩
    have hcc := hc
    obtain ⟨c, h3, h4, h5⟩ := hc
    have ha : a ∈ l := h3.subset (by simp)
    have hb : b ∈ l := h3.subset (by simp)
    exact h2 a ha b hb ((adjF_iff h (hm a ha).1 (hm b hb).1).2 (.inl hcc))
  · rintro ⟨col, h1, h2⟩
    cases ht : (twF l).1.2 with
    | true => rfl
    | false =>
      refine absurd (col_okx (adj := adjF l) h1 (l := l) (fun a ha b hb hab => ?_) [] l (by simp) (fun a h => h)) (hf.none ht _)
      rcases (adjF_iff h (hm a ha).1 (hm b hb).1).1 hab with hc | hc
      · exact h2 a b hc
      · exact fun e => h2 b a hc e.symm
/-! ### Without a barge -/
def rmf (g x : Int) : Option Int := if x < g then some x else if g < x then some (x - 1) else none
def rmF (g : Int) (l : List Int) : List Int := l.filterMap (rmf g)
def upg (g y : Int) : Int := if y < g then y else y + 1
theorem rmf_some {g x y : Int} (h : rmf g x = some y) : x = upg g y := by
  unfold rmf at h
  unfold upg
  split at h
  · cases h; rw [if_pos (by assumption)]
  · split at h
    · cases h; rw [if_neg (by omega)]; omega
    · cases h
theorem rm_sub (g : Int) : ∀ {t l : List Int}, t.Sublist (rmF g l) → (t.map (upg g)).Sublist l := by
  intro t l h
  have h1 : (t.map (upg g)).Sublist ((rmF g l).map (upg g)) := h.map _
  refine h1.trans ?_
  clear h h1 t
  induction l with
  | nil => simp [rmF]
  | cons x r ih =>
    unfold rmF at ih ⊢
    rw [List.filterMap_cons]
    cases hx : rmf g x with
    | none => exact ih.trans (List.sublist_cons_self _ _)
    | some y =>
      simp only [List.map_cons]
      rw [← rmf_some hx]
      exact ih.cons_cons x
theorem upg_lt {g a b : Int} : upg g a < upg g b ↔ a < b := by
  unfold upg; repeat' split
  all_goals omega
theorem rm_cl {g : Int} {l : List Int} {a b : Int} (h : Cl (rmF g l) a b) : Cl l (upg g a) (upg g b) := by
  obtain ⟨c, h1, h2, h3⟩ := h
  exact ⟨upg g c, rm_sub g h1, upg_lt.2 h2, upg_lt.2 h3⟩
theorem rm_iota : ∀ n, n < 8 → ∀ g, g < n → rmF (g : Nat) (iota n) = iota (n - 1) := by decide
theorem rm_chk {l : List Int} {n g : Nat} (hn : 1 < n) (h7 : n ≤ 7) (hg : g < n) (hp : l.Perm (iota n)) : chkF (rmF g l) = 0 := by
  have := hp.filterMap (rmf g)
  rw [show (iota n).filterMap (rmf g) = iota (n - 1) from rm_iota n (by omega) g hg] at this
  exact perm_chk (by omega) (by omega) this
theorem rm_sorted {l : List Int} {g : Int} (h : chkF l = 0) (h' : chkF (rmF g l) = 0) (hs : srtB (psd l) = true) : srtB (psd (rmF g l)) = true := by
  rw [(tw_facts h').srt]
  intro a b hc
  exact (tw_facts h).srt.1 hs _ _ (rm_cl hc)
theorem rm_two {l : List Int} {g : Int} (h : chkF l = 0) (h' : chkF (rmF g l) = 0) (hs : (twF l).1.2 = true) : (twF (rmF g l)).1.2 = true := by
  rw [two_iff h']
  obtain ⟨col, h1, h2⟩ := (two_iff h).1 hs
  exact ⟨fun a => col (upg g a), fun a => h1 _, fun a b hc => h2 _ _ (rm_cl hc)⟩
theorem made_perm {s : Int} {O : List Int} {most : Int} (h : gTr s O most = true) : (mtL s.toNat O most.toNat).Perm (iota (mtL s.toNat O most.toNat).length) := by
  simp only [gTr, Bool.and_eq_true, decide_eq_true_eq, within_iff, List.all_eq_true] at h
  obtain ⟨⟨⟨hs, hO⟩, hOb⟩, hm⟩ := h
  have hml : s.toNat % most.toNat < most.toNat := Nat.mod_lt _ (by omega)
  have hl := mtS_len O (1 + s.toNat % most.toNat) (Nat.le_refl _)
  have hp := mtS_perm O (1 + s.toNat % most.toNat) (Nat.le_refl _)
  have h1 : (mtS O (1 + s.toNat % most.toNat) (1 + s.toNat % most.toNat)).1 = [] := List.length_eq_zero_iff.1 (by omega)
  rw [h1, List.nil_append] at hp
  unfold mtL
  have e := hp.length_eq
  rw [iota_len] at e
  rw [e]
  exact hp
theorem made_pack2 {s : Int} {O : List Int} {most : Int} (h : gTr s O most = true) : ∃ l K, K = trA s O ∧ f45 [.agg K, vI most] [] 0 = some (.il (ints l) l.length false, [], 0) ∧ chkF l = 0 ∧ (l.length : Int) ≤ most ∧ l.Perm (iota l.length) ∧
    K.length = 8 ∧ K.take 8 = K ∧ (∀ f, renL f K = K) ∧ (∀ id cs, frL id cs K = K) ∧ cloL K = true ∧ flatL K = true := by
  have hO : O.length = 7 := by simp only [gTr, Bool.and_eq_true, decide_eq_true_eq] at h; exact h.1.1.2
  have hl : (trA s O).length = 8 := by simp [trA, u8s, hO]
  exact ⟨_, _, rfl, f45_at h, made_chk h, made_most h, made_perm h, hl, List.take_of_length_le (by omega), fun f => by simp [trA], fun id cs => by simp [trA], by simp [trA], by simp [trA]⟩
end
end Go.Sx.Lk
