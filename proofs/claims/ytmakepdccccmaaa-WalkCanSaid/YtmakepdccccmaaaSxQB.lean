/- The search finds whether a walk can go on for ever: plain facts. No conditions. -/
import Derived.Test.YtmakepdccccmaaaSxQA
set_option linter.unusedVariables false
set_option linter.unusedSimpArgs false
namespace Go.Sx.Wk
open Go Go.Sx Go.Proofs

def pad (t l : List Int) : List Int := l ++ List.replicate (4 - t.length) 0
theorem pad_inj {t a b : List Int} (ha : t.length = a.length) (hb : t.length = b.length) (h : pad t a = pad t b) : a = b := (List.append_inj h (by omega)).1
theorem pad_len {t a : List Int} (ha : t.length = a.length) (h4 : t.length ≤ 4) : (pad t a).length = 4 := by simp [pad]; omega
theorem stp_pad {t l : List Int} (hl : t.length = l.length) (x : Nat) : stp t x (pad t l) = (aftG x t l 0).map (pad t) := by
  unfold stp pad
  rw [List.take_left' (by omega), List.drop_left' (by omega)]

def lk {β : Type} (p : List Int) (m : List (List Int × β)) : Option β := (findP p m 0).map (·.2)
theorem findP_shift {β : Type} (p : List Int) : ∀ (m : List (List Int × β)) (i j : Nat), findP p m (i + j) = (findP p m i).map fun r => (r.1 + j, r.2)
  | [], i, j => rfl
  | q :: m, i, j => by
    simp only [findP]
    split
    · rfl
    · rw [show i + j + 1 = (i + 1) + j by omega]; exact findP_shift p m (i + 1) j
theorem lk_nil {β : Type} (p : List Int) : lk p ([] : List (List Int × β)) = none := rfl
theorem lk_cons {β : Type} (p : List Int) (q : List Int × β) (m : List (List Int × β)) : lk p (q :: m) = if p = q.1 then some q.2 else lk p m := by
  unfold lk
  simp only [findP]
  split
  · rfl
  · rw [show (0 + 1) = 0 + 1 from rfl, findP_shift p m 0 1, Option.map_map]; rfl
theorem lk_app {β : Type} (p s : List Int) (b : β) : ∀ (m : List (List Int × β)), lk s m = none → lk p (m ++ [(s, b)]) = if p = s then some b else lk p m
  | [], _ => by simp [lk_cons, lk_nil]
  | q :: m, h => by
    rw [lk_cons] at h
    split at h
    · cases h
    · rename_i hq
      rw [List.cons_append, lk_cons, lk_cons, lk_app p s b m h]
      by_cases h1 : p = s
      · subst h1; simp [hq]
      · simp [h1]
theorem lk_set {β : Type} (p s : List Int) (b : β) : ∀ (m : List (List Int × β)) (i j : Nat) (x : β), findP s m j = some (i + j, x) → lk p (m.set i (s, b)) = if p = s then some b else lk p m
  | [], i, j, x, h => by simp [findP] at h
  | q :: m, i, j, x, h => by
    simp only [findP] at h
    split at h
    · rename_i hs
      simp only [Option.some.injEq, Prod.mk.injEq] at h
      have : i = 0 := by omega
      subst this
      rw [List.set_cons_zero, lk_cons, lk_cons]
      subst hs
      by_cases h1 : p = q.1
      · simp [h1]
      · simp [h1]
    · rename_i hs
      have hlt := (findP_lt h).1
      obtain ⟨i, rfl⟩ : ∃ k, i = k + 1 := ⟨i - 1, by omega⟩
      rw [List.set_cons_succ, lk_cons, lk_cons, lk_set p s b m i (j + 1) x (by rw [h]; congr 2; omega)]
      by_cases h1 : p = s
      · subst h1; simp [hs]
      · simp [h1]
theorem lk_put {β : Type} (p s : List Int) (b : β) (m : List (List Int × β)) : lk p (putP s b m) = if p = s then some b else lk p m := by
  unfold putP
  cases h : findP s m 0 with
  | none => exact lk_app p s b m (by simp [lk, h])
  | some r => obtain ⟨i, x⟩ := r; exact lk_set p s b m i 0 x h
theorem getS_lk (p : List Int) (sh : List (List Int × Int)) : getS p sh = (lk p sh).getD 0 := by
  unfold getS lk
  cases findP p sh 0 <;> rfl
theorem keys4_put {β : Type} {s : List Int} {b : β} {m : List (List Int × β)} (h : keys4 m = true) (hs : s.length = 4) : keys4 (putP s b m) = true := by
  have h' := List.all_eq_true.1 h
  refine List.all_eq_true.2 fun q hq => ?_
  unfold putP at hq
  split at hq
  · rcases List.mem_or_eq_of_mem_set hq with h1 | h1
    · exact h' q h1
    · subst h1; simpa using hs
  · rw [List.mem_append] at hq
    rcases hq with h1 | h1
    · exact h' q h1
    · simp at h1; subst h1; simpa using hs

/-! ### Paths -/
def St1 (t a b : List Int) : Prop := ∃ s, s < t.length ∧ aftG (s : Nat) t a 0 = some b
inductive PathP (t : List Int) : List Int → List Int → Prop where
  | one {a b} (h : St1 t a b) : PathP t a b
  | tail {a b c} (h : PathP t a b) (h2 : St1 t b c) : PathP t a c
theorem can_step {t a b : List Int} (h : St1 t a b) {k : Nat} (hk : canK t k b = true) : canK t (k + 1) a = true := by
  obtain ⟨s, h1, h2⟩ := h
  exact canK_succ.2 ⟨s, h1, b, h2, hk⟩
theorem can_path {t a b : List Int} (h : PathP t a b) : ∀ {k : Nat}, canK t k b = true → canK t (k + 1) a = true := by
  induction h with
  | one h => intro k hk; exact can_step h hk
  | tail h h2 ih => intro k hk; exact canK_anti (ih (can_step h2 hk))
theorem ever_path {t a b : List Int} (h : PathP t a b) (he : Ever t b) : Ever t a := fun k => canK_anti (can_path h (he k))
theorem ever_cycle {t a : List Int} (h : PathP t a a) : Ever t a := by
  intro k
  induction k with
  | zero => rfl
  | succ k ih => exact can_path h ih

/-- How long the longest walk is. -/
def Long (t l : List Int) (m : Nat) : Prop := canK t m l = true ∧ canK t (m + 1) l = false
theorem long_le {t l : List Int} (h1 : ∀ y ∈ t, 1 ≤ y) (ht : ok8 t = true) (h4 : t.length ≤ 4) (hv : val t l) {m : Nat} (h : Long t l m) : m ≤ 5000 := by
  have key : ∀ j, j ≤ m + 1 → cnt t j + j ≤ cnt t 0 := by
    intro j
    induction j with
    | zero => intro _; omega
    | succ j ih =>
      intro hj
      have := ih (by omega)
      have hne : (stL t).map (canK t (j + 1)) ≠ (stL t).map (canK t j) := fun e => by
        have hs := canK_stable h1 e (m + 1 - j) l hv (canK_le (by omega) h.1)
        rw [show j + (m + 1 - j) = m + 1 by omega, h.2] at hs
        cases hs
      have := cnt_lt hne
      omega
  have := key (m + 1) (Nat.le_refl _)
  have := cnt0 ht h4
  omega

structure Inv (t : List Int) (K : List (List Int)) (ev : List (List Int × Bool)) (sh : List (List Int × Int)) : Prop where
  k1 : keys4 ev = true
  k2 : keys4 sh = true
  tr : ∀ p, lk p ev = some true → ∃ l, p = pad t l ∧ val t l ∧ (l ∈ K ∨ Ever t l)
  fa : ∀ p, lk p ev = some false → ∃ l m, p = pad t l ∧ val t l ∧ getS p sh = (m : Nat) ∧ Long t l m
def unv (t : List Int) (ev : List (List Int × Bool)) : Nat := (stL t).countP fun l => (lk (pad t l) ev).isNone

theorem unv_le {t : List Int} {ev ev' : List (List Int × Bool)} (h : ∀ p, (lk p ev).isSome = true → (lk p ev').isSome = true) : unv t ev' ≤ unv t ev := by
  refine List.countP_mono_left fun l _ hl => ?_
  cases h1 : lk (pad t l) ev with
  | none => rfl
  | some b =>
    have := h (pad t l) (by rw [h1]; rfl)
    cases h2 : lk (pad t l) ev' with
    | none => rw [h2] at this; cases this
    | some b => rw [h2] at hl; cases hl
theorem countP_lt {p q : List Int → Bool} : ∀ {L : List (List Int)} {a : List Int}, (∀ x ∈ L, q x = true → p x = true) → a ∈ L → p a = true → q a = false → L.countP q < L.countP p
  | x :: L, a, h, ha, hp, hq => by
    have mono : L.countP q ≤ L.countP p := List.countP_mono_left fun y hy => h y (by simp [hy])
    simp only [List.countP_cons]
    rw [List.mem_cons] at ha
    rcases ha with rfl | ha
    · simp [hp, hq]; omega
    · have := countP_lt (fun y hy => h y (by simp [hy])) ha hp hq
      have hx := h x (by simp)
      cases h1 : q x <;> cases h2 : p x <;> simp_all <;> omega
theorem unv_lt {t l : List Int} {ev : List (List Int × Bool)} (hl : l ∈ stL t) (h : lk (pad t l) ev = none) : unv t (putP (pad t l) true ev) < unv t ev := by
  refine countP_lt (a := l) (fun x _ hx => ?_) hl (by rw [h]; rfl) (by rw [lk_put]; simp)
  rw [lk_put] at hx
  split at hx
  · cases hx
  · exact hx

theorem mem_st {t l : List Int} (h : val t l) : l ∈ stL t := by
  obtain ⟨i, _, h2⟩ := idx_get h
  exact List.mem_of_getElem? h2

section
variable {t : List Int} (ht : ok8 t = true) (h4 : t.length ≤ 4)
include ht h4

theorem stOk_pad {l : List Int} (hv : val t l) : stOkB (pad t l) = true := by
  have hl := val_len hv
  simp only [stOkB, Bool.and_eq_true, decide_eq_true_eq, List.all_eq_true, within_iff]
  refine ⟨pad_len hl h4, fun y hy => ?_⟩
  simp only [pad, List.mem_append] at hy
  rcases hy with hy | hy
  · have := val_ok8 hv (ok8_iff.1 ht) y hy; omega
  · have := List.eq_of_mem_replicate hy; omega

theorem goF_ok : ∀ (f : Nat) (K : List (List Int)) (l : List Int) (ev : List (List Int × Bool)) (sh : List (List Int × Int)), val t l → Inv t K ev sh → (∀ k ∈ K, PathP t k l) → unv t ev < f →
    ∃ b ev' sh', goF t f (pad t l) ev sh = some (b, ev', sh') ∧ Inv t K ev' sh' ∧ (∀ p, (lk p ev).isSome = true → (lk p ev').isSome = true) ∧ (b = true → Ever t l) ∧ (b = false → lk (pad t l) ev' = some false) := by
  intro f
  induction f with
  | zero => intro K l ev sh _ _ _ h; omega
  | succ f ih =>
    intro K l ev sh hv hI hK hf
    have h1 : ∀ y ∈ t, 1 ≤ y := fun y hy => (ok8_iff.1 ht y hy).1
    have hl := val_len hv
    have hp4 := pad_len hl h4
    simp only [goF]
    rw [if_pos (by simp only [Bool.and_eq_true, decide_eq_true_eq]; exact ⟨⟨h4, stOk_pad ht h4 hv⟩, hI.k1⟩)]
    cases hfd : findP (pad t l) ev 0 with
    | some r =>
      obtain ⟨i, b⟩ := r
      have hlk : lk (pad t l) ev = some b := by simp [lk, hfd]
      refine ⟨b, ev, sh, rfl, hI, fun _ h => h, fun hb => ?_, fun hb => by rw [hlk, hb]⟩
      subst hb
      obtain ⟨l', e1, e2, e3⟩ := hI.tr _ hlk
      have := pad_inj hl (val_len e2) e1
      subst this
      rcases e3 with e3 | e3
      · exact ever_cycle (hK l e3)
      · exact e3
    | none =>
      have hlk : lk (pad t l) ev = none := by simp [lk, hfd]
      simp only
      have hu := unv_lt (mem_st hv) hlk
      have hI1 : Inv t (l :: K) (putP (pad t l) true ev) sh := by
        refine ⟨keys4_put hI.k1 hp4, hI.k2, fun p hp => ?_, fun p hp => ?_⟩
        · rw [lk_put] at hp
          split at hp
          · rename_i e; exact ⟨l, e, hv, .inl (by simp)⟩
          · obtain ⟨l', e1, e2, e3⟩ := hI.tr p hp
            exact ⟨l', e1, e2, e3.imp (fun h => List.mem_cons_of_mem _ h) id⟩
        · rw [lk_put] at hp
          split at hp
          · cases hp
          · exact hI.fa p hp
      -- the loop
      have loop : ∀ (r : Nat) (lg : Nat) (ev1 : List (List Int × Bool)) (sh1 : List (List Int × Int)), r ≤ t.length → Inv t (l :: K) ev1 sh1 → (∀ p, (lk p (putP (pad t l) true ev)).isSome = true → (lk p ev1).isSome = true) →
          canK t lg l = true → (∀ i l', i < t.length - r → aftG (i : Nat) t l 0 = some l' → canK t lg l' = false) →
          ∃ b ev' sh', goL (goF t f) t (pad t l) r lg ev1 sh1 = some (b, ev', sh') ∧ Inv t K ev' sh' ∧ (∀ p, (lk p (putP (pad t l) true ev)).isSome = true → (lk p ev').isSome = true) ∧ (b = true → Ever t l) ∧ (b = false → lk (pad t l) ev' = some false) := by
        intro r
        induction r with
        | zero =>
          intro lg ev1 sh1 hr hJ hsub hc hd
          simp only [goL]
          rw [if_pos (by simp only [Bool.and_eq_true]; exact ⟨hJ.k1, hJ.k2⟩)]
          have hlong : Long t l lg := by
            refine ⟨hc, ?_⟩
            cases hc1 : canK t (lg + 1) l with
            | false => rfl
            | true =>
              obtain ⟨s, s1, l', s2, s3⟩ := canK_succ.1 hc1
              rw [hd s l' (by omega) s2] at s3; cases s3
          refine ⟨false, _, _, rfl, ⟨keys4_put hJ.k1 hp4, keys4_put hJ.k2 hp4, fun p hp => ?_, fun p hp => ?_⟩, fun p hp => ?_, (fun h => (by cases h)), (fun _ => by rw [lk_put]; simp)⟩
          · rw [lk_put] at hp
            split at hp
            · cases hp
            · rename_i hne
              obtain ⟨l', e1, e2, e3⟩ := hJ.tr p hp
              refine ⟨l', e1, e2, ?_⟩
              rcases e3 with e3 | e3
              · rw [List.mem_cons] at e3
                rcases e3 with e3 | e3
                · subst e3; exact absurd e1 hne
                · exact .inl e3
              · exact .inr e3
          · rw [lk_put] at hp
            rw [getS_lk, lk_put]
            split at hp
            · rename_i e
              exact ⟨l, lg, e, hv, by simp [e], hlong⟩
            · rename_i hne
              obtain ⟨l', m, e1, e2, e3, e4⟩ := hJ.fa p hp
              rw [if_neg hne, ← getS_lk]
              exact ⟨l', m, e1, e2, e3, e4⟩
          · rw [lk_put]
            split
            · rfl
            · exact hsub p hp
        | succ r ihr =>
          intro lg ev1 sh1 hr hJ hsub hc hd
          simp only [goL, stp_pad hl]
          have hi : t.length - (r + 1) < t.length := by omega
          cases ha : aftG ((t.length - (r + 1) : Nat) : Int) t l 0 with
          | none =>
            simp only [Option.map_none]
            refine ihr lg ev1 sh1 (by omega) hJ hsub hc fun i l' hi' h' => ?_
            by_cases e : i = t.length - (r + 1)
            · subst e; rw [ha] at h'; cases h'
            · exact hd i l' (by omega) h'
          | some q =>
            simp only [Option.map_some]
            have hvq := aft_val hv h1 ha
            have hst : St1 t l q := ⟨_, hi, ha⟩
            obtain ⟨b', ev2, sh2, g1, g2, g3, g4, g5⟩ := ih (l :: K) q ev1 sh1 hvq hJ (fun k hk => by
              rw [List.mem_cons] at hk
              rcases hk with rfl | hk
              · exact .one hst
              · exact .tail (hK k hk) hst) (by
              have := unv_le (t := t) hsub
              omega)
            rw [g1]
            cases b' with
            | true =>
              have he := ever_path (.one hst) (g4 rfl)
              refine ⟨true, ev2, sh2, rfl, ⟨g2.k1, g2.k2, fun p hp => ?_, g2.fa⟩, fun p hp => g3 p (hsub p hp), fun _ => he, (fun h => (by cases h))⟩
              obtain ⟨l', e1, e2, e3⟩ := g2.tr p hp
              refine ⟨l', e1, e2, ?_⟩
              rcases e3 with e3 | e3
              · rw [List.mem_cons] at e3
                rcases e3 with rfl | e3
                · exact .inr he
                · exact .inl e3
              · exact .inr e3
            | false =>
              obtain ⟨l', m, e1, e2, e3, e4⟩ := g2.fa _ (g5 rfl)
              have := pad_inj (val_len hvq) (val_len e2) e1
              subst this
              have hm := long_le h1 ht h4 hvq e4
              simp only
              rw [if_pos (by simp only [Bool.and_eq_true, within_iff, decide_eq_true_eq]; exact ⟨⟨g2.k2, by rw [e3]; omega⟩, pad_len (val_len hvq) h4⟩)]
              have hmax : max (lg : Int) (1 + getS (pad t q) sh2) = ((max lg (m + 1) : Nat) : Int) := by rw [e3]; omega
              rw [hmax]
              refine ihr _ ev2 sh2 (by omega) g2 (fun p hp => g3 p (hsub p hp)) ?_ fun i l' hi' h' => ?_
              · rcases Nat.le_total lg (m + 1) with h | h
                · rw [Nat.max_eq_right h]; exact can_step hst e4.1
                · rw [Nat.max_eq_left h]; exact hc
              · by_cases e : i = t.length - (r + 1)
                · subst e
                  rw [ha] at h'; cases h'
                  cases hx : canK t (max lg (m + 1)) q with
                  | false => rfl
                  | true => have := canK_le (show m + 1 ≤ max lg (m + 1) by omega) hx; rw [e4.2] at this; cases this
                · have := hd i l' (by omega) h'
                  cases hx : canK t (max lg (m + 1)) l' with
                  | false => rfl
                  | true => have := canK_le (show lg ≤ max lg (m + 1) by omega) hx; simp_all
      obtain ⟨b, ev', sh', q1, q2, q3, q4, q5⟩ := loop t.length 0 _ sh (Nat.le_refl _) hI1 (fun _ h => h) rfl (fun i l' hi => by omega)
      refine ⟨b, ev', sh', q1, q2, fun p hp => q3 p ?_, q4, q5⟩
      rw [lk_put]
      split
      · rfl
      · exact hp

omit ht h4 in
/-- The search from a state, when nothing is known. -/
theorem inv_nil : Inv t [] [] [] := ⟨rfl, rfl, fun p hp => by simp [lk_nil] at hp, fun p hp => by simp [lk_nil] at hp⟩
theorem unv_nil : unv t [] < 5000 := by
  have := stL_len ht h4
  have := List.countP_le_length (p := fun l => (lk (pad t l) ([] : List (List Int × Bool))).isNone) (l := stL t)
  unfold unv; omega
theorem aliveF_spec : (Ever t t ∧ (aliveF t).2 = -1 ∧ ∀ (i : Nat) (x : List Int), (stL t)[i]? = some x → (((aliveF t).1)[i]? = some true ↔ Ever t x)) ∨ (∃ n : Nat, (aliveF t).2 = n ∧ Long t t n) := by
  rcases alv_spec (fun y hy => (ok8_iff.1 ht y hy).1) (val_self (ok8_iff.1 ht)) 5000 0 (cnt0 ht h4) (fun j hj => by omega) with h | ⟨n, h1, h2, h3⟩
  · exact .inl h
  · exact .inr ⟨n, h1, h2, h3⟩
theorem canB_iff : canB t = true ↔ Ever t t := by
  unfold canB
  rcases aliveF_spec ht h4 with ⟨h1, h2, _⟩ | ⟨n, h1, h2⟩
  · rw [h2]; simp [h1]
  · rw [h1]
    constructor
    · intro h; simp at h; omega
    · intro h; have := h (n + 1); rw [h2.2] at this; cases this
omit ht h4 in
theorem long_uniq {l : List Int} {m n : Nat} (h : Long t l m) (h' : Long t l n) : m = n := by
  rcases Nat.lt_trichotomy m n with hlt | he | hlt
  · have := canK_le (show m + 1 ≤ n by omega) h'.1; rw [h.2] at this; cases this
  · exact he
  · have := canK_le (show n + 1 ≤ m by omega) h.1; rw [h'.2] at this; cases this
end
end Go.Sx.Wk
