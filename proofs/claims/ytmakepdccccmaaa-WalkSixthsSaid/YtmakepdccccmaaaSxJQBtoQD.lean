/- The search finds whether a walk can go on for ever: plain facts. No conditions. -/
import Derived.Test.YtmakepdccccmaaaSxQA
import Derived.Test.YtmakepdccccmaaaSxJE4toEw
set_option linter.unusedVariables false
set_option linter.unusedSimpArgs false
namespace Go.Sx.Wk
open Go Go.Sx Go.Proofs

def pad (t l : List Int) : List Int := l ++ List.replicate (4 - t.length) 0
theorem pad_inj {t a b : List Int} (ha : t.length = a.length) (hb : t.length = b.length) (h : pad t a = pad t b) : a = b := (List.append_inj h (by omega)).1
theorem pad_len {t a : List Int} (ha : t.length = a.length) (h4 : t.length ≤ 4) : (pad t a).length = 4 := by simp [pad]; omega
theorem stp_pad {t l : List Int} (hl : t.length = l.length) (x : Nat) : stp t x (pad t l) = (aftG x t l 0).map (pad t) := by
  unfold stp pad
  rw [List.take_left' (by omega), List.drop_left' (by omega)]

def lk {β : Type} (p : List Int) (m : List (List Int × β)) : Option β := (findP p m 0).map (·.2)
theorem findP_shift {β : Type} (p : List Int) : ∀ (m : List (List Int × β)) (i j : Nat), findP p m (i + j) = (findP p m i).map fun r => (r.1 + j, r.2)
  | [], i, j => rfl
  | q :: m, i, j => by
    simp only [findP]
    split
    · rfl
    · rw [show i + j + 1 = (i + 1) + j by omega]; exact findP_shift p m (i + 1) j
theorem lk_nil {β : Type} (p : List Int) : lk p ([] : List (List Int × β)) = none := rfl
theorem lk_cons {β : Type} (p : List Int) (q : List Int × β) (m : List (List Int × β)) : lk p (q :: m) = if p = q.1 then some q.2 else lk p m := by
  unfold lk
  simp only [findP]
  split
  · rfl
  · rw [show (0 + 1) = 0 + 1 from rfl, findP_shift p m 0 1, Option.map_map]; rfl
theorem lk_app {β : Type} (p s : List Int) (b : β) : ∀ (m : List (List Int × β)), lk s m = none → lk p (m ++ [(s, b)]) = if p = s then some b else lk p m
  | [], _ => by simp [lk_cons, lk_nil]
  | q :: m, h => by
    rw [lk_cons] at h
    split at h
    · cases h
    · rename_i hq
      rw [List.cons_append, lk_cons, lk_cons, lk_app p s b m h]
      by_cases h1 : p = s
      · subst h1; simp [hq]
      · simp [h1]
theorem lk_set {β : Type} (p s : List Int) (b : β) : ∀ (m : List (List Int × β)) (i j : Nat) (x : β), findP s m j = some (i + j, x) → lk p (m.set i (s, b)) = if p = s then some b else lk p m
  | [], i, j, x, h => by simp [findP] at h
  | q :: m, i, j, x, h => by
    simp only [findP] at h
    split at h
    · rename_i hs
      simp only [Option.some.injEq, Prod.mk.injEq] at h
      have : i = 0 := by omega
      subst this
      rw [List.set_cons_zero, lk_cons, lk_cons]
      subst hs
      by_cases h1 : p = q.1
      · simp [h1]
      · simp [h1]
    · rename_i hs
      have hlt := (findP_lt h).1
      obtain ⟨i, rfl⟩ : ∃ k, i = k + 1 := ⟨i - 1, by omega⟩
      rw [List.set_cons_succ, lk_cons, lk_cons, lk_set p s b m i (j + 1) x (by rw [h]; congr 2; omega)]
      by_cases h1 : p = s
      · subst h1; simp [hs]
      · simp [h1]
theorem lk_put {β : Type} (p s : List Int) (b : β) (m : List (List Int × β)) : lk p (putP s b m) = if p = s then some b else lk p m := by
  unfold putP
  cases h : findP s m 0 with
  | none => exact lk_app p s b m (by simp [lk, h])
  | some r => obtain ⟨i, x⟩ := r; exact lk_set p s b m i 0 x h
theorem getS_lk (p : List Int) (sh : List (List Int × Int)) : getS p sh = (lk p sh).getD 0 := by
  unfold getS lk
  cases findP p sh 0 <;> rfl
theorem keys4_put {β : Type} {s : List Int} {b : β} {m : List (List Int × β)} (h : keys4 m = true) (hs : s.length = 4) : keys4 (putP s b m) = true := by
  have h' := List.all_eq_true.1 h
  refine List.all_eq_true.2 fun q hq => ?_
  unfold putP at hq
  split at hq
  · rcases List.mem_or_eq_of_mem_set hq with h1 | h1
    · exact h' q h1
    · subst h1; simpa using hs
  · rw [List.mem_append] at hq
    rcases hq with h1 | h1
    · exact h' q h1
    · simp at h1; subst h1; simpa using hs

/-! ### Paths -/
def St1 (t a b : List Int) : Prop := ∃ s, s < t.length ∧ aftG (s : Nat) t a 0 = some b
inductive PathP (t : List Int) : List Int → List Int → Prop where
  | one {a b} (h : St1 t a b) : PathP t a b
  | tail {a b c} (h : PathP t a b) (h2 : St1 t b c) : PathP t a c
theorem can_step {t a b : List Int} (h : St1 t a b) {k : Nat} (hk : canK t k b = true) : canK t (k + 1) a = true := by
  obtain ⟨s, h1, h2⟩ := h
  exact canK_succ.2 ⟨s, h1, b, h2, hk⟩
theorem can_path {t a b : List Int} (h : PathP t a b) : ∀ {k : Nat}, canK t k b = true → canK t (k + 1) a = true := by
  induction h with
  | one h => intro k hk; exact can_step h hk
  | tail h h2 ih => intro k hk; exact canK_anti (ih (can_step h2 hk))
theorem ever_path {t a b : List Int} (h : PathP t a b) (he : Ever t b) : Ever t a := fun k => canK_anti (can_path h (he k))
theorem ever_cycle {t a : List Int} (h : PathP t a a) : Ever t a := by
  intro k
  induction k with
  | zero => rfl
  | succ k ih => exact can_path h ih

/-- How long the longest walk is. -/
def Long (t l : List Int) (m : Nat) : Prop := canK t m l = true ∧ canK t (m + 1) l = false
theorem long_le {t l : List Int} (h1 : ∀ y ∈ t, 1 ≤ y) (ht : ok8 t = true) (h4 : t.length ≤ 4) (hv : val t l) {m : Nat} (h : Long t l m) : m ≤ 5000 := by
  have key : ∀ j, j ≤ m + 1 → cnt t j + j ≤ cnt t 0 := by
    intro j
    induction j with
    | zero => intro _; omega
    | succ j ih =>
      intro hj
      have := ih (by omega)
      have hne : (stL t).map (canK t (j + 1)) ≠ (stL t).map (canK t j) := fun e => by
        have hs := canK_stable h1 e (m + 1 - j) l hv (canK_le (by omega) h.1)
        rw [show j + (m + 1 - j) = m + 1 by omega, h.2] at hs
        cases hs
      have := cnt_lt hne
      omega
  have := key (m + 1) (Nat.le_refl _)
  have := cnt0 ht h4
  omega

structure Inv (t : List Int) (K : List (List Int)) (ev : List (List Int × Bool)) (sh : List (List Int × Int)) : Prop where
  k1 : keys4 ev = true
  k2 : keys4 sh = true
  tr : ∀ p, lk p ev = some true → ∃ l, p = pad t l ∧ val t l ∧ (l ∈ K ∨ Ever t l)
  fa : ∀ p, lk p ev = some false → ∃ l m, p = pad t l ∧ val t l ∧ getS p sh = (m : Nat) ∧ Long t l m
def unv (t : List Int) (ev : List (List Int × Bool)) : Nat := (stL t).countP fun l => (lk (pad t l) ev).isNone

theorem unv_le {t : List Int} {ev ev' : List (List Int × Bool)} (h : ∀ p, (lk p ev).isSome = true → (lk p ev').isSome = true) : unv t ev' ≤ unv t ev := by
  refine List.countP_mono_left fun l _ hl => ?_
  cases h1 : lk (pad t l) ev with
  | none => rfl
  | some b =>
    have := h (pad t l) (by rw [h1]; rfl)
    cases h2 : lk (pad t l) ev' with
    | none => rw [h2] at this; cases this
    | some b => rw [h2] at hl; cases hl
theorem countP_lt {p q : List Int → Bool} : ∀ {L : List (List Int)} {a : List Int}, (∀ x ∈ L, q x = true → p x = true) → a ∈ L → p a = true → q a = false → L.countP q < L.countP p
  | x :: L, a, h, ha, hp, hq => by
    have mono : L.countP q ≤ L.countP p := List.countP_mono_left fun y hy => h y (by simp [hy])
    simp only [List.countP_cons]
    rw [List.mem_cons] at ha
    rcases ha with rfl | ha
    · simp [hp, hq]; omega
    · have := countP_lt (fun y hy => h y (by simp [hy])) ha hp hq
      have hx := h x (by simp)
      cases h1 : q x <;> cases h2 : p x <;> simp_all <;> omega
theorem unv_lt {t l : List Int} {ev : List (List Int × Bool)} (hl : l ∈ stL t) (h : lk (pad t l) ev = none) : unv t (putP (pad t l) true ev) < unv t ev := by
  refine countP_lt (a := l) (fun x _ hx => ?_) hl (by rw [h]; rfl) (by rw [lk_put]; simp)
  rw [lk_put] at hx
  split at hx
  · cases hx
  · exact hx

theorem mem_st {t l : List Int} (h : val t l) : l ∈ stL t := by
  obtain ⟨i, _, h2⟩ := idx_get h
  exact List.mem_of_getElem? h2

section
variable {t : List Int} (ht : ok8 t = true) (h4 : t.length ≤ 4)
include ht h4

theorem stOk_pad {l : List Int} (hv : val t l) : stOkB (pad t l) = true := by
  have hl := val_len hv
  simp only [stOkB, Bool.and_eq_true, decide_eq_true_eq, List.all_eq_true, within_iff]
  refine ⟨pad_len hl h4, fun y hy => ?_⟩
  simp only [pad, List.mem_append] at hy
  rcases hy with hy | hy
  · have := val_ok8 hv (ok8_iff.1 ht) y hy; omega
  · have := List.eq_of_mem_replicate hy; omega

theorem goF_ok : ∀ (f : Nat) (K : List (List Int)) (l : List Int) (ev : List (List Int × Bool)) (sh : List (List Int × Int)), val t l → Inv t K ev sh → (∀ k ∈ K, PathP t k l) → unv t ev < f →
    ∃ b ev' sh', goF t f (pad t l) ev sh = some (b, ev', sh') ∧ Inv t K ev' sh' ∧ (∀ p, (lk p ev).isSome = true → (lk p ev').isSome = true) ∧ (b = true → Ever t l) ∧ (b = false → lk (pad t l) ev' = some false) := by
  intro f
  induction f with
  | zero => intro K l ev sh _ _ _ h; omega
  | succ f ih =>
    intro K l ev sh hv hI hK hf
    have h1 : ∀ y ∈ t, 1 ≤ y := fun y hy => (ok8_iff.1 ht y hy).1
    have hl := val_len hv
    have hp4 := pad_len hl h4
    simp only [goF]
    rw [if_pos (by simp only [Bool.and_eq_true, decide_eq_true_eq]; exact ⟨⟨h4, stOk_pad ht h4 hv⟩, hI.k1⟩)]
    cases hfd : findP (pad t l) ev 0 with
    | some r =>
      obtain ⟨i, b⟩ := r
      have hlk : lk (pad t l) ev = some b := by simp [lk, hfd]
      refine ⟨b, ev, sh, rfl, hI, fun _ h => h, fun hb => ?_, fun hb => by rw [hlk, hb]⟩
      subst hb
      obtain ⟨l', e1, e2, e3⟩ := hI.tr _ hlk
      have := pad_inj hl (val_len e2) e1
      subst this
      rcases e3 with e3 | e3
      · exact ever_cycle (hK l e3)
      · exact e3
    | none =>
      have hlk : lk (pad t l) ev = none := by simp [lk, hfd]
      simp only
      have hu := unv_lt (mem_st hv) hlk
      have hI1 : Inv t (l :: K) (putP (pad t l) true ev) sh := by
        refine ⟨keys4_put hI.k1 hp4, hI.k2, fun p hp => ?_, fun p hp => ?_⟩
        · rw [lk_put] at hp
          split at hp
          · rename_i e; exact ⟨l, e, hv, .inl (by simp)⟩
          · obtain ⟨l', e1, e2, e3⟩ := hI.tr p hp
            exact ⟨l', e1, e2, e3.imp (fun h => List.mem_cons_of_mem _ h) id⟩
        · rw [lk_put] at hp
          split at hp
          · cases hp
          · exact hI.fa p hp
      -- the loop
      have loop : ∀ (r : Nat) (lg : Nat) (ev1 : List (List Int × Bool)) (sh1 : List (List Int × Int)), r ≤ t.length → Inv t (l :: K) ev1 sh1 → (∀ p, (lk p (putP (pad t l) true ev)).isSome = true → (lk p ev1).isSome = true) →
          canK t lg l = true → (∀ i l', i < t.length - r → aftG (i : Nat) t l 0 = some l' → canK t lg l' = false) →
          ∃ b ev' sh', goL (goF t f) t (pad t l) r lg ev1 sh1 = some (b, ev', sh') ∧ Inv t K ev' sh' ∧ (∀ p, (lk p (putP (pad t l) true ev)).isSome = true → (lk p ev').isSome = true) ∧ (b = true → Ever t l) ∧ (b = false → lk (pad t l) ev' = some false) := by
        intro r
        induction r with
        | zero =>
          intro lg ev1 sh1 hr hJ hsub hc hd
          simp only [goL]
          rw [if_pos (by simp only [Bool.and_eq_true]; exact ⟨hJ.k1, hJ.k2⟩)]
          have hlong : Long t l lg := by
            refine ⟨hc, ?_⟩
            cases hc1 : canK t (lg + 1) l with
            | false => rfl
            | true =>
              obtain ⟨s, s1, l', s2, s3⟩ := canK_succ.1 hc1
              rw [hd s l' (by omega) s2] at s3; cases s3
          refine ⟨false, _, _, rfl, ⟨keys4_put hJ.k1 hp4, keys4_put hJ.k2 hp4, fun p hp => ?_, fun p hp => ?_⟩, fun p hp => ?_, (fun h => (by cases h)), (fun _ => by rw [lk_put]; simp)⟩
          · rw [lk_put] at hp
            split at hp
            · cases hp
            · rename_i hne
              obtain ⟨l', e1, e2, e3⟩ := hJ.tr p hp
              refine ⟨l', e1, e2, ?_⟩
              rcases e3 with e3 | e3
              · rw [List.mem_cons] at e3
                rcases e3 with e3 | e3
                · subst e3; exact absurd e1 hne
                · exact .inl e3
              · exact .inr e3
          · rw [lk_put] at hp
            rw [getS_lk, lk_put]
            split at hp
            · rename_i e
              exact ⟨l, lg, e, hv, by simp [e], hlong⟩
            · rename_i hne
              obtain ⟨l', m, e1, e2, e3, e4⟩ := hJ.fa p hp
              rw [if_neg hne, ← getS_lk]
              exact ⟨l', m, e1, e2, e3, e4⟩
          · rw [lk_put]
            split
            · rfl
            · exact hsub p hp
        | succ r ihr =>
          intro lg ev1 sh1 hr hJ hsub hc hd
          simp only [goL, stp_pad hl]
          have hi : t.length - (r + 1) < t.length := by omega
          cases ha : aftG ((t.length - (r + 1) : Nat) : Int) t l 0 with
          | none =>
            simp only [Option.map_none]
            refine ihr lg ev1 sh1 (by omega) hJ hsub hc fun i l' hi' h' => ?_
            by_cases e : i = t.length - (r + 1)
            · subst e; rw [ha] at h'; cases h'
            · exact hd i l' (by omega) h'
          | some q =>
            simp only [Option.map_some]
            have hvq := aft_val hv h1 ha
            have hst : St1 t l q := ⟨_, hi, ha⟩
            obtain ⟨b', ev2, sh2, g1, g2, g3, g4, g5⟩ := ih (l :: K) q ev1 sh1 hvq hJ (fun k hk => by
              rw [List.mem_cons] at hk
              rcases hk with rfl | hk
              · exact .one hst
              · exact .tail (hK k hk) hst) (by
              have := unv_le (t := t) hsub
              omega)
            rw [g1]
            cases b' with
            | true =>
              have he := ever_path (.one hst) (g4 rfl)
              refine ⟨true, ev2, sh2, rfl, ⟨g2.k1, g2.k2, fun p hp => ?_, g2.fa⟩, fun p hp => g3 p (hsub p hp), fun _ => he, (fun h => (by cases h))⟩
              obtain ⟨l', e1, e2, e3⟩ := g2.tr p hp
              refine ⟨l', e1, e2, ?_⟩
              rcases e3 with e3 | e3
              · rw [List.mem_cons] at e3
                rcases e3 with rfl | e3
                · exact .inr he
                · exact .inl e3
              · exact .inr e3
            | false =>
              obtain ⟨l', m, e1, e2, e3, e4⟩ := g2.fa _ (g5 rfl)
              have := pad_inj (val_len hvq) (val_len e2) e1
              subst this
              have hm := long_le h1 ht h4 hvq e4
              simp only
              rw [if_pos (by simp only [Bool.and_eq_true, within_iff, decide_eq_true_eq]; exact ⟨⟨g2.k2, by rw [e3]; omega⟩, pad_len (val_len hvq) h4⟩)]
              have hmax : max (lg : Int) (1 + getS (pad t q) sh2) = ((max lg (m + 1) : Nat) : Int) := by rw [e3]; omega
              rw [hmax]
              refine ihr _ ev2 sh2 (by omega) g2 (fun p hp => g3 p (hsub p hp)) ?_ fun i l' hi' h' => ?_
              · rcases Nat.le_total lg (m + 1) with h | h
                · rw [Nat.max_eq_right h]; exact can_step hst e4.1
                · rw [Nat.max_eq_left h]; exact hc
              · by_cases e : i = t.length - (r + 1)
                · subst e
                  rw [ha] at h'; cases h'
                  cases hx : canK t (max lg (m + 1)) q with
                  | false => rfl
                  | true => have := canK_le (show m + 1 ≤ max lg (m + 1) by omega) hx; rw [e4.2] at this; cases this
                · have := hd i l' (by omega) h'
                  cases hx : canK t (max lg (m + 1)) l' with
                  | false => rfl
                  | true => have := canK_le (show lg ≤ max lg (m + 1) by omega) hx; simp_all
      obtain ⟨b, ev', sh', q1, q2, q3, q4, q5⟩ := loop t.length 0 _ sh (Nat.le_refl _) hI1 (fun _ h => h) rfl (fun i l' hi => by omega)
      refine ⟨b, ev', sh', q1, q2, fun p hp => q3 p ?_, q4, q5⟩
      rw [lk_put]
      split
      · rfl
      · exact hp

omit ht h4 in
/-- The search from a state, when nothing is known. -/
theorem inv_nil : Inv t [] [] [] := ⟨rfl, rfl, fun p hp => by simp [lk_nil] at hp, fun p hp => by simp [lk_nil] at hp⟩
theorem unv_nil : unv t [] < 5000 := by
  have := stL_len ht h4
  have := List.countP_le_length (p := fun l => (lk (pad t l) ([] : List (List Int × Bool))).isNone) (l := stL t)
  unfold unv; omega
theorem aliveF_spec : (Ever t t ∧ (aliveF t).2 = -1 ∧ ∀ (i : Nat) (x : List Int), (stL t)[i]? = some x → (((aliveF t).1)[i]? = some true ↔ Ever t x)) ∨ (∃ n : Nat, (aliveF t).2 = n ∧ Long t t n) := by
  rcases alv_spec (fun y hy => (ok8_iff.1 ht y hy).1) (val_self (ok8_iff.1 ht)) 5000 0 (cnt0 ht h4) (fun j hj => by omega) with h | ⟨n, h1, h2, h3⟩
  · exact .inl h
  · exact .inr ⟨n, h1, h2, h3⟩
theorem canB_iff : canB t = true ↔ Ever t t := by
  unfold canB
  rcases aliveF_spec ht h4 with ⟨h1, h2, _⟩ | ⟨n, h1, h2⟩
  · rw [h2]; simp [h1]
  · rw [h1]
    constructor
    · intro h; simp at h; omega
    · intro h; have := h (n + 1); rw [h2.2] at this; cases this
omit ht h4 in
theorem long_uniq {l : List Int} {m n : Nat} (h : Long t l m) (h' : Long t l n) : m = n := by
  rcases Nat.lt_trichotomy m n with hlt | he | hlt
  · have := canK_le (show m + 1 ≤ n by omega) h'.1; rw [h.2] at this; cases this
  · exact he
  · have := canK_le (show n + 1 ≤ m by omega) h.1; rw [h'.2] at this; cases this
end
end Go.Sx.Wk
set_option maxRecDepth 4000
namespace Go.Sx.Wk
open Go Go.Sx Go.Proofs

attribute [simp] effMkmap
@[simp] theorem mE_nil : mE [] = [] := rfl
@[simp] theorem mI_nil : mI [] = [] := rfl
@[simp] theorem unmE_nil : unmE [] = some [] := rfl
@[simp] theorem unmI_nil : unmI [] = some [] := rfl
theorem splice6 {t : List Int} (h : t.length ≤ 4) (a b : AV) : splice [vI 0, vI 0, vI 0, vI 0, a, b] 0 (ints t) = ints (pad t t) ++ [a, b] := by
  match t, h with
  | [], _ => rfl
  | [x], _ => rfl
  | [x, y], _ => rfl
  | [x, y, z], _ => rfl
  | [x, y, z, w], _ => rfl
  | x :: y :: z :: w :: v :: r, h => simp at h
def s54 : Sp := spT 54 [.l] fun (t : List Int) => if (decide (t.length ≤ 4)) = true then some (.ptr 0 0, shp t false (pad t t) [] [], 3) else none
@[simp] theorem s54_g : s54.g = 54 := rfl
@[simp] theorem s54_f : s54.f = (spT 54 [.l] fun (t : List Int) => if (decide (t.length ≤ 4)) = true then some (.ptr 0 0, shp t false (pad t t) [] [], 3) else none).f := rfl
theorem s54_ok : s54.ok Try.prog := by
  apply spT_ok
  simp only [OkT, Ty.all, List.nil_append, List.cons_append]
  intro t u r h' k' hh
  split at hh
  · rename_i h4
    simp only [decide_eq_true_eq] at h4
    cases hh
    rw [hp_eq]
    refine P54.rz (ss := []) trivial (by simp) fun Q hQ => ?_
    delta p54 p54_r0 p54_r1 p54_r2 p54_r3
    simp (disch := omega) [oLt, oLe, oLtN, oLeN, nLt, nLe, nLtN, nLeN]
    have h6 := splice6 h4 (.map 2) (.map 3)
    simp only [vI] at h6
    rw [h6]
    refine hQ _ _ (.chg (.trans (.to (s' := ⟨[(2, .ptr 0 0)], shp t u (pad t t) [] [], 3⟩) [5, 2, 3] (by simp [shp])) (.weak (s' := ⟨[(2, .ptr 0 0)], shp t false (pad t t) [] [], 3⟩) ?_ ?_ rfl .refl)) (.fin' (.inl rfl) rfl rfl rfl))
    · exact ⟨rfl, .refl, trivial⟩
    · refine ⟨rfl, ⟨rfl, fun i x y hx hy => ?_⟩, rfl, .refl, rfl, .refl, trivial⟩
      rcases i with _ | i
      · simp at hx hy; subst hx hy; exact .open
      · simp only [List.getElem?_cons_succ] at hx hy
        rw [hx] at hy; cases hy; exact .refl
  · cases hh
theorem chk_facts {t : List Int} (h : chk t = 0) : ok8 t = true ∧ t.length ≤ 4 ∧ t ≠ [] := by
  obtain ⟨h0, h4, h8⟩ := chk_ok h
  exact ⟨ok8_iff.2 h8, h4, h0⟩
def s55 : Sp := s55n 5000
@[simp] theorem s55_g : s55.g = 55 := rfl
@[simp] theorem s55_f : s55.f = (spS 55 (G55 5000)).f := rfl
theorem s55_ok : s55.ok Try.prog := s55n_ok 5000
theorem pad4 {t : List Int} (h : t.length ≤ 4) : ∃ a b c d, pad t t = [a, b, c, d] := by
  match t, h with
  | [], _ => exact ⟨_, _, _, _, rfl⟩
  | [x], _ => exact ⟨_, _, _, _, rfl⟩
  | [x, y], _ => exact ⟨_, _, _, _, rfl⟩
  | [x, y, z], _ => exact ⟨_, _, _, _, rfl⟩
  | [x, y, z, w], _ => exact ⟨_, _, _, _, rfl⟩
  | x :: y :: z :: w :: v :: r, h => simp at h
/-- What the search from the beginning says. -/
theorem goF_top {t : List Int} (ht : ok8 t = true) (h4 : t.length ≤ 4) : ∃ ev sh, goF t 5000 (pad t t) [] [] = some (canB t, ev, sh) ∧ Inv t [] ev sh ∧ (canB t = false → lk (pad t t) ev = some false) := by
  obtain ⟨b, ev, sh, h1, h2, _, h3, h5⟩ := goF_ok ht h4 5000 [] t [] [] (val_self (ok8_iff.1 ht)) inv_nil (fun k hk => by simp at hk) (unv_nil ht h4)
  have hb : b = canB t := by
    cases b with
    | true => exact ((canB_iff ht h4).2 (h3 rfl)).symm
    | false =>
      obtain ⟨l, m, e1, e2, e3, e4⟩ := h2.fa _ (h5 rfl)
      have := pad_inj rfl (val_len e2) e1
      subst this
      cases hc : canB t with
      | false => rfl
      | true => have := (canB_iff ht h4).1 hc (m + 1); rw [e4.2] at this; cases this
  subst hb
  exact ⟨ev, sh, h1, h2, h5⟩

def s19 : Sp := spT 19 [.l] fun (t : List Int) => res (small t) (canF t)
@[simp] theorem s19_g : s19.g = 19 := rfl
@[simp] theorem s19_f : s19.f = (spT 19 [.l] fun (t : List Int) => res (small t) (canF t)).f := rfl
theorem s19_ok : s19.ok Try.prog := by
  apply spT_ok
  simp only [OkT, Ty.all, List.nil_append, List.cons_append]
  intro (t : List Int) ut
  apply okT_res; intro hg
  refine P19.rz (ss := [s23, s54, s55]) ⟨s23_ok, s54_ok, s55_ok, trivial⟩ (by simp) fun Q hQ => ?_
  delta p19 p19_r0 p19_r1 p19_r2 p19_r3 p19_r4 p19_r5
  by_cases h0 : chk t = 0
  · obtain ⟨ht, h4, hne⟩ := chk_facts h0
    obtain ⟨ev, sh, h1, h2, h3⟩ := goF_top ht h4
    obtain ⟨a, b, c, d, hp⟩ := pad4 h4
    rw [hp] at h1
    have h55 : G55 5000 t [a, b, c, d] [] [] [.agg [vI a, vI b, vI c, vI d]] = some (vB (canB t), ev, sh) := by simp [G55, h1]
    simp (disch := omega) [oLt, oLe, oLtN, oLeN, nLt, nLe, nLtN, nLeN, hg, h0, h4, hp, shp, h55]
    exact hQ _ _ (.p (.inl rfl) (by simp [canF, h0]) (by simp [canF, h0]))
  · simp (disch := omega) [oLt, oLe, oLtN, oLeN, nLt, nLe, nLtN, nLeN, hg, h0]
    exact hQ _ _ (.p (.inl rfl) (by simp [canF, h0]) (by simp [canF, h0]))

def s21 : Sp := spT 21 [.l] fun (t : List Int) => res (small t) (longF t)
@[simp] theorem s21_g : s21.g = 21 := rfl
@[simp] theorem s21_f : s21.f = (spT 21 [.l] fun (t : List Int) => res (small t) (longF t)).f := rfl
theorem s21_ok : s21.ok Try.prog := by
  apply spT_ok
  simp only [OkT, Ty.all, List.nil_append, List.cons_append]
  intro (t : List Int) ut
  apply okT_res; intro hg
  refine P21.rz (ss := [s23, s54, s55]) ⟨s23_ok, s54_ok, s55_ok, trivial⟩ (by simp) fun Q hQ => ?_
  delta p21 p21_r0 p21_r1 p21_r2 p21_r3 p21_r4 p21_r5 p21_r6 p21_r7
  by_cases h0 : chk t = 0
  · obtain ⟨ht, h4, hne⟩ := chk_facts h0
    obtain ⟨ev, sh, h1, h2, h3⟩ := goF_top ht h4
    obtain ⟨a, b, c, d, hp⟩ := pad4 h4
    rw [hp] at h1 h3
    have h55 : G55 5000 t [a, b, c, d] [] [] [.agg [vI a, vI b, vI c, vI d]] = some (vB (canB t), ev, sh) := by simp [G55, h1]
    cases hc : canB t with
    | true =>
      rw [hc] at h55
      simp (disch := omega) [oLt, oLe, oLtN, oLeN, nLt, nLe, nLtN, nLeN, hg, h0, h4, hp, shp, h55]
      exact hQ _ _ (.p (.inl rfl) (by simp [longF, h0, hc]) (by simp [longF, h0, hc]))
    | false =>
      rw [hc] at h55
      obtain ⟨l, m, e1, e2, e3, e4⟩ := h2.fa _ (h3 hc)
      have hl := pad_inj rfl (val_len e2) (by rw [hp]; exact e1)
      subst hl
      have hm : (aliveF t).2 = (m : Int) := by
        rcases aliveF_spec ht h4 with ⟨q1, _, _⟩ | ⟨n, q1, q2⟩
        · have := q1 (m + 1); rw [e4.2] at this; cases this
        · rw [q1, long_uniq e4 q2]
      have hkI := keys4_I h2.k2
      have hkS : (KTy.ar 4 .i64).ok (kS [a, b, c, d]) = true := kS_ok rfl
      have hv : (AV.agg [vI a, vI b, vI c, vI d]).val = some (kS [a, b, c, d]) := val_ints [a, b, c, d]
      cases hfd : findP [a, b, c, d] sh 0 with
      | some r =>
        obtain ⟨i, n⟩ := r
        have hn : n = m := by rw [← e3]; simp [getS, hfd]
        subst hn
        simp (disch := omega) [oLt, oLe, oLtN, oLeN, nLt, nLe, nLtN, nLeN, hg, h0, h4, hp, shp, h55, hkI, hkS, hv, hfd]
        exact hQ _ _ (.p (.inl rfl) (by simp [longF, h0, hc, hm]) (by simp [longF, h0, hc]))
      | none =>
        have hn : (0 : Int) = m := by rw [← e3]; simp [getS, hfd]
        simp (disch := omega) [oLt, oLe, oLtN, oLeN, nLt, nLe, nLtN, nLeN, hg, h0, h4, hp, shp, h55, hkI, hkS, hv, hfd]
        exact hQ _ _ (.p (.inl rfl) (by simp [longF, h0, hc, hm, ← hn]) (by simp [longF, h0, hc]))
  · simp (disch := omega) [oLt, oLe, oLtN, oLeN, nLt, nLe, nLtN, nLeN, hg, h0]
    exact hQ _ _ (.p (.inl rfl) (by simp [longF, h0]) (by simp [longF, h0]))
end Go.Sx.Wk
set_option maxRecDepth 4000
namespace Go.Sx.Wk
open Go Go.Sx Go.Proofs

def s16 : Sp := spT 16 [] (res true (vB true))
@[simp] theorem s16_g : s16.g = 16 := rfl
@[simp] theorem s16_f : s16.f = (spT 16 [] (res true (vB true))).f := rfl
theorem s16_ok : s16.ok Try.prog := by
  apply spT_ok
  simp only [OkT]
  intro r h' k' hh
  obtain ⟨_, rfl, rfl, rfl⟩ := res_inv hh
  exact k28_ok
theorem weight_tup (t : List Int) : ∃ a b e, weightF t = .tup [vI a, vI b, vI e] := by unfold weightF; split <;> exact ⟨_, _, _, rfl⟩
theorem can_tup (t : List Int) : ∃ a e, canF t = .tup [vB a, vI e] := by unfold canF; split <;> exact ⟨_, _, rfl⟩
theorem long_tup (t : List Int) : ∃ a e, longF t = .tup [vI a, vI e] := by
  unfold longF; split
  · split <;> exact ⟨_, _, rfl⟩
  · exact ⟨_, _, rfl⟩
/-- One part of the code, and the state behind it. -/
theorem XZ_step {R : Rsv} {k0 : Nat} {a b : PCode} {s : ST} {Q : Exit → ST → Prop} (s1 : ST) (h1 : ∀ (N : ST → Prop) (Q' : Exit → ST → Prop), N s1 → XZ R k0 a s (thenE N Q')) (h2 : XZ R k0 b s1 Q) : XZ R k0 (.seq a b) s Q := h1 _ _ h2
theorem zOps_app {R : Rsv} {K : ST → Prop} : ∀ {a b : List PI} {s : ST}, zOps R (zOps R K b) a s → zOps R K (a ++ b) s
  | [], b, s, h => h
  | i :: a, b, s, h => by
    simp only [List.cons_append, zOps] at h ⊢
    split
    · rename_i hg
      simp only [hg] at h
      split
      · rename_i ft s' h1; simp only [h1] at h; exact zOps_app h
      · rename_i h1; simp only [h1] at h
    · rename_i t want hg
      simp only [hg] at h
      split
      · rename_i c hc
        simp only [hc] at h
        refine ⟨fun hh => ?_, fun hh => zOps_app (h.2 hh)⟩
        have := h.1 hh
        split
        · rename_i ft s' h1; simp only [h1] at this; exact zOps_app this
        · rename_i h1; simp only [h1] at this
      · rename_i hc; simp only [hc] at h
theorem zOps_mono {R : Rsv} {K K' : ST → Prop} (hK : ∀ s, K s → K' s) : ∀ {is : List PI} {s : ST}, zOps R K is s → zOps R K' is s
  | [], s, h => hK s h
  | i :: is, s, h => by
    simp only [zOps] at h ⊢
    split
    · rename_i hg
      simp only [hg] at h
      split
      · rename_i ft s' h1; simp only [h1] at h; exact zOps_mono hK h
      · rename_i h1; simp only [h1] at h
    · rename_i t want hg
      simp only [hg] at h
      split
      · rename_i c hc
        simp only [hc] at h
        refine ⟨fun hh => ?_, fun hh => zOps_mono hK (h.2 hh)⟩
        have := h.1 hh
        split
        · rename_i ft s' h1; simp only [h1] at this; exact zOps_mono hK this
        · rename_i h1; simp only [h1] at this
      · rename_i hc; simp only [hc] at h
/-- A part of a region, and the state behind it. -/
theorem zOps_cut {R : Rsv} {K : ST → Prop} {is : List PI} {s : ST} (n : Nat) (s1 : ST) (h1 : ∀ K' : ST → Prop, K' s1 → zOps R K' (is.take n) s) (h2 : zOps R K (is.drop n) s1) : zOps R K is s := by
  have := zOps_app (h1 _ h2)
  rwa [List.take_append_drop] at this
/-- A region, and the state behind it. -/
theorem XZ_regS {R : Rsv} {k0 : Nat} {ops : List PI} {ks : List Nat} {b : PCode} {s : ST} {Q : Exit → ST → Prop} (s1 : ST) (h1 : ∀ K : ST → Prop, K s1 → zOps R (fun s' => K (s'.keepF ks)) ops s) (h2 : XZ R k0 b s1 Q) : XZ R k0 (.seq (.reg ops ks) b) s Q := h1 _ h2
theorem XZ_regG {R : Rsv} {k0 : Nat} {ops : List PI} {ks : List Nat} {b : PCode} {s : ST} {Q : Exit → ST → Prop} (h : zOps R (goOn (thenE (fun s' => XZ R k0 b s' Q) Q) ks) ops s) : XZ R k0 (.seq (.reg ops ks) b) s Q := h
theorem walkCan_runs (t : List Int) (u : Bool) : Runs Try.prog 3 0 [.il (ints t) t.length u] (hpF []) (vB true) 0 (hpF []) := by
  refine P3.rz (ss := [s16, s17, s18, s19, s20, s21, s22, s23, s24]) ⟨s16_ok, s17_ok, s18_ok, s19_ok, s20_ok, s21_ok, s22_ok, s23_ok, s24_ok, trivial⟩ (by simp) fun Q hQ => ?_
  by_cases h : 60 < t.length
  · delta p3 p3_r0 p3_r1 p3_r2 p3_r3 p3_r4 p3_r5 p3_r6 p3_r7 p3_r8 p3_r9
    simp (disch := omega) [oLt, oLe, oLtN, oLeN, nLt, nLe, nLtN, nLeN]
    exact hQ _ _ (.p (.inl rfl) (by simp) rfl)
  · have hs : small t = true := by simp [small]; omega
    obtain ⟨a, b, e, h1⟩ := weight_tup t
    obtain ⟨c, g, h2⟩ := can_tup t
    obtain ⟨m, n, h3⟩ := long_tup t
    delta p3
    refine XZ_step ?_ (fun N Q' hN => ?_) ?_
    rotate_left
    · delta p3_r0; simp (disch := omega) [oLt, oLe, oLtN, oLeN, nLt, nLe, nLtN, nLeN]
      exact hN
    refine XZ_step ?_ (fun N Q' hN => ?_) ?_
    rotate_left
    · delta p3_r1; simp (disch := omega) [oLt, oLe, oLtN, oLeN, nLt, nLe, nLtN, nLeN]
      exact hN
    refine XZ_step ?_ (fun N Q' hN => ?_) ?_
    rotate_left
    · delta p3_r3; simp (disch := omega) [oLt, oLe, oLtN, oLeN, nLt, nLe, nLtN, nLeN, hs, h1]
      exact hN
    refine XZ_step ?_ (fun N Q' hN => ?_) ?_
    rotate_left
    · delta p3_r4; simp (disch := omega) [oLt, oLe, oLtN, oLeN, nLt, nLe, nLtN, nLeN, hs, h1]
      exact hN
    refine XZ_step ?_ (fun N Q' hN => ?_) ?_
    rotate_left
    · delta p3_r5; simp (disch := omega) [oLt, oLe, oLtN, oLeN, nLt, nLe, nLtN, nLeN, hs, h2]
      exact hN
    refine XZ_step ?_ (fun N Q' hN => ?_) ?_
    rotate_left
    · delta p3_r6; simp (disch := omega) [oLt, oLe, oLtN, oLeN, nLt, nLe, nLtN, nLeN, hs, h2]
      exact hN
    refine XZ_step ?_ (fun N Q' hN => ?_) ?_
    rotate_left
    · delta p3_r7; simp (disch := omega) [oLt, oLe, oLtN, oLeN, nLt, nLe, nLtN, nLeN, hs, h3]
      exact hN
    refine XZ_step ?_ (fun N Q' hN => ?_) ?_
    rotate_left
    · delta p3_r8; simp (disch := omega) [oLt, oLe, oLtN, oLeN, nLt, nLe, nLtN, nLeN, hs, h3]
      exact hN
    refine XZ_regG ?_
    delta p3_r9
    refine zOps_cut 8 ?_ (fun K' hK => ?_) ?_
    rotate_left
    · simp only [List.take_succ_cons, List.take_zero]
      simp (disch := omega) [oLt, oLe, oLtN, oLeN, nLt, nLe, nLtN, nLeN, hs]
      exact hK
    simp only [List.drop_succ_cons, List.drop_zero]
    refine zOps_cut 8 ?_ (fun K' hK => ?_) ?_
    rotate_left
    · simp only [List.take_succ_cons, List.take_zero]
      simp (disch := omega) [oLt, oLe, oLtN, oLeN, nLt, nLe, nLtN, nLeN, hs]
      exact hK
    simp only [List.drop_succ_cons, List.drop_zero]
    refine zOps_cut 8 ?_ (fun K' hK => ?_) ?_
    rotate_left
    · simp only [List.take_succ_cons, List.take_zero]
      simp (disch := omega) [oLt, oLe, oLtN, oLeN, nLt, nLe, nLtN, nLeN, hs]
      exact hK
    simp only [List.drop_succ_cons, List.drop_zero]
    refine zOps_cut 8 ?_ (fun K' hK => ?_) ?_
    rotate_left
    · simp only [List.take_succ_cons, List.take_zero]
      simp (disch := omega) [oLt, oLe, oLtN, oLeN, nLt, nLe, nLtN, nLeN, hs]
      exact hK
    simp only [List.drop_succ_cons, List.drop_zero]
    refine zOps_cut 8 ?_ (fun K' hK => ?_) ?_
    rotate_left
    · simp only [List.take_succ_cons, List.take_zero]
      simp (disch := omega) [oLt, oLe, oLtN, oLeN, nLt, nLe, nLtN, nLeN, hs]
      exact hK
    simp only [List.drop_succ_cons, List.drop_zero]
    simp (disch := omega) [oLt, oLe, oLtN, oLeN, nLt, nLe, nLtN, nLeN, hs]
    exact hQ _ _ (.p (.inl rfl) (by simp) rfl)
end Go.Sx.Wk
