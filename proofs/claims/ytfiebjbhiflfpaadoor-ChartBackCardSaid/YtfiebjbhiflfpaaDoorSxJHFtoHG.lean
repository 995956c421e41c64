/- How many classes there are, and how their number changes; a step with two places changed. No conditions. -/
set_option linter.unusedVariables false
set_option linter.unusedSimpArgs false
section
namespace Go.Sx.Ch
theorem ex_min {p : Nat → Prop} : ∀ (n : Nat), p n → ∃ m, m ≤ n ∧ p m ∧ ∀ k, k < m → ¬ p k := by
  intro n
  induction n using Nat.strongRecOn with
  | _ n ih =>
    intro hn
    by_cases h : ∃ k, k < n ∧ p k
    · obtain ⟨k, h1, h2⟩ := h
      obtain ⟨m, h3, h4, h5⟩ := ih k h1 h2
      exact ⟨m, by omega, h4, h5⟩
    · exact ⟨n, Nat.le_refl _, hn, fun k hk hp => h ⟨k, hk, hp⟩⟩
def Low (R : Nat → Nat → Prop) (p : Nat) : Prop := ∀ q, q < p → ¬ R q p
open Classical in
noncomputable def cls (n : Nat) (R : Nat → Nat → Prop) : Nat := ((List.range n).filter fun p => decide (Low R p)).length
theorem filter_but {p q : Nat → Bool} {m : Nat} : ∀ {l : List Nat}, l.Nodup → m ∈ l → p m = true → (∀ x ∈ l, q x = (p x && decide (x ≠ m))) → (l.filter q).length + 1 = (l.filter p).length
  | [], _, h, _, _ => by simp at h
  | x :: l, hnd, hm, hp, hq => by
    rw [List.nodup_cons] at hnd
    have hqx := hq x List.mem_cons_self
    rcases List.mem_cons.1 hm with rfl | hml
    · have e : l.filter q = l.filter p := List.filter_congr fun y hy => by
        rw [hq y (List.mem_cons_of_mem _ hy)]
        have : y ≠ m := fun e => hnd.1 (e ▸ hy)
        simp [this]
      rw [List.filter_cons, List.filter_cons, hqx, hp, e]; simp
    · have hxm : x ≠ m := fun e => hnd.1 (e ▸ hml)
      have ih := filter_but hnd.2 hml hp fun y hy => hq y (List.mem_cons_of_mem _ hy)
      rw [List.filter_cons, List.filter_cons, hqx]
      cases p x <;> simp [hxm] <;> omega
structure Eqv (n : Nat) (R : Nat → Nat → Prop) : Prop where
  refl : ∀ p, p < n → R p p
  symm : ∀ p q, p < n → q < n → R p q → R q p
  trans : ∀ p q r, p < n → q < n → r < n → R p q → R q r → R p r
theorem cls_congr {n : Nat} {R S : Nat → Nat → Prop} (h : ∀ p q, p < n → q < n → (R p q ↔ S p q)) : cls n R = cls n S := by
  unfold cls
  congr 1
  apply List.filter_congr
  intro p hp
  rw [List.mem_range] at hp
  apply decide_eq_decide.2
  unfold Low
  constructor <;> (intro hh q hq hr; exact hh q hq (by first | exact (h q p (by omega) hp).1 hr | exact (h q p (by omega) hp).2 hr))
open Classical in
theorem cls_merge {n : Nat} {R R' : Nat → Nat → Prop} (e : Eqv n R) {a b : Nat} (ha : a < n) (hb : b < n) (hab : ¬ R a b) (h : ∀ p q, p < n → q < n → (R' p q ↔ R p q ∨ (R p a ∧ R b q) ∨ (R p b ∧ R a q))) : cls n R' + 1 = cls n R := by
  obtain ⟨ma, a1, a2, a3⟩ := ex_min (p := fun x => R x a) a (e.refl a ha)
  obtain ⟨mb, b1, b2, b3⟩ := ex_min (p := fun x => R x b) b (e.refl b hb)
  have ham : ma < n := by omega
  have hbm : mb < n := by omega
  have hne : ma ≠ mb := fun he => hab (e.trans a ma b ha ham hb (e.symm ma a ham ha a2) (he ▸ b2))
  have lowA : ∀ p, p < n → R p a → Low R p → p = ma := fun p hp hpa hl => by
    rcases Nat.lt_trichotomy p ma with h1 | h1 | h1
    · exact absurd hpa (a3 p h1)
    · exact h1
    · exact absurd (e.trans ma a p ham ha hp a2 (e.symm p a hp ha hpa)) (hl ma h1)
  have lowB : ∀ p, p < n → R p b → Low R p → p = mb := fun p hp hpb hl => by
    rcases Nat.lt_trichotomy p mb with h1 | h1 | h1
    · exact absurd hpb (b3 p h1)
    · exact h1
    · exact absurd (e.trans mb b p hbm hb hp b2 (e.symm p b hp hb hpb)) (hl mb h1)
  have lma : Low R ma := fun q hq hr => a3 q hq (e.trans q ma a (by omega) ham ha hr a2)
  have lmb : Low R mb := fun q hq hr => b3 q hq (e.trans q mb b (by omega) hbm hb hr b2)
  have hlow : ∀ p, p < n → (Low R' p ↔ Low R p ∧ p ≠ max ma mb) := by
    intro p hp
    constructor
    · intro hl
      refine ⟨fun q hq hr => hl q hq ((h q p (by omega) hp).2 (.inl hr)), fun he => ?_⟩
      rcases Nat.lt_or_ge ma mb with h1 | h1
      · have : p = mb := by omega
        subst this
        exact hl ma h1 ((h ma p ham hp).2 (.inr (.inl ⟨a2, e.symm p b hp hb b2⟩)))
      · have : p = ma := by omega
        subst this
        exact hl mb (by omega) ((h mb p hbm hp).2 (.inr (.inr ⟨b2, e.symm p a hp ha a2⟩)))
    · rintro ⟨hl, hm⟩ q hq hr
      rcases (h q p (by omega) hp).1 hr with h1 | ⟨h1, h2⟩ | ⟨h1, h2⟩
      · exact hl q hq h1
      · have := lowB p hp (e.symm b p hb hp h2) hl
        subst this
        have : ¬ q < ma := fun h3 => a3 q h3 h1
        omega
      · have := lowA p hp (e.symm a p ha hp h2) hl
        subst this
        have : ¬ q < mb := fun h3 => b3 q h3 h1
        omega
  unfold cls
  refine filter_but List.nodup_range (m := max ma mb) (List.mem_range.2 (by omega)) ?_ fun x hx => ?_
  · rw [decide_eq_true_eq]
    rcases Nat.lt_or_ge ma mb with h1 | h1
    · rw [Nat.max_eq_right (by omega)]; exact lmb
    · rw [Nat.max_eq_left (by omega)]; exact lma
  · rw [List.mem_range] at hx
    rw [Bool.eq_iff_iff, Bool.and_eq_true, decide_eq_true_eq, decide_eq_true_eq, decide_eq_true_eq]
    exact hlow x hx
open Classical in
theorem cls_map {n P : Nat} {f : Nat → Nat} (hf : ∀ m, m < n → f m < P) (hs : ∀ p, p < P → ∃ m, m < n ∧ f m = p) : cls n (fun x y => f x = f y) = P := by
  have key : ∀ (l : List Nat), l.Nodup → (∀ x ∈ l, x < P) → (∀ p, p < P → p ∈ l) → l.length = P := by
    intro l hnd hr hc
    have h1 : l.length ≤ P := by
      have := hnd.length_le_of_subset (l₂ := List.range P) fun x hx => List.mem_range.2 (hr x hx)
      simpa using this
    have h2 : P ≤ l.length := by
      have := (List.nodup_range (n := P)).length_le_of_subset (l₂ := l) fun x hx => hc x (List.mem_range.1 hx)
      simpa using this
    omega
  unfold cls
  rw [← List.length_map (f := f)]
  apply key
  · rw [List.nodup_iff_pairwise_ne]
    rw [List.pairwise_map]
    have hp : ((List.range n).filter fun p => decide (Low (fun x y => f x = f y) p)).Pairwise (· < ·) := List.Pairwise.filter _ List.pairwise_lt_range
    refine hp.imp_of_mem fun {x y} hx hy hxy he => ?_
    have := (List.mem_filter.1 hy).2
    rw [decide_eq_true_eq] at this
    exact this x hxy he
  · intro x hx
    obtain ⟨m, hm, rfl⟩ := List.mem_map.1 hx
    exact hf m (List.mem_range.1 (List.mem_filter.1 hm).1)
  · intro p hp
    obtain ⟨m0, h1, h2⟩ := hs p hp
    obtain ⟨m, h3, h4, h5⟩ := ex_min (p := fun m => f m = p) m0 h2
    refine List.mem_map.2 ⟨m, List.mem_filter.2 ⟨List.mem_range.2 (by omega), ?_⟩, h4⟩
    rw [decide_eq_true_eq]
    intro q hq he
    exact h5 q hq (he.trans h4)
/-! ### Steps -/
def it (f : Nat → Nat) : Nat → Nat → Nat
  | 0, x => x
  | k + 1, x => it f k (f x)
theorem it_add (f : Nat → Nat) (a : Nat) : ∀ b x, it f (a + b) x = it f b (it f a x) := by
  induction a with
  | zero => intro b x; rw [Nat.zero_add]; rfl
  | succ a ih => intro b x; rw [Nat.succ_add]; exact ih b (f x)
theorem it_succ (f : Nat → Nat) (k x : Nat) : it f (k + 1) x = f (it f k x) := by rw [it_add]; rfl
structure Stp (f : Nat → Nat) (n : Nat) : Prop where
  rng : ∀ x, x < n → f x < n
  inj : ∀ x y, x < n → y < n → f x = f y → x = y
theorem Stp.it {f n} (h : Stp f n) {x : Nat} (hx : x < n) : ∀ k, Go.Sx.Ch.it f k x < n
  | 0 => hx
  | k + 1 => by rw [it_succ]; exact h.rng _ (h.it hx k)
theorem Stp.it_inj {f n} (h : Stp f n) {x y : Nat} (hx : x < n) (hy : y < n) : ∀ k, Go.Sx.Ch.it f k x = Go.Sx.Ch.it f k y → x = y
  | 0, e => e
  | k + 1, e => by rw [it_succ, it_succ] at e; exact h.it_inj hx hy k (h.inj _ _ (h.it hx k) (h.it hy k) e)
theorem holes : ∀ (n : Nat) (g : Nat → Nat), (∀ i, i ≤ n → g i < n) → ∃ i j, i < j ∧ j ≤ n ∧ g i = g j := by
  intro n g hg
  by_cases h : ∃ i j, i < j ∧ j ≤ n ∧ g i = g j
  · exact h
  · exfalso
    have hnd : ((List.range (n + 1)).map g).Nodup := by
      rw [List.nodup_iff_pairwise_ne, List.pairwise_map]
      refine (List.pairwise_lt_range (n := n + 1)).imp_of_mem fun {x y} hx hy hxy he => ?_
      exact h ⟨x, y, hxy, by have := List.mem_range.1 hy; omega, he⟩
    have := hnd.length_le_of_subset (l₂ := List.range n) fun x hx => by
      obtain ⟨i, hi, rfl⟩ := List.mem_map.1 hx
      exact List.mem_range.2 (hg i (by have := List.mem_range.1 hi; omega))
    simp at this
    omega
theorem Stp.per {f n} (h : Stp f n) {x : Nat} (hx : x < n) : ∃ p, 0 < p ∧ p ≤ n ∧ Go.Sx.Ch.it f p x = x := by
  obtain ⟨i, j, hij, hj, he⟩ := holes n (fun i => Go.Sx.Ch.it f i x) fun i _ => h.it hx i
  refine ⟨j - i, by omega, by omega, ?_⟩
  have : j = (j - i) + i := by omega
  rw [this, it_add] at he
  exact (h.it_inj hx (h.it hx _) i he).symm
def Lead (f : Nat → Nat) (x y : Nat) : Prop := ∃ k, it f k x = y
theorem Lead.refl {f x} : Lead f x x := ⟨0, rfl⟩
theorem Lead.trans {f x y z} (a : Lead f x y) (b : Lead f y z) : Lead f x z := by
  obtain ⟨i, rfl⟩ := a
  obtain ⟨j, rfl⟩ := b
  exact ⟨i + j, it_add f i j x⟩
theorem Lead.one {f x} : Lead f x (f x) := ⟨1, rfl⟩
theorem it_mul {f : Nat → Nat} {p x : Nat} (h : it f p x = x) : ∀ c, it f (c * p) x = x
  | 0 => by simp [it]
  | c + 1 => by rw [Nat.succ_mul, it_add, it_mul h c, h]
theorem Stp.symm {f n} (h : Stp f n) {x y : Nat} (hx : x < n) (hl : Lead f x y) : Lead f y x := by
  obtain ⟨k, rfl⟩ := hl
  obtain ⟨p, p0, -, hp⟩ := h.per hx
  refine ⟨(k + 1) * p - k, ?_⟩
  rw [← it_add]
  have : k ≤ (k + 1) * p := Nat.le_trans (Nat.le_succ k) (Nat.le_mul_of_pos_right _ p0)
  rw [show k + ((k + 1) * p - k) = (k + 1) * p by omega]
  exact it_mul hp _
theorem Stp.eqv {f n} (h : Stp f n) : Eqv n (Lead f) := ⟨fun _ _ => .refl, fun p q hp _ hl => h.symm hp hl, fun _ _ _ _ _ _ a b => a.trans b⟩
def sw (a b x : Nat) : Nat := if x = a then b else if x = b then a else x
theorem sw_sw (a b x : Nat) : sw a b (sw a b x) = x := by
  unfold sw
  by_cases h1 : x = a
  · subst h1
    by_cases h2 : b = x
    · simp [h2]
    · simp [h2]
  · by_cases h2 : x = b
    · subst h2; simp [h1]
    · simp [h1, h2]
theorem sw_lt {a b x n : Nat} (ha : a < n) (hb : b < n) (hx : x < n) : sw a b x < n := by
  unfold sw; split
  · exact hb
  · split
    · exact ha
    · exact hx
theorem Stp.sw {f n} (h : Stp f n) {a b : Nat} (ha : a < n) (hb : b < n) : Stp (fun x => f (Go.Sx.Ch.sw a b x)) n :=
  ⟨fun x hx => h.rng _ (sw_lt ha hb hx), fun x y hx hy e => by
    have := h.inj _ _ (sw_lt ha hb hx) (sw_lt ha hb hy) e
    rw [← sw_sw a b x, this, sw_sw]⟩
theorem way {f n} (h : Stp f n) {a b : Nat} (ha : a < n) (hab : ¬ Lead f a b) : Lead (fun x => f (sw a b x)) (f a) a := by
  obtain ⟨p, p0, -, hp⟩ := h.per ha
  obtain ⟨m, m1, m2, m3⟩ := ex_min (p := fun k => 0 < k ∧ it f k a = a) p ⟨p0, hp⟩
  have key : ∀ k, k + 1 ≤ m → it (fun x => f (sw a b x)) k (f a) = it f (k + 1) a := by
    intro k
    induction k with
    | zero => intro _; rfl
    | succ k ih =>
      intro hk
      rw [it_succ, ih (by omega), it_succ f (k + 1)]
      have h1 : it f (k + 1) a ≠ a := fun e => m3 (k + 1) (by omega) ⟨by omega, e⟩
      have h2 : it f (k + 1) a ≠ b := fun e => hab ⟨_, e⟩
      simp [sw, h1, h2]
  refine ⟨m - 1, ?_⟩
  rw [key (m - 1) (by omega), show m - 1 + 1 = m by omega]
  exact m2.2
theorem sw_comm (a b x : Nat) : sw a b x = sw b a x := by
  unfold sw
  by_cases h1 : x = a
  · by_cases h2 : x = b
    · rw [if_pos h1, if_pos h2]; omega
    · rw [if_pos h1, if_neg h2, if_pos h1]
  · by_cases h2 : x = b
    · rw [if_neg h1, if_pos h2, if_pos h2]
    · rw [if_neg h1, if_neg h2, if_neg h2, if_neg h1]
theorem lead_in {f : Nat → Nat} {n : Nat} (h : Stp f n) {Q : Nat → Nat → Prop} (hr : ∀ x, x < n → Q x x) (ht : ∀ x y z, x < n → y < n → z < n → Q x y → Q y z → Q x z) (h1 : ∀ x, x < n → Q x (f x)) {x y : Nat} (hx : x < n) (hl : Lead f x y) : Q x y := by
  obtain ⟨k, rfl⟩ := hl
  induction k with
  | zero => exact hr x hx
  | succ k ih => rw [it_succ]; exact ht _ _ _ hx (h.it hx k) (h.rng _ (h.it hx k)) ih (h1 _ (h.it hx k))
theorem cls_sw_apart {f n} (h : Stp f n) {a b : Nat} (ha : a < n) (hb : b < n) (hab : ¬ Lead f a b) : cls n (Lead fun x => f (sw a b x)) + 1 = cls n (Lead f) := by
  have hs := h.sw ha hb
  have e := h.eqv
  have e' := hs.eqv
  have hba : ¬ Lead f b a := fun hl => hab (h.symm hb hl)
  have hne : a ≠ b := fun he => hab (he ▸ .refl)
  have wa : Lead (fun x => f (sw a b x)) (f a) a := way h ha hab
  have wb : Lead (fun x => f (sw a b x)) (f b) b := by
    have := way h hb hba
    have he : (fun x => f (sw b a x)) = fun x => f (sw a b x) := funext fun x => by rw [sw_comm]
    rw [he] at this; exact this
  have fa : f (sw a b a) = f b := by simp [sw]
  have fb : f (sw a b b) = f a := by simp [sw, Ne.symm hne]
  have lab : Lead (fun x => f (sw a b x)) a b := by
    have h1 : Lead (fun x => f (sw a b x)) a (f b) := by have := Lead.one (f := fun x => f (sw a b x)) (x := a); simp only [fa] at this; exact this
    exact h1.trans wb
  have lba : Lead (fun x => f (sw a b x)) b a := hs.symm ha lab
  have old : ∀ x, x < n → Lead (fun x => f (sw a b x)) x (f x) := fun x hx => by
    by_cases h1 : x = a
    · subst h1; exact hs.symm (h.rng x hx) wa
    · by_cases h2 : x = b
      · subst h2; exact hs.symm (h.rng x hx) wb
      · have : (fun x => f (sw a b x)) x = f x := by simp [sw, h1, h2]
        have := Lead.one (f := fun x => f (sw a b x)) (x := x)
        simp only [sw, h1, h2, if_false] at this
        exact this
  have sub : ∀ {x y}, x < n → Lead f x y → Lead (fun x => f (sw a b x)) x y := fun hx hl => lead_in h (Q := Lead fun x => f (sw a b x)) (fun _ _ => .refl) (fun _ _ _ _ _ _ u v => u.trans v) old hx hl
  refine cls_merge e ha hb hab fun p q hp hq => ?_
  constructor
  · intro hl
    refine lead_in hs (Q := fun p q => Lead f p q ∨ (Lead f p a ∧ Lead f b q) ∨ (Lead f p b ∧ Lead f a q)) (fun _ _ => .inl .refl) (fun x y z hx hy hz u v => ?_) (fun x hx => ?_) hp hl
    · rcases u with u | ⟨u1, u2⟩ | ⟨u1, u2⟩ <;> rcases v with v | ⟨v1, v2⟩ | ⟨v1, v2⟩
      · exact .inl (u.trans v)
      · exact .inr (.inl ⟨u.trans v1, v2⟩)
      · exact .inr (.inr ⟨u.trans v1, v2⟩)
      · exact .inr (.inl ⟨u1, u2.trans v⟩)
      · exact absurd (u2.trans v1) hba
      · exact .inl (u1.trans v2)
      · exact .inr (.inr ⟨u1, u2.trans v⟩)
      · exact .inl (u1.trans v2)
      · exact absurd (u2.trans v1) hab
    · by_cases h1 : x = a
      · subst h1
        rw [fa]; exact .inr (.inl ⟨.refl, .one⟩)
      · by_cases h2 : x = b
        · subst h2
          rw [fb]; exact .inr (.inr ⟨.refl, .one⟩)
        · simp only [sw, h1, h2, if_false]; exact .inl .one
  · rintro (u | ⟨u1, u2⟩ | ⟨u1, u2⟩)
    · exact sub hp u
    · exact (sub hp u1).trans (lab.trans (sub hb u2))
    · exact (sub hp u1).trans (lba.trans (sub ha u2))
theorem sw_together {f n} (h : Stp f n) {a b : Nat} (ha : a < n) (hb : b < n) (hne : a ≠ b) (hab : Lead f a b) : ¬ Lead (fun x => f (sw a b x)) a b := by
  have hs := h.sw ha hb
  obtain ⟨k, hk⟩ := hab
  have hk0 : 0 < k := by
    rcases Nat.eq_zero_or_pos k with e | e
    · subst e; exact absurd hk hne
    · exact e
  obtain ⟨i, -, ⟨i0, i1⟩, i2⟩ := ex_min (p := fun k => 0 < k ∧ it f k a = b) k ⟨hk0, hk⟩
  have nota : ∀ j, 0 < j → j ≤ i → it f j a ≠ a := fun j h1 h2 e => by
    by_cases e2 : j = i
    · subst e2; exact hne (e.symm.trans i1)
    · have : it f (i - j) a = b := by
        have h3 : i = j + (i - j) := by omega
        rw [h3, it_add, e] at i1; exact i1
      exact i2 (i - j) (by omega) ⟨by omega, this⟩
  let S : Nat → Prop := fun x => ∃ j, 0 < j ∧ j ≤ i ∧ it f j a = x
  have step : ∀ x, x < n → (S x ↔ S ((fun x => f (sw a b x)) x)) := by
    intro x hx
    constructor
    · rintro ⟨j, j1, j2, rfl⟩
      by_cases e : j = i
      · subst e
        refine ⟨1, by omega, by omega, ?_⟩
        rw [i1]
        simp [sw, Ne.symm hne, it]
      · refine ⟨j + 1, by omega, by omega, ?_⟩
        have h1 := nota j j1 j2
        have h2 : it f j a ≠ b := fun e2 => i2 j (by omega) ⟨j1, e2⟩
        rw [it_succ]; simp [sw, h1, h2]
    · rintro ⟨j, j1, j2, hj'⟩
      have hj : it f j a = f (sw a b x) := hj'
      by_cases e : j = 1
      · subst e
        have : x = b := by
          apply hs.inj x b hx hb
          show f (sw a b x) = f (sw a b b)
          rw [← hj]; simp [sw, Ne.symm hne, it]
        exact ⟨i, i0, Nat.le_refl _, by rw [this]; exact i1⟩
      · refine ⟨j - 1, by omega, by omega, ?_⟩
        have h1 := nota (j - 1) (by omega) (by omega)
        have h2 : it f (j - 1) a ≠ b := fun e2 => i2 (j - 1) (by omega) ⟨by omega, e2⟩
        apply hs.inj _ _ (h.it ha _) hx
        show f (sw a b (it f (j - 1) a)) = f (sw a b x)
        rw [← hj]
        have : j = (j - 1) + 1 := by omega
        rw [this, it_succ]
        simp [sw, h1, h2]
  intro hl
  have hS : S a ↔ S b := lead_in hs (Q := fun x y => S x ↔ S y) (fun _ _ => Iff.rfl) (fun _ _ _ _ _ _ u v => u.trans v) step ha hl
  obtain ⟨j, j1, j2, j3⟩ := hS.2 ⟨i, i0, Nat.le_refl _, i1⟩
  exact nota j j1 j2 j3
theorem cls_sw_together {f n} (h : Stp f n) {a b : Nat} (ha : a < n) (hb : b < n) (hne : a ≠ b) (hab : Lead f a b) : cls n (Lead fun x => f (sw a b x)) = cls n (Lead f) + 1 := by
  have hs := h.sw ha hb
  have := cls_sw_apart hs ha hb (sw_together h ha hb hne hab)
  have he : (fun x => (fun x => f (sw a b x)) (sw a b x)) = f := funext fun x => by simp only [sw_sw]
  rw [he] at this
  exact this.symm
end Go.Sx.Ch
end
section
namespace Go.Sx.Ch
def relab (P : Nat) (fr to : Int) (l : List Int) : List Int := (l.take P).map (fun x => if x = fr then to else x) ++ l.drop P
def labS (at' : Nat → Nat) (P : Nat) (s : List Int × Int) (k : Nat) : List Int × Int :=
  if s.1.getD (at' (2 * k)) 0 = s.1.getD (at' (2 * k + 1)) 0 then s else (relab P (s.1.getD (at' (2 * k)) 0) (s.1.getD (at' (2 * k + 1)) 0) s.1, s.2 - 1)
def labI (P : Nat) : List Int := (List.range 16).map fun (p : Nat) => if p < P then (p : Int) else 0
def labN (at' : Nat → Nat) (P : Nat) (k : Nat) : List Int × Int := (List.range k).foldl (labS at' P) (labI P, P)
theorem labN_succ (at' : Nat → Nat) (P k : Nat) : labN at' P (k + 1) = labS at' P (labN at' P k) k := by simp [labN, List.range_succ, List.foldl_append]
theorem relab_len (P : Nat) (fr to : Int) (l : List Int) : (relab P fr to l).length = l.length := by simp [relab]; omega
theorem relab_get {P : Nat} {fr to : Int} {l : List Int} {p : Nat} (hp : p < P) (hl : p < l.length) : (relab P fr to l).getD p 0 = if l.getD p 0 = fr then to else l.getD p 0 := by
  unfold relab
  rw [List.getD_eq_getElem?_getD, List.getElem?_append_left (by simp; omega), List.getElem?_map, List.getElem?_take, if_pos hp, List.getD_eq_getElem?_getD, List.getElem?_eq_getElem hl]
  rfl
def Lab (at' : Nat → Nat) (P k : Nat) (p q : Nat) : Prop := (labN at' P k).1.getD p 0 = (labN at' P k).1.getD q 0
theorem Lab.eqv {at' : Nat → Nat} {P k : Nat} : Eqv P (Lab at' P k) := ⟨fun _ _ => rfl, fun _ _ _ _ h => h.symm, fun _ _ _ _ _ _ a b => a.trans b⟩
theorem labI_get {P p : Nat} (h : p < P) (h16 : P ≤ 16) : (labI P).getD p 0 = p := by
  simp [labI, List.getD_eq_getElem?_getD, show p < 16 by omega, h]
structure LabOk (at' : Nat → Nat) (n P k : Nat) : Prop where
  len : (labN at' P k).1.length = 16
  cnt : ((cls P (Lab at' P k) : Nat) : Int) = (labN at' P k).2
  same : ∀ j, j < k → Lab at' P k (at' (2 * j)) (at' (2 * j + 1))
theorem cls_id (P : Nat) {R : Nat → Nat → Prop} (h : ∀ p q, p < P → q < P → (R p q ↔ p = q)) : cls P R = P := by
  rw [cls_congr (S := fun x y => (fun m : Nat => m) x = (fun m : Nat => m) y) (fun p q hp hq => h p q hp hq)]
  exact cls_map (fun m hm => hm) (fun p hp => ⟨p, hp, rfl⟩)
theorem lab_step {at' : Nat → Nat} {P k : Nat} (hl : (labN at' P k).1.length = 16) (h16 : P ≤ 16) :
    (Lab at' P k (at' (2 * k)) (at' (2 * k + 1)) ∧ labN at' P (k + 1) = labN at' P k) ∨
    (¬ Lab at' P k (at' (2 * k)) (at' (2 * k + 1)) ∧ (labN at' P (k + 1)).2 = (labN at' P k).2 - 1 ∧ (labN at' P (k + 1)).1.length = 16 ∧
      ∀ p q, p < P → q < P → (Lab at' P (k + 1) p q ↔ Lab at' P k p q ∨ (Lab at' P k p (at' (2 * k)) ∧ Lab at' P k (at' (2 * k + 1)) q) ∨ (Lab at' P k p (at' (2 * k + 1)) ∧ Lab at' P k (at' (2 * k)) q))) := by
  by_cases he : Lab at' P k (at' (2 * k)) (at' (2 * k + 1))
  · refine .inl ⟨he, ?_⟩
    rw [labN_succ]; unfold labS
    exact if_pos he
  · right
    have hn : labN at' P (k + 1) = (relab P ((labN at' P k).1.getD (at' (2 * k)) 0) ((labN at' P k).1.getD (at' (2 * k + 1)) 0) (labN at' P k).1, (labN at' P k).2 - 1) := by
      rw [labN_succ]; unfold labS
      exact if_neg he
    refine ⟨he, by rw [hn], by rw [hn, relab_len, hl], fun p q hp hq => ?_⟩
    unfold Lab at he ⊢
    rw [hn]
    simp only
    rw [relab_get hp (by omega), relab_get hq (by omega)]
    generalize (labN at' P k).1.getD p 0 = x
    generalize (labN at' P k).1.getD q 0 = y
    generalize (labN at' P k).1.getD (at' (2 * k)) 0 = a at *
    generalize (labN at' P k).1.getD (at' (2 * k + 1)) 0 = b at *
    by_cases h1 : x = a
    · by_cases h2 : y = a
      · rw [if_pos h1, if_pos h2]; constructor
        · intro _; left; omega
        · intro _; rfl
      · rw [if_pos h1, if_neg h2]; constructor
        · intro h; right; left; omega
        · intro h; omega
    · by_cases h2 : y = a
      · rw [if_neg h1, if_pos h2]; constructor
        · intro h; right; right; omega
        · intro h; omega
      · rw [if_neg h1, if_neg h2]; constructor
        · intro h; left; omega
        · intro h; omega
theorem lab_ok {at' : Nat → Nat} {n P : Nat} (h16 : P ≤ 16) (hat : ∀ m, m < n → at' m < P) : ∀ k, 2 * k ≤ n → LabOk at' n P k
  | 0, _ => by
    refine ⟨by simp [labN, labI], ?_, fun j hj => by omega⟩
    rw [cls_id P (R := Lab at' P 0)]
    · rfl
    · intro p q hp hq
      show (labI P).getD p 0 = (labI P).getD q 0 ↔ p = q
      rw [labI_get hp h16, labI_get hq h16]; omega
  | k + 1, hk => by
    have ih := lab_ok h16 hat k (by omega)
    have ha := hat (2 * k) (by omega)
    have hb := hat (2 * k + 1) (by omega)
    rcases lab_step (at' := at') (P := P) (k := k) ih.len h16 with ⟨h1, h2⟩ | ⟨h1, h2, h3, h4⟩
    · have hR : Lab at' P (k + 1) = Lab at' P k := by funext p q; unfold Lab; rw [h2]
      refine ⟨by rw [h2]; exact ih.len, by rw [hR, h2]; exact ih.cnt, fun j hj => ?_⟩
      rw [hR]
      by_cases e : j = k
      · rw [e]; exact h1
      · exact ih.same j (by omega)
    · have hc := cls_merge (Lab.eqv (at' := at') (P := P) (k := k)) ha hb h1 h4
      refine ⟨h3, by rw [h2, ← ih.cnt, ← hc]; omega, fun j hj => ?_⟩
      by_cases e : j = k
      · subst e
        exact (h4 _ _ ha hb).2 (.inr (.inl ⟨rfl, rfl⟩))
      · exact (h4 _ _ (hat _ (by omega)) (hat _ (by omega))).2 (.inl (ih.same j (by omega)))
def onK (k x : Nat) : Nat := if x < 2 * k then (if x % 2 = 0 then x + 1 else x - 1) else x
theorem onK_succ (k x : Nat) : onK (k + 1) x = onK k (sw (2 * k) (2 * k + 1) x) := by
  unfold onK sw
  by_cases h1 : x = 2 * k
  · subst h1
    rw [if_pos (by omega), if_pos (by omega), if_pos rfl, if_neg (by omega)]
  · by_cases h2 : x = 2 * k + 1
    · subst h2
      rw [if_pos (by omega), if_neg (by omega), if_neg h1, if_pos rfl, if_neg (by omega)]; omega
    · rw [if_neg h1, if_neg h2]
      by_cases h3 : x < 2 * k
      · rw [if_pos h3, if_pos (by omega)]
      · rw [if_neg h3, if_neg (by omega)]
theorem onK_lt {k x n : Nat} (hk : 2 * k ≤ n) (hx : x < n) : onK k x < n := by
  unfold onK; split
  · split <;> omega
  · exact hx
theorem euler {f at' : Nat → Nat} {n P : Nat} (h16 : P ≤ 16) (hat : ∀ m, m < n → at' m < P) (hs : Stp f n) (hf : ∀ m, m < n → at' (f m) = at' m) (h0 : cls n (Lead f) = P) :
    ∀ k, 2 * k ≤ n → Stp (fun x => f (onK k x)) n ∧ ∃ g : Nat, 2 * (labN at' P k).2 + k = P + cls n (Lead fun x => f (onK k x)) + 2 * g
  | 0, _ => by
    have e : (fun x => f (onK 0 x)) = f := funext fun x => by simp [onK]
    rw [e, h0]
    exact ⟨hs, 0, by simp [labN]; omega⟩
  | k + 1, hk => by
    obtain ⟨hst, g, hg⟩ := euler h16 hat hs hf h0 k (by omega)
    have ok := lab_ok h16 hat k (by omega)
    have ha : 2 * k < n := by omega
    have hb : 2 * k + 1 < n := by omega
    have e : (fun x => f (onK (k + 1) x)) = fun x => f (onK k (sw (2 * k) (2 * k + 1) x)) := funext fun x => by simp only [onK_succ]
    rw [e]
    refine ⟨hst.sw ha hb, ?_⟩
    generalize hA : cls n (Lead fun x => f (onK k (sw (2 * k) (2 * k + 1) x))) = A
    have inside : ∀ {x y}, x < n → Lead (fun x => f (onK k x)) x y → Lab at' P k (at' x) (at' y) := fun hx hl => by
      refine lead_in hst (Q := fun x y => Lab at' P k (at' x) (at' y)) (fun _ _ => rfl) (fun _ _ _ _ _ _ u v => u.trans v) (fun x hx => ?_) hx hl
      rw [hf _ (onK_lt (by omega) hx)]
      unfold onK
      split
      · rename_i h
        split
        · rename_i h2
          have := ok.same (x / 2) (by omega)
          rw [show 2 * (x / 2) = x by omega] at this
          exact this
        · rename_i h2
          have := ok.same (x / 2) (by omega)
          rw [show 2 * (x / 2) = x - 1 by omega, show x - 1 + 1 = x by omega] at this
          exact this.symm
      · rfl
    rcases lab_step (at' := at') (P := P) (k := k) ok.len h16 with ⟨h1, h2⟩ | ⟨h1, h2, h3, h4⟩
    · rw [h2]
      by_cases hl : Lead (fun x => f (onK k x)) (2 * k) (2 * k + 1)
      · have : A = _ := hA.symm.trans (cls_sw_together hst ha hb (by omega) hl)
        refine ⟨g, ?_⟩
        omega
      · have : A + 1 = _ := hA ▸ cls_sw_apart hst ha hb hl
        refine ⟨g + 1, ?_⟩
        omega
    · have hl : ¬ Lead (fun x => f (onK k x)) (2 * k) (2 * k + 1) := fun hl => h1 (inside ha hl)
      have : A + 1 = _ := hA ▸ cls_sw_apart hst ha hb hl
      refine ⟨g, ?_⟩
      rw [h2]; omega
/-! ### What lines lead to -/
inductive Rch (at' : Nat → Nat) (n : Nat) (p : Nat) : Nat → Prop
  | refl : Rch at' n p p
  | step {m : Nat} (h : Rch at' n p (at' m)) (hm : m < n) : Rch at' n p (at' (onK n m))
theorem onK_onK {n x : Nat} (hn : n % 2 = 0) (hx : x < n) : onK n (onK n x) = x := by
  unfold onK
  rw [if_pos (show x < 2 * n by omega)]
  split
  · rw [if_pos (by omega), if_neg (by omega)]; omega
  · rw [if_pos (by omega), if_pos (by omega)]; omega
theorem onK_in {n x : Nat} (hn : n % 2 = 0) (hx : x < n) : onK n x < n := by
  unfold onK
  rw [if_pos (by omega)]
  split <;> omega
theorem Rch.trans {at' n p q r} (a : Rch at' n p q) (b : Rch at' n q r) : Rch at' n p r := by
  induction b with
  | refl => exact a
  | step h hm ih => exact .step ih hm
theorem Rch.symm {at' n p q} (hn : n % 2 = 0) (a : Rch at' n p q) : Rch at' n q p := by
  induction a with
  | refl => exact .refl
  | @step m h hm ih =>
    have h1 : Rch at' n (at' (onK n m)) (at' (onK n (onK n m))) := .step .refl (onK_in hn hm)
    rw [onK_onK hn hm] at h1
    exact h1.trans ih
theorem lab_rch {at' : Nat → Nat} {n P : Nat} (h16 : P ≤ 16) (hn : n % 2 = 0) (hat : ∀ m, m < n → at' m < P) : ∀ k, 2 * k ≤ n → ∀ p q, p < P → q < P → Lab at' P k p q → Rch at' n p q
  | 0, _, p, q, hp, hq, h => by
    have h' : (labI P).getD p 0 = (labI P).getD q 0 := h
    rw [labI_get hp h16, labI_get hq h16] at h'
    have : p = q := by omega
    subst this; exact .refl
  | k + 1, hk, p, q, hp, hq, h => by
    have ok := lab_ok h16 hat k (by omega)
    have ih := lab_rch h16 hn hat k (by omega)
    have ha := hat (2 * k) (by omega)
    have hb := hat (2 * k + 1) (by omega)
    have hab : Rch at' n (at' (2 * k)) (at' (2 * k + 1)) := by
      have : Rch at' n (at' (2 * k)) (at' (onK n (2 * k))) := .step .refl (by omega)
      have e : onK n (2 * k) = 2 * k + 1 := by unfold onK; rw [if_pos (by omega), if_pos (by omega)]
      rw [e] at this; exact this
    rcases lab_step (at' := at') (P := P) (k := k) ok.len h16 with ⟨h1, h2⟩ | ⟨h1, h2, h3, h4⟩
    · exact ih p q hp hq (by unfold Lab at h ⊢; rw [h2] at h; exact h)
    · rcases (h4 p q hp hq).1 h with u | ⟨u, v⟩ | ⟨u, v⟩
      · exact ih p q hp hq u
      · exact ((ih _ _ hp ha u).trans hab).trans (ih _ _ hb hq v)
      · exact ((ih _ _ hp hb u).trans (hab.symm hn)).trans (ih _ _ ha hq v)
theorem rch_lab {at' : Nat → Nat} {n P : Nat} (h16 : P ≤ 16) (hn : n % 2 = 0) (hat : ∀ m, m < n → at' m < P) {p q : Nat} (h : Rch at' n p q) : Lab at' P (n / 2) p q := by
  have ok := lab_ok h16 hat (n / 2) (by omega)
  induction h with
  | refl => rfl
  | @step m h hm ih =>
    refine ih.trans ?_
    unfold onK
    rw [if_pos (by omega)]
    have := ok.same (m / 2) (by omega)
    split
    · rw [show 2 * (m / 2) = m by omega] at this; exact this
    · rw [show 2 * (m / 2) = m - 1 by omega, show m - 1 + 1 = m by omega] at this; exact this.symm
end Go.Sx.Ch
end
