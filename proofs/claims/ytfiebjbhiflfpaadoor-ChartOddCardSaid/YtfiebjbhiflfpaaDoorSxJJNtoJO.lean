/- Walks along lines: closed walks of an odd number of lines (plain). No conditions. -/
import Derived.Test.YtfiebjbhiflfpaaDoorSxJJH0toJR0
import Derived.Test.YtfiebjbhiflfpaaDoorSxJHOtoHP
set_option linter.unusedVariables false
set_option linter.unusedSimpArgs false
namespace Go.Sx.Ch

/-- A walk from a point, over some, to a point. -/
def Pth (J : Nat → Nat → Bool) : Nat → List Nat → Nat → Prop
  | a, [], b => J a b = true
  | a, x :: l, b => J a x = true ∧ Pth J x l b
theorem pth_app {J : Nat → Nat → Bool} {b x : Nat} {l2 : List Nat} : ∀ {l1 : List Nat} {a : Nat}, Pth J a (l1 ++ x :: l2) b ↔ Pth J a l1 x ∧ Pth J x l2 b
  | [], a => by simp [Pth]
  | y :: l1, a => by simp only [List.cons_append, Pth, pth_app (l1 := l1), and_assoc]
theorem pth_snoc {J : Nat → Nat → Bool} {a b p : Nat} {l : List Nat} : Pth J a (l ++ [p]) b ↔ Pth J a l p ∧ J p b = true := pth_app (l2 := [])
theorem pth_rev {J : Nat → Nat → Bool} (hs : ∀ p q, J p q = true → J q p = true) : ∀ {l : List Nat} {a b : Nat}, Pth J a l b → Pth J b l.reverse a
  | [], a, b, h => hs _ _ h
  | x :: l, a, b, h => by rw [List.reverse_cons, pth_snoc]; exact ⟨pth_rev hs h.2, hs _ _ h.1⟩
theorem not_nodup : ∀ {l : List Nat}, ¬ l.Nodup → ∃ A x B C, l = A ++ x :: (B ++ x :: C)
  | [], h => absurd List.nodup_nil h
  | y :: l, h => by
    by_cases hy : y ∈ l
    · obtain ⟨B, C, rfl⟩ := List.append_of_mem hy
      exact ⟨[], y, B, C, rfl⟩
    · obtain ⟨A, x, B, C, rfl⟩ := not_nodup (l := l) fun hn => h (List.nodup_cons.2 ⟨hy, hn⟩)
      exact ⟨y :: A, x, B, C, rfl⟩
/-- A closed walk of an odd number of lines has one in it that meets no point twice. -/
theorem odd_red {J : Nat → Nat → Bool} (k : Nat) : ∀ {a : Nat} {l : List Nat}, l.length = k → Pth J a l a → l.length % 2 = 0 → ∃ a' l', Pth J a' l' a' ∧ l'.length % 2 = 0 ∧ (a' :: l').Nodup ∧ l'.length ≤ l.length := by
  induction k using Nat.strongRecOn with
  | _ k ih =>
    intro a l hk hp he
    by_cases hn : (a :: l).Nodup
    · exact ⟨a, l, hp, he, hn, Nat.le_refl _⟩
    · by_cases ha : a ∈ l
      · obtain ⟨A, B, rfl⟩ := List.append_of_mem ha
        obtain ⟨h1, h2⟩ := pth_app.1 hp
        simp only [List.length_append, List.length_cons] at hk he
        by_cases hA : A.length % 2 = 0
        · obtain ⟨a', l', q1, q2, q3, q4⟩ := ih A.length (by omega) rfl h1 hA
          exact ⟨a', l', q1, q2, q3, by simp; omega⟩
        · obtain ⟨a', l', q1, q2, q3, q4⟩ := ih B.length (by omega) rfl h2 (by omega)
          exact ⟨a', l', q1, q2, q3, by simp; omega⟩
      · obtain ⟨A, x, B, C, rfl⟩ := not_nodup (l := l) fun h => hn (List.nodup_cons.2 ⟨ha, h⟩)
        obtain ⟨h1, h2⟩ := pth_app.1 hp
        obtain ⟨h3, h4⟩ := pth_app.1 h2
        simp only [List.length_append, List.length_cons] at hk he
        by_cases hB : B.length % 2 = 0
        · obtain ⟨a', l', q1, q2, q3, q4⟩ := ih B.length (by omega) rfl h3 hB
          exact ⟨a', l', q1, q2, q3, by simp; omega⟩
        · obtain ⟨a', l', q1, q2, q3, q4⟩ := ih (A ++ x :: C).length (by simp; omega) rfl (pth_app.2 ⟨h1, h4⟩) (by simp; omega)
          exact ⟨a', l', q1, q2, q3, by simp at q4 ⊢; omega⟩
theorem pth_sub {J : Nat → Nat → Bool} {n : Nat} (hr : ∀ p q, J p q = true → p < n ∧ q < n) : ∀ {l : List Nat} {a b : Nat}, Pth J a l b → ∀ x ∈ a :: l, x < n
  | [], a, b, h, x, hx => by
    rw [List.mem_singleton] at hx; subst hx; exact (hr _ _ h).1
  | y :: l, a, b, h, x, hx => by
    rcases List.mem_cons.1 hx with rfl | hx
    · exact (hr _ _ h.1).1
    · exact pth_sub hr h.2 x hx
theorem nodup_len {l : List Nat} {n : Nat} (hd : l.Nodup) (h : ∀ x ∈ l, x < n) : l.length ≤ n := by
  have := sub_len (B := List.range n) hd fun x hx => List.mem_range.2 (h x hx)
  simpa using this
/-- So many lines lead from a point to a point. -/
def Wk (J : Nat → Nat → Bool) (a b : Nat) : Nat → Prop
  | 0 => a = b
  | k + 1 => ∃ l, l.length = k ∧ Pth J a l b
theorem Wk.succ {J : Nat → Nat → Bool} {a q : Nat} : ∀ {s : Nat}, Wk J a q (s + 1) ↔ ∃ p, Wk J a p s ∧ J p q = true
  | 0 => by
    constructor
    · rintro ⟨l, hl, h⟩
      obtain rfl := List.length_eq_zero_iff.1 hl
      exact ⟨a, rfl, h⟩
    · rintro ⟨p, rfl, h⟩
      exact ⟨[], rfl, h⟩
  | s + 1 => by
    constructor
    · rintro ⟨l, hl, h⟩
      rcases List.eq_nil_or_concat l with rfl | ⟨m, p, rfl⟩
      · simp at hl
      · rw [List.concat_eq_append] at h
        obtain ⟨h1, h2⟩ := pth_snoc.1 h
        exact ⟨p, ⟨m, by simpa using hl, h1⟩, h2⟩
    · rintro ⟨p, ⟨m, hm, h1⟩, h2⟩
      exact ⟨m ++ [p], by simp [hm], pth_snoc.2 ⟨h1, h2⟩⟩
theorem Wk.trans {J : Nat → Nat → Bool} {a b c : Nat} {j : Nat} (h : Wk J a b j) : ∀ {k : Nat}, ∀ {c}, Wk J b c k → Wk J a c (j + k)
  | 0, c, hk => by obtain rfl : b = c := hk; exact h
  | k + 1, c, hk => by
    obtain ⟨p, h1, h2⟩ := Wk.succ.1 hk
    exact Wk.succ.2 ⟨p, Wk.trans (c := c) h h1, h2⟩
theorem Wk.symm {J : Nat → Nat → Bool} (hs : ∀ p q, J p q = true → J q p = true) {a b : Nat} : ∀ {k : Nat}, Wk J a b k → Wk J b a k
  | 0, h => Eq.symm h
  | k + 1, ⟨l, hl, h⟩ => ⟨l.reverse, by simp [hl], pth_rev hs h⟩
theorem Wk.one {J : Nat → Nat → Bool} {a b : Nat} (h : J a b = true) : Wk J a b 1 := ⟨[], rfl, h⟩
/-- Where no closed walk has an odd number of lines, two colours are enough. -/
theorem two_col {J : Nat → Nat → Bool} (hs : ∀ p q, J p q = true → J q p = true) (hno : ∀ a k, Wk J a a k → k % 2 = 0) : ∃ c : Nat → Nat, (∀ x, c x < 2) ∧ ∀ p q, J p q = true → c p ≠ c q := by
  let R : Nat → Nat → Prop := fun v w => ∃ k, Wk J v w k
  let rt : Nat → Nat := fun v => Classical.epsilon (R v)
  have hrt : ∀ v, R v (rt v) := fun v => Classical.epsilon_spec ⟨v, 0, rfl⟩
  have heq : ∀ u v, J u v = true → rt u = rt v := fun u v h => by
    have e : R u = R v := by
      funext w
      apply propext
      constructor
      · rintro ⟨k, hk⟩; exact ⟨_, Wk.trans (c := w) (Wk.one (hs _ _ h)) hk⟩
      · rintro ⟨k, hk⟩; exact ⟨_, Wk.trans (c := w) (Wk.one h) hk⟩
    show Classical.epsilon (R u) = Classical.epsilon (R v)
    rw [e]
  let E : Nat → Prop := fun v => ∃ k, Wk J (rt v) v k ∧ k % 2 = 0
  open Classical in
  refine ⟨fun v => if E v then 0 else 1, fun x => by dsimp only; split <;> omega, fun u v h he => ?_⟩
  have hr := heq u v h
  dsimp only at he
  by_cases hu : E u
  · by_cases hv : E v
    · obtain ⟨i, h1, h2⟩ := hu
      obtain ⟨j, h3, h4⟩ := hv
      rw [hr] at h1
      have := hno _ _ (Wk.trans (c := rt v) (Wk.trans (c := v) h1 (Wk.one h)) (Wk.symm hs h3))
      omega
    · rw [if_pos hu, if_neg hv] at he; omega
  · by_cases hv : E v
    · rw [if_neg hu, if_pos hv] at he; omega
    · obtain ⟨k, hk⟩ := hrt u
      have h1 := Wk.symm hs hk
      have hk1 : ¬ k % 2 = 0 := fun h0 => hu ⟨k, h1, h0⟩
      rw [hr] at h1
      exact hv ⟨k + 1, Wk.trans (c := v) h1 (Wk.one h), by omega⟩
/-- With two colours each line changes the colour. -/
theorem col_par {J : Nat → Nat → Bool} {c : Nat → Int} (h2 : ∀ p q, J p q = true → (0 ≤ c p ∧ c p < 2) ∧ 0 ≤ c q ∧ c q < 2) (hc : ∀ p q, J p q = true → c p ≠ c q) : ∀ {l : List Nat} {a b : Nat}, Pth J a l b → (c a + l.length + 1) % 2 = c b
  | [], a, b, h => by
    have := h2 _ _ h; have := hc _ _ h
    simp only [List.length_nil]; omega
  | x :: l, a, b, h => by
    have := h2 _ _ h.1; have := hc _ _ h.1
    have := col_par h2 hc h.2
    simp only [List.length_cons]; omega
theorem col_odd {J : Nat → Nat → Bool} {c : Nat → Int} (h2 : ∀ p q, J p q = true → (0 ≤ c p ∧ c p < 2) ∧ 0 ≤ c q ∧ c q < 2) (hc : ∀ p q, J p q = true → c p ≠ c q) {a : Nat} {k : Nat} (h : Wk J a a k) : k % 2 = 0 := by
  rcases k with _ | k
  · rfl
  · obtain ⟨l, hl, hp⟩ := h
    have := col_par h2 hc hp
    have hc2 : 0 ≤ c a ∧ c a < 2 := by
      cases l with
      | nil => exact (h2 _ _ hp).1
      | cons x l => exact (h2 _ _ hp.1).1
    omega

/-- What comes next, as bits. -/
def nxB (N : List Nat) (now : Nat) (s p : Nat) : Nat := if now.testBit p then s ||| N.getD p 0 else s
def nxtB (N : List Nat) (now n : Nat) : Nat := (List.range n).foldl (nxB N now) 0
theorem nxtB_succ (N : List Nat) (now n : Nat) : nxtB N now (n + 1) = nxB N now (nxtB N now n) n := by simp [nxtB, List.range_succ, List.foldl_append]
theorem nxtB_bit (N : List Nat) (now q : Nat) : ∀ n, (nxtB N now n).testBit q = true ↔ ∃ p, p < n ∧ now.testBit p = true ∧ (N.getD p 0).testBit q = true
  | 0 => by simp [nxtB]
  | n + 1 => by
    rw [nxtB_succ]
    unfold nxB
    have ih := nxtB_bit N now q n
    split
    · rename_i h
      rw [Nat.testBit_or, Bool.or_eq_true, ih]
      constructor
      · rintro (⟨p, h1, h2⟩ | h1)
        · exact ⟨p, by omega, h2⟩
        · exact ⟨n, by omega, h, h1⟩
      · rintro ⟨p, h1, h2, h3⟩
        by_cases e : p = n
        · subst e; exact .inr h3
        · exact .inl ⟨p, by omega, h2, h3⟩
    · rename_i h
      rw [ih]
      constructor
      · rintro ⟨p, h1, h2⟩; exact ⟨p, by omega, h2⟩
      · rintro ⟨p, h1, h2, h3⟩
        by_cases e : p = n
        · subst e; exact absurd h2 h
        · exact ⟨p, by omega, h2, h3⟩
theorem nxtB_lt {N : List Nat} (hN : ∀ i, N.getD i 0 < 65536) (now : Nat) : ∀ n, nxtB N now n < 65536
  | 0 => by simp [nxtB]
  | n + 1 => by
    rw [nxtB_succ]
    unfold nxB
    split
    · exact Nat.or_lt_two_pow (n := 16) (nxtB_lt hN now n) (hN n)
    · exact nxtB_lt hN now n
/-- Where so many lines may lead from a point, as bits. -/
def nowB (N : List Nat) (a : Nat) : Nat → Nat
  | 0 => 2 ^ a
  | s + 1 => nxtB N (nowB N a s) N.length
theorem nowB_lt {N : List Nat} (hN : ∀ i, N.getD i 0 < 65536) {a : Nat} (ha : a < 16) : ∀ s, nowB N a s < 65536
  | 0 => Nat.pow_lt_pow_right (by omega) ha
  | s + 1 => nxtB_lt hN _ _
def JB (N : List Nat) (p q : Nat) : Bool := (N.getD p 0).testBit q
theorem JB_lt {N : List Nat} {p q : Nat} (h : JB N p q = true) : p < N.length := by
  apply Classical.byContradiction
  intro hp
  unfold JB at h
  rw [List.getD_eq_getElem?_getD, List.getElem?_eq_none (by omega)] at h
  simp at h
theorem nowB_bit {N : List Nat} {a : Nat} : ∀ {s q : Nat}, (nowB N a s).testBit q = true ↔ Wk (JB N) a q s
  | 0, q => by simp [nowB, Wk, Nat.testBit_two_pow]
  | s + 1, q => by
    simp only [nowB]
    rw [nxtB_bit, Wk.succ]
    constructor
    · rintro ⟨p, -, h1, h2⟩; exact ⟨p, nowB_bit.1 h1, h2⟩
    · rintro ⟨p, h1, h2⟩; exact ⟨p, JB_lt h2, nowB_bit.2 h1, h2⟩
/-- The least odd number of lines that lead back. -/
def shI (N : List Nat) (a : Nat) (v s : Nat) : Nat := if s % 2 = 1 ∧ (nowB N a s).testBit a = true then min v s else v
def shS (N : List Nat) (a v k : Nat) : Nat := (List.range k).foldl (fun v i => shI N a v (i + 1)) v
def shT (N : List Nat) (k : Nat) : Nat := (List.range k).foldl (fun v a => shS N a v N.length) 100
theorem shS_succ (N : List Nat) (a v k : Nat) : shS N a v (k + 1) = shI N a (shS N a v k) (k + 1) := by simp [shS, List.range_succ, List.foldl_append]
theorem shT_succ (N : List Nat) (k : Nat) : shT N (k + 1) = shS N k (shT N k) N.length := by simp [shT, List.range_succ, List.foldl_append]
def OddB (N : List Nat) (a s : Nat) : Prop := s % 2 = 1 ∧ Wk (JB N) a a s
theorem shS_spec (N : List Nat) (a v : Nat) : ∀ k, (shS N a v k = v ∨ (OddB N a (shS N a v k) ∧ shS N a v k ≤ k)) ∧ shS N a v k ≤ v ∧ ∀ s, s ≤ k → OddB N a s → shS N a v k ≤ s
  | 0 => ⟨.inl rfl, Nat.le_refl _, fun s hs h => by have := h.1; omega⟩
  | k + 1 => by
    obtain ⟨h1, h2, h3⟩ := shS_spec N a v k
    rw [shS_succ]
    unfold shI
    by_cases hc : (k + 1) % 2 = 1 ∧ (nowB N a (k + 1)).testBit a = true
    · rw [if_pos hc]
      have ho : OddB N a (k + 1) := ⟨hc.1, nowB_bit.1 hc.2⟩
      generalize shS N a v k = w at *
      rcases Nat.le_total w (k + 1) with hw | hw
      · rw [Nat.min_eq_left hw]
        refine ⟨?_, h2, fun s hs h => ?_⟩
        · rcases h1 with h1 | ⟨h1, h4⟩
          · exact .inl h1
          · exact .inr ⟨h1, by omega⟩
        · by_cases e : s = k + 1
          · omega
          · exact h3 s (by omega) h
      · rw [Nat.min_eq_right hw]
        refine ⟨.inr ⟨ho, Nat.le_refl _⟩, by omega, fun s hs h => ?_⟩
        by_cases e : s = k + 1
        · omega
        · have := h3 s (by omega) h; omega
    · rw [if_neg hc]
      refine ⟨?_, h2, fun s hs h => ?_⟩
      · rcases h1 with h1 | ⟨h1, h4⟩
        · exact .inl h1
        · exact .inr ⟨h1, by omega⟩
      · by_cases e : s = k + 1
        · subst e; exact absurd ⟨h.1, nowB_bit.2 h.2⟩ hc
        · exact h3 s (by omega) h
theorem shT_spec (N : List Nat) : ∀ k, (shT N k = 100 ∨ ∃ a, a < k ∧ OddB N a (shT N k) ∧ shT N k ≤ N.length) ∧ ∀ a s, a < k → s ≤ N.length → OddB N a s → shT N k ≤ s
  | 0 => ⟨.inl rfl, fun a s ha => by omega⟩
  | k + 1 => by
    obtain ⟨h1, h2⟩ := shT_spec N k
    rw [shT_succ]
    obtain ⟨q1, q2, q3⟩ := shS_spec N k (shT N k) N.length
    refine ⟨?_, fun a s ha hs h => ?_⟩
    · rcases q1 with q1 | ⟨q1, q4⟩
      · rw [q1]
        rcases h1 with h1 | ⟨a, h3, h4⟩
        · exact .inl h1
        · exact .inr ⟨a, by omega, h4⟩
      · exact .inr ⟨k, by omega, q1, q4⟩
    · by_cases e : a = k
      · subst e; exact q3 s hs h
      · have := h2 a s (by omega) hs h; omega
theorem shT_le (N : List Nat) : ∀ k, shT N k ≤ 100
  | 0 => Nat.le_refl _
  | k + 1 => by rw [shT_succ]; exact Nat.le_trans (shS_spec N k (shT N k) N.length).2.1 (shT_le N k)
end Go.Sx.Ch
namespace Go.Sx.Ch

def nats (l : List Nat) : List Int := l.map fun (n : Nat) => (n : Int)
theorem nats_get (l : List Nat) (i : Nat) : ((nats l).getD i 0).toNat = l.getD i 0 := by
  simp only [nats, List.getD_eq_getElem?_getD, List.getElem?_map]
  cases l[i]? <;> simp
theorem nats_get' (l : List Nat) (i : Nat) : (nats l).getD i 0 = ((l.getD i 0 : Nat) : Int) := by
  simp only [nats, List.getD_eq_getElem?_getD, List.getElem?_map]
  cases l[i]? <;> simp
theorem pth_iff {J : Nat → Nat → Bool} {b : Nat} : ∀ {l : List Nat} {a : Nat}, Pth J a l b ↔ (∀ i, i + 1 < (a :: l).length → J ((a :: l).getD i 0) ((a :: l).getD (i + 1) 0) = true) ∧ J ((a :: l).getD l.length 0) b = true
  | [], a => by simp [Pth]
  | x :: l, a => by
    simp only [Pth, pth_iff (l := l) (a := x)]
    constructor
    · rintro ⟨h1, h2, h3⟩
      refine ⟨fun i hi => ?_, by simpa using h3⟩
      rcases i with _ | i
      · simpa using h1
      · have := h2 i (by simpa using hi)
        simpa using this
    · rintro ⟨h1, h2⟩
      refine ⟨by simpa using h1 0 (by simp), fun i hi => ?_, by simpa using h2⟩
      have := h1 (i + 1) (by simpa using hi)
      simpa using this
/-- A ring of so many points. -/
structure Ring (J : Nat → Nat → Bool) (P m : Nat) (r : List Int) : Prop where
  len : r.length = m
  bl : below P r
  nd : r.Nodup
  st : ∀ i, i + 1 < m → J (r.getD i 0).toNat (r.getD (i + 1) 0).toNat = true
  cl : J (r.getD 0 0).toNat (r.getD (m - 1) 0).toNat = true
theorem below_nats {P : Nat} {r : List Int} (h : below P r) : nats (r.map Int.toNat) = r := by
  unfold nats
  rw [List.map_map]
  apply List.ext_getElem
  · simp
  · intro i h1 h2
    obtain ⟨k, -, he⟩ := h _ (List.getElem_mem h2)
    simp only [List.getElem_map, Function.comp_apply]
    rw [he]; simp
theorem Ring.pth {J : Nat → Nat → Bool} (hs : ∀ p q, J p q = true → J q p = true) {P m : Nat} {r : List Int} (h : Ring J P m r) (hm : 0 < m) : ∃ a l, r = nats (a :: l) ∧ Pth J a l a ∧ l.length + 1 = m := by
  have e := below_nats h.bl
  have hl := h.len
  cases hr : r.map Int.toNat with
  | nil => rw [hr] at e; rw [← e] at hl; simp [nats] at hl; omega
  | cons a l =>
    rw [hr] at e
    have hl2 : l.length + 1 = m := by rw [← e] at hl; simpa [nats] using hl
    refine ⟨a, l, e.symm, pth_iff.2 ⟨fun i hi => ?_, ?_⟩, hl2⟩
    · have := h.st i (by rw [← hl2]; simpa using hi)
      rwa [← e, nats_get, nats_get] at this
    · have := hs _ _ h.cl
      rw [← e, nats_get, nats_get] at this
      rw [show l.length = m - 1 by omega]
      simpa using this
theorem ring_of_pth {J : Nat → Nat → Bool} (hs : ∀ p q, J p q = true → J q p = true) {P : Nat} {a : Nat} {l : List Nat} (h : Pth J a l a) (hd : (a :: l).Nodup) (hP : ∀ x ∈ a :: l, x < P) : Ring J P (l.length + 1) (nats (a :: l)) := by
  obtain ⟨h1, h2⟩ := pth_iff.1 h
  refine ⟨by simp [nats], fun x hx => ?_, ?_, fun i hi => ?_, ?_⟩
  · obtain ⟨k, hk, rfl⟩ := List.mem_map.1 hx
    exact ⟨k, hP k hk, rfl⟩
  · unfold nats
    exact List.Pairwise.map _ (fun a b h e => h (by omega)) hd
  · rw [nats_get, nats_get]; exact h1 i (by simpa using hi)
  · rw [nats_get, nats_get]
    have := hs _ _ h2
    simpa using this
/-- Any point of a ring may be its first. -/
theorem Ring.turn {J : Nat → Nat → Bool} (hs : ∀ p q, J p q = true → J q p = true) {P m : Nat} {r : List Int} (h : Ring J P m r) (hm : 0 < m) {x : Int} (hx : x ∈ r) : ∃ r', Ring J P m r' ∧ r'.getD 0 0 = x := by
  obtain ⟨a, l, rfl, hp, hl⟩ := h.pth hs hm
  obtain ⟨k, hk, rfl⟩ := List.mem_map.1 hx
  rcases List.mem_cons.1 hk with rfl | hk
  · exact ⟨_, h, by simp [nats]⟩
  · obtain ⟨A, B, rfl⟩ := List.append_of_mem hk
    obtain ⟨h1, h2⟩ := pth_app.1 hp
    have hperm : (k :: (B ++ a :: A)).Perm (a :: (A ++ k :: B)) := by
      have e1 : (k :: (B ++ a :: A)) = (k :: B) ++ (a :: A) := by simp
      have e2 : (a :: (A ++ k :: B)) = (a :: A) ++ (k :: B) := by simp
      rw [e1, e2]; exact List.perm_append_comm
    have hnd : (a :: (A ++ k :: B)).Nodup := by
      have := h.nd
      unfold nats at this
      exact List.Pairwise.imp (fun h e => h (by rw [e])) (List.pairwise_map.1 this)
    have hb : ∀ y ∈ a :: (A ++ k :: B), y < P := fun y hy => by
      obtain ⟨j, hj, he⟩ := h.bl (y : Int) (List.mem_map.2 ⟨y, hy, rfl⟩)
      omega
    have := ring_of_pth (P := P) hs (pth_app.2 ⟨h2, h1⟩) (hperm.nodup_iff.2 hnd) fun y hy => hb y (hperm.mem_iff.1 hy)
    refine ⟨nats (k :: (B ++ a :: A)), ?_, by simp [nats]⟩
    · have e : (B ++ a :: A).length + 1 = m := by
        rw [← hl]; simp; omega
      rw [e] at this; exact this
structure PartR (J : Nat → Nat → Bool) (P : Nat) (r : List Int) : Prop where
  bl : below P r
  nd : r.Nodup
  st : ∀ i, i + 1 < r.length → J (r.getD i 0).toNat (r.getD (i + 1) 0).toNat = true
theorem PartR.push {J : Nat → Nat → Bool} {P : Nat} {pre : List Int} {k : Nat} (h : PartR J P pre) (hk : k < P) (ho : okP J pre k = true) : PartR J P (pre ++ [(k : Int)]) := by
  unfold okP at ho
  simp only [Bool.and_eq_true, Bool.not_eq_true', Bool.or_eq_true, decide_eq_true_eq] at ho
  obtain ⟨o1, o2⟩ := ho
  have hn : (k : Int) ∉ pre := fun hm => by
    rw [List.contains_iff_mem.2 hm] at o1; cases o1
  refine ⟨below_push h.bl hk, ?_, fun i hi => ?_⟩
  · rw [List.nodup_append]
    exact ⟨h.nd, by simp, fun a ha b hb => by rw [List.mem_singleton] at hb; subst hb; exact fun e => hn (e ▸ ha)⟩
  · rw [List.length_append, List.length_singleton] at hi
    by_cases e : i + 1 < pre.length
    · rw [getD_app_lt e, getD_app_lt (by omega)]; exact h.st i e
    · have e2 : pre.length = i + 1 := by omega
      have e3 : i = pre.length - 1 := by omega
      rw [getD_app_lt (by omega)]
      have : (pre ++ [(k : Int)]).getD (i + 1) 0 = k := by rw [← e2]; exact getD_app_at
      rw [this, e3, Int.toNat_natCast]
      rcases o2 with o2 | o2
      · omega
      · exact o2
theorem ring_sound {J : Nat → Nat → Bool} {P m : Nat} : ∀ {f : Nat} {pre r : List Int}, PartR J P pre → ringR J P m f pre = some r → Ring J P m r ∧ ∃ s, r = pre ++ s
  | 0, pre, r, hp, h => by simp [ringR] at h
  | f + 1, pre, r, hp, h => by
    simp only [ringR] at h
    split at h
    · rename_i hl
      split at h
      · rename_i hc
        cases h
        exact ⟨⟨hl, hp.bl, hp.nd, fun i hi => hp.st i (by omega), hc⟩, [], by simp⟩
      · cases h
    · obtain ⟨k, -, h2, h3, -⟩ := tryF_some h
      split at h3
      · rename_i ho
        obtain ⟨h4, s, h5⟩ := ring_sound (hp.push (by omega) ho) h3
        exact ⟨h4, (k : Int) :: s, by rw [h5]; simp⟩
      · cases h3
theorem ring_complete {J : Nat → Nat → Bool} {P m : Nat} {r : List Int} (h : Ring J P m r) : ∀ {f : Nat} {pre s : List Int}, r = pre ++ s → m < pre.length + f → ringR J P m f pre ≠ none
  | 0, pre, s, he, hf => by
    have := h.len
    rw [he, List.length_append] at this; omega
  | f + 1, pre, s, he, hf => by
    intro hn
    simp only [ringR] at hn
    have hl := h.len
    rw [he, List.length_append] at hl
    by_cases hm : pre.length = m
    · have hs : s = [] := List.length_eq_zero_iff.1 (by omega)
      rw [hs, List.append_nil] at he
      rw [if_pos hm, if_pos (by rw [← he]; exact h.cl)] at hn
      cases hn
    · rw [if_neg hm] at hn
      cases s with
      | nil => simp at hl; omega
      | cons x s =>
        obtain ⟨k, hk, rfl⟩ := h.bl x (by rw [he]; simp)
        have h1 := tryF_none hn k (Nat.zero_le _) (by omega)
        have ho : okP J pre k = true := by
          unfold okP
          have hnd := h.nd
          rw [he, List.nodup_append] at hnd
          have hnm : (k : Int) ∉ pre := fun hmem => hnd.2.2 _ hmem _ List.mem_cons_self rfl
          have hc : pre.contains (k : Int) = false := by
            cases hh : pre.contains (k : Int) with
            | false => rfl
            | true => exact absurd (List.contains_iff_mem.1 hh) hnm
          rw [hc]
          by_cases h0 : pre.length = 0
          · simp [h0]
          · have := h.st (pre.length - 1) (by omega)
            rw [he, getD_app_lt (by omega), show pre.length - 1 + 1 = pre.length by omega, getD_app_at, Int.toNat_natCast] at this
            rw [this]; simp
        rw [if_pos ho] at h1
        exact ring_complete h (pre := pre ++ [(k : Int)]) (s := s) (by rw [he]; simp) (by simp; omega) h1
theorem part_nil {J : Nat → Nat → Bool} {P : Nat} : PartR J P [] := ⟨fun x hx => (by cases hx), List.nodup_nil, fun i hi => by simp at hi⟩
/-- The first ring begins with its smallest point. -/
theorem ring_first {J : Nat → Nat → Bool} (hs : ∀ p q, J p q = true → J q p = true) {P m : Nat} (hm : 0 < m) (hm16 : m ≤ 16) {r : List Int} (h : ringR J P m 17 [] = some r) : Ring J P m r ∧ ∀ x ∈ r, r.getD 0 0 ≤ x := by
  obtain ⟨hR, -⟩ := ring_sound part_nil h
  refine ⟨hR, fun x hx => ?_⟩
  obtain ⟨r', hR', h0⟩ := hR.turn hs hm hx
  obtain ⟨f, hf⟩ : ∃ f, f = 16 := ⟨_, rfl⟩
  rw [show 17 = f + 1 by omega] at h
  simp only [ringR] at h
  rw [if_neg (by simp; omega)] at h
  obtain ⟨k, -, h2, h3, h4⟩ := tryF_some h
  split at h3
  · rename_i ho
    obtain ⟨-, s, hsr⟩ := ring_sound (part_nil.push (by omega) ho) h3
    have e : r.getD 0 0 = k := by rw [hsr]; simp
    rw [e]
    apply Classical.byContradiction
    intro hlt
    have hl' := hR'.len
    cases r' with
    | nil => simp at hl'; omega
    | cons y r' =>
      have hy : y = x := by simpa using h0
      obtain ⟨j, hj, rfl⟩ := hR'.bl y (by simp)
      have hjk : j < k := by omega
      have h5 := h4 j (Nat.zero_le _) hjk
      have ho' : okP J [] j = true := by simp [okP]
      rw [if_pos ho'] at h5
      exact ring_complete hR' (f := f) (pre := [] ++ [(j : Int)]) (s := r') (by simp) (by simp; omega) h5
  · cases h3
theorem odd_some {J : Nat → Nat → Bool} {P : Nat} : ∀ {f many : Nat} {r : List Int}, oddT J P f many = some r → ∃ m, many ≤ m ∧ m ≤ P ∧ m % 2 = many % 2 ∧ ringR J P m 17 [] = some r ∧ ∀ m', many ≤ m' → m' < m → m' % 2 = many % 2 → ringR J P m' 17 [] = none
  | 0, many, r, h => by simp [oddT] at h
  | f + 1, many, r, h => by
    simp only [oddT] at h
    split at h
    · rename_i hm
      split at h
      · rename_i q hq
        cases h
        exact ⟨many, Nat.le_refl _, hm, rfl, hq, fun m' h1 h2 => by omega⟩
      · rename_i hq
        obtain ⟨m, h1, h2, h3, h4, h5⟩ := odd_some h
        refine ⟨m, by omega, h2, by omega, h4, fun m' g1 g2 g3 => ?_⟩
        by_cases e : m' = many
        · rw [e]; exact hq
        · exact h5 m' (by omega) g2 (by omega)
    · cases h
theorem odd_none {J : Nat → Nat → Bool} {P : Nat} : ∀ {f many : Nat}, oddT J P f many = none → ∀ m, many ≤ m → m ≤ P → m < many + 2 * f → m % 2 = many % 2 → ringR J P m 17 [] = none
  | 0, many, h, m, h1, h2, h3, h4 => by omega
  | f + 1, many, h, m, h1, h2, h3, h4 => by
    simp only [oddT] at h
    rw [if_pos (by omega)] at h
    split at h
    · cases h
    · rename_i hq
      by_cases e : m = many
      · rw [e]; exact hq
      · exact odd_none h m (by omega) h2 (by omega) (by omega)
structure Sym (N : List Nat) : Prop where
  s : ∀ p q, JB N p q = true → JB N q p = true
  n : ∀ p, JB N p p = false
  le : N.length ≤ 16
theorem Sym.red {N : List Nat} (h : Sym N) {a s : Nat} (ho : OddB N a s) : ∃ m r, Ring (JB N) N.length m r ∧ m % 2 = 1 ∧ 3 ≤ m ∧ m ≤ s ∧ m ≤ N.length := by
  obtain ⟨h1, h2⟩ := ho
  rcases s with _ | s
  · omega
  · obtain ⟨l, hl, hp⟩ := h2
    obtain ⟨a', l', q1, q2, q3, q4⟩ := odd_red l.length rfl hp (by omega)
    have hr : ∀ p q, JB N p q = true → p < N.length ∧ q < N.length := fun p q hh => ⟨JB_lt hh, JB_lt (h.s _ _ hh)⟩
    have hb := pth_sub hr q1
    have hlen := nodup_len q3 hb
    refine ⟨l'.length + 1, _, ring_of_pth h.s q1 q3 hb, by omega, ?_, by omega, by simpa using hlen⟩
    rcases l' with _ | ⟨x, l'⟩
    · have := h.n a'
      rw [show JB N a' a' = true from q1] at this; cases this
    · simp only [List.length_cons] at q2 ⊢; omega
theorem Sym.odd_yes {N : List Nat} (h : Sym N) (hle : shT N N.length ≤ N.length) :
    ∃ r, oddT (JB N) N.length 9 3 = some r ∧ Ring (JB N) N.length (shT N N.length) r ∧ 3 ≤ shT N N.length ∧ ∀ x ∈ r, r.getD 0 0 ≤ x := by
  obtain ⟨h1, h2⟩ := shT_spec N N.length
  have hl := h.le
  rcases h1 with h1 | ⟨a, ha, ho, -⟩
  · omega
  · obtain ⟨m, r0, hR, m1, m2, m3, m4⟩ := h.red ho
    cases hT : oddT (JB N) N.length 9 3 with
    | none => exact absurd (odd_none hT m m2 m4 (by omega) (by omega)) (ring_complete hR (pre := []) (s := r0) rfl (by simp; omega))
    | some r =>
      obtain ⟨m', g1, g2, g3, g4, g5⟩ := odd_some hT
      obtain ⟨hR', hfst⟩ := ring_first h.s (by omega) (by omega) g4
      obtain ⟨a', l', -, p1, p2⟩ := hR'.pth h.s (by omega)
      have ho' : OddB N a' m' := ⟨by omega, by rw [← p2]; exact ⟨l', rfl, p1⟩⟩
      have ha' : a' < N.length := by
        have hr : ∀ p q, JB N p q = true → p < N.length ∧ q < N.length := fun p q hh => ⟨JB_lt hh, JB_lt (h.s _ _ hh)⟩
        exact pth_sub hr p1 a' List.mem_cons_self
      have le1 := h2 a' m' ha' g2 ho'
      have le2 : m' ≤ m := by
        apply Classical.byContradiction
        intro hlt
        exact absurd (g5 m m2 (by omega) (by omega)) (ring_complete hR (pre := []) (s := r0) rfl (by simp; omega))
      have e : m' = shT N N.length := by omega
      rw [e] at hR' g1
      exact ⟨r, rfl, hR', g1, hfst⟩
theorem Sym.odd_no {N : List Nat} (h : Sym N) (hgt : ¬ shT N N.length ≤ N.length) : oddT (JB N) N.length 9 3 = none ∧ ∀ a k, Wk (JB N) a a k → k % 2 = 0 := by
  obtain ⟨-, h2⟩ := shT_spec N N.length
  have hno : ∀ m r, Ring (JB N) N.length m r → m % 2 = 1 → 3 ≤ m → m ≤ N.length → False := fun m r hR m1 m2 m3 => by
    obtain ⟨a, l, -, p1, p2⟩ := hR.pth h.s (by omega)
    have hr : ∀ p q, JB N p q = true → p < N.length ∧ q < N.length := fun p q hh => ⟨JB_lt hh, JB_lt (h.s _ _ hh)⟩
    have := h2 a m (pth_sub hr p1 a List.mem_cons_self) m3 ⟨m1, by rw [← p2]; exact ⟨l, rfl, p1⟩⟩
    omega
  refine ⟨?_, fun a k hk => ?_⟩
  · cases hT : oddT (JB N) N.length 9 3 with
    | none => rfl
    | some r =>
      obtain ⟨m, g1, g2, g3, g4, -⟩ := odd_some hT
      have hl := h.le
      exact (hno m r (ring_first h.s (by omega) (by omega) g4).1 (by omega) g1 g2).elim
  · apply Classical.byContradiction
    intro hodd
    obtain ⟨m, r, hR, m1, m2, m3, m4⟩ := h.red (a := a) (s := k) ⟨by omega, hk⟩
    exact hno m r hR m1 m2 m4
end Go.Sx.Ch
