/- ChartWithout: what the map without a line should be, its inner loop. No conditions. -/
import Derived.Test.YtfiebjbhiflfpaaDoorSxJHKtoDB
import Derived.Test.YtfiebjbhiflfpaaDoorSxPCl
import Derived.Test.YtfiebjbhiflfpaaDoorSxJJAtoKI
import Derived.Test.YtfiebjbhiflfpaaDoorSxJCDtoKA
import Derived.Test.YtfiebjbhiflfpaaDoorSxJKBtoCO
import Derived.Test.YtfiebjbhiflfpaaDoorSxJDPtoDV0
import Derived.Test.YtfiebjbhiflfpaaDoorSxJHPtoDZ
set_option linter.unusedVariables false
set_option linter.unusedSimpArgs false
namespace Go.Sx.Ch
open Go Go.Sx Go.Proofs
section
set_option maxRecDepth 4000
attribute [local simp] evCall reach idsB idsL ids Go.Sx.inA Go.Sx.inL Go.Sx.inM inB allHp enumH gl renB
def st12 (L : List (List Int)) (h line i : Nat) (out : List (List Int)) : ST :=
  ⟨[(5, .ptr 0 0), (6, vI h), (9, vI line), (10, .ptr 1 0), (44, .il (lls L) L.length false), (45, vI L.length), (46, vI i)], (0, .cells [.il (lls L) L.length false]) :: (1, .cells [fA 2 out]) :: fH 2 out, 2 + fN out⟩
def in12 (L : List (List Int)) (h line i : Nat) (out : List (List Int)) (l : List Int) (k : Nat) (acc : List Int) : ST :=
  ⟨[(5, .ptr 0 0), (6, vI h), (9, vI line), (10, .ptr 1 0), (13, gA (2 + fN out) acc), (44, .il (lls L) L.length false), (45, vI L.length), (46, vI i), (50, .il (ints l) l.length false), (51, vI l.length), (52, vI k)],
    (0, .cells [.il (lls L) L.length false]) :: (1, .cells [fA 2 out]) :: (fH 2 out ++ gH (2 + fN out) acc), 2 + fN out + gN acc⟩
set_option maxHeartbeats 4000000
theorem in12_ok {ss : List Sp} {L : List (List Int)} {h line i : Nat} {out : List (List Int)} {l : List Int} {s0 : ST} {Q : Exit → ST → Prop} (hlen : l.length ≤ 100) (hl : ∀ e ∈ l, 0 ≤ e ∧ e < 16)
    (hs0 : ChgT 0 s0 (in12 L h line i out l 0 [])) (hQ : Q (.exit 2) (in12 L h line i out l l.length (flt line l))) : XZ (rZ (spc ss)) 0 (.loop p12_l0) s0 Q := by
  refine XZ_for (fun k : Nat => in12 L h line i out l k (flt line (l.take k))) (fun k => l.length - k) (fun k => k ≤ l.length) 0 (by simp) (by simpa [flt] using hs0) ?_
  intro k hk N Q' hN hE
  rcases Nat.lt_or_ge k l.length with h1 | h1
  · have hkc : (k : Int) < l.length := by omega
    obtain ⟨e, r, -, e2, e3, -, e5⟩ := drop_split h1
    obtain ⟨b0, b1⟩ := hl e e5
    have hnext : flt line (l.take (k + 1)) = if e < 2 * line then flt line (l.take k) ++ [e] else if 2 * line + 1 < e then flt line (l.take k) ++ [e - 2] else flt line (l.take k) := by rw [List.take_succ_eq_append_getElem h1, e3]; exact flt_snoc line (l.take k) e
    have hal : (flt line (l.take k)).length ≤ 100 := Nat.le_trans (flt_len _ _) (by simp; omega)
    have fin : ∀ s', ChgT 0 s' (in12 L h line i out l ((k + 1 : Nat)) (if e < 2 * line then flt line (l.take k) ++ [e] else if 2 * line + 1 < e then flt line (l.take k) ++ [e - 2] else flt line (l.take k))) → N s' := fun s' hh => hN s' (k + 1) (by omega) h1 (by rw [hnext]; exact hh)
    have hdiv : e.tdiv 2 = e / 2 := Int.tdiv_eq_ediv_of_nonneg b0
    clear hN hnext hE hQ hs0
    generalize flt line (l.take k) = acc at *
    by_cases hlo : e < 2 * line
    · rw [if_pos hlo] at fin
      have c1 : e / 2 < line := by omega
      rcases out with _ | ⟨o, orr⟩
      · rcases acc with _ | ⟨a, ar⟩
        · skip
          simp only [in12, fA, fH, fN, gA, gH, gN, List.nil_append] at fin ⊢
          delta p12_l0 p12_r13 p12_r14 p12_r15 p12_r16 p12_r17 p12_r18 p12_r19
          simp (disch := omega) [oLt, oLe, oLtN, oLeN, nLt, nLe, nLtN, nLeN, hkc, h1, e2, e3, hdiv, c1]
          exact fin _ (.to [0, 1, 13] (by simp))
        · simp only [List.length_cons] at hal
          simp only [in12, fA, fH, fN, gA, gH, gN, List.cons_append] at fin ⊢
          delta p12_l0 p12_r13 p12_r14 p12_r15 p12_r16 p12_r17 p12_r18 p12_r19
          simp (disch := omega) [oLt, oLe, oLtN, oLeN, nLt, nLe, nLtN, nLeN, hkc, h1, e2, e3, hdiv, c1]
          exact fin _ (.to [0, 1, 14] (by simp))
      · rcases acc with _ | ⟨a, ar⟩
        · skip
          simp only [in12, fA, fH, fN, gA, gH, gN, List.nil_append] at fin ⊢
          delta p12_l0 p12_r13 p12_r14 p12_r15 p12_r16 p12_r17 p12_r18 p12_r19
          simp (disch := omega) [oLt, oLe, oLtN, oLeN, nLt, nLe, nLtN, nLeN, hkc, h1, e2, e3, hdiv, c1]
          exact fin _ (.to [0, 1, 2, 14] (by simp))
        · simp only [List.length_cons] at hal
          simp only [in12, fA, fH, fN, gA, gH, gN, List.cons_append] at fin ⊢
          delta p12_l0 p12_r13 p12_r14 p12_r15 p12_r16 p12_r17 p12_r18 p12_r19
          simp (disch := omega) [oLt, oLe, oLtN, oLeN, nLt, nLe, nLtN, nLeN, hkc, h1, e2, e3, hdiv, c1]
          exact fin _ (.to [0, 1, 2, 15] (by simp))
    · rw [if_neg hlo] at fin
      have c1 : ¬ e / 2 < line := by omega
      by_cases hhi : 2 * (line : Int) + 1 < e
      · rw [if_pos hhi] at fin
        have c2 : (line : Int) < e / 2 := by omega
        rcases out with _ | ⟨o, orr⟩
        · rcases acc with _ | ⟨a, ar⟩
          · skip
            simp only [in12, fA, fH, fN, gA, gH, gN, List.nil_append] at fin ⊢
            delta p12_l0 p12_r13 p12_r14 p12_r15 p12_r16 p12_r17 p12_r18 p12_r19
            simp (disch := omega) [oLt, oLe, oLtN, oLeN, nLt, nLe, nLtN, nLeN, hkc, h1, e2, e3, hdiv, c1, c2]
            exact fin _ (.to [0, 1, 18] (by simp))
          · simp only [List.length_cons] at hal
            simp only [in12, fA, fH, fN, gA, gH, gN, List.cons_append] at fin ⊢
            delta p12_l0 p12_r13 p12_r14 p12_r15 p12_r16 p12_r17 p12_r18 p12_r19
            simp (disch := omega) [oLt, oLe, oLtN, oLeN, nLt, nLe, nLtN, nLeN, hkc, h1, e2, e3, hdiv, c1, c2]
            exact fin _ (.to [0, 1, 19] (by simp))
        · rcases acc with _ | ⟨a, ar⟩
          · skip
            simp only [in12, fA, fH, fN, gA, gH, gN, List.nil_append] at fin ⊢
            delta p12_l0 p12_r13 p12_r14 p12_r15 p12_r16 p12_r17 p12_r18 p12_r19
            simp (disch := omega) [oLt, oLe, oLtN, oLeN, nLt, nLe, nLtN, nLeN, hkc, h1, e2, e3, hdiv, c1, c2]
            exact fin _ (.to [0, 1, 2, 19] (by simp))
          · simp only [List.length_cons] at hal
            simp only [in12, fA, fH, fN, gA, gH, gN, List.cons_append] at fin ⊢
            delta p12_l0 p12_r13 p12_r14 p12_r15 p12_r16 p12_r17 p12_r18 p12_r19
            simp (disch := omega) [oLt, oLe, oLtN, oLeN, nLt, nLe, nLtN, nLeN, hkc, h1, e2, e3, hdiv, c1, c2]
            exact fin _ (.to [0, 1, 2, 20] (by simp))
      · rw [if_neg hhi] at fin
        have c2 : ¬ (line : Int) < e / 2 := by omega
        rcases out with _ | ⟨o, orr⟩
        · rcases acc with _ | ⟨a, ar⟩
          · skip
            simp only [in12, fA, fH, fN, gA, gH, gN, List.nil_append] at fin ⊢
            delta p12_l0 p12_r13 p12_r14 p12_r15 p12_r16 p12_r17 p12_r18 p12_r19
            simp (disch := omega) [oLt, oLe, oLtN, oLeN, nLt, nLe, nLtN, nLeN, hkc, h1, e2, e3, hdiv, c1, c2]
            exact fin _ (.to [0, 1] (by simp))
          · simp only [List.length_cons] at hal
            simp only [in12, fA, fH, fN, gA, gH, gN, List.cons_append] at fin ⊢
            delta p12_l0 p12_r13 p12_r14 p12_r15 p12_r16 p12_r17 p12_r18 p12_r19
            simp (disch := omega) [oLt, oLe, oLtN, oLeN, nLt, nLe, nLtN, nLeN, hkc, h1, e2, e3, hdiv, c1, c2]
            exact fin _ (.to [0, 1, 2] (by simp))
        · rcases acc with _ | ⟨a, ar⟩
          · skip
            simp only [in12, fA, fH, fN, gA, gH, gN, List.nil_append] at fin ⊢
            delta p12_l0 p12_r13 p12_r14 p12_r15 p12_r16 p12_r17 p12_r18 p12_r19
            simp (disch := omega) [oLt, oLe, oLtN, oLeN, nLt, nLe, nLtN, nLeN, hkc, h1, e2, e3, hdiv, c1, c2]
            exact fin _ (.to [0, 1, 2] (by simp))
          · simp only [List.length_cons] at hal
            simp only [in12, fA, fH, fN, gA, gH, gN, List.cons_append] at fin ⊢
            delta p12_l0 p12_r13 p12_r14 p12_r15 p12_r16 p12_r17 p12_r18 p12_r19
            simp (disch := omega) [oLt, oLe, oLtN, oLeN, nLt, nLe, nLtN, nLeN, hkc, h1, e2, e3, hdiv, c1, c2]
            exact fin _ (.to [0, 1, 2, 3] (by simp))
  · obtain rfl : k = l.length := by omega
    have hkc : ¬ (l.length : Int) < l.length := by omega
    rw [List.take_length]
    clear hN
    generalize flt line l = acc at *
    rcases out with _ | ⟨o, orr⟩
    · rcases acc with _ | ⟨a, ar⟩
      · skip
        simp only [in12, fA, fH, fN, gA, gH, gN, List.nil_append] 
        delta p12_l0 p12_r13 p12_r14 p12_r15 p12_r16 p12_r17 p12_r18 p12_r19
        simp (disch := omega) [oLt, oLe, oLtN, oLeN, nLt, nLe, nLtN, nLeN, hkc]
        exact hE _ _ _ (.to [0, 1] (by simp [in12, fA, fH, fN, gA, gH, gN])) hQ
      · skip
        simp only [in12, fA, fH, fN, gA, gH, gN, List.cons_append] 
        delta p12_l0 p12_r13 p12_r14 p12_r15 p12_r16 p12_r17 p12_r18 p12_r19
        simp (disch := omega) [oLt, oLe, oLtN, oLeN, nLt, nLe, nLtN, nLeN, hkc]
        exact hE _ _ _ (.to [0, 1, 2] (by simp [in12, fA, fH, fN, gA, gH, gN])) hQ
    · rcases acc with _ | ⟨a, ar⟩
      · skip
        simp only [in12, fA, fH, fN, gA, gH, gN, List.nil_append] 
        delta p12_l0 p12_r13 p12_r14 p12_r15 p12_r16 p12_r17 p12_r18 p12_r19
        simp (disch := omega) [oLt, oLe, oLtN, oLeN, nLt, nLe, nLtN, nLeN, hkc]
        exact hE _ _ _ (.to [0, 1, 2] (by simp [in12, fA, fH, fN, gA, gH, gN])) hQ
      · skip
        simp only [in12, fA, fH, fN, gA, gH, gN, List.cons_append] 
        delta p12_l0 p12_r13 p12_r14 p12_r15 p12_r16 p12_r17 p12_r18 p12_r19
        simp (disch := omega) [oLt, oLe, oLtN, oLeN, nLt, nLe, nLtN, nLeN, hkc]
        exact hE _ _ _ (.to [0, 1, 2, 3] (by simp [in12, fA, fH, fN, gA, gH, gN])) hQ
end
section
set_option maxRecDepth 4000
/-! ### Some lines -/
def onA : List Nat → Nat → Nat
  | [], x => x
  | k :: ls, x => onA ls (sw (2 * k) (2 * k + 1) x)
theorem sw_onat {k x : Nat} (h : x / 2 = k) : sw (2 * k) (2 * k + 1) x = onat x := by
  unfold sw onat
  by_cases h1 : x = 2 * k
  · rw [if_pos h1, if_pos (by omega)]; omega
  · rw [if_neg h1, if_pos (by omega), if_neg (by omega)]; omega
theorem sw_off {k x : Nat} (h : x / 2 ≠ k) : sw (2 * k) (2 * k + 1) x = x := by
  unfold sw
  rw [if_neg (by omega), if_neg (by omega)]
theorem onat_half (x : Nat) : onat x / 2 = x / 2 := by
  unfold onat; split <;> omega
theorem onA_eq : ∀ {ls : List Nat}, ls.Nodup → ∀ x, onA ls x = if x / 2 ∈ ls then onat x else x
  | [], _, x => by simp [onA]
  | k :: ls, h, x => by
    obtain ⟨h1, h2⟩ := List.nodup_cons.1 h
    simp only [onA]
    by_cases e : x / 2 = k
    · rw [sw_onat e, onA_eq h2, onat_half, if_neg (by rw [e]; exact h1), if_pos (by rw [e]; exact List.mem_cons_self)]
    · rw [sw_off e, onA_eq h2]
      by_cases c : x / 2 ∈ ls
      · rw [if_pos c, if_pos (List.mem_cons_of_mem _ c)]
      · rw [if_neg c, if_neg fun hh => by
          rcases List.mem_cons.1 hh with h3 | h3
          · exact e h3
          · exact c h3]
theorem onA_onA {ls : List Nat} (h : ls.Nodup) (x : Nat) : onA ls (onA ls x) = x := by
  rw [onA_eq h x]
  by_cases c : x / 2 ∈ ls
  · rw [if_pos c, onA_eq h, onat_half, if_pos c, onat_onat]
  · rw [if_neg c, onA_eq h, if_neg c]
inductive ConA (s : Nat → Nat) (n : Nat) (ls : List Nat) (x : Nat) : Nat → Prop
  | refl : ConA s n ls x x
  | st {y : Nat} (h : ConA s n ls x y) (hy : y < n) : ConA s n ls x (s y)
  | ln {y k : Nat} (h : ConA s n ls x y) (hy : y < n) (hk : k ∈ ls) : ConA s n ls x (sw (2 * k) (2 * k + 1) y)
theorem ConA.trans {s n ls x y z} (a : ConA s n ls x y) (b : ConA s n ls y z) : ConA s n ls x z := by
  induction b with
  | refl => exact a
  | st h hy ih => exact .st ih hy
  | ln h hy hk ih => exact .ln ih hy hk
theorem ConA.more {s n ls k x y} (a : ConA s n ls x y) : ConA s n (k :: ls) x y := by
  induction a with
  | refl => exact .refl
  | st h hy ih => exact .st ih hy
  | ln h hy hk ih => exact .ln ih hy (List.mem_cons_of_mem _ hk)
theorem ConA.lead {s n ls x y} (h : Stp s n) (hx : x < n) (l : Lead s x y) : ConA s n ls x y :=
  lead_in h (Q := fun x y => ConA s n ls x y) (fun _ _ => .refl) (fun _ _ _ _ _ _ u v => u.trans v) (fun x hx => .st .refl hx) hx l
def Lns (n : Nat) (ls : List Nat) : Prop := ∀ k ∈ ls, 2 * k + 1 < n
theorem ConA.lt {s n ls x y} (h : Stp s n) (hl : Lns n ls) (hx : x < n) (c : ConA s n ls x y) : y < n := by
  induction c with
  | refl => exact hx
  | st h1 hy ih => exact h.rng _ hy
  | ln h1 hy hk ih => exact sw_lt (by have := hl _ hk; omega) (hl _ hk) hy
theorem ConA.symm {s n ls x y} (h : Stp s n) (hl : Lns n ls) (hx : x < n) (c : ConA s n ls x y) : ConA s n ls y x := by
  induction c with
  | refl => exact .refl
  | st h1 hy ih => exact (ConA.lead h (h.rng _ hy) (h.symm hy .one)).trans ih
  | @ln y k h1 hy hk ih =>
    have := ConA.ln (s := s) (n := n) (ls := ls) (x := sw (2 * k) (2 * k + 1) y) .refl (sw_lt (by have := hl _ hk; omega) (hl _ hk) hy) hk
    rw [sw_sw] at this
    exact this.trans ih
theorem ConA.eqv {s n ls} (h : Stp s n) (hl : Lns n ls) : Eqv n (ConA s n ls) := ⟨fun _ _ => .refl, fun _ _ hx _ c => c.symm h hl hx, fun _ _ _ _ _ _ a b => a.trans b⟩
theorem onA_con {s n} : ∀ {ls : List Nat}, Lns n ls → ∀ {x}, x < n → ConA s n ls x (onA ls x) ∧ onA ls x < n
  | [], _, x, hx => ⟨.refl, hx⟩
  | k :: ls, hl, x, hx => by
    have hk := hl k List.mem_cons_self
    have hs : sw (2 * k) (2 * k + 1) x < n := sw_lt (by omega) hk hx
    obtain ⟨h1, h2⟩ := onA_con (s := s) (ls := ls) (fun j hj => hl j (List.mem_cons_of_mem _ hj)) hs
    exact ⟨(ConA.ln .refl hx List.mem_cons_self).trans h1.more, h2⟩
theorem conA_step {s n ls k} (h : Stp s n) (hl : Lns n (k :: ls)) {p q : Nat} (hp : p < n) : ConA s n (k :: ls) p q ↔ ConA s n ls p q ∨ (ConA s n ls p (2 * k) ∧ ConA s n ls (2 * k + 1) q) ∨ (ConA s n ls p (2 * k + 1) ∧ ConA s n ls (2 * k) q) := by
  have hk := hl k List.mem_cons_self
  constructor
  · intro c
    induction c with
    | refl => exact .inl .refl
    | st h1 hy ih =>
      rcases ih with u | ⟨u, v⟩ | ⟨u, v⟩
      · exact .inl (.st u hy)
      · exact .inr (.inl ⟨u, .st v hy⟩)
      · exact .inr (.inr ⟨u, .st v hy⟩)
    | @ln y j h1 hy hj ih =>
      by_cases hjl : j ∈ ls
      · rcases ih with u | ⟨u, v⟩ | ⟨u, v⟩
        · exact .inl (.ln u hy hjl)
        · exact .inr (.inl ⟨u, .ln v hy hjl⟩)
        · exact .inr (.inr ⟨u, .ln v hy hjl⟩)
      · have e : j = k := by
          rcases List.mem_cons.1 hj with e | e
          · exact e
          · exact absurd e hjl
        subst e
        unfold sw
        by_cases c1 : y = 2 * j
        · rw [if_pos c1]
          subst c1
          rcases ih with u | ⟨u, v⟩ | ⟨u, v⟩
          · exact .inr (.inl ⟨u, .refl⟩)
          · exact .inr (.inl ⟨u, .refl⟩)
          · exact .inl u
        · rw [if_neg c1]
          by_cases c2 : y = 2 * j + 1
          · rw [if_pos c2]
            subst c2
            rcases ih with u | ⟨u, v⟩ | ⟨u, v⟩
            · exact .inr (.inr ⟨u, .refl⟩)
            · exact .inl u
            · exact .inr (.inr ⟨u, .refl⟩)
          · rw [if_neg c2]; exact ih
  · have ab : ConA s n (k :: ls) (2 * k) (2 * k + 1) := by
      have := ConA.ln (s := s) (n := n) (ls := k :: ls) (x := 2 * k) .refl (by omega) List.mem_cons_self
      rw [sw_onat (by omega)] at this
      have e : onat (2 * k) = 2 * k + 1 := by unfold onat; rw [if_pos (by omega)]
      rwa [e] at this
    have ba := ab.symm h hl (by omega)
    rintro (u | ⟨u, v⟩ | ⟨u, v⟩)
    · exact u.more
    · exact u.more.trans (ab.trans v.more)
    · exact u.more.trans (ba.trans v.more)
def Eul (s : Nat → Nat) (n : Nat) (ls : List Nat) (g : Nat) : Prop := 2 * cls n (ConA s n ls) + ls.length = cls n (Lead s) + cls n (Lead fun x => s (onA ls x)) + 2 * g
theorem stpA {s n} (h : Stp s n) : ∀ {ls}, Lns n ls → Stp (fun x => s (onA ls x)) n
  | [], _ => h
  | k :: ls, hl => by
    have hk := hl k List.mem_cons_self
    have ih := stpA h (ls := ls) fun j hj => hl j (List.mem_cons_of_mem _ hj)
    exact ih.sw (a := 2 * k) (b := 2 * k + 1) (by omega) hk
theorem eulA_step {s n k ls g} (h : Stp s n) (hl : Lns n (k :: ls)) (e : Eul s n ls g) : Eul s n (k :: ls) g ∨ Eul s n (k :: ls) (g + 1) := by
  have hk := hl k List.mem_cons_self
  have hl' : Lns n ls := fun j hj => hl j (List.mem_cons_of_mem _ hj)
  have hst := stpA h hl'
  have inside : ∀ {x y}, x < n → Lead (fun x => s (onA ls x)) x y → ConA s n ls x y := fun hx l => by
    refine lead_in hst (Q := fun x y => ConA s n ls x y) (fun _ _ => .refl) (fun _ _ _ _ _ _ u v => u.trans v) (fun x hx => ?_) hx l
    obtain ⟨c1, c2⟩ := onA_con (s := s) hl' hx
    exact .st c1 c2
  have hab : (2 * k) ≠ 2 * k + 1 := by omega
  unfold Eul at *
  simp only [onA, List.length_cons]
  have hcl : cls n (ConA s n (k :: ls)) = cls n fun p q => ConA s n ls p q ∨ (ConA s n ls p (2 * k) ∧ ConA s n ls (2 * k + 1) q) ∨ (ConA s n ls p (2 * k + 1) ∧ ConA s n ls (2 * k) q) := cls_congr fun p q hp _ => conA_step h hl hp
  rw [hcl]
  by_cases hc : ConA s n ls (2 * k) (2 * k + 1)
  · have hba := hc.symm h hl' (by omega)
    have e1 : cls n (fun p q => ConA s n ls p q ∨ (ConA s n ls p (2 * k) ∧ ConA s n ls (2 * k + 1) q) ∨ (ConA s n ls p (2 * k + 1) ∧ ConA s n ls (2 * k) q)) = cls n (ConA s n ls) := cls_congr fun p q _ _ => ⟨fun u => by
      rcases u with u | ⟨u, v⟩ | ⟨u, v⟩
      · exact u
      · exact u.trans (hc.trans v)
      · exact u.trans (hba.trans v), .inl⟩
    rw [e1]
    by_cases hL : Lead (fun x => s (onA ls x)) (2 * k) (2 * k + 1)
    · have := cls_sw_together hst (by omega) hk hab hL
      left; omega
    · have := cls_sw_apart hst (by omega) hk hL
      right; omega
  · have hL : ¬ Lead (fun x => s (onA ls x)) (2 * k) (2 * k + 1) := fun l => hc (inside (by omega) l)
    have h1 := cls_sw_apart hst (by omega) hk hL
    have h2 := cls_merge (ConA.eqv h hl') (a := 2 * k) (b := 2 * k + 1) (by omega) hk hc (R' := fun p q => ConA s n ls p q ∨ (ConA s n ls p (2 * k) ∧ ConA s n ls (2 * k + 1) q) ∨ (ConA s n ls p (2 * k + 1) ∧ ConA s n ls (2 * k) q)) fun _ _ _ _ => Iff.rfl
    left; omega
theorem eulA {s n} (h : Stp s n) : ∀ {ls}, Lns n ls → ∃ g, Eul s n ls g
  | [], _ => by
    refine ⟨0, ?_⟩
    unfold Eul
    have e : cls n (ConA s n []) = cls n (Lead s) := cls_congr fun p q hp hq => by
      clear hq
      constructor
      · intro c
        clear hp
        induction c with
        | refl => exact .refl
        | st h1 hy ih => exact ih.trans .one
        | ln h1 hy hk ih => cases hk
      · exact fun l => ConA.lead h hp l
    have e2 : (fun x => s (onA [] x)) = s := rfl
    rw [e, e2, List.length_nil]; omega
  | k :: ls, hl => by
    obtain ⟨g, hg⟩ := eulA h (ls := ls) fun j hj => hl j (List.mem_cons_of_mem _ hj)
    rcases eulA_step h hl hg with e | e
    · exact ⟨_, e⟩
    · exact ⟨_, e⟩
/-! ### An end is taken out -/
theorem iso_eul {s n ls g} (h : Stp s n) (hl : Lns n ls) (hnd : ls.Nodup) {p e : Nat} (hp : p < n) (he : e < n) (hpe : s p = e) (hel : e / 2 ∉ ls) (E : Eul s n ls g) : Eul (fun x => s (sw p e x)) n ls g := by
  by_cases hne : p = e
  · subst hne
    have : (fun x => s (sw p p x)) = s := funext fun x => by unfold sw; split <;> simp_all
    rw [this]; exact E
  have hs' := h.sw hp he
  have hoe : onA ls e = e := by rw [onA_eq hnd, if_neg hel]
  have lpe : Lead s p e := by have := Lead.one (f := s) (x := p); rwa [hpe] at this
  have c1 := cls_sw_together h hp he hne lpe
  -- faces
  have hst := stpA h hl
  have hp' : onA ls p < n := (onA_con (s := s) hl hp).2
  have hne' : onA ls p ≠ e := fun hh => hne (by rw [← onA_onA hnd p, hh, hoe])
  have lpe' : Lead (fun x => s (onA ls x)) (onA ls p) e := by
    have := Lead.one (f := fun x => s (onA ls x)) (x := onA ls p)
    simp only [onA_onA hnd, hpe] at this
    exact this
  have c2 := cls_sw_together hst hp' he hne' lpe'
  have e2 : (fun x => s (onA ls (sw (onA ls p) e x))) = fun x => s (sw p e (onA ls x)) := funext fun x => by
    congr 1
    unfold sw
    by_cases a1 : x = onA ls p
    · rw [if_pos a1, hoe, a1, onA_onA hnd, if_pos rfl]
    · rw [if_neg a1]
      have a1' : onA ls x ≠ p := fun hh => a1 (by rw [← hh, onA_onA hnd])
      by_cases a2 : x = e
      · rw [if_pos a2, onA_onA hnd, a2, hoe, if_neg (fun hh => hne hh.symm), if_pos rfl]
      · have a2' : onA ls x ≠ e := fun hh => a2 (by rw [← onA_onA hnd x, hh, hoe])
        rw [if_neg a2, if_neg a1', if_neg a2']
  rw [e2] at c2
  -- parts
  have see : s (sw p e e) = e := by rw [sw, if_neg (fun hh => hne hh.symm), if_pos rfl, hpe]
  have iso : ∀ {x y}, ConA (fun x => s (sw p e x)) n ls x y → x < n → (x = e ↔ y = e) := fun {x y} c hx => by
    induction c with
    | refl => exact Iff.rfl
    | @st y h1 hy ih =>
      rw [ih]
      constructor
      · intro hh; rw [hh]; exact see
      · intro hh; exact hs'.inj y e hy he (by show s (sw p e y) = s (sw p e e); rw [see]; exact hh)
    | @ln y k h1 hy hk ih =>
      rw [ih]
      have hke : e / 2 ≠ k := fun hh => hel (hh ▸ hk)
      constructor
      · intro hh; rw [hh]; exact sw_off hke
      · intro hh
        have : sw (2 * k) (2 * k + 1) (sw (2 * k) (2 * k + 1) y) = sw (2 * k) (2 * k + 1) e := by rw [hh]
        rw [sw_sw, sw_off hke] at this; exact this
  have hpe' : ¬ ConA (fun x => s (sw p e x)) n ls p e := fun c => hne ((iso c hp).2 rfl)
  have hep' : ¬ ConA (fun x => s (sw p e x)) n ls e p := fun c => hne ((iso c he).1 rfl)
  have old : ∀ y, y < n → y ≠ p → y ≠ e → s (sw p e y) = s y := fun y _ h1 h2 => by rw [sw, if_neg h1, if_neg h2]
  have sp : s (sw p e p) = s e := by rw [sw, if_pos rfl]
  have sub : ∀ {x y}, ConA (fun x => s (sw p e x)) n ls x y → ConA s n ls x y := fun {x y} c => by
    induction c with
    | refl => exact .refl
    | @st y h1 hy ih =>
      by_cases a1 : y = p
      · subst a1
        rw [sp, ← hpe]
        exact .st (.st ih hy) (h.rng _ hy)
      · by_cases a2 : y = e
        · subst a2
          rw [see]; exact ih
        · rw [old y hy a1 a2]; exact .st ih hy
    | ln h1 hy hk ih => exact .ln ih hy hk
  have c3 := cls_merge (ConA.eqv hs' hl) hp he hpe' (R' := ConA s n ls) fun x y hx hy0 => by
    clear hy0
    constructor
    · intro c
      induction c with
      | refl => exact .inl .refl
      | @st y h1 hy ih =>
        by_cases a1 : y = p
        · subst a1
          rw [hpe]
          rcases ih with u | ⟨u, v⟩ | ⟨u, v⟩
          · exact .inr (.inl ⟨u, .refl⟩)
          · exact absurd v hep'
          · exact .inl u
        · by_cases a2 : y = e
          · subst a2
            rw [← sp]
            rcases ih with u | ⟨u, v⟩ | ⟨u, v⟩
            · exact .inr (.inr ⟨u, .st .refl hp⟩)
            · exact .inl (.st u hp)
            · exact absurd v hpe'
          · rw [← old y hy a1 a2]
            rcases ih with u | ⟨u, v⟩ | ⟨u, v⟩
            · exact .inl (.st u hy)
            · exact .inr (.inl ⟨u, .st v hy⟩)
            · exact .inr (.inr ⟨u, .st v hy⟩)
      | ln h1 hy hk ih =>
        rcases ih with u | ⟨u, v⟩ | ⟨u, v⟩
        · exact .inl (.ln u hy hk)
        · exact .inr (.inl ⟨u, .ln v hy hk⟩)
        · exact .inr (.inr ⟨u, .ln v hy hk⟩)
    · have lp : ConA s n ls p e := ConA.lead h hp lpe
      rintro (u | ⟨u, v⟩ | ⟨u, v⟩)
      · exact sub u
      · exact (sub u).trans (lp.trans (sub v))
      · exact (sub u).trans ((lp.symm h hl hp).trans (sub v))
  unfold Eul at E
  show 2 * cls n (ConA (fun x => s (sw p e x)) n ls) + ls.length = cls n (Lead fun x => s (sw p e x)) + cls n (Lead fun x => s (sw p e (onA ls x))) + 2 * g
  omega
/-! ### Without two ends that are apart -/
def iot (l x : Nat) : Nat := if x < 2 * l then x else x + 2
theorem iot_lt {l n x : Nat} (hl : 2 * l + 1 < n) (hx : x < n - 2) : iot l x < n := by unfold iot; split <;> omega
theorem iot_inj {l x y : Nat} (h : iot l x = iot l y) : x = y := by unfold iot at h; split at h <;> split at h <;> omega
theorem iot_mono {l x y : Nat} (h : x < y) : iot l x < iot l y := by unfold iot; split <;> split <;> omega
theorem iot_ne {l x : Nat} : iot l x ≠ 2 * l ∧ iot l x ≠ 2 * l + 1 := by unfold iot; split <;> omega
theorem iot_of {l q : Nat} (h1 : q ≠ 2 * l) (h2 : q ≠ 2 * l + 1) : ∃ x, q = iot l x ∧ x ≤ q := by
  by_cases h : q < 2 * l
  · exact ⟨q, by unfold iot; rw [if_pos h], Nat.le_refl _⟩
  · exact ⟨q - 2, by unfold iot; rw [if_neg (by omega)]; omega, by omega⟩
open Classical in
theorem cls_ins {n l : Nat} {R S : Nat → Nat → Prop} (hl : 2 * l + 1 < n) (h1 : ∀ x, x < n → (R x (2 * l) → x = 2 * l) ∧ (R (2 * l) x → x = 2 * l)) (h2 : ∀ x, x < n → (R x (2 * l + 1) → x = 2 * l + 1) ∧ (R (2 * l + 1) x → x = 2 * l + 1))
    (h : ∀ x y, x < n - 2 → y < n - 2 → (R (iot l x) (iot l y) ↔ S x y)) : cls n R = cls (n - 2) S + 2 := by
  have low : ∀ x, x < n - 2 → (Low R (iot l x) ↔ Low S x) := fun x hx => by
    constructor
    · intro hL q hq hs
      exact hL (iot l q) (iot_mono hq) ((h q x (by omega) hx).2 hs)
    · intro hL q hq hs
      have hxn := iot_lt hl hx
      by_cases a1 : q = 2 * l
      · subst a1; exact iot_ne.1 ((h1 _ hxn).2 hs)
      · by_cases a2 : q = 2 * l + 1
        · subst a2; exact iot_ne.2 ((h2 _ hxn).2 hs)
        · obtain ⟨y, rfl, hy⟩ := iot_of a1 a2
          have hyx : y < x := by
            apply Classical.byContradiction
            intro hge
            rcases Nat.lt_or_ge x y with c | c
            · have := iot_mono (l := l) c; omega
            · have : x = y := by omega
              subst this; omega
          exact hL y hyx ((h y x (by omega) hx).1 hs)
  have la : Low R (2 * l) := fun q hq hs => by have := (h1 q (by omega)).1 hs; omega
  have lb : Low R (2 * l + 1) := fun q hq hs => by have := (h2 q (by omega)).1 hs; omega
  have key : ∀ m, 2 * l ≤ m → m ≤ n - 2 → ((List.range (m + 2)).filter fun p => decide (Low R p)).length = ((List.range m).filter fun p => decide (Low S p)).length + 2 := by
    intro m
    induction m with
    | zero =>
      intro hm _
      have h0 : l = 0 := by omega
      subst h0
      have la' : Low R 0 := la
      have lb' : Low R 1 := lb
      simp [List.range_succ, la', lb']
    | succ m ih =>
      intro hm hmn
      by_cases hc : 2 * l ≤ m
      · have ih := ih hc (by omega)
        have hi : iot l m = m + 2 := by unfold iot; rw [if_neg (by omega)]
        have := low m (by omega)
        rw [hi] at this
        rw [List.range_succ (n := m + 2), List.range_succ (n := m), List.filter_append, List.filter_append, List.length_append, List.length_append, ih]
        by_cases d : Low S m
        · simp [d, this.2 d]
        · have d2 : ¬ Low R (m + 2) := fun hh => d (this.1 hh)
          simp [d, d2]
      · have e : m + 1 = 2 * l := by omega
        rw [e, List.range_succ (n := 2 * l + 1), List.range_succ (n := 2 * l), List.filter_append, List.filter_append, List.length_append, List.length_append]
        have e2 : (List.range (2 * l)).filter (fun p => decide (Low R p)) = (List.range (2 * l)).filter (fun p => decide (Low S p)) := List.filter_congr fun x hx => by
          rw [List.mem_range] at hx
          have := low x (by omega)
          unfold iot at this
          rw [if_pos hx] at this
          exact decide_eq_decide.2 this
        rw [e2]
        simp [la, lb]
  have := key (n - 2) (by omega) (Nat.le_refl _)
  unfold cls
  rw [show n - 2 + 2 = n by omega] at this
  exact this
theorem it_iot {f t : Nat → Nat} {l m : Nat} (ht : ∀ x, x < m → t x < m) (h : ∀ x, x < m → f (iot l x) = iot l (t x)) {x : Nat} (hx : x < m) : ∀ k, it f k (iot l x) = iot l (it t k x) ∧ it t k x < m
  | 0 => ⟨rfl, hx⟩
  | k + 1 => by
    obtain ⟨h1, h2⟩ := it_iot ht h hx k
    rw [it_succ, it_succ, h1, h _ h2]
    exact ⟨rfl, ht _ h2⟩
theorem lead_ins {f t : Nat → Nat} {n l : Nat} (hl : 2 * l + 1 < n) (hf : Stp f n) (ht : Stp t (n - 2)) (h : ∀ x, x < n - 2 → f (iot l x) = iot l (t x)) (ha : f (2 * l) = 2 * l) (hb : f (2 * l + 1) = 2 * l + 1) : cls n (Lead f) = cls (n - 2) (Lead t) + 2 := by
  have fix : ∀ {e}, f e = e → ∀ k, it f k e = e := fun {e} he k => by
    induction k with
    | zero => rfl
    | succ k ih => rw [it_succ, ih, he]
  have iso : ∀ {e}, e < n → f e = e → ∀ x, x < n → (Lead f x e → x = e) ∧ (Lead f e x → x = e) := fun {e} hen he x hx => by
    have b : Lead f e x → x = e := fun ⟨k, hk⟩ => by rw [fix he] at hk; exact hk.symm
    exact ⟨fun l => b (hf.symm hx l), b⟩
  refine cls_ins hl (iso (by omega) ha) (iso hl hb) fun x y hx hy => ?_
  constructor
  · rintro ⟨k, hk⟩
    rw [(it_iot ht.rng h hx k).1] at hk
    exact ⟨k, iot_inj hk⟩
  · rintro ⟨k, rfl⟩
    exact ⟨k, (it_iot ht.rng h hx k).1⟩
theorem iot_onat {l x : Nat} : onat (iot l x) = iot l (onat x) := by
  unfold iot onat
  by_cases h : x < 2 * l
  · rw [if_pos h]
    split
    · rw [if_pos (by omega)]
    · rw [if_pos (by omega)]
  · rw [if_neg h]
    by_cases e : x % 2 = 0
    · rw [if_pos (by omega), if_pos e, if_neg (by omega)]
    · rw [if_neg (by omega), if_neg e, if_neg (by omega)]; omega
theorem con_ins {f t : Nat → Nat} {n l : Nat} {ls : List Nat} (hl : 2 * l + 1 < n) (hev : n % 2 = 0) (hf : Stp f n) (ht : Stp t (n - 2)) (h : ∀ x, x < n - 2 → f (iot l x) = iot l (t x)) (ha : f (2 * l) = 2 * l) (hb : f (2 * l + 1) = 2 * l + 1)
    (hls : ∀ k, k ∈ ls ↔ k < n / 2 ∧ k ≠ l) : cls n (ConA f n ls) = cls (n - 2) (Con t (n - 2)) + 2 := by
  have hL : Lns n ls := fun k hk => by have := (hls k).1 hk; omega
  have iso : ∀ {e}, e < n → f e = e → e / 2 = l → ∀ x, x < n → (ConA f n ls x e → x = e) ∧ (ConA f n ls e x → x = e) := fun {e} hen he hel x hx => by
    have b : ∀ {x}, ConA f n ls e x → x = e := fun {x} c => by
      induction c with
      | refl => rfl
      | st h1 hy ih => rw [ih, he]
      | ln h1 hy hk ih =>
        rw [ih]
        refine sw_off fun hh => ((hls _).1 hk).2 (by omega)
    exact ⟨fun c => b (c.symm hf hL hx), b⟩
  refine cls_ins hl (iso (by omega) ha (by omega)) (iso hl hb (by omega)) fun x y hx hy => ?_
  constructor
  · intro c
    have key : ∀ {z}, ConA f n ls (iot l x) z → ∃ y, y < n - 2 ∧ z = iot l y ∧ Con t (n - 2) x y := fun {z} c => by
      induction c with
      | refl => exact ⟨x, hx, rfl, .refl⟩
      | st h1 hy ih =>
        obtain ⟨y, y1, rfl, y3⟩ := ih
        exact ⟨t y, ht.rng y y1, h y y1, .st y3 y1⟩
      | @ln z k h1 hz hk ih =>
        obtain ⟨y, y1, rfl, y3⟩ := ih
        by_cases e : iot l y / 2 = k
        · rw [sw_onat e, iot_onat]
          exact ⟨onat y, onat_lt (by omega) y1, rfl, .ot y3 y1⟩
        · rw [sw_off e]; exact ⟨y, y1, rfl, y3⟩
    obtain ⟨y', y1, y2, y3⟩ := key c
    rw [iot_inj y2]; exact y3
  · intro c
    clear hy
    induction c with
    | refl => exact .refl
    | @st y h1 hy ih =>
      rw [← h y hy]
      exact .st ih (iot_lt hl hy)
    | @ot y h1 hy ih =>
      rw [← iot_onat]
      have hlt := iot_lt hl hy
      have hk : iot l y / 2 ∈ ls := (hls _).2 ⟨by omega, fun e => by have := @iot_ne l y; omega⟩
      have := ConA.ln ih hlt hk
      rwa [sw_onat rfl] at this
end
section
set_option maxRecDepth 4000
def revL (L : List (List Int)) : List (List Int) := L.map List.reverse
set_option maxHeartbeats 1000000
end
section
theorem total_rev (G : List (List Int)) : total (revL G) = total G := by simp [total, revL, Function.comp_def]
theorem mem_rev {G : List (List Int)} {x : Int} : x ∈ (revL G).flatten ↔ x ∈ G.flatten := by
  simp only [revL, List.mem_flatten, List.mem_map]
  constructor
  · rintro ⟨l, ⟨a, ha, rfl⟩, hx⟩; exact ⟨a, ha, List.mem_reverse.1 hx⟩
  · rintro ⟨l, hl, hx⟩; exact ⟨l.reverse, ⟨l, hl, rfl⟩, List.mem_reverse.2 hx⟩
theorem nd_rev {l : List Int} (h : l.Nodup) : l.reverse.Nodup := by
  unfold List.Nodup at *
  rw [List.pairwise_reverse]
  exact h.imp fun h => Ne.symm h
theorem nodup_rev : ∀ {G : List (List Int)}, G.flatten.Nodup → (revL G).flatten.Nodup
  | [], h => h
  | l :: G, h => by
    rw [List.flatten_cons] at h
    obtain ⟨h1, h2, h3⟩ := List.nodup_append.1 h
    show ((l.reverse) :: revL G).flatten.Nodup
    rw [List.flatten_cons]
    refine List.nodup_append.2 ⟨nd_rev h1, nodup_rev h2, fun x hx y hy => h3 x (by simpa using hx) y (mem_rev.1 hy)⟩
theorem Cov.rev {G n} (h : Cov G n) : Cov (revL G) n :=
  ⟨nodup_rev h.nd, fun x hx => h.rng x (mem_rev.1 hx), by rw [total_rev, h.len], h.le⟩
theorem befN_get {C : List Int} {n : Nat} (h : Prm (afterC C) n) (hn : n ≤ 16) : ∀ j, j ≤ n → ∀ k, k < j → (befN C j).getD (afterC C k).toNat 0 = k
  | 0, _, k, hk => by omega
  | j + 1, hj, k, hk => by
    rw [befN_succ]
    have r1 := h.rng j (by omega)
    have r2 := h.rng k (by omega)
    by_cases e : k = j
    · subst e; rw [getD_set_eq (by rw [befN_len]; omega)]
    · have hne : (afterC C j).toNat ≠ (afterC C k).toNat := fun he => e (h.inj k j (by omega) (by omega) (by omega))
      rw [getD_set_ne hne]
      exact befN_get h hn j (by omega) k (by omega)
theorem Cov.back {G n} (h : Cov G n) {m : Nat} (hm : m < n) : backC (befN (tabF G) n) m = afterC (tabF (revL G)) m := by
  obtain ⟨l, k, hl, hk, hkm⟩ := h.place hm
  have hlr : l.reverse ∈ revL G := List.mem_map.2 ⟨l, hl, rfl⟩
  have hlen : l.reverse.length = l.length := List.length_reverse
  -- the place before
  obtain ⟨p, hp, hpk⟩ : ∃ p, p < l.length ∧ (p + 1) % l.length = k := by
    cases k with
    | zero => exact ⟨l.length - 1, by omega, by rw [show l.length - 1 + 1 = l.length by omega, Nat.mod_self]⟩
    | succ k => exact ⟨k, by omega, Nat.mod_eq_of_lt hk⟩
  have hpm : l[p]? = some l[p] := List.getElem?_eq_getElem hp
  have hr := h.rng l[p] (List.mem_flatten.2 ⟨l, hl, List.getElem_mem hp⟩)
  obtain ⟨q, hq⟩ := Int.eq_ofNat_of_zero_le hr.1
  rw [hq] at hpm hr
  have ha := h.after hl hp hpm
  rw [hpk, List.getD_eq_getElem?_getD, hkm, Option.getD_some] at ha
  have hb := befN_get h.prm h.le n (Nat.le_refl _) q (by omega)
  rw [ha, Int.toNat_natCast] at hb
  have hk' : l.length - 1 - k < l.reverse.length := by omega
  have hrk : l.reverse[l.length - 1 - k]? = some (m : Int) := by
    rw [List.getElem?_reverse (by omega), ← hkm]; congr 1; omega
  rw [h.rev.after hlr hk' hrk]
  unfold backC
  rw [Int.toNat_natCast, hb, hlen, List.getD_eq_getElem?_getD]
  have hidx : (l.length - 1 - k + 1) % l.length = l.length - 1 - p := by
    rcases Nat.lt_or_ge (p + 1) l.length with h1 | h1
    · rw [Nat.mod_eq_of_lt h1] at hpk
      rw [Nat.mod_eq_of_lt (by omega)]; omega
    · have e1 : p + 1 = l.length := by omega
      rw [e1, Nat.mod_self] at hpk
      rw [show l.length - 1 - k + 1 = l.length by omega, Nat.mod_self]; omega
  rw [hidx, List.getElem?_reverse (by omega), show l.length - 1 - (l.length - 1 - p) = p by omega, hpm]
  rfl
end
section
set_option maxRecDepth 4000
theorem total_mem0 : ∀ {L : List (List Int)} {l : List Int}, l ∈ L → l.length ≤ total L
  | x :: L, l, h => by
    simp only [total, List.map_cons, List.sum_cons]
    rcases List.mem_cons.1 h with rfl | h
    · omega
    · have := total_mem0 h
      simp only [total] at this; omega
def witL (n : Int) (L : List (List Int)) : List (List Int) := L.map (flt n)
def inLine (n : Int) (L : List (List Int)) : Bool := decide (0 ≤ n) && decide (n < ((total L / 2 : Nat) : Int))
def witC (n : Int) (L : List (List Int)) : List (List Int) := cyc (afterC (tabF (witL n L))) (total (witL n L))
def witE (n : Int) (L : List (List Int)) : Int := if chk L = 0 then (if inLine n L then 0 else 2) else chk L
def witV (n : Int) (L : List (List Int)) : AV := .tup [if witE n L = 0 then .agg [.il (lls (witC n L)) (witC n L).length false] else nilA, vI (witE n L)]
def g21 (n : Int) (L : List (List Int)) : Bool := smM L && (decide (¬ witE n L = 0) || (g70 (witL n L) && okS (afterC (tabF (witL n L))) (total (witL n L))))
def st21w (L : List (List Int)) (u : Bool) (line : Int) (i : Nat) (out : List (List Int)) : ST :=
  ⟨[(1, vI line), (4, .ptr 0 0), (8, .ref 1 0 (out.length + 1) 1 none), (37, .il (lls L) L.length u), (38, vI L.length), (39, vI i)], [(0, .cells [.v (.slice none 0 0)]), (1, .cells (lls out ++ [.v (.slice none 0 0)]))], 2⟩
theorem st21w_weak {L u line i out} : ChgT 0 (st21w L u line i out) (st21 L u line i (out ++ [[]])) := by
  have e : st21 L u line i (out ++ [[]]) = ⟨[(1, vI line), (4, .ptr 0 0), (8, .ref 1 0 (out.length + 1) 1 none), (37, .il (lls L) L.length u), (38, vI L.length), (39, vI i)], [(0, .cells [.v (.slice none 0 0)]), (1, .cells (lls (out ++ [[]])))], 2⟩ := by
    rcases out with _ | ⟨o, orr⟩
    · rfl
    · simp [st21, fA, fH, fN]
  rw [e]
  exact .weak (s' := ⟨[(1, vI line), (4, .ptr 0 0), (8, .ref 1 0 (out.length + 1) 1 none), (37, .il (lls L) L.length u), (38, vI L.length), (39, vI i)], [(0, .cells [.v (.slice none 0 0)]), (1, .cells (lls (out ++ [[]])))], 2⟩) (show envWk _ _ from ⟨rfl, .refl, rfl, .refl, rfl, .refl, rfl, .refl, rfl, .refl, rfl, .refl, trivial⟩) (show heapWk _ _ from ⟨rfl, .refl, rfl, wk_last out, trivial⟩) rfl .refl
set_option maxHeartbeats 1000000
def s21 : Sp := spT 21 [.mp, .i] fun (L : List (List Int)) (n : Int) => res (g21 n L) (witV n L)
@[simp] theorem s21_g : s21.g = 21 := rfl
@[simp] theorem s21_f : s21.f = (spT 21 [.mp, .i] fun (L : List (List Int)) (n : Int) => res (g21 n L) (witV n L)).f := rfl
theorem s21_ok : s21.ok Tryd.prog := by
  apply spT_ok
  simp only [OkT, Ty.all, List.nil_append, List.cons_append]
  intro (L : List (List Int)) u (n : Int)
  apply okT_res; intro hg
  refine P21.rz (ss := [s67, s68, s70, s71]) ⟨s67_ok, s68_ok, s70_ok, s71_ok, trivial⟩ (by simp) fun Q hQ => ?_
  delta p21
  simp only [g21, Bool.and_eq_true, Bool.or_eq_true, decide_eq_true_eq] at hg
  obtain ⟨hs, hg⟩ := hg
  by_cases hc : chk L = 0
  case neg =>
    have hE' : witE n L = chk L := by unfold witE; rw [if_neg hc]
    have hv : openV L = .tup [.agg (ints Z34), vI (chk L)] := by unfold openV; rw [if_neg hc]
    have hr : witV n L = .tup [.agg [.v (.slice none 0 0)], vI (chk L)] := by unfold witV; rw [hE', if_neg hc]; rfl
    obtain ⟨c, hcc⟩ : ∃ c, chk L = c := ⟨_, rfl⟩
    rw [hr, hcc] at hQ
    rw [hcc] at hc hv
    delta p21_r0 p21_r1 p21_r2 p21_r3
    simp (disch := omega) [oLt, oLe, oLtN, oLeN, nLt, nLe, nLtN, nLeN, hs, hv, zl, zz, z34_len, hc]
    exact hQ _ _ (.p (.inl rfl) (by simp [Eff.exec]) (by simp))
  case pos =>
    obtain ⟨h34, he⟩ := tab_ends hc hs
    obtain ⟨h16, hsc, hev⟩ := chk_zero hc
    have ht : (tabF L).take 34 = tabF L := List.take_of_length_le (by omega)
    have hv : openV L = .tup [.agg (ints (tabF L)), vI 0] := by unfold openV; rw [hc]; rfl
    have hsp : splice (ints Z34) 0 (ints (tabF L)) = ints (tabF L) := splice_all (by simp [h34, z34_len])
    have h0 : (tabF L)[0]? = some ((total L : Nat) : Int) := by
      rw [List.getElem?_eq_getElem (by omega)]
      have : endsC (tabF L) = (tabF L)[0] := by simp [endsC, List.getD_eq_getElem?_getD, h34]
      rw [← this, he]
    have h0' := (List.getElem?_eq_some_iff.1 h0).2
    have hdiv : ((total L : Nat) : Int) / 2 = ((total L / 2 : Nat) : Int) := by omega
    generalize hCe : tabF L = C at *
    by_cases hin : inLine n L = true
    case neg =>
      have hE' : witE n L = 2 := by unfold witE; rw [if_pos hc, if_neg hin]
      have hr : witV n L = .tup [.agg [.v (.slice none 0 0)], vI 2] := by unfold witV; rw [hE']; rfl
      rw [hr] at hQ
      simp only [inLine, Bool.and_eq_true, decide_eq_true_eq] at hin
      delta p21_r0 p21_r1 p21_r2 p21_r4 p21_r5
      by_cases hlo : n < 0
      · simp (disch := omega) [oLt, oLe, oLtN, oLeN, nLt, nLe, nLtN, nLeN, hs, hv, zl, hsp, h34, z34_len, ht, h0, h0', hlo]
        exact hQ _ _ (.p (.inl rfl) (by simp [Eff.exec]) (by simp))
      · have hhi : ((total L : Nat) : Int) / 2 ≤ n := by omega
        simp (disch := omega) [oLt, oLe, oLtN, oLeN, nLt, nLe, nLtN, nLeN, hs, hv, zl, hsp, h34, z34_len, ht, h0, h0', hlo, hhi]
        exact hQ _ _ (.p (.inl rfl) (by simp [Eff.exec]) (by simp))
    case pos =>
      have hE' : witE n L = 0 := by unfold witE; rw [if_pos hc, if_pos hin]
      have hr : witV n L = .tup [.agg [.il (lls (witC n L)) (witC n L).length false], vI 0] := by unfold witV; rw [hE']; rfl
      rw [hr] at hQ
      obtain ⟨h70, hok⟩ := hg.resolve_left (fun h => h hE')
      simp only [inLine, Bool.and_eq_true, decide_eq_true_eq] at hin
      obtain ⟨hlo, hhi⟩ := hin
      have hlo' : ¬ n < 0 := by omega
      have hhi' : ¬ ((total L : Nat) : Int) / 2 ≤ n := by omega
      delta p21_r0 p21_r1 p21_r2 p21_r4 p21_r6 p21_r7
      simp (disch := omega) [oLt, oLe, oLtN, oLeN, nLt, nLe, nLtN, nLeN, hs, hv, zl, hsp, h34, z34_len, ht, h0, h0', hlo', hhi']
      have hlen : L.length ≤ 10000 := by simp only [smM, Bool.and_eq_true, decide_eq_true_eq] at hs; exact hs.1
      have hn8 : 0 ≤ n ∧ n ≤ 8 := by omega
      refine XZ_for (fun i : Nat => st21 L u n i (witL n (L.take i))) (fun i => L.length - i) (fun i => i ≤ L.length) 0 (by simp) (.tot [4] (by simp [st21, witL, fA, fH, fN])) ?_
      intro i hi N Q' hN hE
      rcases Nat.lt_or_ge i L.length with h | h
      · have hic : (i : Int) < L.length := by omega
        obtain ⟨l, r, -, e2, e3, -, e5⟩ := drop_split h
        have hll : l.length ≤ 10000 := Nat.le_trans (total_mem0 e5) (by omega)
        have hbe : ∀ e ∈ l, 0 ≤ e ∧ e < 16 := fun e he => by have := (scanM_in hsc l e5).2 e he; omega
        have hnext : witL n (L.take (i + 1)) = witL n (L.take i) ++ [flt n l] := by rw [List.take_succ_eq_append_getElem h, e3]; simp [witL]
        have hol : (witL n (L.take i)).length ≤ 10000 := by simp [witL]; omega
        have fin : ∀ s', ChgT 0 s' (st21 L u n ((i + 1 : Nat)) (witL n (L.take i) ++ [flt n l])) → N s' := fun s' hh => hN s' (i + 1) (by omega) h (by rw [hnext]; exact hh)
        have key := @in21_ok [s67, s68, s70, s71] L u n i (witL n (L.take i)) l
        have hfl := flt_len n l
        clear hN hnext
        generalize witL n (L.take i) = out at *
        generalize flt n l = F at *
        rcases out with _ | ⟨o, orr⟩
        · rcases F with _ | ⟨f0, fr⟩
          · simp only [st21, fA, fH, fN]
            delta p21_l1 p21_r8 p21_r9 p21_r10 p21_r11
            simp (disch := omega) [oLt, oLe, oLtN, oLeN, nLt, nLe, nLtN, nLeN, hic, h, e2, e3]
            refine key hll hn8 hbe (.tot [4] (by simp [in21, fA, fH, fN, gA, gH, gN])) ?_
            simp only [inBE, thenE, if_true, in21, fA, fH, fN, gA, gH, gN]
            delta p21_r19 p21_r20
            simp (disch := omega) [oLt, oLe, oLtN, oLeN, nLt, nLe, nLtN, nLeN]
            exact fin _ (.trans (.tot [4, 8] (by simp [st21w, lls])) st21w_weak)
          · simp only [List.length_cons] at hfl
            simp only [st21, fA, fH, fN, List.nil_append] at fin ⊢
            delta p21_l1 p21_r8 p21_r9 p21_r10 p21_r11
            simp (disch := omega) [oLt, oLe, oLtN, oLeN, nLt, nLe, nLtN, nLeN, hic, h, e2, e3]
            refine key hll hn8 hbe (.tot [4] (by simp [in21, fA, fH, fN, gA, gH, gN])) ?_
            simp only [inBE, thenE, if_true, in21, fA, fH, fN, gA, gH, gN]
            delta p21_r19 p21_r20
            simp (disch := omega) [oLt, oLe, oLtN, oLeN, nLt, nLe, nLtN, nLeN]
            exact fin _ (.frz 1 (by simp; rfl) (by simp) (.tot [4, 8] (by simp)))
        · simp only [List.length_cons] at hol
          rcases F with _ | ⟨f0, fr⟩
          · simp only [st21, fA, fH, fN]
            delta p21_l1 p21_r8 p21_r9 p21_r10 p21_r11
            simp (disch := omega) [oLt, oLe, oLtN, oLeN, nLt, nLe, nLtN, nLeN, hic, h, e2, e3]
            refine key hll hn8 hbe (.tot [4, 8] (by simp [in21, fA, fH, fN, gA, gH, gN])) ?_
            simp only [inBE, thenE, if_true, in21, fA, fH, fN, gA, gH, gN]
            delta p21_r19 p21_r20
            simp (disch := omega) [oLt, oLe, oLtN, oLeN, nLt, nLe, nLtN, nLeN]
            exact fin _ (.trans (.tot [4, 8] (by simp [st21w])) st21w_weak)
          · simp only [List.length_cons] at hfl
            simp only [st21, fA, fH, fN, List.cons_append] at fin ⊢
            delta p21_l1 p21_r8 p21_r9 p21_r10 p21_r11
            simp (disch := omega) [oLt, oLe, oLtN, oLeN, nLt, nLe, nLtN, nLeN, hic, h, e2, e3]
            refine key hll hn8 hbe (.tot [4, 8] (by simp [in21, fA, fH, fN, gA, gH, gN])) ?_
            simp only [inBE, thenE, if_true, in21, fA, fH, fN, gA, gH, gN]
            delta p21_r19 p21_r20
            simp (disch := omega) [oLt, oLe, oLtN, oLeN, nLt, nLe, nLtN, nLeN]
            exact fin _ (.frz 2 (by simp; rfl) (by simp) (.tot [4, 8] (by simp)))
      · obtain rfl : i = L.length := by omega
        have hic : ¬ (L.length : Int) < L.length := by omega
        rw [List.take_length]
        have hW16 : (witL n L).all in16 = true := by simp only [g70, Bool.and_eq_true] at h70; exact h70.1.1
        obtain ⟨w34, w0, -, -⟩ := tabF_facts hW16
        have wt : (tabF (witL n L)).take 34 = tabF (witL n L) := List.take_of_length_le (by omega)
        have wsp : splice (ints Z34) 0 (ints (tabF (witL n L))) = ints (tabF (witL n L)) := splice_all (by simp [w34, z34_len])
        have hT : t34 (tabF (witL n L)) = true := by simp [t34, w34]
        have hen : endsC (tabF (witL n L)) = ((total (witL n L) : Nat) : Int) := w0
        have hcy : cycF (tabF (witL n L)) (.fn (.func 71) [.agg (ints (tabF (witL n L)))] []) = res true (.il (lls (witC n L)) (witC n L).length false) := by
          unfold cycF witC; simp only [stepOf_71, hT, if_true, hen, Int.toNat_natCast, hok, Bool.and_true, Bool.true_and]
          rw [decide_eq_true (by omega)]
        generalize witC n L = R at *
        obtain ⟨W, hW⟩ : ∃ W, witL n L = W := ⟨_, rfl⟩
        rw [hW] at h70 w34 wt wsp hcy ⊢
        clear hok hen hT w0 hW16
        obtain ⟨D, hD⟩ : ∃ D, tabF W = D := ⟨_, rfl⟩
        rw [hD] at w34 wt wsp hcy
        rcases W with _ | ⟨o, orr⟩
        · simp only [st21, fA, fH, fN]
          delta p21_l1 p21_r8 p21_r9 p21_r10 p21_r11
          simp (disch := omega) [oLt, oLe, oLtN, oLeN, nLt, nLe, nLtN, nLeN, hic]
          refine hE _ _ _ .refl ?_
          delta p21_r21 p21_r22
          simp (disch := omega) [oLt, oLe, oLtN, oLeN, nLt, nLe, nLtN, nLeN, h70, hD, zl, wsp, w34, wt, z34_len, effMkfn, hcy]
          exact hQ _ _ (.p (.inl rfl) (by simp [Eff.exec]) (by simp))
        · have hu : unlls (.il (ints o) o.length false :: lls orr) = some (o :: orr) := unlls_lls (o :: orr)
          simp only [st21, fA, fH, fN]
          delta p21_l1 p21_r8 p21_r9 p21_r10 p21_r11
          simp (disch := omega) [oLt, oLe, oLtN, oLeN, nLt, nLe, nLtN, nLeN, hic]
          refine hE _ _ _ (.frz 1 (by simp; rfl) (by simp) .refl) ?_
          simp only [inBE, thenE, if_true]
          delta p21_r21 p21_r22
          simp (disch := omega) [oLt, oLe, oLtN, oLeN, nLt, nLe, nLtN, nLeN, frzS, hu, h70, hD, zl, wsp, w34, wt, z34_len, effMkfn, hcy]
          exact hQ _ _ (.p (.inl rfl) (by simp [Eff.exec]) (by simp))
end
section
theorem flt_mem {n : Int} {S : List Int} {v : Int} : v ∈ flt n S ↔ (v ∈ S ∧ v < 2 * n) ∨ (v + 2 ∈ S ∧ 2 * n + 1 < v + 2) := by
  simp only [flt, List.mem_filterMap]
  constructor
  · rintro ⟨e, he, h⟩
    split at h
    · rename_i h1; cases h; exact .inl ⟨he, h1⟩
    · split at h
      · rename_i h1 h2
        cases h
        exact .inr ⟨by rw [show e - 2 + 2 = e by omega]; exact he, by omega⟩
      · cases h
  · rintro (⟨h1, h2⟩ | ⟨h1, h2⟩)
    · exact ⟨v, h1, by rw [if_pos h2]⟩
    · exact ⟨v + 2, h1, by rw [if_neg (by omega), if_pos h2, show v + 2 - 2 = v by omega]⟩
theorem flt_nodup {n : Int} : ∀ {S : List Int}, S.Nodup → (flt n S).Nodup
  | [], h => h
  | e :: S, h => by
    obtain ⟨h1, h2⟩ := List.nodup_cons.1 h
    have ih := flt_nodup (n := n) h2
    show (List.filterMap _ (e :: S)).Nodup
    rw [List.filterMap_cons]
    split
    · exact ih
    · rename_i v hv
      refine List.nodup_cons.2 ⟨fun hm => ?_, ih⟩
      have hm' : v ∈ flt n S := hm
      split at hv
      · rename_i h3; cases hv
        rcases flt_mem.1 hm' with ⟨q, _⟩ | ⟨q, q2⟩
        · exact h1 q
        · omega
      · split at hv
        · rename_i h3 h4
          cases hv
          rcases flt_mem.1 hm' with ⟨q, q2⟩ | ⟨q, _⟩
          · omega
          · rw [show e - 2 + 2 = e by omega] at q; exact h1 q
        · cases hv
theorem wit_flatten (n : Int) (L : List (List Int)) : (witL n L).flatten = flt n L.flatten := by
  unfold witL flt
  rw [List.filterMap_flatten]
theorem wit_cov {L : List (List Int)} {n : Int} (hc : chk L = 0) (hin : inLine n L = true) : Cov (witL n L) (total L - 2) := by
  have h := chk_cov hc
  obtain ⟨h16, -, hev⟩ := chk_zero hc
  simp only [inLine, Bool.and_eq_true, decide_eq_true_eq] at hin
  obtain ⟨hlo, hhi⟩ := hin
  have hnd : (witL n L).flatten.Nodup := by rw [wit_flatten]; exact flt_nodup h.nd
  have hr : ∀ x ∈ (witL n L).flatten, 0 ≤ x ∧ x < ((total L - 2 : Nat) : Int) := fun x hx => by
    rw [wit_flatten] at hx
    rcases flt_mem.1 hx with ⟨q, q2⟩ | ⟨q, q2⟩
    · have := h.rng x q; omega
    · have := h.rng _ q; omega
  refine ⟨hnd, hr, ?_, by omega⟩
  rw [← total_flatten]
  refine len_of hnd hr fun m hm => ?_
  rw [wit_flatten, flt_mem]
  by_cases e : (m : Int) < 2 * n
  · exact .inl ⟨h.cover (by omega), e⟩
  · have := h.cover (m := m + 2) (by omega)
    exact .inr ⟨by simpa using this, by omega⟩
theorem wit_in {n : Int} {L : List (List Int)} (hw : witE n L = 0) : chk L = 0 ∧ inLine n L = true := by
  unfold witE at hw
  by_cases hc : chk L = 0
  · rw [if_pos hc] at hw
    by_cases hi : inLine n L = true
    · exact ⟨hc, hi⟩
    · rw [if_neg hi] at hw; cases hw
  · rw [if_neg hc] at hw; exact absurd hw hc
theorem cov_g70 {G : List (List Int)} {n : Nat} (h : Cov G n) (hl : G.length ≤ 10000) : g70 G = true ∧ smM G = true := by
  have := h.len
  have := h.le
  simp only [g70, smM, Bool.and_eq_true, decide_eq_true_eq]
  exact ⟨⟨⟨h.h16, by omega⟩, hl⟩, hl, by omega⟩
end
section
theorem join_sym {L : List (List Int)} (hc : chk L = 0) {p q : Nat} (h : joinR L p q = true) : p < L.length ∧ q < L.length ∧ joinR L q p = true := by
  have hcv := chk_cov hc
  have hne := chk_ne hc
  obtain ⟨-, -, hev⟩ := chk_zero hc
  unfold joinR at h
  rw [Int.toNat_natCast] at h
  have hp : p < L.length := by
    apply Classical.byContradiction
    intro hp
    rw [List.getD_eq_getElem?_getD, List.getElem?_eq_none (by omega)] at h
    simp at h
  rw [List.getD_eq_getElem?_getD, List.getElem?_eq_getElem hp, Option.getD_some] at h
  obtain ⟨e, he, he2⟩ := List.any_eq_true.1 h
  rw [decide_eq_true_eq] at he2
  obtain ⟨e1, e2⟩ := hcv.rng e (List.mem_flatten.2 ⟨_, List.getElem_mem hp, he⟩)
  obtain ⟨m, rfl⟩ := Int.eq_ofNat_of_zero_le e1
  have hpt := (hcv.at hne (List.getElem?_eq_getElem hp) he).2
  rw [other_onat] at he2
  obtain ⟨k, l, k1, k2, -, k3⟩ := hcv.pnt hne (m := onat m) (onat_lt hev (by omega))
  rw [k3] at he2
  obtain rfl : k = q := by omega
  have hq := (List.getElem?_eq_some_iff.1 k1).1
  refine ⟨hp, hq, ?_⟩
  unfold joinR
  rw [Int.toNat_natCast, List.getD_eq_getElem?_getD, k1, Option.getD_some]
  have ho : onat (onat m) = m := by unfold onat; split <;> split <;> omega
  exact List.any_eq_true.2 ⟨_, k2, by rw [other_onat, ho, hpt]; simp⟩
end
section
def rot {α : Type} (k : Nat) (l : List α) : List α := l.drop k ++ l.take k
theorem mod_add {r a n : Nat} (hr : r < n) (ha : a < n) : (r + a) % n = if r + a < n then r + a else r + a - n := by
  split
  · rename_i h; exact Nat.mod_eq_of_lt h
  · rename_i h
    rw [Nat.mod_eq_sub_mod (by omega)]; exact Nat.mod_eq_of_lt (by omega)
theorem rot_get {α : Type} {k j : Nat} {l : List α} (hk : k < l.length) (hj : j < l.length) : (rot k l)[j]? = l[(k + j) % l.length]? := by
  rw [mod_add hk hj]
  unfold rot
  split
  · rename_i h
    rw [List.getElem?_append_left (by simp; omega), List.getElem?_drop]
  · rename_i h
    rw [List.getElem?_append_right (by simp; omega), List.getElem?_take]
    simp only [List.length_drop]
    rw [if_pos (by omega)]; congr 1; omega
theorem join_iff {L : List (List Int)} (hc : chk L = 0) {p q : Nat} : joinR L p q = true ↔ ∃ m : Nat, m < total L ∧ (m : Int) ∈ L.getD p [] ∧ (onat m : Int) ∈ L.getD q [] := by
  have hcv := chk_cov hc
  have hne := chk_ne hc
  obtain ⟨-, -, hev⟩ := chk_zero hc
  have hget : ∀ {p : Nat} {x : Int}, x ∈ L.getD p [] → ∃ l, L[p]? = some l ∧ x ∈ l := fun {p x} h => by
    rw [List.getD_eq_getElem?_getD] at h
    cases hh : L[p]? with
    | none => rw [hh] at h; simp at h
    | some l => rw [hh] at h; exact ⟨l, rfl, h⟩
  unfold joinR
  rw [Int.toNat_natCast, List.any_eq_true]
  constructor
  · rintro ⟨e, he, he2⟩
    rw [decide_eq_true_eq] at he2
    obtain ⟨l, h1, h2⟩ := hget he
    obtain ⟨e1, e2⟩ := hcv.rng e (List.mem_flatten.2 ⟨l, List.mem_of_getElem? h1, h2⟩)
    obtain ⟨m, rfl⟩ := Int.eq_ofNat_of_zero_le e1
    rw [other_onat] at he2
    obtain ⟨k, l2, k1, k2, -, k3⟩ := hcv.pnt hne (m := onat m) (onat_lt hev (by omega))
    rw [k3] at he2
    obtain rfl : k = q := by omega
    exact ⟨m, by omega, he, by rw [List.getD_eq_getElem?_getD, k1]; exact k2⟩
  · rintro ⟨m, hm, h1, h2⟩
    obtain ⟨l, h3, h4⟩ := hget h2
    exact ⟨m, h1, by rw [other_onat, (hcv.at hne h3 h4).2]; simp⟩
structure Same (A B : List (List Int)) (s : Nat → Nat) : Prop where
  ca : chk A = 0
  cb : chk B = 0
  len : A.length = B.length
  tot : total A = total B
  lt : ∀ j, j < A.length → s j < A.length
  inj : ∀ i j, i < A.length → j < A.length → s i = s j → i = j
  mem : ∀ j, j < A.length → ∀ x, x ∈ A.getD j [] ↔ x ∈ B.getD (s j) []
theorem Same.join {A B s} (h : Same A B s) {p q : Nat} (hp : p < A.length) (hq : q < A.length) : joinR A p q = true ↔ joinR B (s p) (s q) = true := by
  rw [join_iff h.ca, join_iff h.cb, h.tot]
  simp only [h.mem p hp, h.mem q hq]
theorem Same.fits {A B s} (h : Same A B s) {k : Nat} {c : List Int} (hf : Fits (JR B) k c) (hl : c.length = B.length) : ∃ c', Fits (JR A) k c' ∧ c'.length = A.length := by
  have hget : ∀ j, j < A.length → ((List.range A.length).map fun j => c.getD (s j) 0).getD j 0 = c.getD (s j) 0 := fun j hj => by
    simp [List.getD_eq_getElem?_getD, hj]
  have hle := h.len
  refine ⟨(List.range A.length).map fun j => c.getD (s j) 0, ⟨fun i hi => ?_, fun p q hq hp ⟨e, hj⟩ => ?_⟩, by simp⟩
  · rw [List.length_map, List.length_range] at hi
    rw [hget i hi]
    exact hf.rng _ (by have := h.lt i hi; omega)
  · rw [List.length_map, List.length_range] at hp
    have hq' : q < A.length := by omega
    rw [hget p hp, hget q hq'] at e
    have hj2 : joinR B (s p) (s q) = true := (h.join hp hq').1 hj
    obtain ⟨-, -, hj3⟩ := join_sym h.cb hj2
    have l1 := h.lt p hp
    have l2 := h.lt q hq'
    rcases Nat.lt_trichotomy (s q) (s p) with hlt | heq | hlt
    · exact hf.ok _ _ hlt (by omega) ⟨e, hj2⟩
    · have := h.inj q p hq' hp heq; omega
    · exact hf.ok _ _ hlt (by omega) ⟨e.symm, hj3⟩
theorem Same.loop {A B s} (h : Same A B s) (hA : loopR A = true) : loopR B = true := by
  obtain ⟨p, hp, hj⟩ := List.any_eq_true.1 hA
  rw [List.mem_range] at hp
  have := h.lt p hp
  have hl := h.len
  exact List.any_eq_true.2 ⟨s p, List.mem_range.2 (by omega), (h.join hp hp).1 hj⟩
end
end Go.Sx.Ch
