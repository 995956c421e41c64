/- The first walk goes around its loop: plain facts. No conditions. -/
import Derived.Test.YtmakepdccccmaaaSxRB
import Derived.Test.YtmakepdccccmaaaSxJNPtoL1
import Derived.Test.YtmakepdccccmaaaSxR8
set_option linter.unusedVariables false
set_option linter.unusedSimpArgs false
namespace Go.Sx.Wk
open Go Go.Sx Go.Proofs

section
variable {t : List Int} (ht : ok8 t = true) (h4 : t.length ≤ 4) (hc : canB t = true)
/-- What is left after so many tides of the first walk. -/
def sttB (t : List Int) : Nat → List Int → List Int
  | 0, l => l
  | n + 1, l => match stpB (everB t) t l t.length with
    | some (_, q) => sttB t n q
    | none => l
include ht h4 hc
theorem walk_add : ∀ {m k : Nat} {l : List Int}, val t l → Ever t l → walkB t (m + k) l = walkB t m l ++ walkB t k (sttB t m l) ∧ val t (sttB t m l) ∧ Ever t (sttB t m l)
  | 0, k, l, hv, he => by simp [walkB, sttB, hv, he]
  | m + 1, k, l, hv, he => by
    obtain ⟨s, q, e1, e2, e3, e4, e5⟩ := stpB_ever ht h4 hc hv he
    obtain ⟨i1, i2, i3⟩ := walk_add (m := m) (k := k) e4 e5
    have h1 : walkB t (m + 1 + k) l = (s : Int) :: walkB t (m + k) q := by rw [show m + 1 + k = (m + k) + 1 by omega]; simp only [walkB, e1]
    have h2 : walkB t (m + 1) l = (s : Int) :: walkB t m q := by simp only [walkB, e1]
    have h3 : sttB t (m + 1) l = sttB t m q := by simp only [sttB, e1]
    rw [h1, h2, h3, i1]
    exact ⟨rfl, i2, i3⟩
theorem stt_add {m k : Nat} : ∀ {l : List Int}, val t l → Ever t l → sttB t (m + k) l = sttB t k (sttB t m l) := by
  induction m with
  | zero => intro l _ _; simp [sttB]
  | succ m ih =>
    intro l hv he
    obtain ⟨s, q, e1, e2, e3, e4, e5⟩ := stpB_ever ht h4 hc hv he
    have h1 : sttB t (m + 1 + k) l = sttB t (m + k) q := by rw [show m + 1 + k = (m + k) + 1 by omega]; simp only [sttB, e1]
    have h3 : sttB t (m + 1) l = sttB t m q := by simp only [sttB, e1]
    rw [h1, h3, ih e4 e5]
theorem walk_len {k : Nat} {l : List Int} (hv : val t l) (he : Ever t l) : (walkB t k l).length = k := (walkB_at ht h4 hc k l hv he).1
/-- The loop: the walk comes back to where it was. -/
theorem lp_walk : ∀ {f : Nat} {out : List Int} {ls : List (List Int)} {a b : List Int}, (out = walkB t ls.length t) → (∀ i, i < ls.length → ls[i]? = some (sttB t i t)) → lpB t f out ls (sttB t ls.length t) = some (a, b) →
    0 < b.length ∧ walkB t (a.length + b.length) t = a ++ b ∧ sttB t (a.length + b.length) t = sttB t a.length t
  | 0, out, ls, a, b, ho, hl, h => by simp [lpB] at h
  | f + 1, out, ls, a, b, ho, hl, h => by
    have ht8 := ok8_iff.1 ht
    have hv := val_self ht8
    have he := (canB_iff ht h4).1 hc
    obtain ⟨w1, w2, w3⟩ := walk_add ht h4 hc (m := ls.length) (k := 1) hv he
    obtain ⟨s, q, e1, e2, e3, e4, e5⟩ := stpB_ever ht h4 hc w2 w3
    have hq : sttB t (ls.length + 1) t = q := by rw [stt_add ht h4 hc hv he]; simp only [sttB, e1]
    have hw : walkB t (ls.length + 1) t = out ++ [(s : Int)] := by rw [w1, ← ho]; simp only [walkB, e1]
    have hwl := walk_len ht h4 hc (k := ls.length + 1) hv he
    have hL : ∀ i, i < (ls ++ [sttB t ls.length t]).length → (ls ++ [sttB t ls.length t])[i]? = some (sttB t i t) := fun i hi => by
      by_cases h1 : i < ls.length
      · rw [List.getElem?_append_left h1]; exact hl i h1
      · have : i = ls.length := by simp at hi; omega
        subst this
        simp
    simp only [lpB, e1] at h
    cases hp : posL q (ls ++ [sttB t ls.length t]) 0 with
    | none =>
      rw [hp] at h
      simp only at h
      rw [← hq] at h
      have := lp_walk (f := f) (out := out ++ [(s : Int)]) (ls := ls ++ [sttB t ls.length t]) (a := a) (b := b) (by rw [← hw]; simp) hL (by simpa using h)
      exact this
    | some k =>
      rw [hp] at h
      simp only [Option.some.injEq, Prod.mk.injEq] at h
      obtain ⟨rfl, rfl⟩ := h
      have hk := posL_lt hp
      have hkg := (posL_get hp).2
      simp only [List.length_append, List.length_singleton, Nat.zero_add] at hk
      rw [Nat.sub_zero, hL k (by simp; omega)] at hkg
      have hol : (out ++ [(s : Int)]).length = ls.length + 1 := by rw [← hw]; exact hwl
      have ha : ((out ++ [(s : Int)]).take k).length = k := by rw [List.length_take]; omega
      have hb : ((out ++ [(s : Int)]).drop k).length = ls.length + 1 - k := by rw [List.length_drop]; omega
      rw [ha, hb, show k + (ls.length + 1 - k) = ls.length + 1 by omega]
      refine ⟨by omega, by rw [List.take_append_drop]; exact hw, ?_⟩
      rw [hq]
      exact (Option.some.inj hkg).symm
omit ht h4 hc in
theorem lp_len : ∀ {f : Nat} {out : List Int} {ls : List (List Int)} {l a b : List Int}, lpB t f out ls l = some (a, b) → a.length + b.length ≤ out.length + f
  | 0, out, ls, l, a, b, h => by simp [lpB] at h
  | f + 1, out, ls, l, a, b, h => by
    simp only [lpB] at h
    split at h
    · cases h
    · rename_i s q _
      split at h
      · rename_i k _
        simp only [Option.some.injEq, Prod.mk.injEq] at h
        obtain ⟨rfl, rfl⟩ := h
        rw [← List.length_append, List.take_append_drop]; simp
      · have := lp_len h
        simp at this; omega
/-- What the law says of the walk and its loop. -/
structure LoopF (t a b : List Int) : Prop where
  pos : 0 < b.length
  len : (walkB t 60 t).length = 60
  good : goodL (walkB t 60 t) 0 t = true
  at_ : ∀ k, k < 60 → (walkB t 60 t)[k]? = if k < a.length then a[k]? else b[(k - a.length) % b.length]?
  nine : goodL (a ++ rep 9 b) 0 t = true
  rng : ∀ x ∈ b, 0 ≤ x ∧ x ≤ t.length - 1
  short : a.length + b.length ≤ 5000
theorem walk_rep {b c : List Int} (hv : val t c) (he : Ever t c) (hb : walkB t b.length c = b) (hs : sttB t b.length c = c) : ∀ n k, walkB t (n * b.length + k) c = rep n b ++ walkB t k c
  | 0, k => by simp [rep_zero]
  | n + 1, k => by
    have h1 := (walk_add ht h4 hc (m := b.length) (k := n * b.length + k) hv he).1
    rw [show (n + 1) * b.length + k = b.length + (n * b.length + k) by rw [Nat.succ_mul]; omega, h1, hb, hs, walk_rep hv he hb hs n k]
    have : rep (n + 1) b = b ++ rep n b := by simp [rep, List.replicate_succ]
    rw [this, List.append_assoc]
theorem loop_facts {a b : List Int} (h : lpB t 5000 [] [] t = some (a, b)) : LoopF t a b := by
  have ht8 := ok8_iff.1 ht
  have hv := val_self ht8
  have he := (canB_iff ht h4).1 hc
  obtain ⟨p1, p2, p3⟩ := lp_walk ht h4 hc (f := 5000) (out := []) (ls := []) (a := a) (b := b) rfl (fun i hi => by simp at hi) h
  obtain ⟨q1, q2, q3⟩ := walk_add ht h4 hc (m := a.length) (k := b.length) hv he
  have hal := walk_len ht h4 hc (k := a.length) hv he
  rw [p2] at q1
  obtain ⟨ha, hb⟩ := List.append_inj q1 hal.symm
  rw [stt_add ht h4 hc hv he] at p3
  have hg : ∀ n, goodL (walkB t n t) 0 t = true := fun n => by
    rw [← goodG_top]; exact (walkB_at ht h4 hc n t hv he).2.1
  have hrep : ∀ n k, walkB t (a.length + (n * b.length + k)) t = a ++ (rep n b ++ walkB t k (sttB t a.length t)) := fun n k => by
    rw [(walk_add ht h4 hc (m := a.length) (k := n * b.length + k) hv he).1, ← ha, walk_rep ht h4 hc q2 q3 hb.symm p3]
  refine ⟨p1, walk_len ht h4 hc hv he, hg 60, fun k hk => ?_, ?_, fun x hx => ?_, by have := lp_len h; simpa using this⟩
  · have h60 := walk_len ht h4 hc (k := 60) hv he
    have key := hrep 60 0
    have hlong : 60 ≤ a.length + (60 * b.length + 0) := by
      have : 60 * 1 ≤ 60 * b.length := Nat.mul_le_mul_left _ p1
      omega
    obtain ⟨m, hm⟩ := Nat.exists_eq_add_of_le hlong
    rw [hm, (walk_add ht h4 hc (m := 60) (k := m) hv he).1] at key
    have h1 : (walkB t 60 t)[k]? = (a ++ (rep 60 b ++ walkB t 0 (sttB t a.length t)))[k]? := by
      rw [← key, List.getElem?_append_left (by omega)]
    rw [h1]
    split
    · rename_i hka
      rw [List.getElem?_append_left hka]
    · rename_i hka
      have hrl := repl_len (P := b) 60
      have h60b : 60 * 1 ≤ 60 * b.length := Nat.mul_le_mul_left _ p1
      rw [List.getElem?_append_right (by omega), List.getElem?_append_left (by omega), rep_get (by omega)]
  · have := hg (a.length + (9 * b.length + 0))
    rw [hrep 9 0] at this
    simpa [walkB] using this
  · have hx' : x ∈ walkB t (a.length + b.length) t := by rw [p2]; exact List.mem_append_right _ hx
    obtain ⟨i, hi, rfl⟩ := List.getElem_of_mem hx'
    obtain ⟨s, q, e1, e2, -⟩ := (walkB_at ht h4 hc (a.length + b.length) t hv he).2.2 i (by have := walk_len ht h4 hc (k := a.length + b.length) hv he; omega)
    rw [List.getElem?_eq_getElem hi] at e1
    rw [Option.some.inj e1]; omega
end
theorem good_suffix {t a w : List Int} (h1 : ∀ y ∈ t, 1 ≤ y ∧ y ≤ 8) (h : goodL (a ++ w) 0 t = true) : goodL w 0 t = true := by
  rw [← wlk_good fun y hy => (h1 y hy).1, wlk_iff] at h ⊢
  intro j y hj
  have h2 := h j y hj
  have hy := h1 y (List.mem_of_getElem? hj)
  obtain ⟨m, rfl⟩ := Int.eq_ofNat_of_zero_le (show 0 ≤ y by omega)
  rw [wnd_iff (by omega)] at h2 ⊢
  intro f hf
  obtain ⟨k, hk, e⟩ := h2 (a.length + f) (by rw [List.length_append]; omega)
  exact ⟨k, hk, by rw [List.getElem?_append_right (by omega)] at e; rw [← e]; congr 1; omega⟩
end Go.Sx.Wk
