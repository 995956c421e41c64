/- What functions of the walk layer return: checks and weights. No conditions. -/
import Derived.Test.YtmakepdccccmaaaSxJPatoPt
import Derived.Test.YtmakepdccccmaaaSxPc
import Derived.Test.YtmakepdccccmaaaSxU
set_option linter.unusedVariables false
set_option linter.unusedSimpArgs false
namespace Go.Sx
theorem drop_split {α : Type} {l : List α} {i : Nat} (h : i < l.length) : ∃ x r, l.drop i = x :: r ∧ l[i]? = some x ∧ l[i] = x ∧ l.drop (i + 1) = r ∧ x ∈ l :=
  ⟨l[i], l.drop (i + 1), List.drop_eq_getElem_cons h, by simp [h], rfl, rfl, List.getElem_mem h⟩
end Go.Sx
namespace Go.Sx.Wk
open Go Go.Sx Go.Proofs

abbrev vI (n : Int) : AV := .v (.int .i64 n)
abbrev vB (b : Bool) : AV := .v (.bool b)
def small (l : List Int) : Bool := decide (l.length ≤ 1000000)
def within (a n b : Int) : Bool := decide (a ≤ n) && decide (n ≤ b)
def s61 : Sp := spT 61 [.i, .i, .i] fun n a b => res true (vB (within a n b))
@[simp] theorem s61_g : s61.g = 61 := rfl
@[simp] theorem s61_f : s61.f = (spT 61 [.i, .i, .i] fun n a b => res true (vB (within a n b))).f := rfl
theorem s61_ok : s61.ok Try.prog := by
  apply spT_ok
  simp only [OkT, Ty.all, List.nil_append, List.cons_append]
  intro (n : Int) (a : Int) (b : Int)
  apply okT_res; intro _
  refine P61.rz (ss := []) trivial (by simp) fun Q hQ => ?_
  delta p61 p61_r0 p61_r1
  simp
  refine ⟨fun h => hQ _ _ (.p (.inl rfl) ?_ rfl), fun h => hQ _ _ (.p (.inl rfl) ?_ rfl)⟩
  · have : (!decide (b < n)) = decide (n ≤ b) := by rw [Bool.eq_iff_iff]; simp
    simp [h, within, this]
  · simp [within, Int.not_le.2 h]
def s60 : Sp := spT 60 [.i, .i, .i] fun a n b => res true (vB (within a n b))
@[simp] theorem s60_g : s60.g = 60 := rfl
@[simp] theorem s60_f : s60.f = (spT 60 [.i, .i, .i] fun a n b => res true (vB (within a n b))).f := rfl
theorem s60_ok : s60.ok Try.prog := by
  apply spT_ok
  simp only [OkT, Ty.all, List.nil_append, List.cons_append]
  intro (a : Int) (n : Int) (b : Int)
  apply okT_res; intro _
  refine P60.rz (ss := []) trivial (by simp) fun Q hQ => ?_
  delta p60 p60_r0 p60_r1
  simp
  refine ⟨fun h => hQ _ _ (.p (.inl rfl) ?_ rfl), fun h => hQ _ _ (.p (.inl rfl) ?_ rfl)⟩
  · have : (!decide (b < n)) = decide (n ≤ b) := by rw [Bool.eq_iff_iff]; simp
    simp [h, within, this]
  · simp [within, Int.not_le.2 h]

def chk (l : List Int) : Int := if l.length = 0 then 4 else if 4 < l.length then 3 else if l.all (within 1 · 8) then 0 else 1
def s24 : Sp := spT 24 [.l] fun l => res (small l) (vI (chk l))
@[simp] theorem s24_g : s24.g = 24 := rfl
@[simp] theorem s24_f : s24.f = (spT 24 [.l] fun l => res (small l) (vI (chk l))).f := rfl
theorem s24_ok : s24.ok Try.prog := by
  apply spT_ok
  simp only [OkT, Ty.all, List.nil_append, List.cons_append]
  intro (l : List Int) u
  apply okT_res; intro hs
  refine P24.rz (ss := [s61]) ⟨s61_ok, trivial⟩ (by simp) fun Q hQ => ?_
  delta p24 p24_r0 p24_r1 p24_r2 p24_r3 p24_r4 p24_r5
  simp [small] at hs
  simp
  refine ⟨fun h => hQ _ _ (.p (.inl rfl) (by simp [chk, h]) rfl), fun h0 => ⟨fun h => hQ _ _ (.p (.inl rfl) ?_ rfl), fun h4 => ?_⟩⟩
  · simp [chk, h0]; omega
  refine XZ_for (fun i : Nat => ⟨[(0, .il (ints l) l.length u), (3, vI i)], [], 0⟩) (fun i => l.length - i) (fun i => i ≤ l.length ∧ (if (l.drop i).all (within 1 · 8) then 0 else 1) = chk l) 0 (by simp [chk, h0]; omega) (.to [] (by simp)) ?_
  rintro i ⟨hi, hb⟩ N Q' hN hE
  delta p24_l0 p24_r6 p24_r7 p24_r8 p24_r9
  rcases Nat.lt_or_ge i l.length with h | h
  · obtain ⟨x, r, e1, e2, e3, e4, e5⟩ := drop_split h
    rw [e1] at hb
    simp (disch := omega) [oLt, oLe, oLtN, oLeN, nLt, nLe, nLtN, nLeN, h, e2, e3]
    refine ⟨fun h1 => hE _ _ _ .refl (hQ _ _ (.p (.inl rfl) ?_ rfl)), fun h1 => hN _ (i + 1) (by omega) ⟨h, ?_⟩ (.to [] (by simp))⟩
    · simp [h1] at hb ⊢; omega
    · rw [e4]; simpa [h1] using hb
  · have h' : ¬ i < l.length := by omega
    simp (disch := omega) [oLt, oLe, oLtN, oLeN, nLt, nLe, nLtN, nLeN, h']
    refine hE _ _ _ .refl ?_
    delta p24_r10
    simp
    refine hQ _ _ (.p (.inl rfl) ?_ rfl)
    simp [List.drop_eq_nil_of_le h] at hb ⊢
    exact hb

def s59 : Sp := spT 59 [.i] fun a => res true (vB (!within 1 a 8))
@[simp] theorem s59_g : s59.g = 59 := rfl
@[simp] theorem s59_f : s59.f = (spT 59 [.i] fun a => res true (vB (!within 1 a 8))).f := rfl
theorem s59_ok : s59.ok Try.prog := by
  apply spT_ok
  simp only [OkT, Ty.all, List.nil_append, List.cons_append]
  intro (a : Int)
  apply okT_res; intro _
  refine P59.rz (ss := [s60]) ⟨s60_ok, trivial⟩ (by simp) fun Q hQ => ?_
  delta p59 p59_r0 p59_r1
  simp
  exact hQ _ _ (.p (.inl rfl) rfl rfl)

/-- The first place at which something holds. -/
def first (p : Int → Bool) : List Int → Int → Int
  | [], _ => -1
  | x :: l, i => if p x then i else first p l (i + 1)
theorem first_any (p : Int → Bool) : ∀ (l : List Int) (i : Nat), decide (0 ≤ first p l i) = l.any p
  | [], i => rfl
  | x :: l, i => by
    simp only [first, List.any_cons]
    split
    · rename_i h; simp [h]
    · rename_i h; have := first_any p l (i + 1); simp at h; simp [h]; simpa using this

theorem indexFunc_runs {ss : List Sp} (hss : SpsOk Try.prog ss) {g : Nat} {cap : List AV} {k : Nat} {H : HL} {p : Int → Bool} {l : List Int} {u : Bool} (hlen : l.length ≤ 1000000)
    (hlow : lowTo (List.range k) k = true) (hd : dist (List.range k) = true) (hcap : ∀ n, renL (gT (List.range k) n) cap = cap) (hH : ∀ n, heapTo k (gT (List.range k) n) H H)
    (hg : ∀ x ∈ l, ∀ t, ∃ rd wr outs, rZ (spc ss) g ([vI x] ++ cap) H t = some ⟨vB (p x), 0, rd, wr, outs⟩ ∧ setL H wr outs = H) :
    Runs Try.prog 80 k [.il (ints l) l.length u, .fn (.func g) [] cap] (hpF H) (vI (first p l 0)) k (hpF H) := by
  have hto : ∀ {s s' : ST}, s'.nx = k → envTo (gT (List.range k) s.nx) s.env s'.env → s.heap = H → s'.heap = H → ChgT k s s' := fun {s s'} h1 h2 h3 h4 => by
    refine .to (List.range k) ⟨by simp [h1], hlow, by simp, hd, h2, ?_⟩
    rw [h3, h4]; simpa using hH s.nx
  refine P80.rz (ss := ss) hss (by simp) fun Q hQ => ?_
  delta p80 p80_r0 p80_r1
  simp
  refine XZ_for (fun i : Nat => ⟨[(0, .il (ints l) l.length u), (1, .fn (.func g) [] cap), (7, vI l.length), (8, vI i)], H, k⟩) (fun i => l.length - i) (fun i => i ≤ l.length ∧ first p (l.drop i) i = first p l 0) 0 (by simp) (hto rfl (by simp [-gT, hcap]) rfl rfl) ?_
  rintro i ⟨hi, hb⟩ N Q' hN hE
  delta p80_l0 p80_r2 p80_r3 p80_r4 p80_r5 p80_r6
  rcases Nat.lt_or_ge i l.length with h | h
  · obtain ⟨x, r, e1, e2, e3, e4, e5⟩ := drop_split h
    rw [e1] at hb
    simp (disch := omega) [h, e2, e3, -rZ, -zCall_eq]
    obtain ⟨rd, wr, outs, hgx, hsl⟩ := hg x e5 (k + 8)
    simp only [List.singleton_append] at hgx
    simp only [zCall_eq, Nat.add_assoc, Nat.reduceAdd, hgx, hsl]
    simp (disch := omega) [oLt, oLe, oLtN, oLeN, nLt, nLe, nLtN, nLeN]
    refine ⟨fun h1 => hE _ _ _ .refl (hQ _ _ (.same (.inl rfl) ?_ rfl hlow hd (hH _))), fun h1 => hN _ (i + 1) (by omega) ⟨h, ?_⟩ (hto rfl (by simp [-gT, hcap]) rfl rfl)⟩
    · simpa [h1, first] using hb
    · simpa [h1, first, e4] using hb
  · have h' : ¬ i < l.length := by omega
    simp (disch := omega) [oLt, oLe, oLtN, oLeN, nLt, nLe, nLtN, nLeN, h']
    refine hE _ _ _ .refl ?_
    delta p80_r7
    simp
    refine hQ _ _ (.same (.inl rfl) ?_ rfl hlow hd (hH _))
    simpa [List.drop_eq_nil_of_le h, first] using hb
end Go.Sx.Wk
namespace Go.Sx.Wk
open Go Go.Sx Go.Proofs

def sp58 (g : Nat) (c : Int → AV) (p : Int → Bool) (f : Nat) : Sp := ⟨f, fun args h k => match args, h, k with
  | [.il cs n _, .fn (.func g') [] []], [], 0 => if g' = g then (match unints cs with
    | some l => if n = l.length ∧ l.length ≤ 1000000 then some (c (first p l 0), [], 0) else none
    | none => none) else none
  | _, _, _ => none⟩
def s80c : Sp := sp58 59 vI (fun t => !within 1 t 8) 80
theorem s80c_ok : s80c.ok Try.prog := by
  intro args h k r h' k' hh
  simp only [s80c, sp58] at hh
  split at hh
  · rename_i cs n u g'
    split at hh
    · split at hh
      · rename_i hg _ l hl
        split at hh
        · rename_i hn
          cases hh
          rw [unints_inv hl, hn.1, hg]
          have := indexFunc_runs (ss := [s59]) (hss := ⟨s59_ok, trivial⟩) (g := 59) (cap := []) (k := 0) (H := []) (p := fun t => !within 1 t 8) (l := l) (u := u) hn.2 rfl rfl (fun _ => rfl) (fun _ => trivial) (fun x _ t => ⟨[], [], [], by simp, rfl⟩)
          simpa only [hp_eq, s80c, sp58] using this
        · cases hh
      · cases hh
    · cases hh
  · cases hh
def s58c : Sp := sp58 59 (fun n => vB (decide (0 ≤ n))) (fun t => !within 1 t 8) 58
theorem s58c_ok : s58c.ok Try.prog := by
  intro args h k r h' k' hh
  simp only [s58c, sp58] at hh
  split at hh
  · rename_i cs n u g'
    split at hh
    · split at hh
      · rename_i hg _ l hl
        split at hh
        · rename_i hn
          cases hh
          rw [unints_inv hl, hn.1, hg, hp_eq]
          refine P58.rz (ss := [s80c]) ⟨s80c_ok, trivial⟩ (by simp) fun Q hQ => ?_
          delta p58 p58_r0 p58_r1
          simp [s80c, sp58, hn.2]
          refine hQ _ _ (.p (.inl rfl) ?_ rfl)
          simp
          rw [Bool.eq_iff_iff]; simp
        · cases hh
      · cases hh
    · cases hh
  · cases hh

theorem any_all (l : List Int) : l.any (fun t => !within 1 t 8) = !l.all (within 1 · 8) := by
  rw [Bool.eq_iff_iff]; simp
def s23 : Sp := spT 23 [.l] fun l => res (small l) (vI (chk l))
@[simp] theorem s23_g : s23.g = 23 := rfl
@[simp] theorem s23_f : s23.f = (spT 23 [.l] fun l => res (small l) (vI (chk l))).f := rfl
theorem s23_ok : s23.ok Try.prog := by
  apply spT_ok
  simp only [OkT, Ty.all, List.nil_append, List.cons_append]
  intro (l : List Int) u
  apply okT_res; intro hs
  refine P23.rz (ss := [s58c]) ⟨s58c_ok, trivial⟩ (by simp) fun Q hQ => ?_
  delta p23 p23_r0 p23_r1 p23_r2 p23_r3 p23_r4 p23_r5 p23_r6 p23_r7
  simp [small] at hs
  simp [s58c, sp58, hs]
  have h1 := first_any (fun t => !within 1 t 8) l 0
  rw [any_all] at h1
  have h2 : 0 ≤ first (fun t => !within 1 t 8) l 0 ↔ ¬ (l.all (within 1 · 8) = true) := by
    rw [← decide_eq_true_iff (p := 0 ≤ first (fun t => !within 1 t 8) l 0)]
    rw [show ((0 : Nat) : Int) = 0 from rfl] at h1
    rw [h1]; simp
  clear h1; have h1 := h2
  refine ⟨fun h => hQ _ _ (.p (.inl rfl) (by simp [chk, h]) rfl), fun h0 => ⟨fun h => hQ _ _ (.p (.inl rfl) ?_ rfl), fun h4 => ⟨fun h => hQ _ _ (.p (.inl rfl) ?_ rfl), fun h => hQ _ _ (.p (.inl rfl) ?_ rfl)⟩⟩⟩
  · simp [chk, h0]; omega
  · simp only [chk]
    rw [if_neg (by simpa using h0), if_neg (by omega), if_neg (h1.1 h)]; simp
  · simp only [chk]
    rw [if_neg (by simpa using h0), if_neg (by omega), if_pos]
    · simp
    · false_or_by_contra
      rename_i hc
      have := h1.2 hc
      omega

/-! ### Weights -/
def s53 : Sp := spT 53 [.i, .i] fun (a b : Int) => res (decide (0 ≤ a) && decide (0 ≤ b) && decide (b ≤ 1000000)) (vI (Int.gcd a b))
@[simp] theorem s53_g : s53.g = 53 := rfl
@[simp] theorem s53_f : s53.f = (spT 53 [.i, .i] fun (a b : Int) => res (decide (0 ≤ a) && decide (0 ≤ b) && decide (b ≤ 1000000)) (vI (Int.gcd a b))).f := rfl
theorem s53_ok : s53.ok Try.prog := by
  apply spT_ok
  simp only [OkT, Ty.all, List.nil_append, List.cons_append]
  intro (a : Int) (b : Int)
  apply okT_res; intro hs
  refine P53.rz (ss := []) trivial (by simp) fun Q hQ => ?_
  delta p53 p53_r0
  simp at hs
  obtain ⟨⟨ha, hb⟩, hb2⟩ := hs
  obtain ⟨a, rfl⟩ := Int.eq_ofNat_of_zero_le ha
  obtain ⟨b, rfl⟩ := Int.eq_ofNat_of_zero_le hb
  simp
  refine XZ_for (fun p : Nat × Nat => ⟨[(0, vI p.1), (1, vI p.2)], [], 0⟩) (fun p => p.2) (fun p => p.2 ≤ 1000000 ∧ Nat.gcd p.1 p.2 = Nat.gcd a b) (a, b) ⟨by simp only; omega, rfl⟩ (.to [] (by simp)) ?_
  rintro ⟨x, y⟩ ⟨hi, hg⟩ N Q' hN hE
  delta p53_l0 p53_r1 p53_r2
  simp only at hi hg ⊢
  by_cases h : y = 0
  · subst h
    simp (disch := omega) [oLt, oLe, oLtN, oLeN, nLt, nLe, nLtN, nLeN]
    refine hE _ _ _ .refl ?_
    delta p53_r3
    simp
    refine hQ _ _ (.p (.inl rfl) ?_ rfl)
    simp at hg ⊢; omega
  · simp (disch := omega) [oLt, oLe, oLtN, oLeN, nLt, nLe, nLtN, nLeN, h]
    refine hN _ (y, x % y) (Nat.mod_lt _ (by omega)) ⟨?_, ?_⟩ (.to [] (by simp))
    · have := Nat.mod_lt x (show 0 < y by omega); simp only; omega
    · simp only; rw [Nat.gcd_comm, ← Nat.gcd_rec, Nat.gcd_comm]; exact hg

def num : List Int → Nat
  | [] => 0
  | t :: r => 840 / t.toNat + num r
def wA (l : List Int) : Int := ((num l / Nat.gcd (num l) 840 : Nat) : Int)
def wB (l : List Int) : Int := ((840 / Nat.gcd (num l) 840 : Nat) : Int)
def weightF (l : List Int) : AV := if chk l = 0 then .tup [vI (wA l), vI (wB l), vI 0] else .tup [vI 0, vI 0, vI (chk l)]

theorem chk_ok {l : List Int} (h : chk l = 0) : l ≠ [] ∧ l.length ≤ 4 ∧ ∀ t ∈ l, 1 ≤ t ∧ t ≤ 8 := by
  unfold chk at h
  split at h
  · cases h
  · rename_i h0
    split at h
    · cases h
    · rename_i h4
      split at h
      · rename_i ha
        refine ⟨fun e => h0 (by rw [e]; rfl), by omega, fun t ht => ?_⟩
        have := List.all_eq_true.1 ha t ht
        simpa [within] using this
      · cases h
theorem lowest {a b m : Nat} {n : Nat} (hb : 0 < b) (hm : 0 < m) (h : a * m = n * b) : a / Nat.gcd a b = n / Nat.gcd n m ∧ b / Nat.gcd a b = m / Nat.gcd n m := by
  have g1 : 0 < Nat.gcd a b := Nat.gcd_pos_of_pos_right _ hb
  have g2 : 0 < Nat.gcd n m := Nat.gcd_pos_of_pos_right _ hm
  have c1 := Nat.coprime_div_gcd_div_gcd g1
  have c2 := Nat.coprime_div_gcd_div_gcd g2
  obtain ⟨a', ha⟩ := Nat.gcd_dvd_left a b
  obtain ⟨b', hb'⟩ := Nat.gcd_dvd_right a b
  obtain ⟨n', hn⟩ := Nat.gcd_dvd_left n m
  obtain ⟨m', hm'⟩ := Nat.gcd_dvd_right n m
  have ea : a / Nat.gcd a b = a' := Nat.div_eq_of_eq_mul_right g1 ha
  have eb : b / Nat.gcd a b = b' := Nat.div_eq_of_eq_mul_right g1 hb'
  have en : n / Nat.gcd n m = n' := Nat.div_eq_of_eq_mul_right g2 hn
  have em : m / Nat.gcd n m = m' := Nat.div_eq_of_eq_mul_right g2 hm'
  rw [ea, eb] at c1
  rw [en, em] at c2
  rw [ea, eb, en, em]
  generalize Nat.gcd a b = G1 at *
  generalize Nat.gcd n m = G2 at *
  have key : a' * m' = n' * b' := by
    have : (G1 * G2) * (a' * m') = (G1 * G2) * (n' * b') := by
      calc (G1 * G2) * (a' * m') = (G1 * a') * (G2 * m') := by ac_rfl
        _ = a * m := by rw [← ha, ← hm']
        _ = n * b := h
        _ = (G2 * n') * (G1 * b') := by rw [← hn, ← hb']
        _ = (G1 * G2) * (n' * b') := by ac_rfl
    exact Nat.eq_of_mul_eq_mul_left (Nat.mul_pos g1 g2) this
  have d1 : b' ∣ m' := c1.symm.dvd_of_dvd_mul_left (by rw [key]; exact Nat.dvd_mul_left _ _)
  have d2 : m' ∣ b' := c2.symm.dvd_of_dvd_mul_left (by rw [← key]; exact Nat.dvd_mul_left _ _)
  have ebm := Nat.dvd_antisymm d1 d2
  refine ⟨?_, ebm⟩
  subst ebm
  have : 0 < b' := by
    rcases Nat.eq_zero_or_pos b' with h0 | h0
    · subst h0; simp at hb'; omega
    · exact h0
  exact Nat.eq_of_mul_eq_mul_right this key

theorem dvd840 {t : Nat} (h1 : 1 ≤ t) (h8 : t ≤ 8) : 840 / t * t = 840 := by
  have : t = 1 ∨ t = 2 ∨ t = 3 ∨ t = 4 ∨ t = 5 ∨ t = 6 ∨ t = 7 ∨ t = 8 := by omega
  rcases this with h | h | h | h | h | h | h | h <;> subst h <;> rfl

end Go.Sx.Wk
namespace Go.Sx.Wk
open Go Go.Sx Go.Proofs

def gA (n : Nat) : Nat := n / Nat.gcd n 840
def gB (n : Nat) : Nat := 840 / Nat.gcd n 840
theorem gA_le (n : Nat) : gA n ≤ n := Nat.div_le_self _ _
theorem gB_le (n : Nat) : gB n ≤ 840 := Nat.div_le_self _ _
theorem gB_pos (n : Nat) : 0 < gB n := Nat.div_pos (Nat.le_of_dvd (by omega) (Nat.gcd_dvd_right n 840)) (Nat.gcd_pos_of_pos_right _ (by omega))
theorem gAB (n : Nat) : gA n * 840 = n * gB n := by
  obtain ⟨a, ha⟩ := Nat.gcd_dvd_left n 840
  obtain ⟨b, hb⟩ := Nat.gcd_dvd_right n 840
  have g : 0 < Nat.gcd n 840 := Nat.gcd_pos_of_pos_right _ (by omega)
  have e1 : gA n = a := Nat.div_eq_of_eq_mul_right g ha
  have e2 : gB n = b := Nat.div_eq_of_eq_mul_right g hb
  rw [e1, e2]
  calc a * 840 = a * (Nat.gcd n 840 * b) := by rw [← hb]
    _ = (Nat.gcd n 840 * a) * b := by ac_rfl
    _ = n * b := by rw [← ha]
theorem gstep {n t : Nat} (h1 : 1 ≤ t) (h8 : t ≤ 8) : (gA n * t + gB n) / Nat.gcd (gA n * t + gB n) (gB n * t) = gA (840 / t + n) ∧ gB n * t / Nat.gcd (gA n * t + gB n) (gB n * t) = gB (840 / t + n) := by
  refine lowest (Nat.mul_pos (gB_pos n) (by omega)) (by omega) ?_
  have e := gAB n
  have d := dvd840 h1 h8
  calc (gA n * t + gB n) * 840 = gA n * 840 * t + 840 * gB n := by rw [Nat.add_mul]; ac_rfl
    _ = n * gB n * t + (840 / t * t) * gB n := by rw [e, d]
    _ = (840 / t + n) * (gB n * t) := by rw [Nat.add_mul]; rw [Nat.add_comm]; congr 1 <;> ac_rfl
theorem num_le : ∀ l : List Int, num l ≤ 840 * l.length
  | [] => by simp [num]
  | t :: r => by have := num_le r; have := Nat.div_le_self 840 t.toNat; simp only [num, List.length_cons]; omega

theorem divstep {a b d n : Nat} (hd0 : ¬ d = 0) (h2 : d ∣ a) (h3 : d ∣ b) (hb0 : 0 < b) (hab : a * 840 = n * b) (hc : ∀ c, c ∣ a → c ∣ b → c ≤ d) :
    0 < b / d ∧ a / d * 840 = n * (b / d) ∧ ∀ c, c ∣ a / d → c ∣ b / d → c ≤ 1 := by
  obtain ⟨a', rfl⟩ := h2
  obtain ⟨b', rfl⟩ := h3
  have ea : d * a' / d = a' := Nat.mul_div_cancel_left _ (by omega)
  have eb : d * b' / d = b' := Nat.mul_div_cancel_left _ (by omega)
  rw [ea, eb]
  refine ⟨?_, ?_, fun c c1 c2 => ?_⟩
  · rcases Nat.eq_zero_or_pos b' with h | h
    · subst h; simp at hb0
    · exact h
  · have : d * (a' * 840) = d * (n * b') := by
      calc d * (a' * 840) = d * a' * 840 := by ac_rfl
        _ = n * (d * b') := hab
        _ = d * (n * b') := by ac_rfl
    exact Nat.eq_of_mul_eq_mul_left (by omega) this
  · have := hc (d * c) (Nat.mul_dvd_mul_left d c1) (Nat.mul_dvd_mul_left d c2)
    exact Nat.le_of_mul_le_mul_left (by rw [Nat.mul_one]; exact this) (show 0 < d by omega)

def s17 : Sp := spT 17 [.l] fun l => res (small l) (weightF l)
@[simp] theorem s17_g : s17.g = 17 := rfl
@[simp] theorem s17_f : s17.f = (spT 17 [.l] fun l => res (small l) (weightF l)).f := rfl
theorem s17_ok : s17.ok Try.prog := by
  apply spT_ok
  simp only [OkT, Ty.all, List.nil_append, List.cons_append]
  intro (l : List Int) u
  apply okT_res; intro hs
  refine P17.rz (ss := [s23, s53]) ⟨s23_ok, s53_ok, trivial⟩ (by simp) fun Q hQ => ?_
  delta p17 p17_r0 p17_r1 p17_r2 p17_r3 p17_r4 p17_r5
  have hs' := hs
  simp [small] at hs
  by_cases h0 : chk l = 0
  case neg =>
    simp [hs', h0]
    exact hQ _ _ (.p (.inl rfl) (by simp [weightF, h0]) (by simp [weightF, h0]))
  simp [hs', h0]
  obtain ⟨-, h4, h8⟩ := chk_ok h0
  refine XZ_for (fun p : Nat × Nat => ⟨[(2, vI (gA p.2)), (3, vI (gB p.2)), (14, .il (ints l) l.length u), (15, vI l.length), (16, vI p.1)], [], 0⟩) (fun p => l.length - p.1) (fun p => p.1 ≤ l.length ∧ p.2 + num (l.drop p.1) = num l) (0, 0) (by simp) (.to [] (by simp [gA, gB])) ?_
  rintro ⟨i, n⟩ ⟨hi, hb⟩ N Q' hN hE
  simp only at hi hb ⊢
  delta p17_l0 p17_r6 p17_r7 p17_r8 p17_r9 p17_r10 p17_r11
  rcases Nat.lt_or_ge i l.length with h | h
  · obtain ⟨x, r, e1, e2, e3, e4, e5⟩ := drop_split h
    obtain ⟨x1, x8⟩ := h8 x e5
    obtain ⟨t, rfl⟩ := Int.eq_ofNat_of_zero_le (show 0 ≤ x by omega)
    rw [e1] at hb
    simp only [num, Int.toNat_natCast] at hb
    have hn := num_le l
    have b1 : gA n * t ≤ 3360 * 8 := Nat.mul_le_mul (Nat.le_trans (gA_le n) (by have := Nat.zero_le (840 / t); omega)) (by omega)
    have b2 : gB n * t ≤ 840 * 8 := Nat.mul_le_mul (gB_le n) (by omega)
    have b3 := gB_le n
    have hpos : 0 < gB n * t := Nat.mul_pos (gB_pos n) (by omega)
    have hg : 0 < Nat.gcd (gA n * t + gB n) (gB n * t) := Nat.gcd_pos_of_pos_right _ hpos
    have eg : Int.gcd ((gA n : Int) * t + gB n) ((gB n : Int) * t) = Nat.gcd (gA n * t + gB n) (gB n * t) := by
      rw [← Int.natCast_mul, ← Int.natCast_mul, ← Int.natCast_add]; rfl
    have s := gstep (n := n) (t := t) (by omega) (by omega)
    have ss1 : ((gA n : Int) * t + gB n) / (Nat.gcd (gA n * t + gB n) (gB n * t) : Nat) = (gA (840 / t + n) : Int) := by rw [← s.1]; simp
    have ss2 : ((gB n : Int) * t) / (Nat.gcd (gA n * t + gB n) (gB n * t) : Nat) = (gB (840 / t + n) : Int) := by rw [← s.2]; simp
    have c1 : (gA n : Int) * t ≤ 26880 := by rw [← Int.natCast_mul]; omega
    have c0 : 0 ≤ (gA n : Int) * t := by rw [← Int.natCast_mul]; omega
    have c2 : (gB n : Int) * t ≤ 6720 := by rw [← Int.natCast_mul]; omega
    have c3 : 0 ≤ (gB n : Int) * t := by rw [← Int.natCast_mul]; omega
    have hA := gA_le (840 / t + n)
    have hB := gB_le (840 / t + n)
    have hg0 : ¬ (Nat.gcd (gA n * t + gB n) (gB n * t) = 0) := by omega
    have k1 : (0 : Int) ≤ (gA n : Int) * t + gB n := by omega
    have k2 : (gB n : Int) * t ≤ 1000000 := by omega
    have k3 := Nat.div_le_self 840 t
    simp (disch := omega) [oLt, oLe, oLtN, oLeN, nLt, nLe, nLtN, nLeN, h, e2, e3, eg, ss1, ss2, hg0, k1, c3, k2]
    refine hN _ (i + 1, 840 / t + n) (by simp only; omega) ⟨h, ?_⟩ (.to [] (by simp))
    simp only [e4]; omega
  · have h' : ¬ i < l.length := by omega
    simp (disch := omega) [oLt, oLe, oLtN, oLeN, nLt, nLe, nLtN, nLeN, h']
    refine hE _ _ _ .refl ?_
    delta p17_r12
    simp
    refine hQ _ _ (.p (.inl rfl) ?_ ?_)
    · simp [List.drop_eq_nil_of_le h, num] at hb
      simp [weightF, h0, wA, wB, gA, gB, hb]
    · simp [weightF, h0]

def s18 : Sp := spT 18 [.l] fun l => res (small l) (weightF l)
@[simp] theorem s18_g : s18.g = 18 := rfl
@[simp] theorem s18_f : s18.f = (spT 18 [.l] fun l => res (small l) (weightF l)).f := rfl
theorem s18_ok : s18.ok Try.prog := by
  apply spT_ok
  simp only [OkT, Ty.all, List.nil_append, List.cons_append]
  intro (l : List Int) u
  apply okT_res; intro hs
  refine P18.rz (ss := [s24]) ⟨s24_ok, trivial⟩ (by simp) fun Q hQ => ?_
  delta p18 p18_r0 p18_r1 p18_r2 p18_r3 p18_r4 p18_r5
  have hs' := hs
  simp [small] at hs
  by_cases h0 : chk l = 0
  case neg =>
    simp [hs', h0]
    exact hQ _ _ (.p (.inl rfl) (by simp [weightF, h0]) (by simp [weightF, h0]))
  simp [hs', h0]
  obtain ⟨-, h4, h8⟩ := chk_ok h0
  refine XZ_for (fun p : Nat × Nat => ⟨[(0, .il (ints l) l.length u), (6, vI p.2), (7, vI 840), (8, vI p.1)], [], 0⟩) (fun p => l.length - p.1) (fun p => p.1 ≤ l.length ∧ p.2 + num (l.drop p.1) = num l) (0, 0) (by simp) (.to [] (by simp)) ?_
  rintro ⟨i, n⟩ ⟨hi, hb⟩ N Q' hN hE
  simp only at hi hb ⊢
  delta p18_l0 p18_r6 p18_r7 p18_r8
  rcases Nat.lt_or_ge i l.length with h | h
  · obtain ⟨x, r, e1, e2, e3, e4, e5⟩ := drop_split h
    obtain ⟨x1, x8⟩ := h8 x e5
    obtain ⟨t, rfl⟩ := Int.eq_ofNat_of_zero_le (show 0 ≤ x by omega)
    rw [e1] at hb
    simp only [num, Int.toNat_natCast] at hb
    have hn := num_le l
    have k0 : (840 : Int) / (t : Int) = ((840 / t : Nat) : Int) := by simp
    have k3 := Nat.div_le_self 840 t
    have k5 : 0 ≤ (840 : Int) / (t : Int) := by rw [k0]; exact Int.natCast_nonneg _
    have k6 : (840 : Int) / (t : Int) ≤ 840 := by rw [k0]; exact Int.ofNat_le.2 k3
    have hg0 : ¬ t = 0 := by omega
    simp (disch := omega) [oLt, oLe, oLtN, oLeN, nLt, nLe, nLtN, nLeN, h, e2, e3, hg0]
    refine hN _ (i + 1, n + 840 / t) (by simp only; omega) ⟨h, ?_⟩ (.to [] (by simp))
    simp only [e4]; omega
  · have h' : ¬ i < l.length := by omega
    simp (disch := omega) [oLt, oLe, oLtN, oLeN, nLt, nLe, nLtN, nLeN, h']
    refine hE _ _ _ .refl ?_
    simp [List.drop_eq_nil_of_le h, num] at hb
    subst hb
    delta p18_r9
    simp
    have hn : num l ≤ 3360 := by have := num_le l; omega
    refine XZ_for (fun p : Nat × Nat × Nat => ⟨[(6, vI p.1), (7, vI p.2.1), (9, vI p.2.2)], [], 0⟩) (fun p => p.2.2) (fun p => p.2.2 ≤ 840 ∧ p.1 ≤ 3360 ∧ 0 < p.2.1 ∧ p.2.1 ≤ 840 ∧ p.1 * 840 = num l * p.2.1 ∧ ∀ c, c ∣ p.1 → c ∣ p.2.1 → c ≤ p.2.2) (num l, 840, 840) ⟨by simp, (by simp only; omega), by simp, by simp, by simp, fun c _ h => by simpa using Nat.le_of_dvd (n := 840) (by omega) (by simpa using h)⟩ (.to [] (by simp)) ?_
    rintro ⟨a, b, d⟩ ⟨hd, ha, hb0, hb8, hab, hc⟩ N2 Q2 hN2 hE2
    simp only at hd ha hb0 hb8 hab hc ⊢
    delta p18_l1 p18_r10 p18_r11 p18_r12 p18_r13
    by_cases hd1 : d ≤ 1
    · have h1 : ¬ ((1 : Int) < d) := by omega
      simp (disch := omega) [oLt, oLe, oLtN, oLeN, nLt, nLe, nLtN, nLeN, h1]
      refine hE2 _ _ _ .refl ?_
      delta p18_r14
      simp
      have g1 : Nat.gcd a b = 1 := by
        have := hc _ (Nat.gcd_dvd_left a b) (Nat.gcd_dvd_right a b)
        have := Nat.gcd_pos_of_pos_right a hb0
        omega
      have := lowest hb0 (show 0 < 840 by omega) hab
      rw [g1] at this
      simp only [Nat.div_one] at this
      refine hQ _ _ (.p (.inl rfl) ?_ ?_)
      · simp [weightF, h0, wA, wB, this.1, this.2]
      · simp [weightF, h0]
    · have h1 : (1 : Int) < d := by omega
      have hd0 : ¬ d = 0 := by omega
      by_cases h2 : d ∣ a
      · by_cases h3 : d ∣ b
        · have m1 : (a : Int) % d = 0 := by rw [← Int.natCast_emod, Nat.mod_eq_zero_of_dvd h2]; rfl
          have m2 : (b : Int) % d = 0 := by rw [← Int.natCast_emod, Nat.mod_eq_zero_of_dvd h3]; rfl
          have q1 : (a : Int) / d = ((a / d : Nat) : Int) := by simp
          have q2 : (b : Int) / d = ((b / d : Nat) : Int) := by simp
          have l1 := Nat.div_le_self a d
          have l2 := Nat.div_le_self b d
          have p1 : ((a / d : Nat) : Int) ≤ 3360 := by omega
          have p2 : ((b / d : Nat) : Int) ≤ 840 := by omega
          obtain ⟨r1, r2, r3⟩ := divstep hd0 h2 h3 hb0 hab hc
          simp (disch := omega) [oLt, oLe, oLtN, oLeN, nLt, nLe, nLtN, nLeN, h1, hd0, m1, m2, q1, q2, -Int.natCast_ediv]
          exact hN2 _ (a / d, b / d, d - 1) (by simp only; omega) ⟨by simp only; omega, Nat.le_trans l1 ha, r1, Nat.le_trans l2 hb8, r2, fun c c1 c2 => by have := r3 c c1 c2; simp only; omega⟩ (.to [] (by simp [-Int.natCast_ediv]; omega))
        · have m1 : (a : Int) % d = 0 := by rw [← Int.natCast_emod, Nat.mod_eq_zero_of_dvd h2]; rfl
          have m2 : ¬ (b : Int) % d = 0 := by rw [← Int.natCast_emod]; intro e; exact h3 (Nat.dvd_of_mod_eq_zero (by omega))
          simp (disch := omega) [oLt, oLe, oLtN, oLeN, nLt, nLe, nLtN, nLeN, h1, hd0, m1, m2]
          refine hN2 _ (a, b, d - 1) (by simp only; omega) ⟨by simp only; omega, ha, hb0, hb8, hab, fun c c1 c2 => ?_⟩ (.to [] (by simp; omega))
          have := hc c c1 c2
          have : c ≠ d := fun e => h3 (e ▸ c2)
          simp only; omega
      · have m1 : ¬ (a : Int) % d = 0 := by rw [← Int.natCast_emod]; intro e; exact h2 (Nat.dvd_of_mod_eq_zero (by omega))
        simp (disch := omega) [oLt, oLe, oLtN, oLeN, nLt, nLe, nLtN, nLeN, h1, hd0, m1]
        refine hN2 _ (a, b, d - 1) (by simp only; omega) ⟨by simp only; omega, ha, hb0, hb8, hab, fun c c1 c2 => ?_⟩ (.to [] (by simp; omega))
        have := hc c c1 c2
        have : c ≠ d := fun e => h2 (e ▸ c1)
        simp only; omega
end Go.Sx.Wk
