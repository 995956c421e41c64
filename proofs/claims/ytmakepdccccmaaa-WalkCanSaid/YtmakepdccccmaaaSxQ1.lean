/- What functions of the walk layer return: checks and weights. No conditions. -/
import Derived.Test.YtmakepdccccmaaaSxPt
import Derived.Test.YtmakepdccccmaaaSxPc
import Derived.Test.YtmakepdccccmaaaSxU
set_option linter.unusedVariables false
set_option linter.unusedSimpArgs false
namespace Go.Sx
theorem drop_split {α : Type} {l : List α} {i : Nat} (h : i < l.length) : ∃ x r, l.drop i = x :: r ∧ l[i]? = some x ∧ l[i] = x ∧ l.drop (i + 1) = r ∧ x ∈ l :=
  ⟨l[i], l.drop (i + 1), List.drop_eq_getElem_cons h, by simp [h], rfl, rfl, List.getElem_mem h⟩
end Go.Sx
namespace Go.Sx.Wk
open Go Go.Sx Go.Proofs

abbrev vI (n : Int) : AV := .v (.int .i64 n)
abbrev vB (b : Bool) : AV := .v (.bool b)
def small (l : List Int) : Bool := decide (l.length ≤ 1000000)
def within (a n b : Int) : Bool := decide (a ≤ n) && decide (n ≤ b)
def s61 : Sp := spT 61 [.i, .i, .i] fun n a b => res true (vB (within a n b))
@[simp] theorem s61_g : s61.g = 61 := rfl
@[simp] theorem s61_f : s61.f = (spT 61 [.i, .i, .i] fun n a b => res true (vB (within a n b))).f := rfl
theorem s61_ok : s61.ok Try.prog := by
  apply spT_ok
  simp only [OkT, Ty.all, List.nil_append, List.cons_append]
  intro (n : Int) (a : Int) (b : Int)
  apply okT_res; intro _
  refine P61.rz (ss := []) trivial (by simp) fun Q hQ => ?_
  delta p61 p61_r0 p61_r1
  simp
  refine ⟨fun h => hQ _ _ (.p (.inl rfl) ?_ rfl), fun h => hQ _ _ (.p (.inl rfl) ?_ rfl)⟩
  · have : (!decide (b < n)) = decide (n ≤ b) := by rw [Bool.eq_iff_iff]; simp
    simp [h, within, this]
  · simp [within, Int.not_le.2 h]
def s60 : Sp := spT 60 [.i, .i, .i] fun a n b => res true (vB (within a n b))
@[simp] theorem s60_g : s60.g = 60 := rfl
@[simp] theorem s60_f : s60.f = (spT 60 [.i, .i, .i] fun a n b => res true (vB (within a n b))).f := rfl
theorem s60_ok : s60.ok Try.prog := by
  apply spT_ok
  simp only [OkT, Ty.all, List.nil_append, List.cons_append]
  intro (a : Int) (n : Int) (b : Int)
  apply okT_res; intro _
  refine P60.rz (ss := []) trivial (by simp) fun Q hQ => ?_
  delta p60 p60_r0 p60_r1
  simp
  refine ⟨fun h => hQ _ _ (.p (.inl rfl) ?_ rfl), fun h => hQ _ _ (.p (.inl rfl) ?_ rfl)⟩
  · have : (!decide (b < n)) = decide (n ≤ b) := by rw [Bool.eq_iff_iff]; simp
    simp [h, within, this]
  · simp [within, Int.not_le.2 h]

def chk (l : List Int) : Int := if l.length = 0 then 4 else if 4 < l.length then 3 else if l.all (within 1 · 8) then 0 else 1
def s24 : Sp := spT 24 [.l] fun l => res (small l) (vI (chk l))
@[simp] theorem s24_g : s24.g = 24 := rfl
@[simp] theorem s24_f : s24.f = (spT 24 [.l] fun l => res (small l) (vI (chk l))).f := rfl
theorem s24_ok : s24.ok Try.prog := by
  apply spT_ok
  simp only [OkT, Ty.all, List.nil_append, List.cons_append]
  intro (l : List Int) u
  apply okT_res; intro hs
  refine P24.rz (ss := [s61]) ⟨s61_ok, trivial⟩ (by simp) fun Q hQ => ?_
  delta p24 p24_r0 p24_r1 p24_r2 p24_r3 p24_r4 p24_r5
  simp [small] at hs
  simp
  refine ⟨fun h => hQ _ _ (.p (.inl rfl) (by simp [chk, h]) rfl), fun h0 => ⟨fun h => hQ _ _ (.p (.inl rfl) ?_ rfl), fun h4 => ?_⟩⟩
  · simp [chk, h0]; omega
  refine XZ_for (fun i : Nat => ⟨[(0, .il (ints l) l.length u), (3, vI i)], [], 0⟩) (fun i => l.length - i) (fun i => i ≤ l.length ∧ (if (l.drop i).all (within 1 · 8) then 0 else 1) = chk l) 0 (by simp [chk, h0]; omega) (.to [] (by simp)) ?_
  rintro i ⟨hi, hb⟩ N Q' hN hE
  delta p24_l0 p24_r6 p24_r7 p24_r8 p24_r9
  rcases Nat.lt_or_ge i l.length with h | h
  · obtain ⟨x, r, e1, e2, e3, e4, e5⟩ := drop_split h
    rw [e1] at hb
    simp (disch := omega) [oLt, oLe, oLtN, oLeN, nLt, nLe, nLtN, nLeN, h, e2, e3]
    refine ⟨fun h1 => hE _ _ _ .refl (hQ _ _ (.p (.inl rfl) ?_ rfl)), fun h1 => hN _ (i + 1) (by omega) ⟨h, ?_⟩ (.to [] (by simp))⟩
    · simp [h1] at hb ⊢; omega
    · rw [e4]; simpa [h1] using hb
  · have h' : ¬ i < l.length := by omega
    simp (disch := omega) [oLt, oLe, oLtN, oLeN, nLt, nLe, nLtN, nLeN, h']
    refine hE _ _ _ .refl ?_
    delta p24_r10
    simp
    refine hQ _ _ (.p (.inl rfl) ?_ rfl)
    simp [List.drop_eq_nil_of_le h] at hb ⊢
    exact hb

def s59 : Sp := spT 59 [.i] fun a => res true (vB (!within 1 a 8))
@[simp] theorem s59_g : s59.g = 59 := rfl
@[simp] theorem s59_f : s59.f = (spT 59 [.i] fun a => res true (vB (!within 1 a 8))).f := rfl
theorem s59_ok : s59.ok Try.prog := by
  apply spT_ok
  simp only [OkT, Ty.all, List.nil_append, List.cons_append]
  intro (a : Int)
  apply okT_res; intro _
  refine P59.rz (ss := [s60]) ⟨s60_ok, trivial⟩ (by simp) fun Q hQ => ?_
  delta p59 p59_r0 p59_r1
  simp
  exact hQ _ _ (.p (.inl rfl) rfl rfl)

/-- The first place at which something holds. -/
def first (p : Int → Bool) : List Int → Int → Int
  | [], _ => -1
  | x :: l, i => if p x then i else first p l (i + 1)
theorem first_any (p : Int → Bool) : ∀ (l : List Int) (i : Nat), decide (0 ≤ first p l i) = l.any p
  | [], i => rfl
  | x :: l, i => by
    simp only [first, List.any_cons]
    split
    · rename_i h; simp [h]
    · rename_i h; have := first_any p l (i + 1); simp at h; simp [h]; simpa using this

theorem indexFunc_runs {ss : List Sp} (hss : SpsOk Try.prog ss) {g : Nat} {cap : List AV} {k : Nat} {H : HL} {p : Int → Bool} {l : List Int} {u : Bool} (hlen : l.length ≤ 1000000)
    (hlow : lowTo (List.range k) k = true) (hd : dist (List.range k) = true) (hcap : ∀ n, renL (gT (List.range k) n) cap = cap) (hH : ∀ n, heapTo k (gT (List.range k) n) H H)
    (hg : ∀ x ∈ l, ∀ t, ∃ rd wr outs, rZ (spc ss) g ([vI x] ++ cap) H t = some ⟨vB (p x), 0, rd, wr, outs⟩ ∧ setL H wr outs = H) :
    Runs Try.prog 80 k [.il (ints l) l.length u, .fn (.func g) [] cap] (hpF H) (vI (first p l 0)) k (hpF H) := by
  have hto : ∀ {s s' : ST}, s'.nx = k → envTo (gT (List.range k) s.nx) s.env s'.env → s.heap = H → s'.heap = H → ChgT k s s' := fun {s s'} h1 h2 h3 h4 => by
    refine .to (List.range k) ⟨by simp [h1], hlow, by simp, hd, h2, ?_⟩
    rw [h3, h4]; simpa using hH s.nx
  refine P80.rz (ss := ss) hss (by simp) fun Q hQ => ?_
  delta p80 p80_r0 p80_r1
  simp
  refine XZ_for (fun i : Nat => ⟨[(0, .il (ints l) l.length u), (1, .fn (.func g) [] cap), (7, vI l.length), (8, vI i)], H, k⟩) (fun i => l.length - i) (fun i => i ≤ l.length ∧ first p (l.drop i) i = first p l 0) 0 (by simp) (hto rfl (by simp [-gT, hcap]) rfl rfl) ?_
  rintro i ⟨hi, hb⟩ N Q' hN hE
  delta p80_l0 p80_r2 p80_r3 p80_r4 p80_r5 p80_r6
  rcases Nat.lt_or_ge i l.length with h | h
  · obtain ⟨x, r, e1, e2, e3, e4, e5⟩ := drop_split h
    rw [e1] at hb
    simp (disch := omega) [h, e2, e3, -rZ, -zCall_eq]
    obtain ⟨rd, wr, outs, hgx, hsl⟩ := hg x e5 (k + 8)
    simp only [List.singleton_append] at hgx
    simp only [zCall_eq, Nat.add_assoc, Nat.reduceAdd, hgx, hsl]
    simp (disch := omega) [oLt, oLe, oLtN, oLeN, nLt, nLe, nLtN, nLeN]
    refine ⟨fun h1 => hE _ _ _ .refl (hQ _ _ (.same (.inl rfl) ?_ rfl hlow hd (hH _))), fun h1 => hN _ (i + 1) (by omega) ⟨h, ?_⟩ (hto rfl (by simp [-gT, hcap]) rfl rfl)⟩
    · simpa [h1, first] using hb
    · simpa [h1, first, e4] using hb
  · have h' : ¬ i < l.length := by omega
    simp (disch := omega) [oLt, oLe, oLtN, oLeN, nLt, nLe, nLtN, nLeN, h']
    refine hE _ _ _ .refl ?_
    delta p80_r7
    simp
    refine hQ _ _ (.same (.inl rfl) ?_ rfl hlow hd (hH _))
    simpa [List.drop_eq_nil_of_le h, first] using hb
end Go.Sx.Wk
