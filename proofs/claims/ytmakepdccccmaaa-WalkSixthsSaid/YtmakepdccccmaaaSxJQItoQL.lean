/- What functions of the walk layer return: whether a plan names another stretch. No conditions. -/
import Derived.Test.YtmakepdccccmaaaSxJQEtoQH
set_option linter.unusedVariables false
set_option linter.unusedSimpArgs false
namespace Go.Sx.Wk
open Go Go.Sx Go.Proofs

def cell1 (t : List Int) (u : Bool) : HL := [(0, .cells [.il (ints t) t.length u])]
def spT1 (g : Nat) : Sp := ⟨g, fun args h k => match args, h, k with
  | [.v (.int .i64 x), .ptr 0 0], [(0, .cells [.il ct n u])], 1 => match unints ct with
    | some t => if n = t.length ∧ t.length ≤ 1000000 then some (vB (!within 0 x (t.length - 1)), [(0, .cells [.il ct n u])], 1) else none
    | none => none
  | _, _, _ => none⟩
theorem spT1_ok {g : Nat} (hr : ∀ (x : Int) (t : List Int) (u : Bool), t.length ≤ 1000000 → Runs Try.prog g 1 [vI x, .ptr 0 0] (hpF (cell1 t u)) (vB (!within 0 x (t.length - 1))) 1 (hpF (cell1 t u))) : (spT1 g).ok Try.prog := by
  intro args h k r h' k' hh
  simp only [spT1] at hh
  split at hh
  · rename_i x ct n u
    split at hh
    · rename_i t ht
      split at hh
      · rename_i hn
        cases hh
        rw [unints_inv ht, hn.1]
        simp only [hp_eq]
        exact hr x t u hn.2
      · cases hh
    · cases hh
  · cases hh
def s81 : Sp := spT1 81
@[simp] theorem s81_g : s81.g = 81 := rfl
@[simp] theorem s81_f : s81.f = (spT1 81).f := rfl
def s66 : Sp := spT1 66
@[simp] theorem s66_g : s66.g = 66 := rfl
@[simp] theorem s66_f : s66.f = (spT1 66).f := rfl
theorem s81_ok : s81.ok Try.prog := by
  refine spT1_ok fun x t u hl => ?_
  refine P81.rz (ss := [s60]) ⟨s60_ok, trivial⟩ (by simp) fun Q hQ => ?_
  delta p81 p81_r0 p81_r1
  simp [cell1]
  simp (disch := omega) [oLt, oLe, oLtN, oLeN, nLt, nLe, nLtN, nLeN]
  exact hQ _ _ (.same (.inl rfl) (by simp) rfl rfl rfl (by simp [cell1]))
theorem s66_ok : s66.ok Try.prog := by
  refine spT1_ok fun x t u hl => ?_
  refine P66.rz (ss := [s60]) ⟨s60_ok, trivial⟩ (by simp) fun Q hQ => ?_
  delta p66 p66_r0 p66_r1
  simp [cell1]
  simp (disch := omega) [oLt, oLe, oLtN, oLeN, nLt, nLe, nLtN, nLeN]
  exact hQ _ _ (.same (.inl rfl) (by simp) rfl rfl rfl (by simp [cell1]))
/-- Whether a plan names another stretch, and where. -/
def othF (t : List Int) (x : Int) : Bool := !within 0 x (t.length - 1)
def spF1 (g' : Nat) (c : Int → AV) (f : Nat) : Sp := ⟨f, fun args h k => match args, h, k with
  | [.il cs n _, .fn (.func g) [] [.ptr 0 0]], [(0, .cells [.il ct m u])], 1 => if g = g' then (match unints cs with
    | some l => match unints ct with
      | some t => if n = l.length ∧ l.length ≤ 1000000 ∧ m = t.length ∧ t.length ≤ 1000000 then some (c (first (othF t) l 0), [(0, .cells [.il ct m u])], 1) else none
      | none => none
    | none => none) else none
  | _, _, _ => none⟩
theorem spF1_ok {g' f : Nat} {c : Int → AV} (hr : ∀ (l t : List Int) (ul u : Bool), l.length ≤ 1000000 → t.length ≤ 1000000 → Runs Try.prog f 1 [.il (ints l) l.length ul, .fn (.func g') [] [.ptr 0 0]] (hpF (cell1 t u)) (c (first (othF t) l 0)) 1 (hpF (cell1 t u))) : (spF1 g' c f).ok Try.prog := by
  intro args h k r h' k' hh
  simp only [spF1] at hh
  split at hh
  · rename_i cs n ul g ct m u
    split at hh
    · rename_i hg
      split at hh
      · rename_i l hl
        split at hh
        · rename_i t ht
          split at hh
          · rename_i hn
            cases hh
            rw [unints_inv ht, unints_inv hl, hn.1, hn.2.2.1, hg]
            simp only [hp_eq]
            exact hr l t ul u hn.2.1 hn.2.2.2
          · cases hh
        · cases hh
      · cases hh
    · cases hh
  · cases hh
theorem indexFunc_runsK {ss : List Sp} (hss : SpsOk Try.prog ss) {g : Nat} {cap : List AV} {k : Nat} {H : HL} {p : Int → Bool} {l : List Int} {u : Bool} (hlen : l.length ≤ 1000000)
    (hlow : lowTo (List.range k) k = true) (hd : dist (List.range k) = true) (hcap : ∀ n, renL (gT (List.range k) n) cap = cap) (hH : ∀ n, heapTo k (gT (List.range k) n) H H)
    (hg : ∀ x ∈ l, ∃ rd wr outs, rZ (spc ss) g ([vI x] ++ cap) H (k + 8) = some ⟨vB (p x), 0, rd, wr, outs⟩ ∧ setL H wr outs = H) :
    Runs Try.prog 80 k [.il (ints l) l.length u, .fn (.func g) [] cap] (hpF H) (vI (first p l 0)) k (hpF H) := by
  have hto : ∀ {s s' : ST}, s'.nx = k → envTo (gT (List.range k) s.nx) s.env s'.env → s.heap = H → s'.heap = H → ChgT k s s' := fun {s s'} h1 h2 h3 h4 => by
    refine .to (List.range k) ⟨by simp [h1], hlow, by simp, hd, h2, ?_⟩
    rw [h3, h4]; simpa using hH s.nx
  refine P80.rz (ss := ss) hss (by simp) fun Q hQ => ?_
  delta p80 p80_r0 p80_r1
  simp
  refine XZ_for (fun i : Nat => ⟨[(0, .il (ints l) l.length u), (1, .fn (.func g) [] cap), (7, vI l.length), (8, vI i)], H, k⟩) (fun i => l.length - i) (fun i => i ≤ l.length ∧ first p (l.drop i) i = first p l 0) 0 (by simp) (hto rfl (by simp [-gT, hcap]) rfl rfl) ?_
  rintro i ⟨hi, hb⟩ N Q' hN hE
  delta p80_l0 p80_r2 p80_r3 p80_r4 p80_r5 p80_r6
  rcases Nat.lt_or_ge i l.length with h | h
  · obtain ⟨x, r, e1, e2, e3, e4, e5⟩ := drop_split h
    rw [e1] at hb
    simp (disch := omega) [h, e2, e3, -rZ, -zCall_eq]
    obtain ⟨rd, wr, outs, hgx, hsl⟩ := hg x e5
    simp only [List.singleton_append] at hgx
    simp only [zCall_eq, Nat.add_assoc, Nat.reduceAdd, hgx, hsl]
    simp (disch := omega) [oLt, oLe, oLtN, oLeN, nLt, nLe, nLtN, nLeN]
    refine ⟨fun h1 => hE _ _ _ .refl (hQ _ _ (.same (.inl rfl) ?_ rfl hlow hd (hH _))), fun h1 => hN _ (i + 1) (by omega) ⟨h, ?_⟩ (hto rfl (by simp [-gT, hcap]) rfl rfl)⟩
    · simpa [h1, first] using hb
    · simpa [h1, first, e4] using hb
  · have h' : ¬ i < l.length := by omega
    simp (disch := omega) [oLt, oLe, oLtN, oLeN, nLt, nLe, nLtN, nLeN, h']
    refine hE _ _ _ .refl ?_
    delta p80_r7
    simp
    refine hQ _ _ (.same (.inl rfl) ?_ rfl hlow hd (hH _))
    simpa [List.drop_eq_nil_of_le h, first] using hb

def s80p : Sp := spF1 81 vI 80
@[simp] theorem s80p_g : s80p.g = 80 := rfl
@[simp] theorem s80p_f : s80p.f = (spF1 81 vI 80).f := rfl
theorem s80p_ok : s80p.ok Try.prog := by
  refine spF1_ok fun l t ul u hl ht => ?_
  refine indexFunc_runsK (ss := [s81]) ⟨s81_ok, trivial⟩ (g := 81) (cap := [.ptr 0 0]) (k := 1) (H := cell1 t u) (p := othF t) (l := l) (u := ul) hl rfl rfl (fun n => by simp [-gT]; rfl) (fun n => by simp [cell1]) (fun x _ => ?_)
  refine ⟨[0], [0], [some (.cells [.il (ints t) t.length u])], ?_, ?_⟩
  · simp [cell1, spT1, ht, othF]
  · simp [cell1]
def s80q : Sp := spF1 66 vI 80
@[simp] theorem s80q_g : s80q.g = 80 := rfl
@[simp] theorem s80q_f : s80q.f = (spF1 66 vI 80).f := rfl
theorem s80q_ok : s80q.ok Try.prog := by
  refine spF1_ok fun l t ul u hl ht => ?_
  refine indexFunc_runsK (ss := [s66]) ⟨s66_ok, trivial⟩ (g := 66) (cap := [.ptr 0 0]) (k := 1) (H := cell1 t u) (p := othF t) (l := l) (u := ul) hl rfl rfl (fun n => by simp [-gT]; rfl) (fun n => by simp [cell1]) (fun x _ => ?_)
  refine ⟨[0], [0], [some (.cells [.il (ints t) t.length u])], ?_, ?_⟩
  · simp [cell1, spT1, ht, othF]
  · simp [cell1]
end Go.Sx.Wk
namespace Go.Sx.Wk
open Go Go.Sx Go.Proofs

theorem first_lt (p : Int → Bool) (l : List Int) : decide (0 ≤ first p l 0) = l.any p := first_any p l 0
theorem oth_any (t l : List Int) : l.any (othF t) = !l.all (within 0 · (t.length - 1)) := by
  rw [List.not_all_eq_any_not]; rfl
def s58p : Sp := spF1 81 (fun n => vB (decide (0 ≤ n))) 58
@[simp] theorem s58p_g : s58p.g = 58 := rfl
@[simp] theorem s58p_f : s58p.f = (spF1 81 (fun n => vB (decide (0 ≤ n))) 58).f := rfl
theorem s58p_ok : s58p.ok Try.prog := by
  refine spF1_ok fun l t ul u hl ht => ?_
  refine P58.rz (ss := [s80p]) ⟨s80p_ok, trivial⟩ (by simp) fun Q hQ => ?_
  delta p58 p58_r0 p58_r1
  simp [cell1, spF1, hl, ht]
  refine hQ _ _ (.same (.inl rfl) ?_ rfl rfl rfl (by simp [cell1]))
  simp
  rw [Bool.eq_iff_iff]; simp
def s58q : Sp := spF1 66 (fun n => vB (decide (0 ≤ n))) 58
@[simp] theorem s58q_g : s58q.g = 58 := rfl
@[simp] theorem s58q_f : s58q.f = (spF1 66 (fun n => vB (decide (0 ≤ n))) 58).f := rfl
theorem s58q_ok : s58q.ok Try.prog := by
  refine spF1_ok fun l t ul u hl ht => ?_
  refine P58.rz (ss := [s80q]) ⟨s80q_ok, trivial⟩ (by simp) fun Q hQ => ?_
  delta p58 p58_r0 p58_r1
  simp [cell1, spF1, hl, ht]
  refine hQ _ _ (.same (.inl rfl) ?_ rfl rfl rfl (by simp [cell1]))
  simp
  rw [Bool.eq_iff_iff]; simp
/-- Tides after tides. -/
def walkS (t : List Int) : List Int → List Int → Option (List Int)
  | [], p => some p
  | x :: r, p => match stp t x.toNat p with
    | some q => walkS t r q
    | none => none
end Go.Sx.Wk
namespace Go.Sx.Wk
open Go Go.Sx Go.Proofs

def noW (e : Int) : AV × HL × Nat := (.tup [.v (.pointer none), .agg (ints [0, 0, 0, 0]), vI e], [], 0)
def walkedF (t w : List Int) : AV × HL × Nat := if toldF t w = 0 then (match walkS t w (pad t t) with
  | some q => (.tup [.ptr 0 0, .agg (ints q), vI 0], shp t false (pad t t) [] [], 3)
  | none => noW 12) else noW (toldF t w)
def s62 : Sp := spT 62 [.l, .l] fun (t w : List Int) => if (small t && small w) = true then some (walkedF t w) else none
@[simp] theorem s62_g : s62.g = 62 := rfl
@[simp] theorem s62_f : s62.f = (spT 62 [.l, .l] fun (t w : List Int) => if (small t && small w) = true then some (walkedF t w) else none).f := rfl
theorem EndsP_at {k : Nat} {rs : List SRes} {r : AV} {H : HL} {e : Exit} {s : ST} (l : List Nat) (he : e = .ret ∨ e = .normal) (hr : resA s.st rs = some (ren (gT l s.nx) r)) (low : lowTo l k = true) (hle : k ≤ l.length) (nd : dist l = true)
    (hh : heapTo l.length (gT l s.nx) s.heap H) : EndsP k rs r l.length H e s := by
  have := cv_to (l := l) (nx := s.nx) (h := s.heap) (h' := H) low hle nd hh
  exact ⟨by rcases he with rfl | rfl <;> trivial, s, .refl, _, this, hr⟩
theorem list4 : ∀ {p : List Int}, p.length = 4 → ∃ a b c d, p = [a, b, c, d]
  | [a, b, c, d], _ => ⟨a, b, c, d, rfl⟩
theorem s62_ok : s62.ok Try.prog := by
  apply spT_ok
  simp only [OkT, Ty.all, List.nil_append, List.cons_append]
  intro t ut w uw r h' k' hh
  split at hh
  · rename_i hs
    simp only [Bool.and_eq_true] at hs
    obtain ⟨hst, hsw⟩ := hs
    have hlt : t.length ≤ 1000000 := by simpa [small] using hst
    have hlw : w.length ≤ 1000000 := by simpa [small] using hsw
    rw [hp_eq]
    refine P62.rz (ss := [s23, s58p, s54, s77]) ⟨s23_ok, s58p_ok, s54_ok, s77_ok, trivial⟩ (by simp) fun Q hQ => ?_
    by_cases hc : chk t = 0
    case neg =>
      delta p62 p62_r0 p62_r1 p62_r2 p62_r3 p62_r4 p62_r5 p62_r6 p62_r7 p62_r8 p62_r9 p62_r10
      simp (disch := omega) [oLt, oLe, oLtN, oLeN, nLt, nLe, nLtN, nLeN, hst, hc]
      simp [walkedF, noW, toldF, hc] at hh
      obtain ⟨rfl, rfl, rfl⟩ := hh
      exact hQ _ _ (.p (.inl rfl) (by simp) rfl)
    by_cases h60 : 60 < w.length
    · delta p62 p62_r0 p62_r1 p62_r2 p62_r3 p62_r4 p62_r5 p62_r6 p62_r7 p62_r8 p62_r9 p62_r10
      simp (disch := omega) [oLt, oLe, oLtN, oLeN, nLt, nLe, nLtN, nLeN, hst, hc, h60]
      simp [walkedF, noW, toldF, hc, h60] at hh
      obtain ⟨rfl, rfl, rfl⟩ := hh
      exact hQ _ _ (.p (.inl rfl) (by simp) rfl)
    have hfa := first_lt (othF t) w
    rw [oth_any] at hfa
    cases hall : w.all (within 0 · (t.length - 1)) with
    | false =>
      rw [hall] at hfa
      delta p62 p62_r0 p62_r1 p62_r2 p62_r3 p62_r4 p62_r5 p62_r6 p62_r7 p62_r8 p62_r9 p62_r10
      simp (disch := omega) [oLt, oLe, oLtN, oLeN, nLt, nLe, nLtN, nLeN, hst, hc, h60, spF1, hlt, hlw, hfa, effMkfn]
      simp [walkedF, noW, toldF, hc, h60, hall] at hh
      obtain ⟨rfl, rfl, rfl⟩ := hh
      exact hQ _ _ (.p (.inl rfl) (by simp) rfl)
    | true =>
      rw [hall] at hfa
      obtain ⟨ht, h4, hne⟩ := chk_facts hc
      obtain ⟨a, b, c, d, hp⟩ := pad4 h4
      have ht8 := ok8_iff.1 ht
      have h0t : toldF t w = 0 := by simp [toldF, hc, h60, hall]
      delta p62 p62_r0 p62_r1 p62_r2 p62_r3 p62_r4 p62_r5 p62_r6 p62_r7 p62_r8 p62_r9 p62_r10
      simp (disch := omega) [oLt, oLe, oLtN, oLeN, nLt, nLe, nLtN, nLeN, hst, hc, h60, spF1, hlt, hlw, hfa, effMkfn, h4, shp, hp]
      refine XZ_for (fun p : Nat × List Int => ⟨[(5, .ptr 3 0), (8, .ptr 0 0), (9, .ptr 4 0), (37, .il (ints w) w.length uw), (38, vI w.length), (39, vI p.1)], [(0, .cells [.il (ints t) t.length false, vI a, vI b, vI c, vI d, .map 1, .map 2]), (1, .map []), (2, .map []), (3, .cells [vI 0, vI 0, vI 0, vI 0]), (4, .cells (ints (pad t p.2)))], 5⟩) (fun p => w.length - p.1) (fun p => p.1 ≤ w.length ∧ val t p.2 ∧ walkS t (w.drop p.1) (pad t p.2) = walkS t w (pad t t)) (0, t) ⟨by simp, val_self ht8, by simp⟩ (.to [17, 18, 19, 2, 25] (by simp [hp])) ?_
      rintro ⟨i, l⟩ ⟨hi, hv, hb⟩ N Q' hN hE
      simp only at hi hv hb ⊢
      have hok := stOk_pad ht h4 hv
      obtain ⟨p0, p1, p2, p3, hpl⟩ := list4 (pad_len (val_len hv) h4)
      have hsp := fun x => stp_pad (val_len hv) (t := t) x
      simp only [hpl] at hok hb hsp ⊢
      rcases Nat.lt_or_ge i w.length with h | h
      · obtain ⟨x, rr, e1, e2, e3, e4, e5⟩ := drop_split h
        have hx := List.all_eq_true.1 hall x e5
        simp only [within_iff] at hx
        rw [e1] at hb
        simp only [walkS] at hb
        have h77 : G77 t [a, b, c, d] [] [] [.agg [vI p0, vI p1, vI p2, vI p3], vI x] = some (avSt (stp t x.toNat [p0, p1, p2, p3]), [], []) := by
          have hx1 : x < t.length := by omega
          simp [G77, h4, hok, hx.1, hx1]
        rw [hsp] at hb h77
        cases hst : aftG x.toNat t l 0 with
        | none =>
          rw [hst] at hb h77
          simp only [Option.map_none, Option.map_some, avSt] at h77 hb
          delta p62_l0 p62_r11 p62_r12 p62_r13 p62_r14 p62_r15 p62_r16 p62_r17
          simp (disch := omega) [oLt, oLe, oLtN, oLeN, nLt, nLe, nLtN, nLeN, h, e2, e3, h77]
          simp [walkedF, noW, h0t, ← hb] at hh
          obtain ⟨rfl, rfl, rfl⟩ := hh
          exact hE _ _ _ .refl (hQ _ _ (.p (.inl rfl) (by simp) rfl))
        | some q =>
          have hvq := aft_val hv (fun y hy => (ht8 y hy).1) hst
          obtain ⟨q0, q1, q2, q3, hql⟩ := list4 (pad_len (val_len hvq) h4)
          rw [hst] at hb h77
          simp only [Option.map_none, Option.map_some, avSt] at h77 hb
          rw [hql] at h77
          delta p62_l0 p62_r11 p62_r12 p62_r13 p62_r14 p62_r15 p62_r16 p62_r17
          simp (disch := omega) [oLt, oLe, oLtN, oLeN, nLt, nLe, nLtN, nLeN, h, e2, e3, h77]
          exact hN _ (i + 1, q) (by simp only; omega) ⟨h, hvq, by simp only [e4]; exact hb⟩ (.to [0, 1, 2, 3, 4] (by simp [hql]))
      · have h' : ¬ i < w.length := by omega
        simp only [List.drop_eq_nil_of_le h, walkS] at hb
        simp [walkedF, h0t, ← hb] at hh
        obtain ⟨rfl, rfl, rfl⟩ := hh
        delta p62_l0 p62_r11 p62_r12 p62_r13 p62_r14 p62_r15 p62_r16 p62_r17
        simp (disch := omega) [oLt, oLe, oLtN, oLeN, nLt, nLe, nLtN, nLeN, h']
        refine hE _ _ _ .refl ?_
        delta p62_r18
        simp (disch := omega) [oLt, oLe, oLtN, oLeN, nLt, nLe, nLtN, nLeN]
        exact hQ _ _ (EndsP_at [0, 1, 2] (.inl rfl) (by simp [hpl]) rfl (by simp) rfl (by simp [shp, hp, mE, mI, mM]))
  · cases hh
end Go.Sx.Wk
namespace Go.Sx.Wk
open Go Go.Sx Go.Proofs

theorem walk_val {t : List Int} (h1 : ∀ y ∈ t, 1 ≤ y) : ∀ {w l q : List Int}, val t l → walkS t w (pad t l) = some q → ∃ l', val t l' ∧ q = pad t l'
  | [], l, q, hv, h => ⟨l, hv, by simp only [walkS, Option.some.injEq] at h; exact h.symm⟩
  | x :: r, l, q, hv, h => by
    simp only [walkS] at h
    rw [stp_pad (val_len hv)] at h
    cases ha : aftG x.toNat t l 0 with
    | none => rw [ha] at h; simp at h
    | some l' => rw [ha] at h; exact walk_val h1 (aft_val hv h1 ha) (by simpa using h)
def leftP (t w : List Int) : AV := if toldF t w = 0 then (match walkS t w (pad t t) with
  | some q => .tup [.il (ints (q.take t.length)) t.length false, vI 0]
  | none => .tup [.il [] 0 false, vI 12]) else .tup [.il [] 0 false, vI (toldF t w)]
def s25 : Sp := spT 25 [.l, .l] fun (t w : List Int) => res (small t && small w) (leftP t w)
@[simp] theorem s25_g : s25.g = 25 := rfl
@[simp] theorem s25_f : s25.f = (spT 25 [.l, .l] fun (t w : List Int) => res (small t && small w) (leftP t w)).f := rfl
theorem s25_ok : s25.ok Try.prog := by
  apply spT_ok
  simp only [OkT, Ty.all, List.nil_append, List.cons_append]
  intro (t : List Int) ut (w : List Int) uw
  apply okT_res; intro hs
  refine P25.rz (ss := [s62]) ⟨s62_ok, trivial⟩ (by simp) fun Q hQ => ?_
  delta p25 p25_r0 p25_r1 p25_r2 p25_r3 p25_r4
  simp only [Bool.and_eq_true] at hs
  obtain ⟨hst, hsw⟩ := hs
  by_cases h0 : toldF t w = 0
  case neg =>
    simp (disch := omega) [oLt, oLe, oLtN, oLeN, nLt, nLe, nLtN, nLeN, hst, hsw, h0, walkedF, noW]
    exact hQ _ _ (.fz [4, 5] _ (.inl rfl) (by simp; rfl) (by simp [leftP, h0]) (by simp [leftP, h0]))
  cases hk : walkS t w (pad t t) with
  | none =>
    simp (disch := omega) [oLt, oLe, oLtN, oLeN, nLt, nLe, nLtN, nLeN, hst, hsw, h0, hk, walkedF, noW]
    exact hQ _ _ (.fz [4, 5] _ (.inl rfl) (by simp; rfl) (by simp [leftP, h0, hk]) (by simp [leftP, h0, hk]))
  | some q =>
    obtain ⟨hc, -, -⟩ := told_ok h0
    obtain ⟨ht, h4, hne⟩ := chk_facts hc
    have ht8 := ok8_iff.1 ht
    obtain ⟨l', hv', hq'⟩ := walk_val (fun y hy => (ht8 y hy).1) (val_self ht8) hk
    obtain ⟨q0, q1, q2, q3, hql⟩ := list4 (pad_len (val_len hv') h4)
    rw [hql] at hq'
    subst hq'
    simp (disch := omega) [oLt, oLe, oLtN, oLeN, nLt, nLe, nLtN, nLeN, hst, hsw, h0, hk, walkedF, shp, h4]
    have hti : (ints [q0, q1, q2, q3]).take t.length = ints ([q0, q1, q2, q3].take t.length) := by simp only [ints, List.map_take]
    have hcl : cloL ((ints [q0, q1, q2, q3]).take t.length) = true := by rw [hti]; simp
    simp only [ints, List.map_cons, List.map_nil] at hcl hti
    exact hQ _ _ (.fz [4, 5] _ (.inl rfl) (by simp [hcl, h4]; rfl) (by simp [leftP, h0, hk, ints, List.map_take]) (by simp [leftP, h0, hk]))
end Go.Sx.Wk
