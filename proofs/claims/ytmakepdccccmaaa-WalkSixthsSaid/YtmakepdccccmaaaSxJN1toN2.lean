/- What functions of the walk layer return: the first walk, of the specification. No conditions. -/
import Derived.Test.YtmakepdccccmaaaSxJQMtoQN
set_option linter.unusedVariables false
set_option linter.unusedSimpArgs false
namespace Go.Sx.Wk
open Go Go.Sx Go.Proofs

/-- Whether something can be left. -/
def valB : List Int → List Int → Bool
  | [], [] => true
  | t :: ts, x :: xs => decide (1 ≤ x) && decide (x ≤ t) && valB ts xs
  | _, _ => false
theorem valB_iff : ∀ {t x : List Int}, valB t x = true ↔ val t x
  | [], [] => by simp [valB, val]
  | [], _ :: _ => by simp [valB, val]
  | _ :: _, [] => by simp [valB, val]
  | t :: ts, x :: xs => by simp [valB, val, valB_iff (t := ts), and_assoc]
/-- The first stretch after which something holds, and what is left then. -/
def stpB (e : List Int → Bool) (t l : List Int) : Nat → Option (Nat × List Int)
  | 0 => none
  | r + 1 => match aftG ((t.length - (r + 1) : Nat) : Int) t l 0 with
    | some q => if e q = true then some (t.length - (r + 1), q) else stpB e t l r
    | none => stpB e t l r
theorem stpB_some {e : List Int → Bool} {t l : List Int} : ∀ {r s : Nat} {q : List Int}, r ≤ t.length → stpB e t l r = some (s, q) → s < t.length ∧ aftG (s : Nat) t l 0 = some q ∧ e q = true
  | 0, s, q, hr, h => by simp [stpB] at h
  | r + 1, s, q, hr, h => by
    simp only [stpB] at h
    cases ha : aftG ((t.length - (r + 1) : Nat) : Int) t l 0 with
    | none => rw [ha] at h; exact stpB_some (by omega) h
    | some q' =>
      rw [ha] at h
      simp only at h
      by_cases he : e q' = true
      · rw [if_pos he] at h
        cases h
        exact ⟨by omega, ha, he⟩
      · rw [if_neg he] at h; exact stpB_some (by omega) h
theorem stpB_ex {e : List Int → Bool} {t l q : List Int} {s : Nat} (hs : s < t.length) (ha : aftG (s : Nat) t l 0 = some q) (he : e q = true) : ∀ {r : Nat}, r ≤ t.length → t.length - r ≤ s → ∃ p, stpB e t l r = some p
  | 0, hr, h => by omega
  | r + 1, hr, h => by
    simp only [stpB]
    by_cases h1 : t.length - (r + 1) = s
    · rw [h1, ha]; simp only; rw [if_pos he]; exact ⟨_, rfl⟩
    · obtain ⟨p, hp⟩ := stpB_ex hs ha he (r := r) (by omega) (by omega)
      cases ha' : aftG ((t.length - (r + 1) : Nat) : Int) t l 0 with
      | none => exact ⟨p, hp⟩
      | some q' =>
        simp only
        by_cases he' : e q' = true
        · rw [if_pos he']; exact ⟨_, rfl⟩
        · rw [if_neg he']; exact ⟨p, hp⟩
def avStp (o : Option (Nat × List Int)) : Option (AV × HL × Nat) := match o with
  | some (s, q) => some (.tup [vI s, .il (ints q) q.length false], [], 0)
  | none => none
@[simp] theorem avStp_some (s : Nat) (q : List Int) : avStp (some (s, q)) = some (.tup [vI s, .il (ints q) q.length false], [], 0) := rfl
def nx69 (o : Option (List Int)) : AV := match o with
  | some q => .il (ints q) q.length false
  | none => .il [] 0 false
theorem small4 {t : List Int} (h : t.length ≤ 4) : small t = true := by simp [small]; omega
theorem all8 {l : List Int} (h : ok8 l = true) : l.all (within 0 · 1000000) = true := List.all_eq_true.2 fun y hy => by
  have := ok8_iff.1 h y hy
  simp; omega
@[simp] theorem bls_len' (L : List Bool) : (bls L).length = L.length := by simp [bls]

def s69 : Sp := spT 69 [.l, .l, .bs] fun (t l : List Int) (L : List Bool) => if (decide (L = (aliveF t).1) && ok8 t && decide (t.length ≤ 4) && valB t l) = true then avStp (stpB (everB t) t l t.length) else none
@[simp] theorem s69_g : s69.g = 69 := rfl
@[simp] theorem s69_f : s69.f = (spT 69 [.l, .l, .bs] fun (t l : List Int) (L : List Bool) => if (decide (L = (aliveF t).1) && ok8 t && decide (t.length ≤ 4) && valB t l) = true then avStp (stpB (everB t) t l t.length) else none).f := rfl
theorem s69_ok : s69.ok Try.prog := by
  apply spT_ok
  simp only [OkT, Ty.all, List.nil_append, List.cons_append]
  intro (t : List Int) ut (l : List Int) ul (L : List Bool) uL r h' k' hh
  split at hh
  · rename_i hs
    simp only [Bool.and_eq_true, decide_eq_true_eq] at hs
    obtain ⟨⟨⟨rfl, ht⟩, h4⟩, hv⟩ := hs
    have hv := valB_iff.1 hv
    have ht8 := ok8_iff.1 ht
    have hl8 : ok8 l = true := ok8_iff.2 (val_ok8 hv ht8)
    have hst := small4 h4
    have hla := all8 hl8
    have hvl := (val_len hv).symm
    have hLl := aliveF_len ht h4
    have hsm : (aliveF t).1.length ≤ 4096 := by rw [hLl]; exact stL_len ht h4
    cases hB : stpB (everB t) t l t.length with
    | none => rw [hB] at hh; simp [avStp] at hh
    | some p =>
      obtain ⟨sR, qR⟩ := p
      rw [hB] at hh
      simp only [avStp_some, Option.some.injEq, Prod.mk.injEq] at hh
      obtain ⟨rfl, rfl, rfl⟩ := hh
      have hpos : 0 < t.length := by have := (stpB_some (Nat.le_refl _) hB).1; omega
      rw [hp_eq]
      refine P69.rz (ss := [s65, s79]) ⟨s65_ok, s79_ok, trivial⟩ (by simp) fun Q hQ => ?_
      delta p69 p69_r0 p69_r1 p69_r2
      have start : ∀ n, ChgT 0 ⟨[(0, .il (ints t) t.length ut), (1, .il (ints l) l.length ul), (2, .il (bls (aliveF t).1) (aliveF t).1.length uL), (8, vI ((0 : Nat) : Int)), (9, nx69 (aftG ((0 : Nat) : Int) t l 0)), (10, vB (aftG ((0 : Nat) : Int) t l 0).isSome)], [], n⟩ ⟨[(0, .il (ints t) t.length ut), (1, .il (ints l) l.length ul), (2, .il (bls (aliveF t).1) (aliveF t).1.length uL), (8, vI ((0 : Nat) : Int)), (9, nx69 (aftG ((0 : Nat) : Int) t l 0)), (10, vB (aftG ((0 : Nat) : Int) t l 0).isSome)], [], 0⟩ := fun n => .to [] (by cases aftG ((0 : Nat) : Int) t l 0 <;> simp [nx69])
      have loop : ∀ s0, ChgT 0 s0 ⟨[(0, .il (ints t) t.length ut), (1, .il (ints l) l.length ul), (2, .il (bls (aliveF t).1) (aliveF t).1.length uL), (8, vI ((0 : Nat) : Int)), (9, nx69 (aftG ((0 : Nat) : Int) t l 0)), (10, vB (aftG ((0 : Nat) : Int) t l 0).isSome)], [], 0⟩ →
          XZ (rZ (spc [s65, s79])) 0 (.loop p69_l0) s0 (inBE 0 (thenE (fun s' => XZ (rZ (spc [s65, s79])) 0 (.seq (.reg p69_r6 [6, 7]) .ret) s' Q) Q)) := by
        intro s0 hs0
        refine XZ_for (fun i : Nat => ⟨[(0, .il (ints t) t.length ut), (1, .il (ints l) l.length ul), (2, .il (bls (aliveF t).1) (aliveF t).1.length uL), (8, vI i), (9, nx69 (aftG (i : Nat) t l 0)), (10, vB (aftG (i : Nat) t l 0).isSome)], [], 0⟩) (fun i => t.length - i) (fun i => i < t.length ∧ stpB (everB t) t l (t.length - i) = some (sR, qR)) 0 ⟨hpos, by simpa using hB⟩ hs0 ?_
        rintro i ⟨hi, hb⟩ N Q' hN hE
        obtain ⟨r, hr⟩ : ∃ r, t.length - i = r + 1 := ⟨t.length - i - 1, by omega⟩
        have hri : t.length - (r + 1) = i := by omega
        rw [hr] at hb
        simp only [stpB, hri] at hb
        have next : stpB (everB t) t l r = some (sR, qR) → i + 1 < t.length ∧ stpB (everB t) t l (t.length - (i + 1)) = some (sR, qR) := fun hb => by
          have h1 : t.length - (i + 1) = r := by omega
          rcases r with _ | r
          · simp [stpB] at hb
          · exact ⟨by omega, by rw [h1]; exact hb⟩
        have cont : stpB (everB t) t l r = some (sR, qR) → ∀ s' : ST, ChgT 0 s' ⟨[(0, .il (ints t) t.length ut), (1, .il (ints l) l.length ul), (2, .il (bls (aliveF t).1) (aliveF t).1.length uL), (8, vI ((i + 1 : Nat) : Int)), (9, nx69 (aftG ((i + 1 : Nat) : Int) t l 0)), (10, vB (aftG ((i + 1 : Nat) : Int) t l 0).isSome)], [], 0⟩ → N s' := fun hb s' hc => hN s' (i + 1) (by omega) (next hb) hc
        have hlen : ∀ {x : Int} {q : List Int}, aftG x t l 0 = some q → q.length = t.length := fun h => aft_len h
        cases ha : aftG (i : Nat) t l 0 with
        | none =>
          rw [ha] at hb
          simp only at hb
          have c := cont hb
          simp only [nx69, Option.isSome_none]
          cases ha' : aftG ((i + 1 : Nat) : Int) t l 0 with
          | none =>
            rw [ha'] at c
            simp only [Int.natCast_add, Int.natCast_one] at ha'
            delta p69_l0 p69_r3 p69_r4 p69_r5
            simp (disch := omega) [oLt, oLe, oLtN, oLeN, nLt, nLe, nLtN, nLeN, hvl, hst, hla, ha', avAft]
            exact c _ (.to [] (by simp [nx69, hvl]))
          | some q' =>
            rw [ha'] at c
            simp only [Int.natCast_add, Int.natCast_one] at ha'
            delta p69_l0 p69_r3 p69_r4 p69_r5
            simp (disch := omega) [oLt, oLe, oLtN, oLeN, nLt, nLe, nLtN, nLeN, hvl, hst, hla, ha', avAft]
            exact c _ (.to [] (by simp [nx69, hvl]))
        | some q =>
          rw [ha] at hb
          simp only at hb
          have hvq := aft_val hv (fun y hy => (ht8 y hy).1) ha
          have hq8 : ok8 q = true := ok8_iff.2 (val_ok8 hvq ht8)
          have hql := (val_len hvq).symm
          obtain ⟨j, j1, j2⟩ := idx_get hvq
          have hj : j < (aliveF t).1.length := by rw [hLl]; exact (List.getElem?_eq_some_iff.1 j2).1
          have he : ((aliveF t).1)[j]? = some (everB t q) := by simp [everB, j1, hj]
          have he' : (aliveF t).1[j] = everB t q := (List.getElem?_eq_some_iff.1 he).2
          simp only [nx69, Option.isSome_some]
          by_cases hev : everB t q = true
          · rw [if_pos hev] at hb
            cases hb
            rw [hev] at he he'
            delta p69_l0 p69_r3 p69_r4 p69_r5
            simp (disch := omega) [oLt, oLe, oLtN, oLeN, nLt, nLe, nLtN, nLeN, ht, hq8, hql, h4, j1, hj, he, he']
            refine hE _ _ _ .refl ?_
            delta p69_r6
            simp (disch := omega) [oLt, oLe, oLtN, oLeN, nLt, nLe, nLtN, nLeN]
            exact hQ _ _ (.p (.inl rfl) (by simp [hql]) rfl)
          · rw [if_neg hev] at hb
            have c := cont hb
            simp only [Bool.not_eq_true] at hev
            rw [hev] at he he'
            cases ha' : aftG ((i + 1 : Nat) : Int) t l 0 with
            | none =>
              rw [ha'] at c
              simp only [Int.natCast_add, Int.natCast_one] at ha'
              delta p69_l0 p69_r3 p69_r4 p69_r5
              simp (disch := omega) [oLt, oLe, oLtN, oLeN, nLt, nLe, nLtN, nLeN, ht, hq8, hql, h4, j1, hj, he, he', hvl, hst, hla, ha', avAft]
              exact c _ (.to [] (by simp [nx69, hvl]))
            | some q' =>
              rw [ha'] at c
              simp only [Int.natCast_add, Int.natCast_one] at ha'
              delta p69_l0 p69_r3 p69_r4 p69_r5
              simp (disch := omega) [oLt, oLe, oLtN, oLeN, nLt, nLe, nLtN, nLeN, ht, hq8, hql, h4, j1, hj, he, he', hvl, hst, hla, ha', avAft]
              exact c _ (.to [] (by simp [nx69, hvl]))
      cases ha : aftG ((0 : Nat) : Int) t l 0 with
      | none =>
        rw [ha] at loop
        simp only [Int.natCast_zero] at ha
        simp (disch := omega) [oLt, oLe, oLtN, oLeN, nLt, nLe, nLtN, nLeN, hvl, hst, hla, ha, avAft]
        exact loop _ (.to [] (by simp [nx69, hvl]))
      | some q =>
        rw [ha] at loop
        simp only [Int.natCast_zero] at ha
        simp (disch := omega) [oLt, oLe, oLtN, oLeN, nLt, nLe, nLtN, nLeN, hvl, hst, hla, ha, avAft]
        exact loop _ (.to [] (by simp [nx69, hvl]))
  · cases hh
end Go.Sx.Wk
namespace Go.Sx.Wk
open Go Go.Sx Go.Proofs

theorem everB_iff {t l : List Int} (ht : ok8 t = true) (h4 : t.length ≤ 4) (hv : val t l) (hc : canB t = true) : everB t l = true ↔ Ever t l := by
  have := ever_iff ht h4 hv (fun _ => (canB_iff ht h4).1 hc)
  rw [hc, Bool.true_and] at this; exact this
theorem ever_step {t l : List Int} (h : Ever t l) : ∃ s q, s < t.length ∧ aftG (s : Nat) t l 0 = some q ∧ Ever t q := by
  apply Classical.byContradiction
  intro hn
  have hno : ∀ s q, s < t.length → aftG (s : Nat) t l 0 = some q → ∃ k, canK t k q = false := fun s q hs ha => by
    apply Classical.byContradiction
    intro hk
    refine hn ⟨s, q, hs, ha, fun k => ?_⟩
    cases hc : canK t k q with
    | true => rfl
    | false => exact absurd ⟨k, hc⟩ hk
  have key : ∀ r, r ≤ t.length → ∃ K, ∀ s q, s < r → aftG (s : Nat) t l 0 = some q → canK t K q = false := by
    intro r
    induction r with
    | zero => intro _; exact ⟨0, fun s q hs => by omega⟩
    | succ r ih =>
      intro hr
      obtain ⟨K, hK⟩ := ih (by omega)
      cases ha : aftG (r : Nat) t l 0 with
      | none =>
        refine ⟨K, fun s q hs h' => ?_⟩
        by_cases e : s = r
        · subst e; rw [ha] at h'; cases h'
        · exact hK s q (by omega) h'
      | some q0 =>
        obtain ⟨k, hk⟩ := hno r q0 (by omega) ha
        refine ⟨max K k, fun s q hs h' => ?_⟩
        by_cases e : s = r
        · subst e; rw [ha] at h'; cases h'
          cases hc : canK t (max K k) q0 with
          | false => rfl
          | true => have := canK_le (show k ≤ max K k by omega) hc; rw [hk] at this; cases this
        · have := hK s q (by omega) h'
          cases hc : canK t (max K k) q with
          | false => rfl
          | true => have := canK_le (show K ≤ max K k by omega) hc; simp_all
  obtain ⟨K, hK⟩ := key t.length (Nat.le_refl _)
  obtain ⟨s, hs, q, ha, hq⟩ := canK_succ.1 (h (K + 1))
  rw [hK s q hs ha] at hq; cases hq
theorem stpB_ever {t l : List Int} (ht : ok8 t = true) (h4 : t.length ≤ 4) (hc : canB t = true) (hv : val t l) (he : Ever t l) :
    ∃ s q, stpB (everB t) t l t.length = some (s, q) ∧ s < t.length ∧ aftG (s : Nat) t l 0 = some q ∧ val t q ∧ Ever t q := by
  have h1 : ∀ y ∈ t, 1 ≤ y := fun y hy => (ok8_iff.1 ht y hy).1
  obtain ⟨s, q, hs, ha, hq⟩ := ever_step he
  obtain ⟨⟨s', q'⟩, hp⟩ := stpB_ex hs ha ((everB_iff ht h4 (aft_val hv h1 ha) hc).2 hq) (r := t.length) (Nat.le_refl _) (by omega)
  obtain ⟨a, b, c⟩ := stpB_some (Nat.le_refl _) hp
  exact ⟨s', q', hp, a, b, aft_val hv h1 b, (everB_iff ht h4 (aft_val hv h1 b) hc).1 c⟩
/-- The first walk. -/
def walkB (t : List Int) : Nat → List Int → List Int
  | 0, _ => []
  | n + 1, l => match stpB (everB t) t l t.length with
    | some (s, q) => (s : Int) :: walkB t n q
    | none => []
theorem walkB_len (t : List Int) : ∀ (n : Nat) (l : List Int), (walkB t n l).length ≤ n
  | 0, l => by simp [walkB]
  | n + 1, l => by
    simp only [walkB]
    split
    · rename_i s q h; have := walkB_len t n q; simp; exact this
    · simp
def walkV (t : List Int) (n : Int) : AV := if chk t = 0 then (if within 0 n 60 = true then (if canB t = true then .tup [.il (ints (walkB t n.toNat t)) (walkB t n.toNat t).length false, vI 0] else .tup [.il [] 0 false, vI 12]) else .tup [.il [] 0 false, vI 1]) else .tup [.il [] 0 false, vI (chk t)]
@[simp] theorem ow_len (id : Nat) (acc : List Int) : effLenSl (ow id acc) = effLenSl (ow id acc) := rfl

def s33 : Sp := spT 33 [.l, .i] fun (t : List Int) (n : Int) => res (small t) (walkV t n)
@[simp] theorem s33_g : s33.g = 33 := rfl
@[simp] theorem s33_f : s33.f = (spT 33 [.l, .i] fun (t : List Int) (n : Int) => res (small t) (walkV t n)).f := rfl
theorem s33_ok : s33.ok Try.prog := by
  apply spT_ok
  simp only [OkT, Ty.all, List.nil_append, List.cons_append]
  intro (t : List Int) ut (n : Int)
  apply okT_res; intro hst
  refine P33.rz (ss := [s24, s56, s57, s61, s69]) ⟨s24_ok, s56_ok, s57_ok, s61_ok, s69_ok, trivial⟩ (by simp) fun Q hQ => ?_
  delta p33 p33_r0 p33_r1 p33_r2 p33_r3 p33_r4 p33_r5 p33_r6 p33_r7 p33_r8 p33_r9 p33_r10
  by_cases hc : chk t = 0
  case neg =>
    simp (disch := omega) [oLt, oLe, oLtN, oLeN, nLt, nLe, nLtN, nLeN, hst, hc]
    exact hQ _ _ (.fz [4, 5] _ (.inl rfl) (by simp; rfl) (by simp [walkV, hc]) (by simp [walkV, hc]))
  have hg := chk_g78 hc
  obtain ⟨ht, h4, hne⟩ := chk_facts hc
  cases hw : within 0 n 60 with
  | false =>
    simp (disch := omega) [oLt, oLe, oLtN, oLeN, nLt, nLe, nLtN, nLeN, hst, hc, hw, -within_iff]
    exact hQ _ _ (.fz [4, 5] _ (.inl rfl) (by simp; rfl) (by simp [walkV, hc, hw, -within_iff]) (by simp [walkV, hc, hw, -within_iff]))
  | true =>
    cases hcan : canB t with
    | false =>
      simp (disch := omega) [oLt, oLe, oLtN, oLeN, nLt, nLe, nLtN, nLeN, hst, hc, hw, hg, hcan, -within_iff]
      exact hQ _ _ (.fz [4, 5] _ (.inl rfl) (by simp; rfl) (by simp [walkV, hc, hw, hcan, -within_iff]) (by simp [walkV, hc, hw, hcan, -within_iff]))
    | true =>
      have hn := within_iff.1 hw
      obtain ⟨m, rfl⟩ := Int.eq_ofNat_of_zero_le hn.1
      have hm : m ≤ 60 := by omega
      have ht8 := ok8_iff.1 ht
      have hsm : (aliveF t).1.length ≤ 4096 := by rw [aliveF_len ht h4]; exact stL_len ht h4
      have hev0 := (canB_iff ht h4).1 hcan
      simp (disch := omega) [oLt, oLe, oLtN, oLeN, nLt, nLe, nLtN, nLeN, hst, hc, hw, hg, hcan, avAlive, -within_iff]
      refine XZ_for (fun p : List Int × List Int × Bool => ⟨[(0, .il (ints t) t.length ut), (1, vI m), (7, .il (bls (aliveF t).1) (aliveF t).1.length false), (9, .il (ints p.2.1) p.2.1.length p.2.2), (10, ow 0 p.1)], owh 0 p.1 [], own p.1 0⟩) (fun p => m - p.1.length)
        (fun p => p.1.length ≤ m ∧ val t p.2.1 ∧ Ever t p.2.1 ∧ p.1 ++ walkB t (m - p.1.length) p.2.1 = walkB t m t) ([], t, ut) ⟨by simp, val_self ht8, hev0, by simp⟩ (.to [] (by simp)) ?_
      rintro ⟨acc, l, ul⟩ ⟨hacc, hv, hev, hb⟩ N Q' hN hE
      simp only at hacc hv hev hb ⊢
      have hvB := valB_iff.2 hv
      rcases Nat.lt_or_ge acc.length m with h | h
      · obtain ⟨s, q, e1, e2, e3, e4, e5⟩ := stpB_ever ht h4 hcan hv hev
        obtain ⟨r, hr⟩ : ∃ r, m - acc.length = r + 1 := ⟨m - acc.length - 1, by omega⟩
        rw [hr] at hb
        simp only [walkB, e1] at hb
        have hr' : m - (acc.length + 1) = r := by omega
        have fin : ∀ s', ChgT 0 s' ⟨[(0, .il (ints t) t.length ut), (1, vI m), (7, .il (bls (aliveF t).1) (aliveF t).1.length false), (9, .il (ints q) q.length false), (10, ow 0 (acc ++ [(s : Int)]))], owh 0 (acc ++ [(s : Int)]) [], own (acc ++ [(s : Int)]) 0⟩ → N s' := fun s' hh => hN s' (acc ++ [(s : Int)], q, false) (by simp; omega) ⟨by simp; omega, e4, e5, by simp only [List.length_append, List.length_cons, List.length_nil, Nat.zero_add, hr']; rw [← hb]; simp⟩ hh
        rcases acc with _ | ⟨a0, ar⟩
        · simp only [List.length_nil] at h
          delta p33_l0 p33_r11 p33_r12 p33_r13 p33_r14
          simp (disch := omega) [oLt, oLe, oLtN, oLeN, nLt, nLe, nLtN, nLeN, h, ht, h4, hvB, e1]
          exact fin _ (.tot [10] (by simp))
        · simp only [List.length_cons] at h
          delta p33_l0 p33_r11 p33_r12 p33_r13 p33_r14
          simp (disch := omega) [oLt, oLe, oLtN, oLeN, nLt, nLe, nLtN, nLeN, h, ht, h4, hvB, e1]
          exact fin _ (.tot [10] (by simp))
      · have hm0 : m - acc.length = 0 := by omega
        rw [hm0] at hb
        simp only [walkB, List.append_nil] at hb
        rcases acc with _ | ⟨a0, ar⟩
        · simp only [List.length_nil] at h hacc
          delta p33_l0 p33_r11 p33_r12 p33_r13 p33_r14
          simp (disch := omega) [oLt, oLe, oLtN, oLeN, nLt, nLe, nLtN, nLeN]
          refine hE _ _ _ .refl ?_
          delta p33_r15
          simp (disch := omega) [oLt, oLe, oLtN, oLeN, nLt, nLe, nLtN, nLeN]
          exact hQ _ _ (.fz [4, 5] _ (.inl rfl) (by simp; rfl) (by simp [walkV, hc, hw, hcan, ← hb, -within_iff]) (by simp [walkV, hc, hw, hcan, ← hb, -within_iff]))
        · simp only [List.length_cons] at h hacc
          delta p33_l0 p33_r11 p33_r12 p33_r13 p33_r14
          simp (disch := omega) [oLt, oLe, oLtN, oLeN, nLt, nLe, nLtN, nLeN]
          refine hE _ _ _ .refl ?_
          delta p33_r15
          simp (disch := omega) [oLt, oLe, oLtN, oLeN, nLt, nLe, nLtN, nLeN]
          exact hQ _ _ (.fz [4, 5] _ (.inl rfl) (by simp; rfl) (by simp [walkV, hc, hw, hcan, ← hb, -within_iff]) (by simp [walkV, hc, hw, hcan, ← hb, -within_iff]))
end Go.Sx.Wk
