/- What functions of the walk layer return: the first stretch after which a walk can go on, of the program. No conditions. -/
import Derived.Test.YtmakepdccccmaaaSxJN1toN2
import Derived.Test.YtmakepdccccmaaaSxNL
import Derived.Test.YtmakepdccccmaaaSxJR0toN0
set_option linter.unusedVariables false
set_option linter.unusedSimpArgs false
set_option maxRecDepth 4000
namespace Go.Sx.Wk
open Go Go.Sx Go.Proofs

abbrev Shr := List (List Int × Bool) × List (List Int × Int)
/-- The program's search for the first stretch. -/
def firL (t s : List Int) : Nat → List (List Int × Bool) → List (List Int × Int) → Option ((Int × List Int) × Shr)
  | 0, ev, sh => some ((-1, s), ev, sh)
  | r + 1, ev, sh => match stp t (t.length - (r + 1)) s with
    | none => firL t s r ev sh
    | some q => match goF t 5000 q ev sh with
      | none => none
      | some (true, ev', sh') => some ((((t.length - (r + 1) : Nat) : Int), q), ev', sh')
      | some (false, ev', sh') => firL t s r ev' sh'
theorem unv_any {t : List Int} (ht : ok8 t = true) (h4 : t.length ≤ 4) (ev : List (List Int × Bool)) : unv t ev < 5000 := by
  have := stL_len ht h4
  have := List.countP_le_length (p := fun l => (lk (pad t l) ev).isNone) (l := stL t)
  unfold unv; omega
/-- What a search says, when some is known. -/
theorem goF_inv {t l : List Int} (ht : ok8 t = true) (h4 : t.length ≤ 4) (hc : canB t = true) (hv : val t l) {ev : List (List Int × Bool)} {sh : List (List Int × Int)} (hI : Inv t [] ev sh) :
    ∃ ev' sh', goF t 5000 (pad t l) ev sh = some (everB t l, ev', sh') ∧ Inv t [] ev' sh' := by
  obtain ⟨b, ev', sh', h1, h2, _, h3, h5⟩ := goF_ok ht h4 5000 [] l ev sh hv hI (fun k hk => by simp at hk) (unv_any ht h4 ev)
  have hb : b = everB t l := by
    rw [Bool.eq_iff_iff, everB_iff ht h4 hv hc]
    refine ⟨h3, fun he => ?_⟩
    cases b with
    | true => rfl
    | false =>
      obtain ⟨l', m, e1, e2, e3, e4⟩ := h2.fa _ (h5 rfl)
      have := pad_inj (val_len hv) (val_len e2) e1
      subst this
      have := he (m + 1)
      rw [e4.2] at this; cases this
  subst hb
  exact ⟨ev', sh', h1, h2⟩
def firR (t l : List Int) (o : Option (Nat × List Int)) : Int × List Int := match o with
  | some (s, q) => (s, pad t q)
  | none => (-1, pad t l)
theorem firL_ok {t l : List Int} (ht : ok8 t = true) (h4 : t.length ≤ 4) (hc : canB t = true) (hv : val t l) : ∀ (r : Nat) {ev : List (List Int × Bool)} {sh : List (List Int × Int)}, Inv t [] ev sh →
    ∃ ev' sh', firL t (pad t l) r ev sh = some (firR t l (stpB (everB t) t l r), ev', sh') ∧ Inv t [] ev' sh'
  | 0, ev, sh, hI => ⟨ev, sh, rfl, hI⟩
  | r + 1, ev, sh, hI => by
    simp only [firL, stpB, stp_pad (val_len hv)]
    cases ha : aftG ((t.length - (r + 1) : Nat) : Int) t l 0 with
    | none => simp only [Option.map_none]; exact firL_ok ht h4 hc hv r hI
    | some q =>
      have hvq := aft_val hv (fun y hy => (ok8_iff.1 ht y hy).1) ha
      obtain ⟨ev1, sh1, g1, g2⟩ := goF_inv ht h4 hc hvq hI
      simp only [Option.map_some, g1]
      cases he : everB t q with
      | true => exact ⟨ev1, sh1, rfl, g2⟩
      | false => exact firL_ok ht h4 hc hv r g2
def G68 (t b : List Int) (ev : List (List Int × Bool)) (sh : List (List Int × Int)) (rest : List AV) : Option (AV × List (List Int × Bool) × List (List Int × Int)) :=
  match rest with
  | [.agg c] => match unints c with
    | some p => if (decide (t.length ≤ 4) && stOkB p) = true then (match firL t p t.length ev sh with
      | some ((x, q), ev', sh') => some (.tup [vI x, .agg (ints q)], ev', sh')
      | none => none) else none
    | none => none
  | _ => none
def s68 : Sp := spS 68 G68
@[simp] theorem s68_g : s68.g = 68 := rfl
@[simp] theorem s68_f : s68.f = (spS 68 G68).f := rfl
set_option maxHeartbeats 1000000 in
theorem s68_ok : s68.ok Try.prog := by
  apply spS_ok
  intro t u b0 b1 b2 b3 ev sh rest r ev' sh' hF
  unfold G68 at hF
  split at hF
  · split at hF
    · rename_i c p hp
      split at hF
      · rename_i hg
        simp only [Bool.and_eq_true, decide_eq_true_eq] at hg
        obtain ⟨h4, hs⟩ := hg
        split at hF
        · rename_i x q ev1 sh1 hG
          cases hF
          rw [unints_inv hp]
          have hs' := hs
          simp only [stOkB, Bool.and_eq_true, decide_eq_true_eq] at hs'
          have hp4 := hs'.1
          have hpt : p.take 4 = p := List.take_of_length_le (by omega)
          refine P68.rz (ss := [s55, s77]) ⟨s55_ok, s77_ok, trivial⟩ (by simp) fun Q hQ => ?_
          delta p68 p68_r0 p68_r1
          simp (disch := omega) [oLt, oLe, oLtN, oLeN, nLt, nLe, nLtN, nLeN, shp, hp4, hpt]
          let H : List (List Int × Bool) → List (List Int × Int) → HL := fun ev sh => [(0, .cells [.il (ints t) t.length u, vI b0, vI b1, vI b2, vI b3, .map 1, .map 2]), (1, .map (mE ev)), (2, .map (mI sh)), (3, .cells (ints p)), (4, .cells [vI 0, vI 0, vI 0, vI 0])]
          refine XZ_for (fun q : Nat × List (List Int × Bool) × List (List Int × Int) => ⟨[(0, .ptr 0 0), (3, .ptr 3 0), (5, .ptr 4 0), (13, vI t.length), (14, vI ((t.length - q.1 : Nat) : Int))], H q.2.1 q.2.2, 5⟩) (fun q => q.1)
            (fun w => w.1 ≤ t.length ∧ firL t p w.1 w.2.1 w.2.2 = some ((x, q), ev', sh')) (t.length, ev, sh) ⟨by simp, hG⟩ (.tot [3, 5] (by simp [H])) ?_
          clear hG
          rintro ⟨r, ev1, sh1⟩ ⟨hr, hG⟩ N Q' hN hE
          simp only at hr hG ⊢
          cases r with
          | zero =>
            simp only [firL, Option.some.injEq, Prod.mk.injEq] at hG
            obtain ⟨⟨rfl, rfl⟩, rfl, rfl⟩ := hG
            delta p68_l0 p68_r2 p68_r3 p68_r4 p68_r5 p68_r6 p68_r7
            simp (disch := omega) [oLt, oLe, oLtN, oLeN, nLt, nLe, nLtN, nLeN, H]
            refine hE _ _ _ .refl ?_
            delta p68_r8
            simp (disch := omega) [oLt, oLe, oLtN, oLeN, nLt, nLe, nLtN, nLeN, hp4, hpt]
            exact hQ _ _ (.same (.inl rfl) (by simp [hp4, hpt]) (by simp) rfl rfl (by simp [shp]))
          | succ r =>
            simp only [firL] at hG
            have hi : t.length - (r + 1) < t.length := by omega
            have hi2 : ((t.length - r : Nat) : Int) = ((t.length - (r + 1) : Nat) : Int) + 1 := by omega
            have hi3 : t.length - (r + 1) ≤ 3 := by omega
            generalize t.length - (r + 1) = i at *
            have h77 : G77 t [b0, b1, b2, b3] ev1 sh1 [.agg (ints p), vI i] = some (avSt (stp t i p), ev1, sh1) := by simp [G77, h4, hs, hi]
            cases ho : stp t i p with
            | none =>
              simp only [ho] at hG
              rw [ho] at h77
              delta p68_l0 p68_r2 p68_r3 p68_r4 p68_r5 p68_r6 p68_r7
              simp (disch := omega) [oLt, oLe, oLtN, oLeN, nLt, nLe, nLtN, nLeN, H, hp4, hpt, h77, avSt]
              exact hN _ (r, ev1, sh1) (by simp) ⟨by simp only; omega, hG⟩ (.tot [3, 5] (by simp [H, hi2]))
            | some q' =>
              have hq4 := stp_len h4 hp4 ho
              have hqt : q'.take 4 = q' := List.take_of_length_le (by omega)
              simp only [ho] at hG
              rw [ho] at h77
              cases hrec : goF t 5000 q' ev1 sh1 with
              | none => simp [hrec] at hG
              | some res =>
                obtain ⟨b', ev2, sh2⟩ := res
                simp only [hrec] at hG
                have h55 : G55 5000 t [b0, b1, b2, b3] ev1 sh1 [.agg (ints q')] = some (vB b', ev2, sh2) := by simp [G55, hrec]
                cases b' with
                | true =>
                  simp only [Option.some.injEq, Prod.mk.injEq] at hG
                  obtain ⟨⟨rfl, rfl⟩, rfl, rfl⟩ := hG
                  delta p68_l0 p68_r2 p68_r3 p68_r4 p68_r5 p68_r6 p68_r7
                  simp (disch := omega) [oLt, oLe, oLtN, oLeN, nLt, nLe, nLtN, nLeN, H, hp4, hpt, h77, avSt, h55, hq4, hqt]
                  exact hE _ _ _ .refl (hQ _ _ (.same (.inl rfl) (by simp [hq4, hqt]) (by simp) rfl rfl (by simp [shp])))
                | false =>
                  simp only at hG
                  delta p68_l0 p68_r2 p68_r3 p68_r4 p68_r5 p68_r6 p68_r7
                  simp (disch := omega) [oLt, oLe, oLtN, oLeN, nLt, nLe, nLtN, nLeN, H, hp4, hpt, h77, avSt, h55, hq4, hqt]
                  exact hN _ (r, ev2, sh2) (by simp) ⟨by simp only; omega, hG⟩ (.tot [3, 5] (by simp [H, hi2]))
        · cases hF
      · cases hF
    · cases hF
  · cases hF
end Go.Sx.Wk
set_option maxRecDepth 4000
namespace Go.Sx.Wk
open Go Go.Sx Go.Proofs

def s32 : Sp := spT 32 [.l, .i] fun (t : List Int) (n : Int) => res (small t) (walkV t n)
@[simp] theorem s32_g : s32.g = 32 := rfl
@[simp] theorem s32_f : s32.f = (spT 32 [.l, .i] fun (t : List Int) (n : Int) => res (small t) (walkV t n)).f := rfl
set_option maxHeartbeats 2000000 in
theorem s32_ok : s32.ok Try.prog := by
  apply spT_ok
  simp only [OkT, Ty.all, List.nil_append, List.cons_append]
  intro (t : List Int) ut (n : Int)
  apply okT_res; intro hst
  refine P32.rz (ss := [s23, s54, s55, s60, s68]) ⟨s23_ok, s54_ok, s55_ok, s60_ok, s68_ok, trivial⟩ (by simp) fun Q hQ => ?_
  delta p32 p32_r0 p32_r1 p32_r2 p32_r3 p32_r4 p32_r5 p32_r6 p32_r7 p32_r8 p32_r9 p32_r10 p32_r11
  by_cases hc : chk t = 0
  case neg =>
    simp (disch := omega) [oLt, oLe, oLtN, oLeN, nLt, nLe, nLtN, nLeN, hst, hc]
    exact hQ _ _ (.fz [4, 5] _ (.inl rfl) (by simp; rfl) (by simp [walkV, hc]) (by simp [walkV, hc]))
  obtain ⟨ht, h4, hne⟩ := chk_facts hc
  cases hw : within 0 n 60 with
  | false =>
    simp (disch := omega) [oLt, oLe, oLtN, oLeN, nLt, nLe, nLtN, nLeN, hst, hc, hw, -within_iff]
    exact hQ _ _ (.fz [4, 5] _ (.inl rfl) (by simp; rfl) (by simp [walkV, hc, hw, -within_iff]) (by simp [walkV, hc, hw, -within_iff]))
  | true =>
    obtain ⟨ev, sh, h1, h2, h3⟩ := goF_top ht h4
    obtain ⟨a, b, c, d, hp⟩ := pad4 h4
    rw [hp] at h1 h3
    have h55 : G55 5000 t [a, b, c, d] [] [] [.agg [vI a, vI b, vI c, vI d]] = some (vB (canB t), ev, sh) := by simp [G55, h1]
    cases hcan : canB t with
    | false =>
      rw [hcan] at h55
      simp (disch := omega) [oLt, oLe, oLtN, oLeN, nLt, nLe, nLtN, nLeN, hst, hc, hw, h4, hp, shp, h55, -within_iff]
      exact hQ _ _ (.fz [4, 5] _ (.inl rfl) (by simp; rfl) (by simp [walkV, hc, hw, hcan, -within_iff]) (by simp [walkV, hc, hw, hcan, -within_iff]))
    | true =>
      rw [hcan] at h55
      have hn := within_iff.1 hw
      obtain ⟨m, rfl⟩ := Int.eq_ofNat_of_zero_le hn.1
      have hm : m ≤ 60 := by omega
      have ht8 := ok8_iff.1 ht
      have hev0 := (canB_iff ht h4).1 hcan
      simp (disch := omega) [oLt, oLe, oLtN, oLeN, nLt, nLe, nLtN, nLeN, hst, hc, hw, h4, hp, shp, h55, -within_iff]
      refine XZ_for (fun p : List Int × List Int × Shr => ⟨[(7, .ptr 0 0), (8, ow 4 p.1), (9, .ptr 3 0), (35, vI m), (36, vI p.1.length)], owh 4 p.1 [(0, .cells [.il (ints t) t.length false, vI a, vI b, vI c, vI d, .map 1, .map 2]), (1, .map (mE p.2.2.1)), (2, .map (mI p.2.2.2)), (3, .cells (ints (pad t p.2.1)))], own p.1 4⟩) (fun p => m - p.1.length)
        (fun p => p.1.length ≤ m ∧ val t p.2.1 ∧ Ever t p.2.1 ∧ Inv t [] p.2.2.1 p.2.2.2 ∧ p.1 ++ walkB t (m - p.1.length) p.2.1 = walkB t m t) ([], t, ev, sh) ⟨by simp, val_self ht8, hev0, h2, by simp⟩ (.to [11, 12, 13, 26] (by simp [hp])) ?_
      clear h2
      rintro ⟨acc, l, ev, sh⟩ ⟨hacc, hv, hev, hI, hb⟩ N Q' hN hE
      simp only at hacc hv hev hI hb ⊢
      have hok := stOk_pad ht h4 hv
      obtain ⟨ev', sh', f1, f2⟩ := firL_ok ht h4 hcan hv t.length hI
      obtain ⟨p0, p1, p2, p3, hpl⟩ := list4 (pad_len (val_len hv) h4)
      rcases Nat.lt_or_ge acc.length m with h | h
      · obtain ⟨s, q, e1, e2, e3, e4, e5⟩ := stpB_ever ht h4 hcan hv hev
        obtain ⟨q0, q1, q2, q3, hql⟩ := list4 (pad_len (val_len e4) h4)
        rw [e1] at f1
        simp only [firR, hpl, hql] at f1 hok
        have h68 : G68 t [a, b, c, d] ev sh [.agg [vI p0, vI p1, vI p2, vI p3]] = some (.tup [vI s, .agg [vI q0, vI q1, vI q2, vI q3]], ev', sh') := by
          simp [G68, h4, hok, f1]
        obtain ⟨r, hr⟩ : ∃ r, m - acc.length = r + 1 := ⟨m - acc.length - 1, by omega⟩
        rw [hr] at hb
        simp only [walkB, e1] at hb
        have hr' : m - (acc.length + 1) = r := by omega
        have fin : ∀ s', ChgT 0 s' ⟨[(7, .ptr 0 0), (8, ow 4 (acc ++ [(s : Int)])), (9, .ptr 3 0), (35, vI m), (36, vI ((acc ++ [(s : Int)]).length : Nat))], owh 4 (acc ++ [(s : Int)]) [(0, .cells [.il (ints t) t.length false, vI a, vI b, vI c, vI d, .map 1, .map 2]), (1, .map (mE ev')), (2, .map (mI sh')), (3, .cells (ints (pad t q)))], own (acc ++ [(s : Int)]) 4⟩ → N s' := fun s' hh => hN s' (acc ++ [(s : Int)], q, ev', sh') (by simp; omega) ⟨by simp; omega, e4, e5, f2, by simp only [List.length_append, List.length_cons, List.length_nil, Nat.zero_add, hr']; rw [← hb]; simp⟩ hh
        simp only [hpl, hql] at fin ⊢
        rcases acc with _ | ⟨a0, ar⟩
        · simp only [List.length_nil] at h
          delta p32_l0 p32_r12 p32_r13 p32_r14 p32_r15
          simp (disch := omega) [oLt, oLe, oLtN, oLeN, nLt, nLe, nLtN, nLeN, h, h68]
          exact fin _ (.to [0, 1, 2, 3, 16] (by simp))
        · simp only [List.length_cons] at h
          delta p32_l0 p32_r12 p32_r13 p32_r14 p32_r15
          simp (disch := omega) [oLt, oLe, oLtN, oLeN, nLt, nLe, nLtN, nLeN, h, h68]
          exact fin _ (.to [0, 1, 2, 3, 17] (by simp))
      · have hm0 : m - acc.length = 0 := by omega
        rw [hm0] at hb
        simp only [walkB, List.append_nil] at hb
        rcases acc with _ | ⟨a0, ar⟩
        · simp only [List.length_nil] at h hacc
          delta p32_l0 p32_r12 p32_r13 p32_r14 p32_r15
          simp (disch := omega) [oLt, oLe, oLtN, oLeN, nLt, nLe, nLtN, nLeN]
          refine hE _ _ _ .refl ?_
          delta p32_r16
          simp (disch := omega) [oLt, oLe, oLtN, oLeN, nLt, nLe, nLtN, nLeN]
          exact hQ _ _ (.fz [4, 5] _ (.inl rfl) (by simp; rfl) (by simp [walkV, hc, hw, hcan, ← hb, -within_iff]) (by simp [walkV, hc, hw, hcan, ← hb, -within_iff]))
        · simp only [List.length_cons] at h hacc
          delta p32_l0 p32_r12 p32_r13 p32_r14 p32_r15
          simp (disch := omega) [oLt, oLe, oLtN, oLeN, nLt, nLe, nLtN, nLeN]
          refine hE _ _ _ .refl ?_
          delta p32_r16
          simp (disch := omega) [oLt, oLe, oLtN, oLeN, nLt, nLe, nLtN, nLeN]
          exact hQ _ _ (.fz [4, 5] _ (.inl rfl) (by simp; rfl) (by simp [walkV, hc, hw, hcan, ← hb, -within_iff]) (by simp [walkV, hc, hw, hcan, ← hb, -within_iff]))
end Go.Sx.Wk
set_option maxRecDepth 4000
namespace Go.Sx.Wk
open Go Go.Sx Go.Proofs

def s34 : Sp := spT 34 [.l] fun (t : List Int) => res (small t) (loopV t)
@[simp] theorem s34_g : s34.g = 34 := rfl
@[simp] theorem s34_f : s34.f = (spT 34 [.l] fun (t : List Int) => res (small t) (loopV t)).f := rfl
set_option maxHeartbeats 4000000 in
theorem s34_ok : s34.ok Try.prog := by
  apply spT_ok
  simp only [OkT, Ty.all, List.nil_append, List.cons_append]
  intro (t : List Int) ut
  apply okT_res; intro hst
  refine P34.rz (ss := [s23, s54, s55, s68]) ⟨s23_ok, s54_ok, s55_ok, s68_ok, trivial⟩ (by simp) fun Q hQ => ?_
  delta p34 p34_r0 p34_r1 p34_r2 p34_r3 p34_r4 p34_r5 p34_r6 p34_r7 p34_r8 p34_r9
  by_cases hc : chk t = 0
  case neg =>
    simp (disch := omega) [oLt, oLe, oLtN, oLeN, nLt, nLe, nLtN, nLeN, hst, hc]
    exact hQ _ _ (.fz [2, 3, 4] _ (.inl rfl) (by simp; rfl) (by simp [loopV, hc]) (by simp [loopV, hc]))
  obtain ⟨ht, h4, hne⟩ := chk_facts hc
  obtain ⟨ev, sh, h1, h2, h3⟩ := goF_top ht h4
  obtain ⟨a, b, c, d, hp⟩ := pad4 h4
  rw [hp] at h1 h3
  have h55 : G55 5000 t [a, b, c, d] [] [] [.agg [vI a, vI b, vI c, vI d]] = some (vB (canB t), ev, sh) := by simp [G55, h1]
  cases hcan : canB t with
  | false =>
    rw [hcan] at h55
    simp (disch := omega) [oLt, oLe, oLtN, oLeN, nLt, nLe, nLtN, nLeN, hst, hc, h4, hp, shp, h55]
    exact hQ _ _ (.fz [2, 3, 4] _ (.inl rfl) (by simp; rfl) (by simp [loopV, hc, hcan]) (by simp [loopV, hc, hcan]))
  | true =>
    rw [hcan] at h55
    have ht8 := ok8_iff.1 ht
    have hev0 := (canB_iff ht h4).1 hcan
    obtain ⟨aR, bR, hR⟩ := lp_top ht h4 hcan
    have hval : loopV t = .tup [.il (ints aR) aR.length false, .il (ints bR) bR.length false, vI 0] := by simp [loopV, hc, hcan, hR]
    have hl4 : ∀ {x : List Int}, val t x → (pad t x).length = 4 := fun hv => pad_len (val_len hv) h4
    let H : List Int → List Int → Shr → HL := fun now F w => [(0, .cells [.il (ints t) t.length false, vI a, vI b, vI c, vI d, .map 1, .map 2]), (1, .map (mE w.1)), (2, .map (mI w.2)), (3, .cells (ints now)), (4, .cells (ints F))]
    simp (disch := omega) [oLt, oLe, oLtN, oLeN, nLt, nLe, nLtN, nLeN, hst, hc, h4, hp, shp, h55]
    refine XZ_for (fun p : Nat × List Int × List (List Int) × List Int × Shr × Option Nat => ⟨[(6, .ptr 0 0), (7, ow 5 p.2.1), (8, .ptr 3 0), (9, .ref 4 0 (p.2.2.1.length + 1) 4 p.2.2.2.2.2)], owh 5 p.2.1 (H (pad t p.2.2.2.1) ((p.2.2.1 ++ [p.2.2.2.1]).flatMap (pad t)) p.2.2.2.2.1), own p.2.1 5⟩) (fun p => p.1)
      (fun p => p.2.1.length + p.1 ≤ 5000 ∧ p.2.2.1.length = p.2.1.length ∧ (∀ x ∈ p.2.2.1, val t x) ∧ val t p.2.2.2.1 ∧ Ever t p.2.2.2.1 ∧ Inv t [] p.2.2.2.2.1.1 p.2.2.2.2.1.2 ∧ (p.2.2.2.2.2 = none ∨ p.2.2.2.2.2 = some 1 ∧ p.2.2.1 = []) ∧ lpB t p.1 p.2.1 p.2.2.1 p.2.2.2.1 = some (aR, bR)) (5000, [], [], t, (ev, sh), some 1) ⟨by simp, by simp, by simp, val_self ht8, hev0, h2, by simp, hR⟩ (.to [8, 9, 10, 23, 26] (by simp [H, hp])) ?_
    clear h2
    rintro ⟨f, out, ls, l, ⟨ev, sh⟩, cp⟩ ⟨hf, hll, hvs, hv, hev, hI, hcp, hb⟩ N Q' hN hE
    simp only at hf hll hvs hv hev hI hcp hb ⊢
    rcases f with _ | f
    · simp [lpB] at hb
    have hok := stOk_pad ht h4 hv
    obtain ⟨ev', sh', f1, f2⟩ := firL_ok ht h4 hcan hv t.length hI
    obtain ⟨s, q, e1, e2, e3, e4, e5⟩ := stpB_ever ht h4 hcan hv hev
    rw [e1] at f1
    simp only [firR] at f1
    simp only [lpB, e1] at hb
    have hP4 := hl4 hv
    have hQ4 := hl4 e4
    have hPt : (pad t l).take 4 = pad t l := List.take_of_length_le (by omega)
    have hQt : (pad t q).take 4 = pad t q := List.take_of_length_le (by omega)
    have hQv := val_ints (pad t q)
    have hQk := kS_ok hQ4
    have h68 : G68 t [a, b, c, d] ev sh [.agg (ints (pad t l))] = some (.tup [vI s, .agg (ints (pad t q))], ev', sh') := by
      simp [G68, h4, hok, f1]
    have hvs' : ∀ x ∈ ls ++ [l], val t x := fun x hx => by
      rw [List.mem_append] at hx
      rcases hx with hx | hx
      · exact hvs x hx
      · simp at hx; subst hx; exact hv
    have hFl := flat_len (t := t) (M := ls ++ [l]) (fun x hx => hl4 (hvs' x hx))
    have hFa := fun (k : Nat) (x : List Int) => flat_at (t := t) (x := x) (M := ls ++ [l]) (k := k) (fun x hx => hl4 (hvs' x hx))
    have hFn : (ls ++ [l] ++ [q]).flatMap (pad t) = (ls ++ [l]).flatMap (pad t) ++ pad t q := by simp
    have hlsl : (ls ++ [l]).length = ls.length + 1 := by simp
    rw [hlsl] at hFl
    have inner : ∀ (o0 : Int) (orr : List Int) (cp : Option Nat) (F : List Int), F = (ls ++ [l]).flatMap (pad t) → out ++ [(s : Int)] = o0 :: orr → ∀ (s0 : ST) (Q2 : Exit → ST → Prop),
        ChgT 0 s0 ⟨[(6, .ptr 0 0), (7, .ref 5 0 (orr.length + 1) 1 none), (8, .ptr 3 0), (9, .ref 4 0 (ls.length + 1) 4 cp), (45, .ref 4 0 (ls.length + 1) 4 cp), (46, vI ((ls.length + 1 : Nat) : Int)), (47, vI ((0 : Nat) : Int))], (5, .cells (ints (o0 :: orr))) :: H (pad t q) F (ev', sh'), 6⟩ →
        (posL q (ls ++ [l]) 0 = none → Q2 (.exit 2) ⟨[(6, .ptr 0 0), (7, .ref 5 0 (orr.length + 1) 1 none), (8, .ptr 3 0), (9, .ref 4 0 (ls.length + 1) 4 cp)], (5, .cells (ints (o0 :: orr))) :: H (pad t q) F (ev', sh'), 6⟩) →
        (∀ k, posL q (ls ++ [l]) 0 = some k → Q2 (.exit 0) ⟨[(2, .ref 0 0 k 1 (some k)), (3, .ref 0 k (orr.length + 1 - k) 1 none)], [(0, .cells (ints (o0 :: orr)))], 1⟩) → XZ (rZ (spc [s23, s54, s55, s68])) 0 (.loop p34_l0) s0 Q2 := by
      intro o0 orr cp F hF ho s0 Q2 hs0 hq1 hq2
      rw [← hF] at hFl hFa
      have hol : orr.length + 1 = out.length + 1 := by have := congrArg List.length ho; simpa using this.symm
      refine XZ_for (fun k : Nat => ⟨[(6, .ptr 0 0), (7, .ref 5 0 (orr.length + 1) 1 none), (8, .ptr 3 0), (9, .ref 4 0 (ls.length + 1) 4 cp), (45, .ref 4 0 (ls.length + 1) 4 cp), (46, vI ((ls.length + 1 : Nat) : Int)), (47, vI k)], (5, .cells (ints (o0 :: orr))) :: H (pad t q) F (ev', sh'), 6⟩) (fun k => (ls ++ [l]).length - k) (fun k => k ≤ (ls ++ [l]).length ∧ posL q ((ls ++ [l]).drop k) k = posL q (ls ++ [l]) 0) 0 ⟨by simp, by simp⟩ hs0 ?_
      rintro k ⟨hk, hpp⟩ N2 Q3 hN2 hE2
      rcases Nat.lt_or_ge k (ls ++ [l]).length with h | h
      · obtain ⟨x, rr, d1, d2, d3, d4, d5⟩ := drop_split h
        have hvx := hvs' x d5
        have hX4 := hl4 hvx
        have hXt : (pad t x).take 4 = pad t x := List.take_of_length_le (by omega)
        have hXv := val_ints (pad t x)
        have hXk := kS_ok hX4
        have hXa := hFa k x d2
        have hk' : k < ls.length + 1 := by omega
        have hk4 : k * 4 + 4 ≤ (ls.length + 1) * 4 := by omega
        have hk'' : (k : Int) < ls.length + 1 := by omega
        rw [d1] at hpp
        simp only [posL] at hpp
        by_cases hx : x = q
        · subst hx
          rw [if_pos rfl] at hpp
          have hk2 : k ≤ orr.length + 1 := by omega
          have hk3 : k < orr.length + 1 := by omega
          delta p34_l0 p34_r13 p34_r14 p34_r15 p34_r16 p34_r17
          simp (disch := omega) [oLt, oLe, oLtN, oLeN, nLt, nLe, nLtN, nLeN, H, hk', hk'', hFl, hk4, hXa, hX4, hXt, hXv, hXk, effAeq, kEq_kS]
          exact hE2 _ _ _ (.tot [2] (by simp)) (hq2 k hpp.symm)
        · rw [if_neg hx] at hpp
          have hne : ¬ pad t x = pad t q := fun e => hx (pad_inj (val_len hvx) (val_len e4) e)
          delta p34_l0 p34_r13 p34_r14 p34_r15 p34_r16 p34_r17
          simp (disch := omega) [oLt, oLe, oLtN, oLeN, nLt, nLe, nLtN, nLeN, H, hk', hk'', hFl, hk4, hXa, hX4, hXt, hXv, hXk, hQ4, hQt, hQv, hQk, effAeq, kEq_kS, hne]
          refine hN2 _ (k + 1) (by omega) ⟨h, by rw [d4]; exact hpp⟩ (.to [0, 1, 2, 3, 4, 5] (by simp [H]))
      · have h' : ¬ k < ls.length + 1 := by omega
        have h'' : ¬ (k : Int) < ls.length + 1 := by omega
        rw [List.drop_eq_nil_of_le h] at hpp
        delta p34_l0 p34_r13 p34_r14 p34_r15 p34_r16 p34_r17
        simp (disch := omega) [oLt, oLe, oLtN, oLeN, nLt, nLe, nLtN, nLeN, h', h'']
        exact hE2 _ _ _ (.to [0, 1, 2, 3, 4, 5] (by simp [H])) (hq1 hpp.symm)
    have fin : posL q (ls ++ [l]) 0 = none → ∀ s', ChgT 0 s' ⟨[(6, .ptr 0 0), (7, ow 5 (out ++ [(s : Int)])), (8, .ptr 3 0), (9, .ref 4 0 (ls.length + 1 + 1) 4 none)], owh 5 (out ++ [(s : Int)]) (H (pad t q) ((ls ++ [l]).flatMap (pad t) ++ pad t q) (ev', sh')), own (out ++ [(s : Int)]) 5⟩ → N s' := fun hpp s' hh => by
      rw [hpp] at hb
      refine hN s' (f, out ++ [(s : Int)], ls ++ [l], q, (ev', sh'), none) (by simp) ⟨by simp; omega, by simp [hll], hvs', e4, e5, f2, .inl rfl, hb⟩ ?_
      simp only [hFn, hlsl]; exact hh
    have done' : ∀ (o0 : Int) (orr : List Int) (k : Nat), out ++ [(s : Int)] = o0 :: orr → posL q (ls ++ [l]) 0 = some k → (o0 :: orr).take k = aR ∧ (o0 :: orr).drop k = bR ∧ k ≤ orr.length := fun o0 orr k ho hk => by
      have := posL_lt hk
      have hol : orr.length + 1 = out.length + 1 := by have := congrArg List.length ho; simpa using this.symm
      rw [hk] at hb
      simp only [Option.some.injEq, Prod.mk.injEq] at hb
      rw [ho] at hb
      exact ⟨hb.1, hb.2, by omega⟩
    generalize hF : (ls ++ [l]).flatMap (pad t) = F at *
    have hFF := hF.symm
    have hFt : F.take ((ls.length + 1) * 4) = F := List.take_of_length_le (by omega)
    have hsp : splice (ints (pad t l)) 0 (ints (pad t q)) = ints (pad t q) := by
      simp [splice, hQ4, List.drop_eq_nil_of_le, hP4]
    have bad : ∀ (o0 : Int) (orr : List Int) (k : Nat), out ++ [(s : Int)] = o0 :: orr → posL q (ls ++ [l]) 0 = some k → ∀ nx n C, n = orr.length + 1 → C = ints (o0 :: orr) → EndsP 0 [SRes.tmp 2, SRes.tmp 3, SRes.tmp 4] (loopV t) 0 [] .ret ⟨[(2, .ref 0 0 k 1 (some k)), (3, .ref 0 k (n - k) 1 none), (4, vI 0)], [(0, .cells C)], nx⟩ := fun o0 orr k ho hk nx n C hn hC => by
      subst hn hC
      obtain ⟨hb1, hb2, hb3⟩ := done' o0 orr k ho hk
      have htk : List.take k (AV.v (.int .i64 o0) :: ints orr) = ints (List.take k (o0 :: orr)) := ints_take' (o0 :: orr) k
      have hdk : List.take (orr.length + 1 - k) (List.drop k (AV.v (.int .i64 o0) :: ints orr)) = ints (List.drop k (o0 :: orr)) := by
        have := ints_drop' (o0 :: orr) k
        simp only [ints, List.map_cons] at this ⊢
        rw [this, List.take_of_length_le (by simp)]
      have hk2 : k ≤ orr.length + 1 := by omega
      have hk2' : k + (orr.length + 1 - k) ≤ orr.length + 1 := by omega
      have hkm : min k (orr.length + 1) = k := Nat.min_eq_left hk2
      exact .fz [2, 3, 4] _ (.inl rfl) (by simp [htk, hdk, hk2, hk2']; rfl) (by simp [hval, ← hb1, ← hb2, hkm]) (by simp [hval])
    rcases out with _ | ⟨o0, orr⟩
    · have hls : ls = [] := by simpa using hll
      subst hls
      have hF4 : F.take 4 = F := by simpa using hFt
      delta p34_l1 p34_r10 p34_r11 p34_r12
      simp (disch := omega) [oLt, oLe, oLtN, oLeN, nLt, nLe, nLtN, nLeN, H, hP4, hPt, h68, hQ4, hQt]
      refine inner s [] cp F rfl rfl _ _ (.to [0, 1, 2, 3, 4, 16] (by simp [H, hsp])) (fun hpp => ?_) (fun k hk => ?_)
      · delta p34_r18
        rcases hcp with rfl | ⟨rfl, -⟩
        · simp (disch := omega) [oLt, oLe, oLtN, oLeN, nLt, nLe, nLtN, nLeN, H, hQ4, hQt, hFl, hF4]
          exact fin hpp _ (.to [0, 1, 2, 3, 9, 5] (by simp [H]))
        · simp (disch := omega) [oLt, oLe, oLtN, oLeN, nLt, nLe, nLtN, nLeN, H, hQ4, hQt, hFl, hF4]
          exact fin hpp _ (.to [0, 1, 2, 3, 9, 5] (by simp [H]))
      · refine hE _ _ _ .refl ?_
        delta p34_r19
        simp (disch := omega) [oLt, oLe, oLtN, oLeN, nLt, nLe, nLtN, nLeN]
        exact hQ _ _ (bad s [] k rfl hk _ _ _ (by simp) (by simp))
    · rcases ls with _ | ⟨l0, lr⟩
      · simp at hll
      have hcp' : cp = none := by rcases hcp with h | h; exact h; simp at h
      subst hcp'
      simp only [List.length_cons] at hf hll hFl hFt
      delta p34_l1 p34_r10 p34_r11 p34_r12
      simp (disch := omega) [oLt, oLe, oLtN, oLeN, nLt, nLe, nLtN, nLeN, H, hP4, hPt, h68, hQ4, hQt]
      refine inner o0 (orr ++ [(s : Int)]) none F rfl rfl _ _ (.to [0, 1, 2, 3, 4, 17] (by simp [H, hsp])) (fun hpp => ?_) (fun k hk => ?_)
      · delta p34_r18
        simp (disch := omega) [oLt, oLe, oLtN, oLeN, nLt, nLe, nLtN, nLeN, H, hQ4, hQt, hFl, hFt]
        exact fin hpp _ (.to [0, 1, 2, 3, 9, 5] (by simp [H]))
      · refine hE _ _ _ .refl ?_
        delta p34_r19
        simp (disch := omega) [oLt, oLe, oLtN, oLeN, nLt, nLe, nLtN, nLeN]
        exact hQ _ _ (bad o0 (orr ++ [(s : Int)]) k rfl hk _ _ _ (by simp) (by simp))
end Go.Sx.Wk
