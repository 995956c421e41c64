/- What the laws of the lock layer have in common: works, an order made by numbers is checked. No conditions. -/
import Derived.Test.YteoiebmbgbgpgaaSxJMAtoMFz
import Derived.Test.YteoiebmbgbgpgaaSxJPLbtoLEw
import Derived.Test.YteoiebmbgbgpgaaSxJLVtoMV
import Derived.Test.YteoiebmbgbgpgaaSxJLAtoLU
import Derived.KernelRfl
set_option linter.unusedVariables false
set_option linter.unusedSimpArgs false
set_option maxRecDepth 4000
namespace Go.Sx.Lk
open Go Go.Sx Go.Proofs
section
def s15 : Sp := spT 15 [] (res true (vB true))
@[simp] theorem s15_g : s15.g = 15 := rfl
@[simp] theorem s15_f : s15.f = (spT 15 [] (res true (vB true))).f := rfl
theorem s15_ok : s15.ok Try.prog := by
  apply spT_ok
  simp only [OkT]
  intro r h' k' hh
  obtain ⟨_, rfl, rfl, rfl⟩ := res_inv hh
  exact k100_ok
theorem chkN_of {n : Nat} : ∀ {l : List Nat}, l.Nodup → (∀ x ∈ l, x < n) → chkN n l = true
  | [], _, _ => rfl
  | x :: r, hd, hb => by
    simp only [chkN, Bool.and_eq_true, Bool.not_eq_true']
    refine ⟨⟨blt_iff.2 (hb x (by simp)), ?_⟩, chkN_of (List.nodup_cons.1 hd).2 fun y hy => hb y (by simp [hy])⟩
    cases h : memN x r
    · rfl
    · exact absurd (memN_iff.1 h) (List.nodup_cons.1 hd).1
end
section
set_option maxHeartbeats 4000000
theorem chk_of_nodup {l : List Int} (h0 : 0 < l.length) (h7 : l.length ≤ 7) (hn : l.Nodup) (hb : ∀ x ∈ l, 0 ≤ x ∧ x < l.length) : chkF l = 0 := by
  have hz : l = zs (l.map Int.toNat) := by
    rw [zs, List.map_map]
    exact (List.map_id l).symm.trans (List.map_congr_left fun x hx => (Int.toNat_of_nonneg (hb x hx).1).symm)
  have hm : (l.map Int.toNat).Nodup := by
    refine List.pairwise_map.2 (hn.imp_of_mem fun {a b} ha hb' hab e => hab ?_)
    have h1 := (hb a ha).1
    have h2 := (hb b hb').1
    omega
  rw [hz]
  refine chkN_F (by simpa using h0) (by simpa using h7) (chkN_of hm fun x hx => ?_)
  obtain ⟨y, hy, rfl⟩ := List.mem_map.1 hx
  have := hb y hy
  simp; omega
/-! ### The count -/
def ctF (e : Int) (n : Nat) : Nat → Nat → Nat → List Int × Nat → List Int × Nat
  | 0, _, _, s => s
  | f + 1, k, met, s => if k = n then (s.1, if (((pssF s.1).getD 0 : Nat) : Int) ≤ e then s.2 + 1 else s.2)
    else (List.range' 0 n).foldl (fun s x => if met.testBit x = true then s else ctF e n f (k + 1) (met ||| 2 ^ x) (s.1.set k (x : Int), s.2)) s
structure St79 (n k met : Nat) (O : List Int) : Prop where
  len : O.length = n
  kle : k ≤ n
  n0 : 0 < n
  n7 : n ≤ 7
  m : met < 128
  bit : ∀ x : Nat, met.testBit x = true ↔ (x : Int) ∈ O.take k
  nd : (O.take k).Nodup
  b : ∀ v ∈ O.take k, 0 ≤ v ∧ v < n
theorem take_succ_set {O : List Int} {k : Nat} {x : Int} (h : k < O.length) : (O.set k x).take (k + 1) = O.take k ++ [x] := by
  rw [List.take_succ_eq_append_getElem (by simpa using h)]
  rw [List.take_set_of_le (Nat.le_refl _), List.getElem_set_self]
theorem St79.next {n k met x : Nat} {O : List Int} (h : St79 n k met O) (hk : k < n) (hx : x < n) (hb : met.testBit x = false) : St79 n (k + 1) (met ||| 2 ^ x) (O.set k (x : Int)) := by
  have hl := h.len
  have hn := h.n7
  have ht := take_succ_set (O := O) (k := k) (x := (x : Int)) (by omega)
  have hm : ¬ (x : Int) ∈ O.take k := fun hm => by rw [(h.bit x).2 hm] at hb; cases hb
  refine ⟨by simp [hl], by omega, h.n0, h.n7, Nat.or_lt_two_pow (n := 7) h.m (Nat.pow_lt_pow_right (by omega) (by omega)), fun y => ?_, ?_, fun v hv => ?_⟩
  · rw [ht, Nat.testBit_or, Nat.testBit_two_pow, Bool.or_eq_true, h.bit y, decide_eq_true_eq, List.mem_append, List.mem_singleton]
    constructor
    · rintro (h1 | h1)
      · exact .inl h1
      · exact .inr (by omega)
    · rintro (h1 | h1)
      · exact .inl h1
      · exact .inr (by omega)
  · rw [ht, List.nodup_append]
    refine ⟨h.nd, by simp, fun a ha b hb' => ?_⟩
    rw [List.mem_singleton.1 hb']
    exact fun e => hm (e ▸ ha)
  · rw [ht] at hv
    rcases List.mem_append.1 hv with hv | hv
    · exact h.b v hv
    · rw [List.mem_singleton.1 hv]; omega
theorem foldl_inv2 {α β : Type} {P : β → Prop} {g : β → α → β} : ∀ (l : List α) (s : β), P s → (∀ s y, y ∈ l → P s → P (g s y)) → P (l.foldl g s)
  | [], s, h, _ => h
  | y :: l, s, h, hg => foldl_inv2 l _ (hg s y (by simp) h) fun s z hz => hg s z (by simp [hz])
theorem ctF_pre (e : Int) (n : Nat) : ∀ (f k met : Nat) (s : List Int × Nat), (ctF e n f k met s).1.length = s.1.length ∧ (ctF e n f k met s).1.take k = s.1.take k
  | 0, k, met, s => ⟨rfl, rfl⟩
  | f + 1, k, met, s => by
    simp only [ctF]
    split
    · exact ⟨rfl, rfl⟩
    · refine foldl_inv2 (P := fun t : List Int × Nat => t.1.length = s.1.length ∧ t.1.take k = s.1.take k) _ _ ⟨rfl, rfl⟩ fun t x _ ht => ?_
      split
      · exact ht
      · have := ctF_pre e n f (k + 1) (met ||| 2 ^ x) (t.1.set k (x : Int), t.2)
        refine ⟨by rw [this.1]; simpa using ht.1, ?_⟩
        have h2 := congrArg (List.take k) this.2
        rw [List.take_take, List.take_take, Nat.min_eq_left (by omega)] at h2
        rw [h2, List.take_set_of_le (Nat.le_refl _)]
        exact ht.2
theorem ctF_le (e : Int) (n : Nat) (hn : n ≤ 7) : ∀ (f k met : Nat) (s : List Int × Nat), (ctF e n f k met s).2 ≤ s.2 + 8 ^ f
  | 0, k, met, s => by simp [ctF]
  | f + 1, k, met, s => by
    simp only [ctF]
    split
    · simp only
      have : 0 < 8 ^ (f + 1) := Nat.pow_pos (by omega)
      split <;> omega
    · have gen : ∀ (xs : List Nat) (t : List Int × Nat), (xs.foldl (fun s x => if met.testBit x = true then s else ctF e n f (k + 1) (met ||| 2 ^ x) (s.1.set k (x : Int), s.2)) t).2 ≤ t.2 + xs.length * 8 ^ f := by
        intro xs
        induction xs with
        | nil => intro t; simp
        | cons x xs ih =>
          intro t
          rw [List.foldl_cons, List.length_cons, Nat.add_mul]
          refine Nat.le_trans (ih _) ?_
          split
          · omega
          · have := ctF_le e n hn f (k + 1) (met ||| 2 ^ x) (t.1.set k (x : Int), t.2)
            simp only at this
            omega
      have := gen (List.range' 0 n) s
      rw [List.length_range'] at this
      have h2 : n * 8 ^ f ≤ 7 * 8 ^ f := Nat.mul_le_mul_right _ hn
      rw [Nat.pow_succ]
      omega
/-! ### The closure -/
def hp79 (b : Nat) (n : Nat) (O : List Int) (e : Int) (c : Nat) : HL := [(b, .cells [vI n]), (b + 1, .cells [.ref (b + 2) 0 n 1 (some n)]), (b + 2, .cells (ints O)), (b + 3, .cells [vI e]), (b + 4, .cells [vI c]), (b + 5, .cells [.fn (.func 79) [] [.ptr b 0, .ptr (b + 1) 0, .ptr (b + 3) 0, .ptr (b + 4) 0, .ptr (b + 5) 0]])]
structure A79 where
  k : Nat
  met : Nat
  n : Nat
  O : List Int
  e : Int
  c : Nat
def pat79 (a : A79) : List AV × HL × Nat := ([vI a.k, vQ a.met, .ptr 0 0, .ptr 1 0, .ptr 3 0, .ptr 4 0, .ptr 5 0], hp79 0 a.n a.O a.e a.c, 6)
def out79 (f : Nat) (a : A79) : AV × HL × Nat := (.tup [], hp79 0 a.n (ctF a.e a.n f a.k a.met (a.O, a.c)).1 a.e (ctF a.e a.n f a.k a.met (a.O, a.c)).2, 6)
structure Ok79 (f : Nat) (a : A79) : Prop where
  st : St79 a.n a.k a.met a.O
  fu : a.n - a.k + 1 ≤ f
  cb : a.c + 8 ^ f ≤ 2 ^ 40
theorem pat79_inj (f : Nat) (a b : A79) (h : pat79 a = pat79 b) : out79 f a = out79 f b := by
  obtain ⟨k, met, n, O, e, c⟩ := a
  obtain ⟨k', met', n', O', e', c'⟩ := b
  simp only [pat79, hp79, Prod.mk.injEq, List.cons.injEq, AV.v.injEq, Value.int.injEq, Blk.cells.injEq, true_and, and_true] at h
  obtain ⟨⟨h1, h2⟩, h3, h4, h5, h6, h7⟩ := h
  have e1 : k = k' := by omega
  have e2 : met = met' := by omega
  have e3 : n = n' := by omega
  have e5 := ints_inj h5
  have e7 : c = c' := by omega
  subst e1 e2 e3 e5 h6 e7
  rfl
noncomputable def f79 (f : Nat) := famF (Ok79 f) pat79 (out79 f)
noncomputable def s79 (f : Nat) : Sp := ⟨79, f79 f⟩
@[simp] theorem s79_g (f : Nat) : (s79 f).g = 79 := rfl
@[simp] theorem s79_f (f : Nat) : (s79 f).f = f79 f := rfl
theorem f79_at {f k met n : Nat} {O : List Int} {e : Int} {c : Nat} (h : Ok79 f ⟨k, met, n, O, e, c⟩) : f79 f [vI k, vQ met, .ptr 0 0, .ptr 1 0, .ptr 3 0, .ptr 4 0, .ptr 5 0] (hp79 0 n O e c) 6 = some (.tup [], hp79 0 n (ctF e n f k met (O, c)).1 e (ctF e n f k met (O, c)).2, 6) :=
  famF_at (pat79_inj f) ⟨k, met, n, O, e, c⟩ h rfl
def mk79 (k met n : Nat) (O : List Int) (e : Int) (c x : Nat) : ST := ⟨[(0, vI k), (1, vQ met), (3, .ptr 1 0), (6, .ptr 5 0), (19, vI n), (20, vI x)], hp79 0 n O e c, 6⟩
theorem s79_ok : ∀ f, (s79 f).ok Try.prog
  | 0 => famF_ok fun a h => absurd h.fu (by omega)
  | f + 1 => by
    refine famF_ok ?_
    rintro ⟨k, met, n, O, e, c⟩ ⟨hst, hf, hc⟩
    simp only at hst hf hc
    simp only [pat79, out79, hp_eq]
    refine P79.rz (ss := [s79 f, s76]) ⟨s79_ok f, s76_ok, trivial⟩ (by simp) fun Q hQ => ?_
    have hn7 := hst.n7
    have hOl := hst.len
    have hpw : 8 ^ (f + 1) = 8 ^ f * 8 := Nat.pow_succ ..
    have h40 : (2 : Nat) ^ 40 = 1099511627776 := by decide
    have hp0 : 0 < 8 ^ f := Nat.pow_pos (by omega)
    simp only [ctF] at hQ
    by_cases hk : k = n
    · subst hk
      rw [if_pos rfl] at hQ
      have htk : O.take k = O := List.take_of_length_le (by omega)
      have hb := hst.b
      have hnd := hst.nd
      rw [htk] at hb hnd
      have hck : chkF O = 0 := chk_of_nodup (by have := hst.n0; omega) (by omega) hnd (fun x hx => by rw [hOl]; exact hb x hx)
      obtain ⟨m, hm1, hm2, -⟩ := pss_facts hck
      have hsO := chkF_sml hck
      have hit : (ints O).take k = ints O := List.take_of_length_le (by simp; omega)
      have hgd : (pssF O).getD 0 = m := by rw [hm1]; rfl
      simp only [hgd] at hQ
      by_cases hme : (m : Int) ≤ e
      · rw [if_pos hme] at hQ
        simp only [hp79] at hQ ⊢
        delta p79 p79_r0 p79_r1 p79_r2 p79_r3
        simp (disch := omega) [oLt, oLe, oLtN, oLeN, nLt, nLe, nLtN, nLeN, hit, hOl, hsO, hm1, hme]
        exact hQ _ _ (EndsP_F (fun h => [0, 1, 2, 3, 4, 5]) (.inl rfl) rfl (by simp))
      · rw [if_neg hme] at hQ
        simp only [hp79] at hQ ⊢
        delta p79 p79_r0 p79_r1 p79_r2 p79_r3
        simp (disch := omega) [oLt, oLe, oLtN, oLeN, nLt, nLe, nLtN, nLeN, hit, hOl, hsO, hm1, hme]
        exact hQ _ _ (EndsP_F (fun h => [0, 1, 2, 3, 4, 5]) (.inl rfl) rfl (by simp))
    · rw [if_neg hk] at hQ
      have hkn : k < n := by have := hst.kle; omega
      have hkc : ¬ (k : Int) = n := by omega
      simp only [hp79]
      delta p79 p79_r0 p79_r1 p79_r2 p79_r3
      simp (disch := omega) [oLt, oLe, oLtN, oLeN, nLt, nLe, nLtN, nLeN, hkc]
      obtain ⟨g, hg⟩ : ∃ g : List Int × Nat → Nat → List Int × Nat, (fun (s : List Int × Nat) (x : Nat) => if met.testBit x = true then s else ctF e n f (k + 1) (met ||| 2 ^ x) (s.1.set k (x : Int), s.2)) = g := ⟨_, rfl⟩
      rw [hg] at hQ
      refine XZ_for (fun p : Nat × List Int × Nat => mk79 k met n p.2.1 e p.2.2 p.1) (fun p => n - p.1) (fun p => p.1 ≤ n ∧ St79 n k met p.2.1 ∧ p.2.2 + (8 - p.1) * 8 ^ f ≤ 2 ^ 40 ∧ (List.range' p.1 (n - p.1)).foldl g p.2 = (List.range' 0 n).foldl g (O, c)) (0, O, c) ⟨by simp, hst, by simp only; omega, by simp⟩ (.toS (fun s => [0, 1, 2, 3, 4, 5]) (by simp [mk79, hp79])) ?_
      rintro ⟨x, R, d⟩ ⟨hx, hR, hcR, hinv⟩ N Q' hN hE
      simp only at hx hR hcR hinv
      have hRl := hR.len
      rcases Nat.lt_or_ge x n with h | h
      · have hxc : (x : Int) < n := by omega
        rw [show n - x = (n - (x + 1)) + 1 by omega, List.range'_succ, List.foldl_cons] at hinv
        have hmul : (8 - x) * 8 ^ f = (8 - (x + 1)) * 8 ^ f + 8 ^ f := by rw [show 8 - x = (8 - (x + 1)) + 1 by omega, Nat.add_mul, Nat.one_mul]
        have fin : ∀ R' d', St79 n k met R' → d' + (8 - (x + 1)) * 8 ^ f ≤ 2 ^ 40 → (List.range' (x + 1) (n - (x + 1))).foldl g (R', d') = (List.range' 0 n).foldl g (O, c) → ∀ s', ChgT 6 s' (mk79 k met n R' e d' (x + 1)) → N s' := fun R' d' h1 h2 h3 s' hh => hN s' (x + 1, R', d') (by simp only; omega) ⟨h, h1, h2, h3⟩ hh
        clear hN hE hQ
        have hbit := bit_at met x
        have hm128 := hst.m
        have hdl : met / 2 ^ x ≤ met := Nat.div_le_self _ _
        have hand := fun p q => and64 p q (a := met / 2 ^ x) (by omega)
        by_cases hb : met.testBit x = true
        · have hbn : met / 2 ^ x % 2 = 1 := hbit.2 hb
          have hgx : g (R, d) x = (R, d) := by rw [← hg]; simp only [hb, if_true]
          rw [hgx] at hinv
          have fin := fin R d hR (by omega) hinv
          simp only [mk79, hp79] at fin ⊢
          delta p79_l0 p79_r4 p79_r5 p79_r6 p79_r7 p79_r8 p79_r9
          simp (disch := omega) [oLt, oLe, oLtN, oLeN, nLt, nLe, nLtN, nLeN, hxc, shr64, hand, SOp.eff, hbn]
          exact fin _ (.toS (fun s => [0, 1, 2, 3, 4, 5]) (by simp))
        · have hbf : met.testBit x = false := by simpa using hb
          have hbz : met / 2 ^ x % 2 = 0 := by have : ¬ met / 2 ^ x % 2 = 1 := fun e => hb (hbit.1 e); omega
          have hgx : g (R, d) x = ctF e n f (k + 1) (met ||| 2 ^ x) (R.set k (x : Int), d) := by rw [← hg]; simp only [hbf, Bool.false_eq_true, if_false]
          rw [hgx] at hinv
          have hpx : 2 ^ x < 65536 := Nat.pow_lt_pow_right (m := x) (n := 16) (by omega) (by omega)
          have hor := fun p q => or64 p q (a := met) (b := 2 ^ x) (by omega) hpx
          have hcall := f79_at (f := f) (k := k + 1) (met := met ||| 2 ^ x) (n := n) (O := R.set k (x : Int)) (e := e) (c := d) ⟨hR.next hkn h hbf, by simp only; omega, by simp only; omega⟩
          have hpre := ctF_pre e n f (k + 1) (met ||| 2 ^ x) (R.set k (x : Int), d)
          have hle := ctF_le e n hn7 f (k + 1) (met ||| 2 ^ x) (R.set k (x : Int), d)
          have hkR : k < R.length := by omega
          generalize ctF e n f (k + 1) (met ||| 2 ^ x) (R.set k (x : Int), d) = q at *
          obtain ⟨R', d'⟩ := q
          simp only at hpre hle
          have htk : R'.take k = R.take k := by
            have h2 := congrArg (List.take k) hpre.2
            rw [List.take_take, List.take_take, Nat.min_eq_left (by omega), List.take_set_of_le (Nat.le_refl _)] at h2
            exact h2
          have hR' : St79 n k met R' := ⟨by rw [hpre.1]; simpa using hRl, hR.kle, hR.n0, hR.n7, hR.m, by rw [htk]; exact hR.bit, by rw [htk]; exact hR.nd, by rw [htk]; exact hR.b⟩
          have fin := fin R' d' hR' (by omega) hinv
          have hkc2 : (k : Int) < n := by omega
          simp only [mk79, hp79, Int.natCast_add, Int.natCast_one] at fin hcall ⊢
          delta p79_l0 p79_r4 p79_r5 p79_r6 p79_r7 p79_r8 p79_r9
          simp (disch := omega) [oLt, oLe, oLtN, oLeN, nLt, nLe, nLtN, nLeN, hxc, shr64, shl64, hand, hor, SOp.eff, hbz, hkc2, hkn, hkR, hcall]
          exact fin _ (.toS (fun s => [0, 1, 2, 3, 4, 5]) (by simp))
      · obtain rfl : x = n := by omega
        have hxc : ¬ (x : Int) < x := by omega
        rw [Nat.sub_self] at hinv
        simp only [List.range'_zero, List.foldl_nil] at hinv
        rw [← hinv] at hQ
        simp only [mk79, hp79] at hQ ⊢
        clear hN
        delta p79_l0 p79_r4 p79_r5 p79_r6 p79_r7 p79_r8 p79_r9
        simp (disch := omega) [oLt, oLe, oLtN, oLeN, nLt, nLe, nLtN, nLeN, hxc]
        refine hE _ _ _ .refl ?_
        simp (disch := omega) [oLt, oLe, oLtN, oLeN, nLt, nLe, nLtN, nLeN]
        exact hQ _ _ (EndsP_F (fun h => [0, 1, 2, 3, 4, 5]) (.inr rfl) rfl (by simp))
end
end Go.Sx.Lk
