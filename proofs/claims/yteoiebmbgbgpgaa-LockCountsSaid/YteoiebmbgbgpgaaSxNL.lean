/- What functions of the lock layer return: for how many orders some passes are enough, by the program and by the document; they are the same. No conditions. -/
import Derived.Test.YteoiebmbgbgpgaaSxJLWtoNK
import Derived.Test.YteoiebmbgbgpgaaSxJMAtoMFz
import Derived.Test.YteoiebmbgbgpgaaSxPLm
set_option linter.unusedVariables false
set_option linter.unusedSimpArgs false
set_option maxRecDepth 4000
namespace Go.Sx.Lk
open Go Go.Sx Go.Proofs
set_option maxHeartbeats 4000000
def ok33 (n e : Int) : Prop := 1 ≤ n ∧ n ≤ 7 ∧ 0 ≤ e
instance (n e : Int) : Decidable (ok33 n e) := by unfold ok33; exact inferInstance
theorem st79_0 {n : Nat} (h0 : 0 < n) (h7 : n ≤ 7) : St79 n 0 0 (List.replicate n 0) :=
  ⟨by simp, by omega, h0, h7, by omega, fun x => by simp, by simp, by simp⟩
theorem zer_row (n : Nat) : List.replicate n (vI 0) = ints (List.replicate n 0) := by simp [ints]
def s33 : Sp := spT 33 [.i, .i] fun (n : Int) (e : Int) => res true (if ok33 n e then .tup [vI ((ctF e n.toNat 8 0 0 (List.replicate n.toNat 0, 0)).2 : Nat), vI 0] else .tup [vI 0, vI 1])
@[simp] theorem s33_g : s33.g = 33 := rfl
@[simp] theorem s33_f : s33.f = (spT 33 [.i, .i] fun (n : Int) (e : Int) => res true (if ok33 n e then .tup [vI ((ctF e n.toNat 8 0 0 (List.replicate n.toNat 0, 0)).2 : Nat), vI 0] else .tup [vI 0, vI 1])).f := rfl
theorem s33_ok : s33.ok Try.prog := by
  apply spT_ok
  simp only [OkT, Ty.all, List.nil_append, List.cons_append]
  intro (n : Int) (e : Int)
  apply okT_res; intro _
  refine P33.rz (ss := [s79 8]) ⟨s79_ok 8, trivial⟩ (by simp) fun Q hQ => ?_
  by_cases h1 : n < 1
  · rw [if_neg (fun h => by have := h.1; omega)] at hQ
    delta p33 p33_r0 p33_r1 p33_r2
    simp (disch := omega) [oLt, oLe, oLtN, oLeN, nLt, nLe, nLtN, nLeN, h1]
    exact hQ _ _ (.p (.inl rfl) (by simp) rfl)
  by_cases h7 : 7 < n
  · rw [if_neg (fun h => by have := h.2.1; omega)] at hQ
    delta p33 p33_r0 p33_r1 p33_r2
    simp (disch := omega) [oLt, oLe, oLtN, oLeN, nLt, nLe, nLtN, nLeN, h1, h7]
    exact hQ _ _ (.p (.inl rfl) (by simp) rfl)
  by_cases he : e < 0
  · rw [if_neg (fun h => by have := h.2.2; omega)] at hQ
    delta p33 p33_r0 p33_r1 p33_r2
    simp (disch := omega) [oLt, oLe, oLtN, oLeN, nLt, nLe, nLtN, nLeN, h1, h7, he]
    exact hQ _ _ (.p (.inl rfl) (by simp) rfl)
  rw [if_pos ⟨by omega, by omega, by omega⟩] at hQ
  obtain ⟨n, rfl⟩ := Int.eq_ofNat_of_zero_le (show 0 ≤ n by omega)
  have hcall := f79_at (f := 8) (k := 0) (met := 0) (n := n) (O := List.replicate n 0) (e := e) (c := 0) ⟨st79_0 (n := n) (by omega) (by omega), show n - 0 + 1 ≤ 8 by omega, show 0 + 8 ^ 8 ≤ 2 ^ 40 by decide⟩
  rw [Int.toNat_natCast] at hQ
  have hn7 : n ≤ 7 := by omega
  have hn7c : (n : Int) ≤ 7 := by omega
  generalize ctF e n 8 0 0 (List.replicate n 0, 0) = q at *
  obtain ⟨R, d⟩ := q
  simp only [hp79, vQ, Int.natCast_zero, Int.cast_ofNat_Int] at hcall
  delta p33 p33_r0 p33_r1 p33_r2 p33_r3 p33_r4 p33_r5 p33_r6 p33_r7 p33_r8
  simp (disch := omega) [oLt, oLe, oLtN, oLeN, nLt, nLe, nLtN, nLeN, h1, h7, he, effMkfn, hn7, hn7c, zer_row, hcall]
  exact hQ _ _ (.p (.inl rfl) (by simp) rfl)
/-! ### The document's count -/
def cdR (e : Int) (n : Nat) : Nat → List Int → Nat
  | 0, _ => 0
  | f + 1, B => if B.length = n then (if (((ps2F B).getD 0 : Nat) : Int) ≤ e then 1 else 0)
    else (List.range' 0 n).foldl (fun (a x : Nat) => if idxL B (x : Int) < 0 then a + cdR e n f (B ++ [(x : Int)]) else a) 0
theorem cdR_le (e : Int) (n : Nat) (hn : n ≤ 7) : ∀ (f : Nat) (B : List Int), cdR e n f B ≤ 8 ^ f
  | 0, B => by simp [cdR]
  | f + 1, B => by
    have hp : 0 < 8 ^ (f + 1) := Nat.pow_pos (by omega)
    simp only [cdR]
    split
    · split <;> omega
    · have gen : ∀ (xs : List Nat) (a : Nat), xs.foldl (fun (a x : Nat) => if idxL B (x : Int) < 0 then a + cdR e n f (B ++ [(x : Int)]) else a) a ≤ a + xs.length * 8 ^ f := by
        intro xs
        induction xs with
        | nil => intro a; simp
        | cons x xs ih =>
          intro a
          rw [List.foldl_cons, List.length_cons, Nat.add_mul]
          refine Nat.le_trans (ih _) ?_
          have := cdR_le e n hn f (B ++ [(x : Int)])
          split <;> omega
      have := gen (List.range' 0 n) 0
      rw [List.length_range'] at this
      have h2 : n * 8 ^ f ≤ 7 * 8 ^ f := Nat.mul_le_mul_right _ hn
      rw [Nat.pow_succ]
      omega
theorem idxL_neg {l : List Int} {x : Int} : idxL l x < 0 ↔ ¬ x ∈ l := by
  constructor
  · intro h hm
    obtain ⟨k, k1, k2, k3⟩ := idxL_mem hm
    omega
  · intro h
    have : ∀ (l : List Int) (i : Int), ¬ x ∈ l → idxR x l i = -1 := by
      intro l
      induction l with
      | nil => intro i _; rfl
      | cons y r ih =>
        intro i hm
        simp only [List.mem_cons, not_or] at hm
        simp only [idxR]
        rw [if_neg (fun e => hm.1 e.symm)]
        exact ih _ hm.2
    unfold idxL
    rw [this l 0 h]; omega
structure Gd80 (f n : Nat) (B : List Int) : Prop where
  n0 : 0 < n
  n7 : n ≤ 7
  len : B.length ≤ n
  nd : B.Nodup
  b : ∀ v ∈ B, 0 ≤ v ∧ v < n
  fu : n - B.length + 1 ≤ f
  f8 : f ≤ 8
open Classical in
noncomputable def g80 (f : Nat) (n : Int) (B : List Int) : Bool := decide (0 ≤ n ∧ Gd80 f n.toNat B)
noncomputable def s80 (f : Nat) : Sp := spT 80 [.i, .i, .l] fun (n : Int) (e : Int) (B : List Int) => res (g80 f n B) (vI (cdR e n.toNat f B))
@[simp] theorem s80_g (f : Nat) : (s80 f).g = 80 := rfl
@[simp] theorem s80_f (f : Nat) : (s80 f).f = (spT 80 [.i, .i, .l] fun (n : Int) (e : Int) (B : List Int) => res (g80 f n B) (vI (cdR e n.toNat f B))).f := rfl
theorem s80_ok : ∀ f, (s80 f).ok Try.prog
  | 0 => by
    apply spT_ok
    simp only [OkT, Ty.all, List.nil_append, List.cons_append]
    intro (n : Int) (e : Int) (B : List Int) u
    apply okT_res; intro hg
    simp only [g80, decide_eq_true_eq] at hg
    have := hg.2.fu
    omega
  | f + 1 => by
    apply spT_ok
    simp only [OkT, Ty.all, List.nil_append, List.cons_append]
    intro (n : Int) (e : Int) (B : List Int) u
    apply okT_res; intro hg
    simp only [g80, decide_eq_true_eq] at hg
    obtain ⟨hn0, hg⟩ := hg
    obtain ⟨n, rfl⟩ := Int.eq_ofNat_of_zero_le hn0
    rw [Int.toNat_natCast] at hg
    simp only [Int.toNat_natCast]
    refine P80.rz (ss := [s80 f, s72, s77]) ⟨s80_ok f, s72_ok, s77_ok, trivial⟩ (by simp) fun Q hQ => ?_
    have hn7 := hg.n7
    have hBl := hg.len
    have hf8 := hg.f8
    have hBs : small B = true := by simp [small]; omega
    simp only [cdR] at hQ
    by_cases hB : B.length = n
    · rw [if_pos hB] at hQ
      have hBc : (B.length : Int) = n := by omega
      have hck : chkF B = 0 := chk_of_nodup (by have := hg.n0; omega) (by omega) hg.nd (fun x hx => by rw [hB]; exact hg.b x hx)
      obtain ⟨m, hm1, -, -⟩ := pss_facts hck
      have hm := (sorts_facts hck).2.2 m hm1
      have hsB := chkF_sml hck
      have hgd : (ps2F B).getD 0 = m := by rw [hm]; rfl
      simp only [hgd] at hQ
      by_cases hme : (m : Int) ≤ e
      · rw [if_pos hme] at hQ
        delta p80 p80_r0 p80_r1 p80_r2 p80_r3 p80_r4 p80_r5 p80_r6
        simp (disch := omega) [oLt, oLe, oLtN, oLeN, nLt, nLe, nLtN, nLeN, hBc, hsB, hm, hme]
        exact hQ _ _ (.p (.inl rfl) (by simp) rfl)
      · rw [if_neg hme] at hQ
        delta p80 p80_r0 p80_r1 p80_r2 p80_r3 p80_r4 p80_r5 p80_r6
        simp (disch := omega) [oLt, oLe, oLtN, oLeN, nLt, nLe, nLtN, nLeN, hBc, hsB, hm, hme]
        exact hQ _ _ (.p (.inl rfl) (by simp) rfl)
    rw [if_neg hB] at hQ
    have hBc : ¬ (B.length : Int) = n := by omega
    have h40 : (2 : Nat) ^ 40 = 1099511627776 := by decide
    have hp0 : 0 < 8 ^ f := Nat.pow_pos (by omega)
    have hp8 : 8 ^ f ≤ 8 ^ 8 := Nat.pow_le_pow_right (by omega) (by omega)
    have hp88 : (8 : Nat) ^ 8 = 16777216 := by decide
    delta p80 p80_r0 p80_r1 p80_r2 p80_r3 p80_r4 p80_r5 p80_r6
    simp (disch := omega) [oLt, oLe, oLtN, oLeN, nLt, nLe, nLtN, nLeN, hBc]
    obtain ⟨g, hgg⟩ : ∃ g : Nat → Nat → Nat, (fun (a x : Nat) => if idxL B (x : Int) < 0 then a + cdR e n f (B ++ [(x : Int)]) else a) = g := ⟨_, rfl⟩
    rw [hgg] at hQ
    refine XZ_for (fun p : Nat × Nat => ⟨[(0, vI n), (1, vI e), (2, .il (ints B) B.length u), (7, vI p.2), (8, vI p.1)], [], 0⟩) (fun p => n - p.1) (fun p => p.1 ≤ n ∧ p.2 + (8 - p.1) * 8 ^ f ≤ 2 ^ 40 ∧ (List.range' p.1 (n - p.1)).foldl g p.2 = (List.range' 0 n).foldl g 0) (0, 0) ⟨by simp, by simp only; omega, by simp⟩ (.to [] (by simp)) ?_
    rintro ⟨x, a⟩ ⟨hx, hca, hinv⟩ N Q' hN hE
    simp only at hx hca hinv
    rcases Nat.lt_or_ge x n with h | h
    · have hxc : (x : Int) < n := by omega
      rw [show n - x = (n - (x + 1)) + 1 by omega, List.range'_succ, List.foldl_cons] at hinv
      have hmul : (8 - x) * 8 ^ f = (8 - (x + 1)) * 8 ^ f + 8 ^ f := by rw [show 8 - x = (8 - (x + 1)) + 1 by omega, Nat.add_mul, Nat.one_mul]
      have fin : ∀ a', a' + (8 - (x + 1)) * 8 ^ f ≤ 2 ^ 40 → (List.range' (x + 1) (n - (x + 1))).foldl g a' = (List.range' 0 n).foldl g 0 → ∀ s', ChgT 0 s' ⟨[(0, vI n), (1, vI e), (2, .il (ints B) B.length u), (7, vI a'), (8, vI ((x + 1 : Nat) : Int))], [], 0⟩ → N s' := fun a' h1 h2 s' hh => hN s' (x + 1, a') (by simp only; omega) ⟨h, h1, h2⟩ hh
      clear hN hE hQ
      by_cases hm : idxL B (x : Int) < 0
      · have hgx : g a x = a + cdR e n f (B ++ [(x : Int)]) := by rw [← hgg]; simp only [hm, if_true]
        rw [hgx] at hinv
        have hle := cdR_le e n hn7 f (B ++ [(x : Int)])
        have hnm := idxL_neg.1 hm
        have hgB : g80 f n (B ++ [(x : Int)]) = true := by
          simp only [g80, decide_eq_true_eq]
          refine ⟨by omega, ?_⟩
          rw [Int.toNat_natCast]
          refine ⟨hg.n0, hn7, by simp; omega, ?_, fun v hv => ?_, by simp; have := hg.fu; omega, by omega⟩
          · rw [List.nodup_append]
            exact ⟨hg.nd, by simp, fun a ha b hb => by rw [List.mem_singleton.1 hb]; exact fun e => hnm (e ▸ ha)⟩
          · rcases List.mem_append.1 hv with hv | hv
            · exact hg.b v hv
            · rw [List.mem_singleton.1 hv]; omega
        have fin := fin _ (by omega) hinv
        simp only [Int.natCast_add] at fin
        have hac : (a : Int) + (cdR e n f (B ++ [(x : Int)]) : Nat) ≤ 1099511627776 := by omega
        generalize hcd : cdR e n f (B ++ [(x : Int)]) = cd at *
        cases B with
        | nil =>
          simp only [List.nil_append] at hgB hcd
          delta p80_l0 p80_r7 p80_r8 p80_r9 p80_r10
          simp (disch := omega) [oLt, oLe, oLtN, oLeN, nLt, nLe, nLtN, nLeN, hxc, hBs, hm, hgB, hcd]
          exact fin _ (.to [] (by simp))
        | cons b0 B =>
          have hBl7 : B.length ≤ 7 := by simp at hBl; omega
          have htk : (ints B).take B.length = ints B := List.take_of_length_le (by simp)
          simp only [List.cons_append] at hgB hcd
          delta p80_l0 p80_r7 p80_r8 p80_r9 p80_r10
          simp (disch := omega) [oLt, oLe, oLtN, oLeN, nLt, nLe, nLtN, nLeN, hxc, hBs, hm, hgB, hcd, hBl7, htk]
          exact fin _ (.to [] (by simp))
      · have hgx : g a x = a := by rw [← hgg]; simp only [hm, if_false]
        rw [hgx] at hinv
        have fin := fin a (by omega) hinv
        delta p80_l0 p80_r7 p80_r8 p80_r9 p80_r10
        simp (disch := omega) [oLt, oLe, oLtN, oLeN, nLt, nLe, nLtN, nLeN, hxc, hBs, hm]
        exact fin _ (.to [] (by simp))
    · obtain rfl : x = n := by omega
      have hxc : ¬ (x : Int) < x := by omega
      rw [Nat.sub_self] at hinv
      simp only [List.range'_zero, List.foldl_nil] at hinv
      rw [← hinv] at hQ
      clear hN
      delta p80_l0 p80_r7 p80_r8 p80_r9 p80_r10
      simp (disch := omega) [oLt, oLe, oLtN, oLeN, nLt, nLe, nLtN, nLeN, hxc]
      refine hE _ _ _ .refl ?_
      delta p80_r11
      simp (disch := omega) [oLt, oLe, oLtN, oLeN, nLt, nLe, nLtN, nLeN]
      exact hQ _ _ (.p (.inl rfl) (by simp) rfl)
def s34 : Sp := spT 34 [.i, .i] fun (n : Int) (e : Int) => res true (if ok33 n e then .tup [vI (cdR e n.toNat 8 [] : Nat), vI 0] else .tup [vI 0, vI 1])
@[simp] theorem s34_g : s34.g = 34 := rfl
@[simp] theorem s34_f : s34.f = (spT 34 [.i, .i] fun (n : Int) (e : Int) => res true (if ok33 n e then .tup [vI (cdR e n.toNat 8 [] : Nat), vI 0] else .tup [vI 0, vI 1])).f := rfl
theorem s34_ok : s34.ok Try.prog := by
  apply spT_ok
  simp only [OkT, Ty.all, List.nil_append, List.cons_append]
  intro (n : Int) (e : Int)
  apply okT_res; intro _
  refine P34.rz (ss := [s71, s80 8]) ⟨s71_ok, s80_ok 8, trivial⟩ (by simp) fun Q hQ => ?_
  by_cases h1 : 1 ≤ n
  rotate_left
  · rw [if_neg (fun h => h1 h.1)] at hQ
    delta p34 p34_r0 p34_r1 p34_r2
    simp (disch := omega) [oLt, oLe, oLtN, oLeN, nLt, nLe, nLtN, nLeN, h1]
    exact hQ _ _ (.p (.inl rfl) (by simp) rfl)
  by_cases h7 : n ≤ 7
  rotate_left
  · rw [if_neg (fun h => h7 h.2.1)] at hQ
    delta p34 p34_r0 p34_r1 p34_r2
    simp (disch := omega) [oLt, oLe, oLtN, oLeN, nLt, nLe, nLtN, nLeN, h1, h7]
    exact hQ _ _ (.p (.inl rfl) (by simp) rfl)
  by_cases he : e < 0
  · rw [if_neg (fun h => by have := h.2.2; omega)] at hQ
    delta p34 p34_r0 p34_r1 p34_r2
    simp (disch := omega) [oLt, oLe, oLtN, oLeN, nLt, nLe, nLtN, nLeN, h1, h7, he]
    exact hQ _ _ (.p (.inl rfl) (by simp) rfl)
  rw [if_pos ⟨h1, h7, by omega⟩] at hQ
  have hg : g80 8 n [] = true := by
    simp only [g80, decide_eq_true_eq]
    exact ⟨by omega, by omega, by omega, by simp, by simp, by simp, by simp; omega, by omega⟩
  delta p34 p34_r0 p34_r1 p34_r2 p34_r3
  simp (disch := omega) [oLt, oLe, oLtN, oLeN, nLt, nLe, nLtN, nLeN, h1, h7, he, hg]
  exact hQ _ _ (.p (.inl rfl) (by simp) rfl)
/-! ### They are the same -/
theorem ct_cd (e : Int) (n : Nat) : ∀ (f k met : Nat) (O : List Int) (c : Nat), St79 n k met O → n - k + 1 ≤ f → (ctF e n f k met (O, c)).2 = c + cdR e n f (O.take k)
  | 0, k, met, O, c, h, hf => by omega
  | f + 1, k, met, O, c, h, hf => by
    have hl := h.len
    have hk := h.kle
    have htl : (O.take k).length = k := by simp; omega
    simp only [ctF, cdR, htl]
    by_cases hkn : k = n
    · rw [if_pos hkn, if_pos hkn]
      subst hkn
      have htk : O.take k = O := List.take_of_length_le (by omega)
      have hb := h.b
      have hnd := h.nd
      have hn7 := h.n7
      rw [htk] at hb hnd ⊢
      have hck : chkF O = 0 := chk_of_nodup (by have := h.n0; omega) (by omega) hnd (fun x hx => by rw [hl]; exact hb x hx)
      obtain ⟨m, hm1, -, -⟩ := pss_facts hck
      rw [hm1, (sorts_facts hck).2.2 m hm1]
      simp only [Option.getD_some]
      split <;> rfl
    · rw [if_neg hkn, if_neg hkn]
      have gen : ∀ (xs : List Nat), (∀ x ∈ xs, x < n) → ∀ (R : List Int) (d a : Nat), St79 n k met R → R.take k = O.take k →
          (xs.foldl (fun s x => if met.testBit x = true then s else ctF e n f (k + 1) (met ||| 2 ^ x) (s.1.set k (x : Int), s.2)) (R, d)).2 + a = d + xs.foldl (fun (a x : Nat) => if idxL (O.take k) (x : Int) < 0 then a + cdR e n f (O.take k ++ [(x : Int)]) else a) a := by
        intro xs
        induction xs with
        | nil => intro _ R d a _ _; simp
        | cons x xs ih =>
          intro hxs R d a hR htk
          have hxn := hxs x (by simp)
          rw [List.foldl_cons, List.foldl_cons]
          by_cases hb : met.testBit x = true
          · have hmem := (hR.bit x).1 hb
            rw [htk] at hmem
            rw [if_pos hb, if_neg (fun hh => idxL_neg.1 hh hmem)]
            exact ih (fun y hy => hxs y (by simp [hy])) R d a hR htk
          · have hbf : met.testBit x = false := by simpa using hb
            have hnm : ¬ (x : Int) ∈ O.take k := fun hm => hb ((hR.bit x).2 (by rw [htk]; exact hm))
            rw [if_neg hb, if_pos (idxL_neg.2 hnm)]
            have hk' : k < n := by omega
            have hRl := hR.len
            have i1 := ct_cd e n f (k + 1) (met ||| 2 ^ x) (R.set k (x : Int)) d (hR.next hk' hxn hbf) (by omega)
            rw [take_succ_set (by omega), htk] at i1
            have hpre := ctF_pre e n f (k + 1) (met ||| 2 ^ x) (R.set k (x : Int), d)
            simp only
            generalize ctF e n f (k + 1) (met ||| 2 ^ x) (R.set k (x : Int), d) = q at *
            obtain ⟨R', d'⟩ := q
            simp only at i1 hpre
            have htk' : R'.take k = R.take k := by
              have h2 := congrArg (List.take k) hpre.2
              rw [List.take_take, List.take_take, Nat.min_eq_left (by omega), List.take_set_of_le (Nat.le_refl _)] at h2
              exact h2
            have hR' : St79 n k met R' := ⟨by rw [hpre.1]; simpa using hRl, hR.kle, hR.n0, hR.n7, hR.m, by rw [htk']; exact hR.bit, by rw [htk']; exact hR.nd, by rw [htk']; exact hR.b⟩
            have i2 := ih (fun y hy => hxs y (by simp [hy])) R' d' (a + cdR e n f (O.take k ++ [(x : Int)])) hR' (htk'.trans htk)
            omega
      have := gen (List.range' 0 n) (fun x hx => by rw [List.mem_range'_1] at hx; omega) O c 0 h rfl
      simpa using this
theorem count_eq {n : Nat} (e : Int) (h0 : 0 < n) (h7 : n ≤ 7) : (ctF e n 8 0 0 (List.replicate n 0, 0)).2 = cdR e n 8 [] := by
  have := ct_cd e n 8 0 0 (List.replicate n 0) 0 (st79_0 h0 h7) (by omega)
  simpa using this
noncomputable def q5 : PCode := (.seq (.reg p5_r3 [0, 1, 5, 6]) (.seq (.reg p5_r4 [5, 6, 7, 8]) (.seq (.reg p5_r5 [4]) .ret)))
theorem p5_q5 : p5 = (.seq (.reg p5_r0 [0, 1]) (.seq (.seq (.reg p5_r1 [0, 1, 18]) (.cond (Operand.tmp 18) (.seq (.reg p5_r2 [4]) .ret) .skip)) q5)) := rfl
theorem tail5 {n e : Int} {nx : Nat} {Q : Exit → ST → Prop} (hQ : ∀ n, Q .ret ⟨[(4, vB true)], [], n⟩) : XZ (rZ (spc [s33, s34, s15])) 0 q5 ⟨[(0, vI n), (1, vI e), (18, vB false)], [], nx⟩ Q := by
  by_cases hok : ok33 n e
  · have h1 := hok.1
    have h7 := hok.2.1
    obtain ⟨n, rfl⟩ := Int.eq_ofNat_of_zero_le (show 0 ≤ n by omega)
    have hc := count_eq (n := n) e (by omega) (by omega)
    delta q5
    refine XZ_step ?_ (fun N Q_ hN => ?_) ?_
    rotate_left
    · delta p5_r3; simp (disch := omega) [oLt, oLe, oLtN, oLeN, nLt, nLe, nLtN, nLeN, hok]
      exact hN
    refine XZ_step ?_ (fun N Q_ hN => ?_) ?_
    rotate_left
    · delta p5_r4; simp (disch := omega) [oLt, oLe, oLtN, oLeN, nLt, nLe, nLtN, nLeN, hok]
      exact hN
    delta p5_r5
    simp (disch := omega) [oLt, oLe, oLtN, oLeN, nLt, nLe, nLtN, nLeN, hc]
    exact hQ _
  · delta q5
    refine XZ_step ?_ (fun N Q_ hN => ?_) ?_
    rotate_left
    · delta p5_r3; simp (disch := omega) [oLt, oLe, oLtN, oLeN, nLt, nLe, nLtN, nLeN, hok]
      exact hN
    refine XZ_step ?_ (fun N Q_ hN => ?_) ?_
    rotate_left
    · delta p5_r4; simp (disch := omega) [oLt, oLe, oLtN, oLeN, nLt, nLe, nLtN, nLeN, hok]
      exact hN
    delta p5_r5
    simp (disch := omega) [oLt, oLe, oLtN, oLeN, nLt, nLe, nLtN, nLeN]
    exact hQ _
theorem lockCounts_runs (n e : Int) : Runs Try.prog 5 0 [vI n, vI e] (hpF []) (vB true) 0 (hpF []) := by
  refine P5.rz (ss := [s33, s34, s15]) ⟨s33_ok, s34_ok, s15_ok, trivial⟩ (by simp) fun Q hQ => ?_
  rw [show (⟨p5, [SRes.tmp 4], 43⟩ : PEnt).code = p5 from rfl, p5_q5]
  by_cases h7 : n = 7
  · subst h7
    by_cases h2 : 2 < e
    · by_cases h6 : e < 6
      · delta p5_r0 p5_r1 p5_r2
        simp (disch := omega) [oLt, oLe, oLtN, oLeN, nLt, nLe, nLtN, nLeN, h2, h6]
        exact hQ _ _ (.p (.inl rfl) (by simp) rfl)
      · delta p5_r0 p5_r1
        simp (disch := omega) [oLt, oLe, oLtN, oLeN, nLt, nLe, nLtN, nLeN, h2, h6]
        exact tail5 fun n => hQ _ _ (.p (.inl rfl) (by simp) rfl)
    · delta p5_r0 p5_r1
      simp (disch := omega) [oLt, oLe, oLtN, oLeN, nLt, nLe, nLtN, nLeN, h2]
      exact tail5 fun n => hQ _ _ (.p (.inl rfl) (by simp) rfl)
  · delta p5_r0 p5_r1
    simp (disch := omega) [oLt, oLe, oLtN, oLeN, nLt, nLe, nLtN, nLeN, h7]
    exact tail5 fun n => hQ _ _ (.p (.inl rfl) (by simp) rfl)
end Go.Sx.Lk
