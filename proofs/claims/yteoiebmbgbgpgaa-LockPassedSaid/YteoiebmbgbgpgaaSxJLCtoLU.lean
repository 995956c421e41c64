/- What functions of the library return: slices.Delete of one number, when the list has a rest behind. No conditions. -/
import Derived.Test.YteoiebmbgbgpgaaSxJLAtoLB
import Derived.Test.YteoiebmbgbgpgaaSxPLc
import Derived.Test.YteoiebmbgbgpgaaSxJSttoSd
set_option linter.unusedVariables false
set_option linter.unusedSimpArgs false
section
set_option maxRecDepth 4000
namespace Go.Sx.Lk
open Go Go.Sx Go.Proofs
theorem EndsP_at {k : Nat} {rs : List SRes} {r : AV} {H : HL} {e : Exit} {s : ST} (l : List Nat) (he : e = .ret ∨ e = .normal) (hr : resA s.st rs = some (ren (gT l s.nx) r)) (low : lowTo l k = true) (hle : k ≤ l.length) (nd : dist l = true)
    (hh : heapTo l.length (gT l s.nx) s.heap H) : EndsP k rs r l.length H e s := by
  have := cv_to (l := l) (nx := s.nx) (h := s.heap) (h' := H) low hle nd hh
  exact ⟨by rcases he with rfl | rfl <;> trivial, s, .refl, _, this, hr⟩
def f87 : List AV → HL → Nat → Option (AV × HL × Nat) := fun args h k => match args, h, k with
  | [.ref 0 0 n 1 none, .v (.int .i64 i), .v (.int .i64 j)], [(0, .cells cs)], 1 => match unints cs with
    | some l => if n ≤ l.length ∧ small l = true ∧ 0 ≤ i ∧ i.toNat < n ∧ j = i + 1 then some (.ref 0 0 (n - 1) 1 none, [(0, .cells (ints ((l.take n).eraseIdx i.toNat ++ 0 :: l.drop n)))], 1) else none
    | none => none
  | _, _, _ => none
def s87 : Sp := ⟨87, f87⟩
@[simp] theorem s87_g : s87.g = 87 := rfl
@[simp] theorem s87_f : s87.f = f87 := rfl
set_option maxHeartbeats 2000000 in
theorem s87_ok : s87.ok Try.prog := by
  intro args h k r h' k' hh
  simp only [s87_f, f87] at hh
  split at hh
  · split at hh
    · rename_i l hl
      split at hh
      · rename_i hc
        obtain ⟨hnl, hsl, h0, hi, rfl⟩ := hc
        cases hh
        rw [unints_inv hl]
        rename_i i n _ _ _
        obtain ⟨i, rfl⟩ := Int.eq_ofNat_of_zero_le h0
        simp only [Int.toNat_natCast] at hi ⊢
        have hll : l.length ≤ 1000000 := by simpa [small] using hsl
        obtain ⟨A, x, B, Z, rfl, rfl, rfl⟩ : ∃ A x B Z, l = (A ++ x :: B) ++ Z ∧ i = A.length ∧ n = (A ++ x :: B).length := by
          have hi' : i < (l.take n).length := by rw [List.length_take]; omega
          exact ⟨(l.take n).take i, (l.take n)[i], (l.take n).drop (i + 1), l.drop n, by rw [← List.drop_eq_getElem_cons hi', List.take_append_drop, List.take_append_drop], by rw [List.length_take]; omega, by rw [← List.drop_eq_getElem_cons hi', List.take_append_drop, List.length_take]; omega⟩
        have he : (A ++ x :: B).eraseIdx A.length = A ++ B := by
          rw [List.eraseIdx_append_of_length_le (Nat.le_refl _), Nat.sub_self]; rfl
        have hne : ¬ (A.length : Int) = A.length + 1 := by omega
        have hlen : (A ++ x :: B).length = A.length + (B.length + 1) := by simp
        rw [List.take_left, List.drop_left, he, hlen, show A.length + (B.length + 1) - 1 = A.length + B.length by omega]
        rw [List.length_append, hlen] at hll
        clear hl hsl he hi h0 hnl
        simp only [hp_eq]
        rcases B with _ | ⟨y, B⟩
        · have hsp : splice (ints A ++ vI x :: ints Z) A.length [vI 0] = ints A ++ vI 0 :: ints Z := by
            rw [splice_one _ _ _ (by simp)]
            rw [List.set_append_right _ _ (by simp)]
            simp
          have hd1 : List.take 0 (List.drop (A.length + 1) (ints A ++ vI x :: ints Z)) = [] := by simp
          refine P87.rz (ss := []) trivial (by simp) fun Q hQ => ?_
          delta p87 p87_r0 p87_r1 p87_r2 p87_r3 p87_r4 p87_r5 p87_r6 p87_r7
          simp only [ints_app, ints_cons, ints_nil, List.length_nil, Nat.zero_add, Nat.add_zero, List.append_assoc, List.cons_append, List.nil_append]
          simp (disch := omega) [oLt, oLe, oLtN, oLeN, nLt, nLe, nLtN, nLeN, hne, hsp, effClear]
          exact hQ _ _ (EndsP_at [0] (.inl rfl) (by simp) rfl (by simp) rfl (by simp))
        · obtain ⟨z, hz⟩ : ∃ z, (x :: y :: B).drop (B.length + 1) = [z] := by
            have : ((x :: y :: B).drop (B.length + 1)).length = 1 := by simp
            exact List.length_eq_one_iff.1 this
          have hz' : (vI x :: vI y :: ints B).drop (B.length + 1) = [vI z] := by
            have := congrArg ints hz
            simpa [ints, List.map_drop] using this
          have hd : List.take (B.length + 1) (List.drop (A.length + 1) (ints A ++ vI x :: vI y :: (ints B ++ ints Z))) = vI y :: ints B := by
            rw [← List.drop_drop, List.drop_left' (by simp), List.drop_succ_cons, List.drop_zero, List.take_succ_cons, List.take_left' (by simp)]
          have hsp : splice (ints A ++ vI x :: vI y :: (ints B ++ ints Z)) A.length (vI y :: ints B) = ints A ++ vI y :: (ints B ++ vI z :: ints Z) := by
            have e : (vI x :: vI y :: (ints B ++ ints Z)).drop (B.length + 1) = vI z :: ints Z := by
              have e2 : vI x :: vI y :: (ints B ++ ints Z) = (vI x :: vI y :: ints B) ++ ints Z := by simp
              rw [e2, List.drop_append_of_le_length (by simp), hz']; rfl
            unfold splice
            rw [List.take_left' (by simp), ← List.drop_drop, List.drop_left' (by simp), show (vI y :: ints B).length = B.length + 1 by simp, e]
            simp
          have hsp2 : splice (ints A ++ vI y :: (ints B ++ vI z :: ints Z)) (A.length + (B.length + 1)) [vI 0] = ints A ++ vI y :: (ints B ++ vI 0 :: ints Z) := by
            rw [splice_one _ _ _ (by simp)]
            rw [List.set_append_right _ _ (by simp)]
            simp [List.set_append_right]
          have hn1 : A.length + (B.length + 1 + 1) - (A.length + 1) = B.length + 1 := by omega
          have hn2 : A.length + (B.length + 1 + 1) - (A.length + (B.length + 1)) = 1 := by omega
          refine P87.rz (ss := []) trivial (by simp) fun Q hQ => ?_
          delta p87 p87_r0 p87_r1 p87_r2 p87_r3 p87_r4 p87_r5 p87_r6 p87_r7
          simp only [ints_app, ints_cons, List.length_cons, List.append_assoc, List.cons_append, List.nil_append]
          have ht1 : ((A.length : Int) + (B.length + 1)).toNat = A.length + (B.length + 1) := by omega
          have ht2 : ((A.length : Int) + (B.length + 1 + 1)).toNat = A.length + (B.length + 1 + 1) := by omega
          simp (disch := omega) [oLt, oLe, oLtN, oLeN, nLt, nLe, nLtN, nLeN, hne, hd, hsp, hsp2, hn1, hn2, ht1, ht2, effClear]
          exact hQ _ _ (EndsP_at [0] (.inl rfl) (by simp) rfl (by simp) rfl (by simp))
      · cases hh
    · cases hh
  · cases hh
end Go.Sx.Lk
end
section
set_option maxRecDepth 4000
namespace Go.Sx.Lk
open Go Go.Sx Go.Proofs
def within (a n b : Int) : Bool := decide (a ≤ n) && decide (n ≤ b)
theorem within_iff {a n b : Int} : within a n b = true ↔ a ≤ n ∧ n ≤ b := by simp [within]
def u8s (l : List Int) : List AV := l.map fun n => .v (.int .u8 n)
@[simp] theorem u8s_ren (g : Nat → Nat) (l : List Int) : renL g (u8s l) = u8s l := by induction l with | nil => rfl | cons a l ih => simpa [u8s] using ih
@[simp] theorem u8s_clo (l : List Int) : cloL (u8s l) = true := by induction l with | nil => rfl | cons a l ih => simpa [u8s] using ih
@[simp] theorem u8s_flat (l : List Int) : flatL (u8s l) = true := by induction l with | nil => rfl | cons a l ih => simpa [u8s] using ih
@[simp] theorem u8s_fr (id : Nat) (cs : List AV) (l : List Int) : frL id cs (u8s l) = u8s l := by induction l with | nil => rfl | cons a l ih => simpa [u8s] using ih
def trA (s : Int) (O : List Int) : List AV := .v (.int .u8 s) :: u8s O
def iota (n : Nat) : List Int := (List.range n).map fun (i : Nat) => (i : Int)
theorem iota_succ (n : Nat) : iota (n + 1) = iota n ++ [(n : Int)] := by simp [iota, List.range_succ]
@[simp] theorem iota_len (n : Nat) : (iota n).length = n := by simp [iota]
def mtS (O : List Int) (n : Nat) : Nat → List Int × List Int
  | 0 => (iota n, [])
  | i + 1 =>
    let st := mtS O n i
    let k := (O.getD i 0).toNat % st.1.length
    (st.1.eraseIdx k, st.2 ++ [st.1.getD k 0])
theorem mtS_len (O : List Int) (n : Nat) : ∀ {i : Nat}, i ≤ n → (mtS O n i).1.length = n - i
  | 0, _ => by simp [mtS]
  | i + 1, h => by
    have ih := mtS_len O n (i := i) (by omega)
    have hp : 0 < (mtS O n i).1.length := by omega
    simp only [mtS]
    rw [List.length_eraseIdx_of_lt (Nat.mod_lt _ hp), ih]; omega
theorem mtS_out (O : List Int) (n : Nat) : ∀ i : Nat, (mtS O n i).2.length = i
  | 0 => rfl
  | i + 1 => by simp [mtS, mtS_out O n i]
def mtL (s : Nat) (O : List Int) (most : Nat) : List Int := (mtS O (1 + s % most) (1 + s % most)).2
def inA' : AV → Int
  | .v (.int _ n) => n
  | _ => 0
def trS (K : List AV) : Int := inA' (K.getD 0 (.v (.bool false)))
def trO (K : List AV) : List Int := (K.drop 1).map inA'
theorem trS_of (s : Int) (O : List Int) : trS (trA s O) = s := rfl
theorem trO_of (s : Int) (O : List Int) : trO (trA s O) = O := by simp [trO, trA, u8s, Function.comp_def, inA']
def gTr (s : Int) (O : List Int) (most : Int) : Bool := within 0 s 255 && decide (O.length = 7) && O.all (within 0 · 255) && within 1 most 7
noncomputable def f45 : List AV → HL → Nat → Option (AV × HL × Nat) := fun args h k => match args, h, k with
  | [.agg K, .v (.int .i64 most)], [], 0 => open Classical in if K = trA (trS K) (trO K) ∧ gTr (trS K) (trO K) most = true then some (.il (ints (mtL (trS K).toNat (trO K) most.toNat)) (mtL (trS K).toNat (trO K) most.toNat).length false, [], 0) else none
  | _, _, _ => none
theorem f45_at {s : Int} {O : List Int} {most : Int} (h : gTr s O most = true) : f45 [.agg (trA s O), vI most] [] 0 = some (.il (ints (mtL s.toNat O most.toNat)) (mtL s.toNat O most.toNat).length false, [], 0) := by
  simp only [f45, trS_of, trO_of]
  rw [if_pos ⟨trivial, h⟩]
noncomputable def s45 : Sp := ⟨45, f45⟩
@[simp] theorem s45_g : s45.g = 45 := rfl
@[simp] theorem s45_f : s45.f = f45 := rfl
attribute [simp] evCall reach idsB idsL ids inA Go.Sx.inL Go.Sx.inM inB allHp enumH gl renB
@[simp] theorem idsL_app9 : ∀ a b : List AV, idsL (a ++ b) = idsL a ++ idsL b
  | [], b => rfl
  | x :: a, b => by cases x <;> simp [idsL, idsL_app9 a b]
@[simp] theorem inL_app9 (p : Nat → Bool) : ∀ a b : List AV, Go.Sx.inL p (a ++ b) = (Go.Sx.inL p a && Go.Sx.inL p b)
  | [], b => by simp
  | x :: a, b => by rw [List.cons_append, Go.Sx.inL, Go.Sx.inL, inL_app9 p a b, Bool.and_assoc]
@[simp] theorem idsL_ints9 : ∀ l : List Int, idsL (ints l) = []
  | [] => rfl
  | x :: l => by rw [ints_cons, idsL, idsL_ints9 l]
@[simp] theorem inL_ints9 (p : Nat → Bool) : ∀ l : List Int, Go.Sx.inL p (ints l) = true
  | [] => rfl
  | x :: l => by rw [ints_cons, Go.Sx.inL, inL_ints9 p l]; rfl
def mt1 (K : List AV) (n : Nat) : Nat → ST
  | 0 => ⟨[(2, .ptr 0 0), (5, vI n), (6, .v (.slice none 0 0)), (7, .v (.slice none 0 0)), (17, vI n), (18, vI (0 : Nat))], [(0, .cells K)], 1⟩
  | i + 1 => ⟨[(2, .ptr 0 0), (5, vI n), (6, .ref 1 0 (i + 1) 1 none), (7, .v (.slice none 0 0)), (17, vI n), (18, vI (i + 1 : Nat))], [(0, .cells K), (1, .cells (ints (iota (i + 1))))], 2⟩
def mt2 (K : List AV) (n : Nat) (l L : List Int) : Nat → ST
  | 0 => ⟨[(2, .ptr 0 0), (6, .ref 1 0 l.length 1 none), (7, .v (.slice none 0 0)), (26, vI n), (27, vI (0 : Nat))], [(0, .cells K), (1, .cells (ints l))], 2⟩
  | i + 1 => ⟨[(2, .ptr 0 0), (6, .ref 1 0 l.length 1 none), (7, .ref 2 0 (i + 1) 1 none), (26, vI n), (27, vI (i + 1 : Nat))], [(0, .cells K), (1, .cells (ints (l ++ List.replicate (i + 1) 0))), (2, .cells (ints L))], 3⟩
set_option maxHeartbeats 8000000 in
theorem s45_ok : s45.ok Try.prog := by
  intro args h k r h' k' hh
  simp only [s45_f, f45] at hh
  split at hh
  · rename_i K most
    split at hh
    · rename_i hc
      cases hh
      obtain ⟨hK, hg⟩ := hc
      generalize trS K = s at *
      generalize trO K = O at *
      simp only [gTr, Bool.and_eq_true, decide_eq_true_eq, within_iff, List.all_eq_true] at hg
      obtain ⟨⟨⟨hs, hO⟩, hOb⟩, hm⟩ := hg
      obtain ⟨s, rfl⟩ := Int.eq_ofNat_of_zero_le hs.1
      obtain ⟨most, rfl⟩ := Int.eq_ofNat_of_zero_le (show 0 ≤ most by omega)
      simp only [Int.toNat_natCast]
      obtain ⟨q, hq⟩ : ∃ q, s % most = q := ⟨_, rfl⟩
      have hsm : s % most < most := Nat.mod_lt _ (by omega)
      obtain ⟨n, hn⟩ : ∃ n, q + 1 = n := ⟨_, rfl⟩
      have hn7 : n ≤ 7 := by omega
      have hn0 : ¬ n = 0 := by omega
      have k0 : K[0]? = some (.v (.int .u8 s)) := by rw [hK]; rfl
      have k0' := (List.getElem?_eq_some_iff.1 k0).2
      have kO : ∀ i : Nat, i < 7 → ∃ x : Nat, x ≤ 255 ∧ O.getD i 0 = x ∧ K[1 + i]? = some (.v (.int .u8 x)) := fun i hi => by
        have hb := hOb O[i] (List.getElem_mem (by omega))
        obtain ⟨x, hx⟩ := Int.eq_ofNat_of_zero_le hb.1
        refine ⟨x, by omega, by rw [List.getD_eq_getElem?_getD, List.getElem?_eq_getElem (by omega), hx]; rfl, ?_⟩
        rw [hK, trA, Nat.add_comm, List.getElem?_cons_succ, u8s, List.getElem?_map, List.getElem?_eq_getElem (by omega), hx]; rfl
      have hKr : ∀ f, renL f K = K := fun f => by rw [hK]; simp [trA]
      have hKf : ∀ id cs, frL id cs K = K := fun id cs => by rw [hK]; simp [trA]
      have hKl : K.length = 8 := by rw [hK]; simp [trA, u8s, hO]
      have hmod : (s : Int) % (most : Int) = (q : Int) := by rw [← hq]; simp
      have hmne : ¬ (most : Int) = 0 := by omega
      have hmne2 : ¬ most = 0 := by omega
      have hadd : (1 : Int) + (q : Int) = (n : Int) := by omega
      have hml : mtL s O most = (mtS O n n).2 := by unfold mtL; rw [hq, show 1 + q = n by omega]
      rw [hml]
      clear hK hml
      simp only [hp_eq]
      refine P45.rz (ss := [s87]) ⟨s87_ok, trivial⟩ (by simp) fun Q hQ => ?_
      delta p45 p45_r0 p45_r1 p45_r2 p45_r3
      simp (disch := omega) [oLt, oLe, oLtN, oLeN, nLt, nLe, nLtN, nLeN, k0, k0', hmod, hmne, hmne2, hadd]
      refine XZ_for (fun i : Nat => mt1 K n i) (fun i => n - i) (fun i => i ≤ n) 0 (by simp) (.tot [2] (by simp [mt1, hKr])) ?_
      intro i hi N Q' hN hE
      rcases Nat.lt_or_ge i n with h | h
      · have hic : (i : Int) < n := by omega
        have fin : ∀ s', ChgT 0 s' (mt1 K n (i + 1)) → N s' := fun s' hh => hN s' (i + 1) (by omega) h hh
        clear hN hE hQ
        rcases i with _ | i
        · simp only [mt1] at fin ⊢
          delta p45_l0 p45_r4 p45_r5 p45_r6 p45_r7
          simp (disch := omega) [oLt, oLe, oLtN, oLeN, nLt, nLe, nLtN, nLeN, hic, h]
          exact fin _ (.tot [2, 6] (by simp [hKr, iota]))
        · simp only [mt1] at fin ⊢
          have htk : (iota (i + 1)).take (i + 1) = iota (i + 1) := List.take_of_length_le (by simp)
          delta p45_l0 p45_r4 p45_r5 p45_r6 p45_r7
          simp (disch := omega) [oLt, oLe, oLtN, oLeN, nLt, nLe, nLtN, nLeN, hic, h]
          exact fin _ (.tot [2, 6] (by simp [hKr, iota_succ (i + 1), htk]))
      · obtain rfl : i = n := by omega
        have hic : ¬ (i : Int) < i := by omega
        clear hN
        rcases i with _ | i
        · exact (hn0 rfl).elim
        simp only [mt1]
        delta p45_l0 p45_r4 p45_r5 p45_r6 p45_r7
        simp (disch := omega) [oLt, oLe, oLtN, oLeN, nLt, nLe, nLtN, nLeN, hic]
        refine hE _ _ _ .refl ?_
        delta p45_r8
        simp (disch := omega) [oLt, oLe, oLtN, oLeN, nLt, nLe, nLtN, nLeN]
        have hcast : (i : Int) + 1 = ((i + 1 : Nat) : Int) := by simp
        rw [hcast]
        clear hcast hE hic h hi
        generalize i + 1 = n at *
        refine XZ_for (fun j : Nat => mt2 K n (mtS O n j).1 (mtS O n j).2 j) (fun j => n - j) (fun j => j ≤ n) 0 (by simp) (.tot [2, 6] (by simp [mt2, hKr, mtS])) ?_
        intro j hj N Q2 hN hE2
        have hl := mtS_len O n hj
        have hLl := mtS_out O n j
        rcases Nat.lt_or_ge j n with h | h
        · obtain ⟨x, hx1, hx2, hx3⟩ := kO j (by omega)
          have hx3' := (List.getElem?_eq_some_iff.1 hx3).2
          have hjc : (j : Int) < n := by omega
          have hj7 : j < 7 := by omega
          have hj7c : (j : Int) < 7 := by omega
          have hnext : mtS O n (j + 1) = ((mtS O n j).1.eraseIdx (x % (mtS O n j).1.length), (mtS O n j).2 ++ [(mtS O n j).1.getD (x % (mtS O n j).1.length) 0]) := by
            simp only [mtS, hx2, Int.toNat_natCast]
          have fin : ∀ s', ChgT 0 s' (mt2 K n (mtS O n (j + 1)).1 (mtS O n (j + 1)).2 (j + 1)) → N s' := fun s' hh => hN s' (j + 1) (by omega) h hh
          rw [hnext] at fin
          clear hN hE2 hQ hnext
          have hL0 : j = 0 → (mtS O n j).1 = iota n := fun e => by rw [e]; rfl
          generalize (mtS O n j).1 = l at *
          generalize (mtS O n j).2 = L at *
          have hlp : 0 < l.length := by omega
          obtain ⟨k, hk⟩ : ∃ k, x % l.length = k := ⟨_, rfl⟩
          have hkl : k < l.length := by rw [← hk]; exact Nat.mod_lt _ hlp
          simp only [hk] at fin
          obtain ⟨y, hy⟩ : ∃ y, l[k]? = some y := ⟨l[k], List.getElem?_eq_getElem hkl⟩
          have hy' := (List.getElem?_eq_some_iff.1 hy).2
          have hyd : l.getD k 0 = y := by rw [List.getD_eq_getElem?_getD, hy]; rfl
          rw [hyd] at fin
          have hmodl : (x : Int) % (l.length : Int) = (k : Int) := by rw [← hk]; simp
          have hlne : ¬ (l.length : Int) = 0 := by omega
          have hlnil : ¬ l = [] := fun e => by rw [e] at hlp; simp at hlp
          have hkc : (k : Int) < l.length := by omega
          have hl7 : l.length ≤ 7 := by omega
          have hf87 : f87 [.ref 0 0 l.length 1 none, vI k, vI ((k : Int) + 1)] [(0, .cells (ints (l ++ List.replicate j 0)))] 1 = some (.ref 0 0 (l.length - 1) 1 none, [(0, .cells (ints (l.eraseIdx k ++ List.replicate (j + 1) 0)))], 1) := by
            have hu : unints (ints (l ++ List.replicate j 0)) = some (l ++ List.replicate j 0) := by simp
            have hs2 : small (l ++ List.replicate j 0) = true := by simp [small]; omega
            simp only [f87, hu]
            rw [if_pos ⟨by simp, hs2, by omega, by simpa using hkl, trivial⟩]
            simp [List.replicate_succ]
          have hf87n : ∀ a b c x y h k, f87 [.il a b c, x, y] h k = none := fun _ _ _ _ _ _ _ => rfl
          have hel : (l.eraseIdx k).length = l.length - 1 := List.length_eraseIdx_of_lt hkl
          have hge : (l ++ List.replicate j 0)[k]? = some y := by rw [List.getElem?_append_left hkl]; exact hy
          obtain ⟨M, hM⟩ : ∃ M, l ++ List.replicate j 0 = M := ⟨_, rfl⟩
          obtain ⟨M', hM'⟩ : ∃ M', l.eraseIdx k ++ List.replicate (j + 1) 0 = M' := ⟨_, rfl⟩
          have hkM : k < M.length := by rw [← hM]; simp; omega
          have hlM : l.length ≤ M.length := by rw [← hM]; simp
          rw [hM] at hge
          have hge' := (List.getElem?_eq_some_iff.1 hge).2
          rw [hM, hM'] at hf87
          rcases j with _ | j
          · obtain rfl : L = [] := List.length_eq_zero_iff.1 hLl
            have hMl : l = M := by rw [← hM]; simp
            simp only [mt2, hM', hel] at fin
            simp only [mt2]
            rw [hMl] at hf87 fin hmodl hlne hlnil hkc hkl hl7 ⊢
            delta p45_l1 p45_r9 p45_r10 p45_r11 p45_r12 p45_r13 p45_r14
            simp (disch := omega) [oLt, oLe, oLtN, oLeN, nLt, nLe, nLtN, nLeN, hjc, hj7, hj7c, hx3, hx3', hmodl, hlne, hlnil, hkc, hkl, hkM, hlM, hge, hge', hf87, hf87n, hl7]
            exact fin _ (.to [0, 1, 20] (by simp [hKr]))
          · simp only [mt2, hM', hel] at fin
            simp only [mt2, hM]
            have htk : L.take (j + 1) = L := List.take_of_length_le (by omega)
            delta p45_l1 p45_r9 p45_r10 p45_r11 p45_r12 p45_r13 p45_r14
            simp (disch := omega) [oLt, oLe, oLtN, oLeN, nLt, nLe, nLtN, nLeN, hjc, hj7, hj7c, hx3, hx3', hmodl, hlne, hlnil, hkc, hkl, hkM, hlM, hge, hge', hf87, hf87n, hl7, htk, hLl]
            exact fin _ (.to [0, 1, 21] (by simp [hKr]))
        · obtain rfl : j = n := by omega
          have hjc : ¬ (j : Int) < j := by omega
          rcases j with _ | j
          · exact (hn0 rfl).elim
          generalize (mtS O (j + 1) (j + 1)).1 = l at *
          generalize (mtS O (j + 1) (j + 1)).2 = L at *
          simp only [mt2]
          delta p45_l1 p45_r9 p45_r10 p45_r11 p45_r12 p45_r13 p45_r14
          simp (disch := omega) [oLt, oLe, oLtN, oLeN, nLt, nLe, nLtN, nLeN, hjc]
          refine hE2 _ _ _ .refl ?_
          delta p45_r15
          simp (disch := omega) [oLt, oLe, oLtN, oLeN, nLt, nLe, nLtN, nLeN]
          have ht : (ints L).take (j + 1) = ints L := List.take_of_length_le (by simp [hLl])
          refine hQ _ _ (.chg (.frz 2 (cs := ints L) rfl (by simp) .refl) (.p (.inl rfl) ?_ (by simp [hLl])))
          first | (simp [Eff.exec, hpF, frzS, hLl, ht]; done) | (simp [Eff.exec, hpF, frzS, hLl, ht]; rfl)
    · cases hh
  · cases hh
end Go.Sx.Lk
end
section
set_option maxRecDepth 4000
namespace Go.Sx.Lk
open Go Go.Sx Go.Proofs
abbrev nS : AV := .v (.slice none 0 0)
def basH (st : List Int) : HL := [(0, .cells [.ref 1 0 st.length 1 none]), (1, .cells (ints st))]
def f68 : List AV → HL → Nat → Option (AV × HL × Nat) := fun args h k => match args, h, k with
  | [.ptr 0 0], [(0, .cells [.v (.slice none 0 0)])], 1 => some (.tup [vI 0, vB false], [(0, .cells [nS])], 1)
  | [.ptr 0 0], [(0, .cells [.ref 1 0 n 1 none]), (1, .cells cs)], 2 => match unints cs with
    | some st => if n = st.length ∧ small st = true then some (.tup [vI (st.getLastD 0), vB (!st.isEmpty)], basH st, 2) else none
    | none => none
  | _, _, _ => none
def s68 : Sp := ⟨68, f68⟩
@[simp] theorem s68_g : s68.g = 68 := rfl
@[simp] theorem s68_f : s68.f = f68 := rfl
def f67 : List AV → HL → Nat → Option (AV × HL × Nat) := fun args h k => match args, h, k with
  | [.ptr 0 0, .v (.int .i64 x)], [(0, .cells [.v (.slice none 0 0)])], 1 => some (.tup [], [(0, .cells [.ref 1 0 1 1 none]), (1, .cells [vI x])], 2)
  | [.ptr 0 0, .v (.int .i64 x)], [(0, .cells [.ref 1 0 n 1 none]), (1, .cells cs)], 2 => match unints cs with
    | some st => if n = st.length ∧ small st = true then some (.tup [], [(0, .cells [.ref 2 0 (n + 1) 1 none]), (2, .cells (ints (st ++ [x])))], 3) else none
    | none => none
  | _, _, _ => none
def s67 : Sp := ⟨67, f67⟩
@[simp] theorem s67_g : s67.g = 67 := rfl
@[simp] theorem s67_f : s67.f = f67 := rfl
def f69 : List AV → HL → Nat → Option (AV × HL × Nat) := fun args h k => match args, h, k with
  | [.ptr 0 0], [(0, .cells [.ref 1 0 n 1 none]), (1, .cells cs)], 2 => match unints cs with
    | some st => if n = st.length ∧ small st = true ∧ st ≠ [] then some (.tup [], [(0, .cells [.ref 1 0 (n - 1) 1 none]), (1, .cells (ints st.dropLast))], 2) else none
    | none => none
  | _, _, _ => none
def s69 : Sp := ⟨69, f69⟩
@[simp] theorem s69_g : s69.g = 69 := rfl
@[simp] theorem s69_f : s69.f = f69 := rfl
set_option maxHeartbeats 2000000 in
theorem s68_ok : s68.ok Try.prog := by
  intro args h k r h' k' hh
  simp only [s68_f, f68] at hh
  split at hh
  · cases hh
    simp only [hp_eq]
    refine P68.rz (ss := []) trivial (by simp) fun Q hQ => ?_
    delta p68 p68_r0 p68_r1 p68_r2 p68_r3
    simp (disch := omega) [oLt, oLe, oLtN, oLeN, nLt, nLe, nLtN, nLeN]
    exact hQ _ _ (EndsP_at [0] (.inl rfl) (by simp) rfl (by simp) rfl (by simp))
  · split at hh
    · rename_i st hl
      split at hh
      · rename_i hc
        obtain ⟨rfl, hs⟩ := hc
        cases hh
        rw [unints_inv hl]
        have hsl : st.length ≤ 1000000 := by simpa [small] using hs
        simp only [hp_eq]
        rcases List.eq_nil_or_concat st with rfl | ⟨D, c, rfl⟩
        · refine P68.rz (ss := []) trivial (by simp) fun Q hQ => ?_
          delta p68 p68_r0 p68_r1 p68_r2 p68_r3
          simp (disch := omega) [oLt, oLe, oLtN, oLeN, nLt, nLe, nLtN, nLeN]
          exact hQ _ _ (EndsP_at [0, 1] (.inl rfl) (by simp) rfl (by simp) rfl (by simp [basH]))
        · have hne : ¬ (D.length : Int) + 1 = 0 := by omega
          have h1 : (D.length : Int) + 1 - 1 = D.length := by omega
          have hD : D.length ≤ 1000000 := by simp at hsl; omega
          refine P68.rz (ss := []) trivial (by simp) fun Q hQ => ?_
          delta p68 p68_r0 p68_r1 p68_r2 p68_r3
          simp only [List.concat_eq_append, List.length_append, List.length_singleton, ints_app, ints_cons, ints_nil] at *
          simp (disch := omega) [oLt, oLe, oLtN, oLeN, nLt, nLe, nLtN, nLeN, hne, h1]
          exact hQ _ _ (EndsP_at [0, 1] (.inl rfl) (by simp) rfl (by simp) rfl (by simp [basH]))
      · cases hh
    · cases hh
  · cases hh
set_option maxHeartbeats 2000000 in
theorem s67_ok : s67.ok Try.prog := by
  intro args h k r h' k' hh
  simp only [s67_f, f67] at hh
  split at hh
  · cases hh
    simp only [hp_eq]
    refine P67.rz (ss := []) trivial (by simp) fun Q hQ => ?_
    delta p67 p67_r0
    simp (disch := omega) [oLt, oLe, oLtN, oLeN, nLt, nLe, nLtN, nLeN]
    exact hQ _ _ (EndsP_at [0, 8] (.inr rfl) (by simp) rfl (by simp) rfl (by simp))
  · split at hh
    · rename_i st hl
      split at hh
      · rename_i hc
        obtain ⟨rfl, hs⟩ := hc
        cases hh
        rw [unints_inv hl]
        have hsl : st.length ≤ 1000000 := by simpa [small] using hs
        have ht : (ints st).take st.length = ints st := List.take_of_length_le (by simp)
        simp only [hp_eq]
        refine P67.rz (ss := []) trivial (by simp) fun Q hQ => ?_
        delta p67 p67_r0
        simp (disch := omega) [oLt, oLe, oLtN, oLeN, nLt, nLe, nLtN, nLeN, hsl, ht]
        exact hQ _ _ (EndsP_at [0, 1, 9] (.inr rfl) (by simp) rfl (by simp) rfl (by simp))
      · cases hh
    · cases hh
  · cases hh
set_option maxHeartbeats 2000000 in
theorem s69_ok : s69.ok Try.prog := by
  intro args h k r h' k' hh
  simp only [s69_f, f69] at hh
  split at hh
  · split at hh
    · rename_i st hl
      split at hh
      · rename_i hc
        obtain ⟨rfl, hs, hne0⟩ := hc
        cases hh
        rw [unints_inv hl]
        have hsl : st.length ≤ 1000000 := by simpa [small] using hs
        obtain ⟨D, c, rfl⟩ : ∃ D c, st = D ++ [c] := by
          rcases List.eq_nil_or_concat st with h | ⟨D, c, h⟩
          · exact (hne0 h).elim
          · exact ⟨D, c, by simpa using h⟩
        clear hl hne0 hs
        have h1 : (D.length : Int) + 1 - 1 = D.length := by omega
        have hD : D.length ≤ 1000000 := by simp at hsl; omega
        simp only [hp_eq, List.dropLast_concat, List.length_append, List.length_singleton, Nat.add_sub_cancel]
        refine P69.rz (ss := []) trivial (by simp) fun Q hQ => ?_
        delta p69 p69_r0
        simp (disch := omega) [oLt, oLe, oLtN, oLeN, nLt, nLe, nLtN, nLeN, h1, hD]
        have hw : WkB (.cells (ints D ++ [vI c])) (.cells (ints D)) := ⟨by simp, fun i x y hx hy => by
          have hi : i < (ints D).length := (List.getElem?_eq_some_iff.1 hy).1
          rw [List.getElem?_append_left hi, hy] at hx
          cases hx; exact .refl⟩
        refine hQ _ _ (.chg (.weak (s' := ⟨[], [(0, .cells [.ref 1 0 D.length 1 none]), (1, .cells (ints D))], _⟩) trivial ⟨rfl, .refl, rfl, hw, trivial⟩ rfl .refl) (EndsP_at [0, 1] (.inr rfl) (by simp) rfl (by simp) rfl (by simp)))
      · cases hh
    · cases hh
  · cases hh
end Go.Sx.Lk
end
section
set_option maxRecDepth 4000
namespace Go.Sx.Lk
open Go Go.Sx Go.Proofs
def f96 : List AV → HL → Nat → Option (AV × HL × Nat) := fun args h k => match args with
  | [.v (.int .u8 m), .v (.int .i64 x), .ptr 0 0] => if m = 111 then f67 [.ptr 0 0, .v (.int .i64 x)] h k else if m = 105 then (match f67 [.ptr 0 0, .v (.int .i64 x)] h k with
    | some _ => some (.tup [], h, k)
    | none => none) else none
  | _ => none
def s96 : Sp := ⟨96, f96⟩
@[simp] theorem s96_g : s96.g = 96 := rfl
@[simp] theorem s96_f : s96.f = f96 := rfl
theorem f67_cases {x : Int} {h : HL} {k : Nat} {r : AV} {h' : HL} {k' : Nat} (hh : f67 [.ptr 0 0, .v (.int .i64 x)] h k = some (r, h', k')) :
    (h = [(0, .cells [nS])] ∧ k = 1 ∧ r = .tup [] ∧ h' = [(0, .cells [.ref 1 0 1 1 none]), (1, .cells [vI x])] ∧ k' = 2) ∨
    ∃ st : List Int, h = basH st ∧ k = 2 ∧ st.length ≤ 1000000 ∧ r = .tup [] ∧ h' = [(0, .cells [.ref 2 0 (st.length + 1) 1 none]), (2, .cells (ints (st ++ [x])))] ∧ k' = 3 := by
  simp only [f67] at hh
  split at hh
  · cases hh
    rename_i e1
    cases e1
    exact .inl ⟨rfl, rfl, rfl, rfl, rfl⟩
  · rename_i e1
    cases e1
    split at hh
    · rename_i st hl
      split at hh
      · rename_i hc
        obtain ⟨rfl, hs⟩ := hc
        cases hh
        exact .inr ⟨st, by rw [unints_inv hl]; rfl, rfl, by simpa [small] using hs, rfl, rfl, rfl⟩
      · cases hh
    · cases hh
  · cases hh
set_option maxHeartbeats 2000000 in
theorem s96_ok : s96.ok Try.prog := by
  intro args h k r h' k' hh
  simp only [s96_f, f96] at hh
  split at hh
  · rename_i m x
    split at hh
    · rename_i hm
      subst hm
      rcases f67_cases hh with ⟨rfl, rfl, rfl, rfl, rfl⟩ | ⟨st, rfl, rfl, hsl, rfl, rfl, rfl⟩
      · simp only [hp_eq]
        refine P96.rz (ss := []) trivial (by simp) fun Q hQ => ?_
        delta p96 p96_r0 p96_r1
        simp (disch := omega) [oLt, oLe, oLtN, oLeN, nLt, nLe, nLtN, nLeN]
        exact hQ _ _ (EndsP_at [0, 6] (.inr rfl) (by simp) rfl (by simp) rfl (by simp))
      · have ht : (ints st).take st.length = ints st := List.take_of_length_le (by simp)
        simp only [hp_eq, basH]
        refine P96.rz (ss := []) trivial (by simp) fun Q hQ => ?_
        delta p96 p96_r0 p96_r1
        simp (disch := omega) [oLt, oLe, oLtN, oLeN, nLt, nLe, nLtN, nLeN, hsl, ht]
        exact hQ _ _ (EndsP_at [0, 1, 7] (.inr rfl) (by simp) rfl (by simp) rfl (by simp))
    · split at hh
      · rename_i hm
        subst hm
        split at hh
        · rename_i q hq
          obtain ⟨r1, h1, k1⟩ := q
          cases hh
          rcases f67_cases hq with ⟨rfl, rfl, _, _, _⟩ | ⟨st, rfl, rfl, hsl, _, _, _⟩
          · simp only [hp_eq]
            refine P96.rz (ss := []) trivial (by simp) fun Q hQ => ?_
            delta p96 p96_r0 p96_r1
            simp (disch := omega) [oLt, oLe, oLtN, oLeN, nLt, nLe, nLtN, nLeN]
            exact hQ _ _ (EndsP_at [0] (.inr rfl) (by simp) rfl (by simp) rfl (by simp))
          · simp only [hp_eq, basH]
            refine P96.rz (ss := []) trivial (by simp) fun Q hQ => ?_
            delta p96 p96_r0 p96_r1
            simp (disch := omega) [oLt, oLe, oLtN, oLeN, nLt, nLe, nLtN, nLeN]
            exact hQ _ _ (EndsP_at [0, 1] (.inr rfl) (by simp) rfl (by simp) rfl (by simp))
        · cases hh
      · cases hh
  · cases hh
end Go.Sx.Lk
end
section
set_option maxRecDepth 4000
namespace Go.Sx.Lk
open Go Go.Sx Go.Proofs
def idxR (x : Int) : List Int → Int → Int
  | [], _ => -1
  | y :: r, i => if y = x then i else idxR x r (i + 1)
def idxL (l : List Int) (x : Int) : Int := idxR x l 0
set_option maxHeartbeats 2000000
def s47 : Sp := spT 47 [.l, .i] fun (l : List Int) (x : Int) => res (small l) (vI (idxL l x))
@[simp] theorem s47_g : s47.g = 47 := rfl
@[simp] theorem s47_f : s47.f = (spT 47 [.l, .i] fun (l : List Int) (x : Int) => res (small l) (vI (idxL l x))).f := rfl
theorem s47_ok : s47.ok Try.prog := by
  apply spT_ok
  simp only [OkT, Ty.all, List.nil_append, List.cons_append]
  intro (l : List Int) u (x : Int)
  apply okT_res; intro hg
  refine P47.rz (ss := []) trivial (by simp) fun Q hQ => ?_
  delta p47 p47_r0 p47_r1
  simp only [small, decide_eq_true_eq] at hg
  simp (disch := omega) [oLt, oLe, oLtN, oLeN, nLt, nLe, nLtN, nLeN]
  refine XZ_for (fun i : Nat => ⟨[(0, .il (ints l) l.length u), (1, vI x), (7, vI l.length), (8, vI i)], [], 0⟩) (fun i => l.length - i) (fun i => i ≤ l.length ∧ idxR x (l.drop i) i = idxL l x) 0 ⟨by simp, by simp [idxL]⟩ (.to [] (by simp)) ?_
  rintro i ⟨hi, hinv⟩ N Q' hN hE
  rcases Nat.lt_or_ge i l.length with h | h
  · have hic : (i : Int) < l.length := by omega
    obtain ⟨y, r, e1, e2, e3, e4, e5⟩ := drop_split h
    rw [e1] at hinv
    simp only [idxR] at hinv
    by_cases hy : y = x
    · rw [if_pos hy] at hinv
      rw [← hinv] at hQ
      subst hy
      delta p47_l0 p47_r2 p47_r3 p47_r4 p47_r5 p47_r6
      simp (disch := omega) [oLt, oLe, oLtN, oLeN, nLt, nLe, nLtN, nLeN, hic, h, e2, e3]
      exact hE _ _ _ .refl (hQ _ _ (.p (.inl rfl) (by simp) rfl))
    · rw [if_neg hy] at hinv
      have hy' : ¬ x = y := fun h => hy h.symm
      delta p47_l0 p47_r2 p47_r3 p47_r4 p47_r5 p47_r6
      simp (disch := omega) [oLt, oLe, oLtN, oLeN, nLt, nLe, nLtN, nLeN, hic, h, e2, e3, hy, hy']
      exact hN _ (i + 1) (by omega) ⟨h, by rw [e4]; simpa using hinv⟩ (.to [] (by simp))
  · obtain rfl : i = l.length := by omega
    have hic : ¬ (l.length : Int) < l.length := by omega
    rw [List.drop_eq_nil_of_le (Nat.le_refl _)] at hinv
    simp only [idxR] at hinv
    rw [← hinv] at hQ
    delta p47_l0 p47_r2 p47_r3 p47_r4 p47_r5 p47_r6
    simp (disch := omega) [oLt, oLe, oLtN, oLeN, nLt, nLe, nLtN, nLeN, hic]
    refine hE _ _ _ .refl ?_
    delta p47_r7
    simp (disch := omega) [oLt, oLe, oLtN, oLeN, nLt, nLe, nLtN, nLeN]
    exact hQ _ _ (.p (.inl rfl) (by simp) rfl)
end Go.Sx.Lk
end
section
set_option maxRecDepth 4000
namespace Go.Sx.Lk
open Go Go.Sx Go.Proofs
set_option maxHeartbeats 2000000
theorem mn_eff (a b : Int) : effBig false [vI a, vI b] = ret (vI (if b < a then b else a)) := by
  by_cases h : b < a <;> simp [effBig, h]
def mxR : Int → List Int → Int
  | m, [] => m
  | m, y :: r => mxR (if m < y then y else m) r
def mxL : List Int → Int
  | [] => 0
  | x :: r => mxR x r
theorem mx_eff (a b : Int) : effBig true [vI a, vI b] = ret (vI (if a < b then b else a)) := by
  by_cases h : a < b <;> simp [effBig, h]
def s92 : Sp := spT 92 [.l] fun (l : List Int) => res (small l && decide (¬ l.length = 0)) (vI (mxL l))
@[simp] theorem s92_g : s92.g = 92 := rfl
@[simp] theorem s92_f : s92.f = (spT 92 [.l] fun (l : List Int) => res (small l && decide (¬ l.length = 0)) (vI (mxL l))).f := rfl
theorem s92_ok : s92.ok Try.prog := by
  apply spT_ok
  simp only [OkT, Ty.all, List.nil_append, List.cons_append]
  intro (l : List Int) u
  apply okT_res; intro hg
  refine P92.rz (ss := []) trivial (by simp) fun Q hQ => ?_
  delta p92 p92_r0 p92_r1 p92_r2 p92_r3 p92_r4
  simp only [small, Bool.and_eq_true, decide_eq_true_eq] at hg
  obtain ⟨hsm, h0⟩ := hg
  have hc1 : ¬ (l.length : Int) < 1 := by omega
  have hc0 : 0 < l.length := by omega
  have hc2 : (0 : Int) < l.length := by omega
  obtain ⟨x0, r0, hl0⟩ : ∃ x r, l = x :: r := by cases l with | nil => simp at hc0 | cons x r => exact ⟨x, r, rfl⟩
  have hg2 : l[0]? = some x0 := by rw [hl0]; rfl
  have hg3 := (List.getElem?_eq_some_iff.1 hg2).2
  have hst : mxR x0 (l.drop 1) = mxL l := by rw [hl0]; rfl
  simp (disch := omega) [oLt, oLe, oLtN, oLeN, nLt, nLe, nLtN, nLeN, hc1, hc0, hc2, hg2, hg3]
  refine XZ_for (fun p : Nat × Int => ⟨[(0, .il (ints l) l.length u), (3, vI p.2), (4, vI ((p.1 + 1 : Nat) : Int))], [], 0⟩) (fun p => l.length - p.1) (fun p => p.1 + 1 ≤ l.length ∧ mxR p.2 (l.drop (p.1 + 1)) = mxL l) (0, x0) ⟨by simp; omega, hst⟩ (.to [] (by simp)) ?_
  rintro ⟨i, m⟩ ⟨hi, hinv⟩ N Q' hN hE
  simp only at hi hinv
  rcases Nat.lt_or_ge (i + 1) l.length with h | h
  · have hic : (i : Int) + 1 < l.length := by omega
    obtain ⟨x, r, e1, e2, e3, e4, e5⟩ := drop_split h
    rw [e1] at hinv
    simp only [mxR] at hinv
    have hme := mx_eff m x
    have fin := fun s' hh => hN s' (i + 1, if m < x then x else m) (by simp only; omega) ⟨h, by rw [e4]; exact hinv⟩ hh
    clear hN hE hinv hQ
    delta p92_l0 p92_r5 p92_r6 p92_r7
    simp (disch := omega) [oLt, oLe, oLtN, oLeN, nLt, nLe, nLtN, nLeN, hic, h, e2, e3, hme]
    exact fin _ (.to [] (by simp))
  · have e : i + 1 = l.length := by omega
    have hic : ¬ (i : Int) + 1 < l.length := by omega
    rw [List.drop_eq_nil_of_le h] at hinv
    simp only [mxR] at hinv
    subst hinv
    delta p92_l0 p92_r5 p92_r6 p92_r7
    simp (disch := omega) [oLt, oLe, oLtN, oLeN, nLt, nLe, nLtN, nLeN, hic]
    refine hE _ _ _ .refl ?_
    delta p92_r8
    simp (disch := omega) [oLt, oLe, oLtN, oLeN, nLt, nLe, nLtN, nLeN]
    exact hQ _ _ (.p (.inl rfl) (by simp) rfl)
end Go.Sx.Lk
end
section
namespace Go.Sx
noncomputable def famF {α : Type} (ok : α → Prop) (pat : α → List AV × HL × Nat) (out : α → AV × HL × Nat) : List AV → HL → Nat → Option (AV × HL × Nat) := fun args h k => open Classical in
  if hx : ∃ a, ok a ∧ pat a = (args, h, k) then some (out hx.choose) else none
theorem famF_at {α : Type} {ok : α → Prop} {pat : α → List AV × HL × Nat} {out : α → AV × HL × Nat} (hd : ∀ a b, pat a = pat b → out a = out b) (a : α) (ha : ok a) {args : List AV} {h : HL} {k : Nat} (e : pat a = (args, h, k)) : famF ok pat out args h k = some (out a) := by
  have hx : ∃ a, ok a ∧ pat a = (args, h, k) := ⟨a, ha, e⟩
  unfold famF
  rw [dif_pos hx]
  exact congrArg some (hd _ _ (hx.choose_spec.2.trans e.symm))
theorem famF_ok {P : Program} {g : FuncId} {α : Type} {ok : α → Prop} {pat : α → List AV × HL × Nat} {out : α → AV × HL × Nat} (h : ∀ a, ok a → Runs P g (pat a).2.2 (pat a).1 (hp (pat a).2.1) (out a).1 (out a).2.2 (hp (out a).2.1)) : Sp.ok P ⟨g, famF ok pat out⟩ := by
  intro args hh k r h' k' e
  simp only [famF] at e
  split at e
  · rename_i hx
    have hc := hx.choose_spec
    have := h hx.choose hc.1
    rw [hc.2] at this
    simp only [Option.some.injEq] at e
    rw [e] at this
    exact this
  · cases e
theorem ints_inj : ∀ {a b : List Int}, ints a = ints b → a = b
  | [], [], _ => rfl
  | [], y :: b, h => by simp at h
  | x :: a, [], h => by simp at h
  | x :: a, y :: b, h => by
    simp only [ints_cons, List.cons.injEq, AV.v.injEq, Value.int.injEq, true_and] at h
    rw [h.1, ints_inj h.2]
def via (h : HL) (i : Nat) : Nat := match hpF h i with
  | some (.cells (x :: _)) => idOf x
  | _ => 0
def viaC (h : HL) (i c : Nat) : Nat := match hpF h i with
  | some (.cells xs) => idOf (xs.getD c .any)
  | _ => 0
theorem ChgT.toF {k0 : Nat} (F : HL → List Nat) {s s' : ST} (h : s'.nx = (F s.heap).length ∧ lowTo (F s.heap) k0 = true ∧ k0 ≤ (F s.heap).length ∧ dist (F s.heap) = true ∧ envTo (gT (F s.heap) s.nx) s.env s'.env ∧ heapTo (F s.heap).length (gT (F s.heap) s.nx) s.heap s'.heap) : ChgT k0 s s' := .to (F s.heap) h
theorem EndsP_F {k n : Nat} {rs : List SRes} {r : AV} {H : HL} {e : Exit} {s : ST} (F : HL → List Nat) (he : e = .ret ∨ e = .normal) (hn : (F s.heap).length = n) (h : resA s.st rs = some (ren (gT (F s.heap) s.nx) r) ∧ lowTo (F s.heap) k = true ∧ k ≤ (F s.heap).length ∧ dist (F s.heap) = true ∧ heapTo (F s.heap).length (gT (F s.heap) s.nx) s.heap H) : EndsP k rs r n H e s := by
  obtain ⟨hr, low, hle, nd, hh⟩ := h
  subst hn
  have := cv_to (l := F s.heap) (nx := s.nx) (h := s.heap) (h' := H) low hle nd hh
  exact ⟨by rcases he with rfl | rfl <;> trivial, s, .refl, _, this, hr⟩
theorem EndsP_S {k n : Nat} {rs : List SRes} {r : AV} {H : HL} {e : Exit} {s : ST} (F : ST → List Nat) (he : e = .ret ∨ e = .normal) (hn : (F s).length = n) (h : resA s.st rs = some (ren (gT (F s) s.nx) r) ∧ lowTo (F s) k = true ∧ k ≤ (F s).length ∧ dist (F s) = true ∧ heapTo (F s).length (gT (F s) s.nx) s.heap H) : EndsP k rs r n H e s := by
  obtain ⟨hr, low, hle, nd, hh⟩ := h
  subst hn
  have := cv_to (l := F s) (nx := s.nx) (h := s.heap) (h' := H) low hle nd hh
  exact ⟨by rcases he with rfl | rfl <;> trivial, s, .refl, _, this, hr⟩
def ida (s : ST) (t : Nat) : Nat := idOf (enF s.env t)
@[simp] theorem ida_mk (e : List (Nat × AV)) (h : HL) (n t : Nat) : ida ⟨e, h, n⟩ t = idOf (enF e t) := rfl
@[simp] theorem range2 : List.range 2 = [0, 1] := rfl
@[simp] theorem range3 : List.range 3 = [0, 1, 2] := rfl
@[simp] theorem range4 : List.range 4 = [0, 1, 2, 3] := rfl
@[simp] theorem range5 : List.range 5 = [0, 1, 2, 3, 4] := rfl
@[simp] theorem range6 : List.range 6 = [0, 1, 2, 3, 4, 5] := rfl
@[simp] theorem range7 : List.range 7 = [0, 1, 2, 3, 4, 5, 6] := rfl
@[simp] theorem range8 : List.range 8 = [0, 1, 2, 3, 4, 5, 6, 7] := rfl
@[simp high] theorem low3 (l : List Nat) : lowTo (0 :: 1 :: 2 :: l) 3 = true := by simp [lowTo]
@[simp high] theorem low4 (l : List Nat) : lowTo (0 :: 1 :: 2 :: 3 :: l) 4 = true := by simp [lowTo]
@[simp high] theorem low5 (l : List Nat) : lowTo (0 :: 1 :: 2 :: 3 :: 4 :: l) 5 = true := by simp [lowTo]
@[simp high] theorem low6 (l : List Nat) : lowTo (0 :: 1 :: 2 :: 3 :: 4 :: 5 :: l) 6 = true := by simp [lowTo]
attribute [simp] evCall reach idsB idsL ids inA Go.Sx.inL Go.Sx.inM inB allHp enumH gl renB
attribute [simp] effMkfn via viaC
end Go.Sx
end
section
set_option maxRecDepth 4000
namespace Go.Sx
def resR (c : Bool) (L : List Int) : Out3 := if c = true then (match L with
  | [] => some (.v (.slice none 0 0), [], 0)
  | x :: r => some (.ref 0 0 (r.length + 1) 1 none, [(0, .cells (ints (x :: r)))], 1)) else none
@[simp] theorem resR_nil : resR true [] = some (.v (.slice none 0 0), [], 0) := rfl
@[simp] theorem resR_cons (x : Int) (r : List Int) : resR true (x :: r) = some (.ref 0 0 (r.length + 1) 1 none, [(0, .cells (ints (x :: r)))], 1) := rfl
theorem okT_resR {P : Program} {g : FuncId} {acc : List AV} {c : Bool} {L : List Int} (h : c = true → (L = [] → Runs P g 0 acc (hpF []) (.v (.slice none 0 0)) 0 (hpF [])) ∧ (∀ x r, L = x :: r → Runs P g 0 acc (hpF []) (.ref 0 0 (r.length + 1) 1 none) 1 (hpF [(0, .cells (ints (x :: r)))]))) : ∀ r' h' k', resR c L = some (r', h', k') → Runs P g 0 acc (hp []) r' k' (hp h') := by
  intro r' h' k' hh
  unfold resR at hh
  split at hh
  · rename_i hc
    cases L with
    | nil => cases hh; simpa only [hp_eq] using (h hc).1 rfl
    | cons x r => cases hh; simpa only [hp_eq] using (h hc).2 x r rfl
  · cases hh
end Go.Sx
namespace Go.Sx.Lk
open Go Go.Sx Go.Proofs
set_option maxHeartbeats 20000000
theorem mxR_mem : ∀ (l : List Int) (m : Int), mxR m l = m ∨ mxR m l ∈ l
  | [], m => .inl rfl
  | y :: r, m => by
    simp only [mxR]
    rcases mxR_mem r (if m < y then y else m) with h | h
    · split at h
      · exact .inr (by rw [if_pos ‹_›, h]; simp)
      · exact .inl (by rw [if_neg ‹_›, h])
    · exact .inr (by simp [h])
theorem mxL_mem {l : List Int} (h : l ≠ []) : mxL l ∈ l := by
  cases l with
  | nil => exact absurd rfl h
  | cons x r => rcases mxR_mem r x with h | h <;> simp [mxL, h]
theorem idxR_mem {x : Int} : ∀ {l : List Int} {i : Int}, x ∈ l → ∃ k : Nat, k < l.length ∧ idxR x l i = i + k ∧ l[k]? = some x
  | [], i, h => by simp at h
  | y :: r, i, h => by
    simp only [idxR]
    by_cases e : y = x
    · rw [if_pos e]; exact ⟨0, by simp, by simp, by simp [e]⟩
    · rw [if_neg e]
      obtain ⟨k, h1, h2, h3⟩ := idxR_mem (l := r) (i := i + 1) (by rcases List.mem_cons.1 h with h | h; exact absurd h.symm e; exact h)
      exact ⟨k + 1, by simp; omega, by omega, by simpa using h3⟩
theorem idxL_mem {l : List Int} {x : Int} (h : x ∈ l) : ∃ k : Nat, k < l.length ∧ idxL l x = k ∧ l[k]? = some x := by
  obtain ⟨k, h1, h2, h3⟩ := idxR_mem (i := 0) h
  exact ⟨k, h1, by simpa [idxL] using h2, h3⟩
def lpR : Nat → List Int → List Int
  | 0, _ => []
  | f + 1, l => if l = [] then [] else lpR f (l.take (idxL l (mxL l)).toNat) ++ lpR f (l.drop ((idxL l (mxL l)).toNat + 1)) ++ [mxL l]
def lpF (l : List Int) : List Int := lpR l.length l
theorem lpR_any : ∀ {n m : Nat} {l : List Int}, l.length ≤ n → l.length ≤ m → lpR n l = lpR m l
  | 0, m, l, h, _ => by
    obtain rfl : l = [] := List.length_eq_zero_iff.1 (by omega)
    cases m <;> simp [lpR]
  | n + 1, 0, l, _, h => by
    obtain rfl : l = [] := List.length_eq_zero_iff.1 (by omega)
    simp [lpR]
  | n + 1, m + 1, l, h1, h2 => by
    simp only [lpR]
    by_cases h : l = []
    · rw [if_pos h, if_pos h]
    · rw [if_neg h, if_neg h]
      obtain ⟨k, e1, e2, e3⟩ := idxL_mem (mxL_mem h)
      rw [e2, Int.toNat_natCast, lpR_any (n := n) (m := m) (by simp; omega) (by simp; omega), lpR_any (n := n) (m := m) (l := l.drop (k + 1)) (by simp; omega) (by simp; omega)]
theorem lpF_nil : lpF [] = [] := rfl
theorem lpF_step {l : List Int} {k : Nat} (h : l ≠ []) (hk : idxL l (mxL l) = k) (hl : k < l.length) : lpF l = lpF (l.take k) ++ lpF (l.drop (k + 1)) ++ [mxL l] := by
  unfold lpF
  obtain ⟨n, hn⟩ : ∃ n, l.length = n + 1 := ⟨l.length - 1, by omega⟩
  rw [hn, lpR, if_neg h, hk, Int.toNat_natCast, lpR_any (n := n) (m := (l.take k).length) (by simp; omega) (Nat.le_refl _), lpR_any (n := n) (m := (l.drop (k + 1)).length) (by simp; omega) (Nat.le_refl _)]
theorem lpF_len : ∀ (n : Nat) (l : List Int), l.length ≤ n → (lpF l).length = l.length
  | 0, l, h => by obtain rfl : l = [] := List.length_eq_zero_iff.1 (by omega); rfl
  | n + 1, l, h => by
    by_cases h0 : l = []
    · subst h0; rfl
    · obtain ⟨k, e1, e2, e3⟩ := idxL_mem (mxL_mem h0)
      rw [lpF_step h0 e2 e1]
      simp only [List.length_append, List.length_singleton]
      rw [lpF_len n _ (by simp; omega), lpF_len n _ (by simp; omega)]
      simp; omega
def s53 (f : Nat) : Sp := spT 53 [.l] fun (l : List Int) => resR (small l && decide (l.length < f)) (lpF l)
@[simp] theorem s53_g (f : Nat) : (s53 f).g = 53 := rfl
@[simp] theorem s53_f (f : Nat) : (s53 f).f = (spT 53 [.l] fun (l : List Int) => resR (small l && decide (l.length < f)) (lpF l)).f := rfl
theorem s53_ok : ∀ f : Nat, (s53 f).ok Try.prog
  | 0 => by
    apply spT_ok
    simp only [OkT, Ty.all, List.nil_append, List.cons_append]
    intro l u
    apply okT_resR
    intro hg
    simp at hg
  | f + 1 => by
    have ih := s53_ok f
    apply spT_ok
    simp only [OkT, Ty.all, List.nil_append, List.cons_append]
    intro (l : List Int) u
    apply okT_resR
    intro hg
    simp only [small, Bool.and_eq_true, decide_eq_true_eq] at hg
    obtain ⟨hsm, hf⟩ := hg
    by_cases h0 : l = []
    · subst h0
      refine ⟨fun _ => ?_, fun x r h => by simp [lpF_nil] at h⟩
      refine P53.rz (ss := []) trivial (by simp) fun Q hQ => ?_
      delta p53 p53_r0 p53_r1 p53_r2 p53_r3 p53_r4
      simp (disch := omega) [oLt, oLe, oLtN, oLeN, nLt, nLe, nLtN, nLeN]
      exact hQ _ _ (.p (.inl rfl) (by simp) rfl)
    · refine ⟨fun h => ?_, fun x r hL => ?_⟩
      · have := lpF_len _ l (Nat.le_refl _)
        rw [h] at this
        exact absurd (List.length_eq_zero_iff.1 this.symm) h0
      · have hlen := lpF_len _ l (Nat.le_refl _)
        rw [hL] at hlen
        refine P53.rz (ss := [s92, s47, s53 f]) ⟨s92_ok, s47_ok, ih, trivial⟩ (by simp) fun Q hQ => ?_
        obtain ⟨k, hk, hi, hx⟩ := idxL_mem (mxL_mem h0)
        rw [lpF_step h0 hi hk] at hL
        have hpos : ¬ (l.length : Int) = 0 := by omega
        have hpos' : ¬ l.length = 0 := by omega
        have hs := show small l = true by simpa [small] using hsm
        have hkc : (k : Int) < l.length := by omega
        have hkl : k ≤ l.length := by omega
        obtain ⟨mx, hmx⟩ : ∃ mx, mxL l = mx := ⟨_, rfl⟩
        rw [hmx] at hL hi hx
        have hx' := (List.getElem?_eq_some_iff.1 hx).2
        have hs1 : small (l.take k) = true := by simp [small]; omega
        have hs2 : small (l.drop (k + 1)) = true := by simp [small]; omega
        have hf1 : (l.take k).length < f := by simp; omega
        have hf2 : (l.drop (k + 1)).length < f := by simp; omega
        have hm1 : min k l.length = k := by omega
        have l1 := lpF_len _ (l.take k) (Nat.le_refl _)
        have l2 := lpF_len _ (l.drop (k + 1)) (Nat.le_refl _)
        rw [List.length_take, hm1] at l1
        rw [List.length_drop] at l2
        have hf1' : k < f := by omega
        have hf2' : l.length - (k + 1) < f := by omega
        have e1 : (k : Int) + 1 ≤ 9223372036854775807 := by omega
        have e2 : ((k : Int) + 1).toNat = k + 1 := by omega
        have ht : List.take (l.length - (k + 1)) (List.drop (k + 1) l) = List.drop (k + 1) l := List.take_of_length_le (by simp)
        cases hA : lpF (l.take k) with
        | nil =>
          cases hB : lpF (l.drop (k + 1)) with
          | nil =>
            rw [hA, hB] at hL
            obtain ⟨rfl, rfl⟩ : mx = x ∧ [] = r := by simpa using hL
            delta p53
            refine XZ_step ?_ (fun N Q_ hN => ?_) ?_
            rotate_left
            · delta p53_r0; simp (disch := omega) [oLt, oLe, oLtN, oLeN, nLt, nLe, nLtN, nLeN]
              exact hN
            refine XZ_step ?_ (fun N Q_ hN => ?_) ?_
            rotate_left
            · delta p53_r1 p53_r2
              simp (disch := omega) [oLt, oLe, oLtN, oLeN, nLt, nLe, nLtN, nLeN, hpos, hpos', h0]
              exact hN
            refine XZ_step ?_ (fun N Q_ hN => ?_) ?_
            rotate_left
            · delta p53_r3; simp (disch := omega) [oLt, oLe, oLtN, oLeN, nLt, nLe, nLtN, nLeN, h0, hs, hmx, hi, hkc, hkl, hk, hpos']
              exact hN
            refine XZ_seqG (XZ_drawG ?_)
            delta p53_r4
            refine zD_cut 3 ?_ ?_ (fun K_ hK => ?_) ?_
            rotate_left 2
            · simp only [List.take_succ_cons, List.take_zero]
              simp (disch := omega) [oLt, oLe, oLtN, oLeN, nLt, nLe, nLtN, nLeN, hpos, hpos', h0, hs, hmx, hi, hkc, hkl, hk, hx, hx', hs1, hs2, hf1, hf2, hf1', hf2', hm1, hA, hB, e1, e2, ht]
              exact hK
            simp only [List.drop_succ_cons, List.drop_zero]
            refine zD_cut 1 ?_ ?_ (fun K_ hK => ?_) ?_
            rotate_left 2
            · simp only [List.take_succ_cons, List.take_zero]
              simp (disch := omega) [oLt, oLe, oLtN, oLeN, nLt, nLe, nLtN, nLeN, hpos, hpos', h0, hs, hmx, hi, hkc, hkl, hk, hx, hx', hs1, hs2, hf1, hf2, hf1', hf2', hm1, hA, hB, e1, e2, ht]
              exact hK
            simp only [List.drop_succ_cons, List.drop_zero]
            refine zD_cut 4 ?_ ?_ (fun K_ hK => ?_) ?_
            rotate_left 2
            · simp only [List.take_succ_cons, List.take_zero]
              simp (disch := omega) [oLt, oLe, oLtN, oLeN, nLt, nLe, nLtN, nLeN, hpos, hpos', h0, hs, hmx, hi, hkc, hkl, hk, hx, hx', hs1, hs2, hf1, hf2, hf1', hf2', hm1, hA, hB, e1, e2, ht]
              exact hK
            simp only [List.drop_succ_cons, List.drop_zero]
            refine zD_cut 1 ?_ ?_ (fun K_ hK => ?_) ?_
            rotate_left 2
            · simp only [List.take_succ_cons, List.take_zero]
              simp (disch := omega) [oLt, oLe, oLtN, oLeN, nLt, nLe, nLtN, nLeN, hpos, hpos', h0, hs, hmx, hi, hkc, hkl, hk, hx, hx', hs1, hs2, hf1, hf2, hf1', hf2', hm1, hA, hB, e1, e2, ht]
              exact hK
            simp only [List.drop_succ_cons, List.drop_zero]
            refine zD_cut 1 ?_ ?_ (fun K_ hK => ?_) ?_
            rotate_left 2
            · simp only [List.take_succ_cons, List.take_zero]
              simp (disch := omega) [oLt, oLe, oLtN, oLeN, nLt, nLe, nLtN, nLeN, hpos, hpos', h0, hs, hmx, hi, hkc, hkl, hk, hx, hx', hs1, hs2, hf1, hf2, hf1', hf2', hm1, hA, hB, e1, e2, ht]
              exact hK
            simp only [List.drop_succ_cons, List.drop_zero]
            refine zD_cut 4 ?_ ?_ (fun K_ hK => ?_) ?_
            rotate_left 2
            · simp only [List.take_succ_cons, List.take_zero]
              simp (disch := omega) [oLt, oLe, oLtN, oLeN, nLt, nLe, nLtN, nLeN, hpos, hpos', h0, hs, hmx, hi, hkc, hkl, hk, hx, hx', hs1, hs2, hf1, hf2, hf1', hf2', hm1, hA, hB, e1, e2, ht]
              exact hK
            simp only [List.drop_succ_cons, List.drop_zero]
            refine zD_cut 3 ?_ ?_ (fun K_ hK => ?_) ?_
            rotate_left 2
            · simp only [List.take_succ_cons, List.take_zero]
              simp (disch := omega) [oLt, oLe, oLtN, oLeN, nLt, nLe, nLtN, nLeN, hpos, hpos', h0, hs, hmx, hi, hkc, hkl, hk, hx, hx', hs1, hs2, hf1, hf2, hf1', hf2', hm1, hA, hB, e1, e2, ht]
              exact hK
            simp only [List.drop_succ_cons, List.drop_zero]
            refine goD_ok (by decide) ?_
            simp (disch := omega) [oLt, oLe, oLtN, oLeN, nLt, nLe, nLtN, nLeN]
            exact hQ _ _ (EndsP_S (fun s => [ida s 2]) (.inl rfl) rfl (by simp))
          | cons b B =>
            have hbl : B.length ≤ 1000000 := by rw [hB, List.length_cons] at l2; omega
            rw [hA, hB] at hL
            obtain ⟨rfl, rfl⟩ : b = x ∧ B ++ [mx] = r := by simpa using hL
            delta p53
            refine XZ_step ?_ (fun N Q_ hN => ?_) ?_
            rotate_left
            · delta p53_r0; simp (disch := omega) [oLt, oLe, oLtN, oLeN, nLt, nLe, nLtN, nLeN]
              exact hN
            refine XZ_step ?_ (fun N Q_ hN => ?_) ?_
            rotate_left
            · delta p53_r1 p53_r2
              simp (disch := omega) [oLt, oLe, oLtN, oLeN, nLt, nLe, nLtN, nLeN, hpos, hpos', h0]
              exact hN
            refine XZ_step ?_ (fun N Q_ hN => ?_) ?_
            rotate_left
            · delta p53_r3; simp (disch := omega) [oLt, oLe, oLtN, oLeN, nLt, nLe, nLtN, nLeN, h0, hs, hmx, hi, hkc, hkl, hk, hpos']
              exact hN
            refine XZ_seqG (XZ_drawG ?_)
            delta p53_r4
            refine zD_cut 3 ?_ ?_ (fun K_ hK => ?_) ?_
            rotate_left 2
            · simp only [List.take_succ_cons, List.take_zero]
              simp (disch := omega) [oLt, oLe, oLtN, oLeN, nLt, nLe, nLtN, nLeN, hpos, hpos', h0, hs, hmx, hi, hkc, hkl, hk, hx, hx', hs1, hs2, hf1, hf2, hf1', hf2', hm1, hA, hB, e1, e2, ht]
              exact hK
            simp only [List.drop_succ_cons, List.drop_zero]
            refine zD_cut 1 ?_ ?_ (fun K_ hK => ?_) ?_
            rotate_left 2
            · simp only [List.take_succ_cons, List.take_zero]
              simp (disch := omega) [oLt, oLe, oLtN, oLeN, nLt, nLe, nLtN, nLeN, hpos, hpos', h0, hs, hmx, hi, hkc, hkl, hk, hx, hx', hs1, hs2, hf1, hf2, hf1', hf2', hm1, hA, hB, e1, e2, ht]
              exact hK
            simp only [List.drop_succ_cons, List.drop_zero]
            refine zD_cut 4 ?_ ?_ (fun K_ hK => ?_) ?_
            rotate_left 2
            · simp only [List.take_succ_cons, List.take_zero]
              simp (disch := omega) [oLt, oLe, oLtN, oLeN, nLt, nLe, nLtN, nLeN, hpos, hpos', h0, hs, hmx, hi, hkc, hkl, hk, hx, hx', hs1, hs2, hf1, hf2, hf1', hf2', hm1, hA, hB, e1, e2, ht]
              exact hK
            simp only [List.drop_succ_cons, List.drop_zero]
            refine zD_cut 1 ?_ ?_ (fun K_ hK => ?_) ?_
            rotate_left 2
            · simp only [List.take_succ_cons, List.take_zero]
              simp (disch := omega) [oLt, oLe, oLtN, oLeN, nLt, nLe, nLtN, nLeN, hpos, hpos', h0, hs, hmx, hi, hkc, hkl, hk, hx, hx', hs1, hs2, hf1, hf2, hf1', hf2', hm1, hA, hB, e1, e2, ht]
              exact hK
            simp only [List.drop_succ_cons, List.drop_zero]
            refine zD_cut 1 ?_ ?_ (fun K_ hK => ?_) ?_
            rotate_left 2
            · simp only [List.take_succ_cons, List.take_zero]
              simp (disch := omega) [oLt, oLe, oLtN, oLeN, nLt, nLe, nLtN, nLeN, hpos, hpos', h0, hs, hmx, hi, hkc, hkl, hk, hx, hx', hs1, hs2, hf1, hf2, hf1', hf2', hm1, hA, hB, e1, e2, ht]
              exact hK
            simp only [List.drop_succ_cons, List.drop_zero]
            refine zD_cut 4 ?_ ?_ (fun K_ hK => ?_) ?_
            rotate_left 2
            · simp only [List.take_succ_cons, List.take_zero]
              simp (disch := omega) [oLt, oLe, oLtN, oLeN, nLt, nLe, nLtN, nLeN, hpos, hpos', h0, hs, hmx, hi, hkc, hkl, hk, hx, hx', hs1, hs2, hf1, hf2, hf1', hf2', hm1, hA, hB, e1, e2, ht]
              exact hK
            simp only [List.drop_succ_cons, List.drop_zero]
            refine zD_cut 3 ?_ ?_ (fun K_ hK => ?_) ?_
            rotate_left 2
            · simp only [List.take_succ_cons, List.take_zero]
              simp (disch := omega) [oLt, oLe, oLtN, oLeN, nLt, nLe, nLtN, nLeN, hpos, hpos', h0, hs, hmx, hi, hkc, hkl, hk, hx, hx', hs1, hs2, hf1, hf2, hf1', hf2', hm1, hA, hB, e1, e2, ht]
              exact hK
            simp only [List.drop_succ_cons, List.drop_zero]
            refine goD_ok (by decide) ?_
            simp (disch := omega) [oLt, oLe, oLtN, oLeN, nLt, nLe, nLtN, nLeN]
            exact hQ _ _ (EndsP_S (fun s => [ida s 2]) (.inl rfl) rfl (by simp))
        | cons a A =>
          cases hB : lpF (l.drop (k + 1)) with
          | nil =>
            have hal : A.length ≤ 1000000 := by rw [hA, List.length_cons] at l1; omega
            rw [hA, hB] at hL
            obtain ⟨rfl, rfl⟩ : a = x ∧ A ++ [mx] = r := by simpa using hL
            delta p53
            refine XZ_step ?_ (fun N Q_ hN => ?_) ?_
            rotate_left
            · delta p53_r0; simp (disch := omega) [oLt, oLe, oLtN, oLeN, nLt, nLe, nLtN, nLeN]
              exact hN
            refine XZ_step ?_ (fun N Q_ hN => ?_) ?_
            rotate_left
            · delta p53_r1 p53_r2
              simp (disch := omega) [oLt, oLe, oLtN, oLeN, nLt, nLe, nLtN, nLeN, hpos, hpos', h0]
              exact hN
            refine XZ_step ?_ (fun N Q_ hN => ?_) ?_
            rotate_left
            · delta p53_r3; simp (disch := omega) [oLt, oLe, oLtN, oLeN, nLt, nLe, nLtN, nLeN, h0, hs, hmx, hi, hkc, hkl, hk, hpos']
              exact hN
            refine XZ_seqG (XZ_drawG ?_)
            delta p53_r4
            refine zD_cut 3 ?_ ?_ (fun K_ hK => ?_) ?_
            rotate_left 2
            · simp only [List.take_succ_cons, List.take_zero]
              simp (disch := omega) [oLt, oLe, oLtN, oLeN, nLt, nLe, nLtN, nLeN, hpos, hpos', h0, hs, hmx, hi, hkc, hkl, hk, hx, hx', hs1, hs2, hf1, hf2, hf1', hf2', hm1, hA, hB, e1, e2, ht]
              exact hK
            simp only [List.drop_succ_cons, List.drop_zero]
            refine zD_cut 1 ?_ ?_ (fun K_ hK => ?_) ?_
            rotate_left 2
            · simp only [List.take_succ_cons, List.take_zero]
              simp (disch := omega) [oLt, oLe, oLtN, oLeN, nLt, nLe, nLtN, nLeN, hpos, hpos', h0, hs, hmx, hi, hkc, hkl, hk, hx, hx', hs1, hs2, hf1, hf2, hf1', hf2', hm1, hA, hB, e1, e2, ht]
              exact hK
            simp only [List.drop_succ_cons, List.drop_zero]
            refine zD_cut 4 ?_ ?_ (fun K_ hK => ?_) ?_
            rotate_left 2
            · simp only [List.take_succ_cons, List.take_zero]
              simp (disch := omega) [oLt, oLe, oLtN, oLeN, nLt, nLe, nLtN, nLeN, hpos, hpos', h0, hs, hmx, hi, hkc, hkl, hk, hx, hx', hs1, hs2, hf1, hf2, hf1', hf2', hm1, hA, hB, e1, e2, ht]
              exact hK
            simp only [List.drop_succ_cons, List.drop_zero]
            refine zD_cut 1 ?_ ?_ (fun K_ hK => ?_) ?_
            rotate_left 2
            · simp only [List.take_succ_cons, List.take_zero]
              simp (disch := omega) [oLt, oLe, oLtN, oLeN, nLt, nLe, nLtN, nLeN, hpos, hpos', h0, hs, hmx, hi, hkc, hkl, hk, hx, hx', hs1, hs2, hf1, hf2, hf1', hf2', hm1, hA, hB, e1, e2, ht]
              exact hK
            simp only [List.drop_succ_cons, List.drop_zero]
            refine zD_cut 1 ?_ ?_ (fun K_ hK => ?_) ?_
            rotate_left 2
            · simp only [List.take_succ_cons, List.take_zero]
              simp (disch := omega) [oLt, oLe, oLtN, oLeN, nLt, nLe, nLtN, nLeN, hpos, hpos', h0, hs, hmx, hi, hkc, hkl, hk, hx, hx', hs1, hs2, hf1, hf2, hf1', hf2', hm1, hA, hB, e1, e2, ht]
              exact hK
            simp only [List.drop_succ_cons, List.drop_zero]
            refine zD_cut 4 ?_ ?_ (fun K_ hK => ?_) ?_
            rotate_left 2
            · simp only [List.take_succ_cons, List.take_zero]
              simp (disch := omega) [oLt, oLe, oLtN, oLeN, nLt, nLe, nLtN, nLeN, hpos, hpos', h0, hs, hmx, hi, hkc, hkl, hk, hx, hx', hs1, hs2, hf1, hf2, hf1', hf2', hm1, hA, hB, e1, e2, ht]
              exact hK
            simp only [List.drop_succ_cons, List.drop_zero]
            refine zD_cut 3 ?_ ?_ (fun K_ hK => ?_) ?_
            rotate_left 2
            · simp only [List.take_succ_cons, List.take_zero]
              simp (disch := omega) [oLt, oLe, oLtN, oLeN, nLt, nLe, nLtN, nLeN, hpos, hpos', h0, hs, hmx, hi, hkc, hkl, hk, hx, hx', hs1, hs2, hf1, hf2, hf1', hf2', hm1, hA, hB, e1, e2, ht]
              exact hK
            simp only [List.drop_succ_cons, List.drop_zero]
            refine goD_ok (by decide) ?_
            simp (disch := omega) [oLt, oLe, oLtN, oLeN, nLt, nLe, nLtN, nLeN]
            exact hQ _ _ (EndsP_S (fun s => [ida s 2]) (.inl rfl) rfl (by simp))
          | cons b B =>
            have hal : A.length ≤ 1000000 := by rw [hA, List.length_cons] at l1; omega
            have hbl : B.length ≤ 1000000 := by rw [hB, List.length_cons] at l2; omega
            rw [hA, hB] at hL
            obtain ⟨rfl, rfl⟩ : a = x ∧ A ++ b :: B ++ [mx] = r := by simpa using hL
            delta p53
            refine XZ_step ?_ (fun N Q_ hN => ?_) ?_
            rotate_left
            · delta p53_r0; simp (disch := omega) [oLt, oLe, oLtN, oLeN, nLt, nLe, nLtN, nLeN]
              exact hN
            refine XZ_step ?_ (fun N Q_ hN => ?_) ?_
            rotate_left
            · delta p53_r1 p53_r2
              simp (disch := omega) [oLt, oLe, oLtN, oLeN, nLt, nLe, nLtN, nLeN, hpos, hpos', h0]
              exact hN
            refine XZ_step ?_ (fun N Q_ hN => ?_) ?_
            rotate_left
            · delta p53_r3; simp (disch := omega) [oLt, oLe, oLtN, oLeN, nLt, nLe, nLtN, nLeN, h0, hs, hmx, hi, hkc, hkl, hk, hpos']
              exact hN
            refine XZ_seqG (XZ_drawG ?_)
            delta p53_r4
            refine zD_cut 3 ?_ ?_ (fun K_ hK => ?_) ?_
            rotate_left 2
            · simp only [List.take_succ_cons, List.take_zero]
              simp (disch := omega) [oLt, oLe, oLtN, oLeN, nLt, nLe, nLtN, nLeN, hpos, hpos', h0, hs, hmx, hi, hkc, hkl, hk, hx, hx', hs1, hs2, hf1, hf2, hf1', hf2', hm1, hA, hB, e1, e2, ht]
              exact hK
            simp only [List.drop_succ_cons, List.drop_zero]
            refine zD_cut 1 ?_ ?_ (fun K_ hK => ?_) ?_
            rotate_left 2
            · simp only [List.take_succ_cons, List.take_zero]
              simp (disch := omega) [oLt, oLe, oLtN, oLeN, nLt, nLe, nLtN, nLeN, hpos, hpos', h0, hs, hmx, hi, hkc, hkl, hk, hx, hx', hs1, hs2, hf1, hf2, hf1', hf2', hm1, hA, hB, e1, e2, ht]
              exact hK
            simp only [List.drop_succ_cons, List.drop_zero]
            refine zD_cut 4 ?_ ?_ (fun K_ hK => ?_) ?_
            rotate_left 2
            · simp only [List.take_succ_cons, List.take_zero]
              simp (disch := omega) [oLt, oLe, oLtN, oLeN, nLt, nLe, nLtN, nLeN, hpos, hpos', h0, hs, hmx, hi, hkc, hkl, hk, hx, hx', hs1, hs2, hf1, hf2, hf1', hf2', hm1, hA, hB, e1, e2, ht]
              exact hK
            simp only [List.drop_succ_cons, List.drop_zero]
            refine zD_cut 1 ?_ ?_ (fun K_ hK => ?_) ?_
            rotate_left 2
            · simp only [List.take_succ_cons, List.take_zero]
              simp (disch := omega) [oLt, oLe, oLtN, oLeN, nLt, nLe, nLtN, nLeN, hpos, hpos', h0, hs, hmx, hi, hkc, hkl, hk, hx, hx', hs1, hs2, hf1, hf2, hf1', hf2', hm1, hA, hB, e1, e2, ht]
              exact hK
            simp only [List.drop_succ_cons, List.drop_zero]
            refine zD_cut 1 ?_ ?_ (fun K_ hK => ?_) ?_
            rotate_left 2
            · simp only [List.take_succ_cons, List.take_zero]
              simp (disch := omega) [oLt, oLe, oLtN, oLeN, nLt, nLe, nLtN, nLeN, hpos, hpos', h0, hs, hmx, hi, hkc, hkl, hk, hx, hx', hs1, hs2, hf1, hf2, hf1', hf2', hm1, hA, hB, e1, e2, ht]
              exact hK
            simp only [List.drop_succ_cons, List.drop_zero]
            refine zD_cut 4 ?_ ?_ (fun K_ hK => ?_) ?_
            rotate_left 2
            · simp only [List.take_succ_cons, List.take_zero]
              simp (disch := omega) [oLt, oLe, oLtN, oLeN, nLt, nLe, nLtN, nLeN, hpos, hpos', h0, hs, hmx, hi, hkc, hkl, hk, hx, hx', hs1, hs2, hf1, hf2, hf1', hf2', hm1, hA, hB, e1, e2, ht]
              exact hK
            simp only [List.drop_succ_cons, List.drop_zero]
            refine zD_cut 3 ?_ ?_ (fun K_ hK => ?_) ?_
            rotate_left 2
            · simp only [List.take_succ_cons, List.take_zero]
              simp (disch := omega) [oLt, oLe, oLtN, oLeN, nLt, nLe, nLtN, nLeN, hpos, hpos', h0, hs, hmx, hi, hkc, hkl, hk, hx, hx', hs1, hs2, hf1, hf2, hf1', hf2', hm1, hA, hB, e1, e2, ht]
              exact hK
            simp only [List.drop_succ_cons, List.drop_zero]
            refine goD_ok (by decide) ?_
            simp (disch := omega) [oLt, oLe, oLtN, oLeN, nLt, nLe, nLtN, nLeN]
            exact hQ _ _ (EndsP_S (fun s => [ida s 2]) (.inl rfl) rfl (by simp; exact ⟨by omega, by rw [List.take_of_length_le (by simp; omega)]; simp⟩))
end Go.Sx.Lk
end
