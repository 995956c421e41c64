/- What functions of the library return: slices.Delete of one number, when the list has a rest behind. No conditions. -/
import Derived.Test.YteoiebmbgbgpgaaSxJLAtoLB
import Derived.Test.YteoiebmbgbgpgaaSxPLc
import Derived.Test.YteoiebmbgbgpgaaSxSt
set_option linter.unusedVariables false
set_option linter.unusedSimpArgs false
section
set_option maxRecDepth 4000
namespace Go.Sx.Lk
open Go Go.Sx Go.Proofs
theorem EndsP_at {k : Nat} {rs : List SRes} {r : AV} {H : HL} {e : Exit} {s : ST} (l : List Nat) (he : e = .ret ∨ e = .normal) (hr : resA s.st rs = some (ren (gT l s.nx) r)) (low : lowTo l k = true) (hle : k ≤ l.length) (nd : dist l = true)
    (hh : heapTo l.length (gT l s.nx) s.heap H) : EndsP k rs r l.length H e s := by
  have := cv_to (l := l) (nx := s.nx) (h := s.heap) (h' := H) low hle nd hh
  exact ⟨by rcases he with rfl | rfl <;> trivial, s, .refl, _, this, hr⟩
def f87 : List AV → HL → Nat → Option (AV × HL × Nat) := fun args h k => match args, h, k with
  | [.ref 0 0 n 1 none, .v (.int .i64 i), .v (.int .i64 j)], [(0, .cells cs)], 1 => match unints cs with
    | some l => if n ≤ l.length ∧ small l = true ∧ 0 ≤ i ∧ i.toNat < n ∧ j = i + 1 then some (.ref 0 0 (n - 1) 1 none, [(0, .cells (ints ((l.take n).eraseIdx i.toNat ++ 0 :: l.drop n)))], 1) else none
    | none => none
  | _, _, _ => none
def s87 : Sp := ⟨87, f87⟩
@[simp] theorem s87_g : s87.g = 87 := rfl
@[simp] theorem s87_f : s87.f = f87 := rfl
set_option maxHeartbeats 2000000 in
theorem s87_ok : s87.ok Try.prog := by
  intro args h k r h' k' hh
  simp only [s87_f, f87] at hh
  split at hh
  · split at hh
    · rename_i l hl
      split at hh
      · rename_i hc
        obtain ⟨hnl, hsl, h0, hi, rfl⟩ := hc
        cases hh
        rw [unints_inv hl]
        rename_i i n _ _ _
        obtain ⟨i, rfl⟩ := Int.eq_ofNat_of_zero_le h0
        simp only [Int.toNat_natCast] at hi ⊢
        have hll : l.length ≤ 1000000 := by simpa [small] using hsl
        obtain ⟨A, x, B, Z, rfl, rfl, rfl⟩ : ∃ A x B Z, l = (A ++ x :: B) ++ Z ∧ i = A.length ∧ n = (A ++ x :: B).length := by
          have hi' : i < (l.take n).length := by rw [List.length_take]; omega
          exact ⟨(l.take n).take i, (l.take n)[i], (l.take n).drop (i + 1), l.drop n, by rw [← List.drop_eq_getElem_cons hi', List.take_append_drop, List.take_append_drop], by rw [List.length_take]; omega, by rw [← List.drop_eq_getElem_cons hi', List.take_append_drop, List.length_take]; omega⟩
        have he : (A ++ x :: B).eraseIdx A.length = A ++ B := by
          rw [List.eraseIdx_append_of_length_le (Nat.le_refl _), Nat.sub_self]; rfl
        have hne : ¬ (A.length : Int) = A.length + 1 := by omega
        have hlen : (A ++ x :: B).length = A.length + (B.length + 1) := by simp
        rw [List.take_left, List.drop_left, he, hlen, show A.length + (B.length + 1) - 1 = A.length + B.length by omega]
        rw [List.length_append, hlen] at hll
        clear hl hsl he hi h0 hnl
        simp only [hp_eq]
        rcases B with _ | ⟨y, B⟩
        · have hsp : splice (ints A ++ vI x :: ints Z) A.length [vI 0] = ints A ++ vI 0 :: ints Z := by
            rw [splice_one _ _ _ (by simp)]
            rw [List.set_append_right _ _ (by simp)]
            simp
          have hd1 : List.take 0 (List.drop (A.length + 1) (ints A ++ vI x :: ints Z)) = [] := by simp
          refine P87.rz (ss := []) trivial (by simp) fun Q hQ => ?_
          delta p87 p87_r0 p87_r1 p87_r2 p87_r3 p87_r4 p87_r5 p87_r6 p87_r7
          simp only [ints_app, ints_cons, ints_nil, List.length_nil, Nat.zero_add, Nat.add_zero, List.append_assoc, List.cons_append, List.nil_append]
          simp (disch := omega) [oLt, oLe, oLtN, oLeN, nLt, nLe, nLtN, nLeN, hne, hsp, effClear]
          exact hQ _ _ (EndsP_at [0] (.inl rfl) (by simp) rfl (by simp) rfl (by simp))
        · obtain ⟨z, hz⟩ : ∃ z, (x :: y :: B).drop (B.length + 1) = [z] := by
            have : ((x :: y :: B).drop (B.length + 1)).length = 1 := by simp
            exact List.length_eq_one_iff.1 this
          have hz' : (vI x :: vI y :: ints B).drop (B.length + 1) = [vI z] := by
            have := congrArg ints hz
            simpa [ints, List.map_drop] using this
          have hd : List.take (B.length + 1) (List.drop (A.length + 1) (ints A ++ vI x :: vI y :: (ints B ++ ints Z))) = vI y :: ints B := by
            rw [← List.drop_drop, List.drop_left' (by simp), List.drop_succ_cons, List.drop_zero, List.take_succ_cons, List.take_left' (by simp)]
          have hsp : splice (ints A ++ vI x :: vI y :: (ints B ++ ints Z)) A.length (vI y :: ints B) = ints A ++ vI y :: (ints B ++ vI z :: ints Z) := by
            have e : (vI x :: vI y :: (ints B ++ ints Z)).drop (B.length + 1) = vI z :: ints Z := by
              have e2 : vI x :: vI y :: (ints B ++ ints Z) = (vI x :: vI y :: ints B) ++ ints Z := by simp
              rw [e2, List.drop_append_of_le_length (by simp), hz']; rfl
            unfold splice
            rw [List.take_left' (by simp), ← List.drop_drop, List.drop_left' (by simp), show (vI y :: ints B).length = B.length + 1 by simp, e]
            simp
          have hsp2 : splice (ints A ++ vI y :: (ints B ++ vI z :: ints Z)) (A.length + (B.length + 1)) [vI 0] = ints A ++ vI y :: (ints B ++ vI 0 :: ints Z) := by
            rw [splice_one _ _ _ (by simp)]
            rw [List.set_append_right _ _ (by simp)]
            simp [List.set_append_right]
          have hn1 : A.length + (B.length + 1 + 1) - (A.length + 1) = B.length + 1 := by omega
          have hn2 : A.length + (B.length + 1 + 1) - (A.length + (B.length + 1)) = 1 := by omega
          refine P87.rz (ss := []) trivial (by simp) fun Q hQ => ?_
          delta p87 p87_r0 p87_r1 p87_r2 p87_r3 p87_r4 p87_r5 p87_r6 p87_r7
          simp only [ints_app, ints_cons, List.length_cons, List.append_assoc, List.cons_append, List.nil_append]
          have ht1 : ((A.length : Int) + (B.length + 1)).toNat = A.length + (B.length + 1) := by omega
          have ht2 : ((A.length : Int) + (B.length + 1 + 1)).toNat = A.length + (B.length + 1 + 1) := by omega
          simp (disch := omega) [oLt, oLe, oLtN, oLeN, nLt, nLe, nLtN, nLeN, hne, hd, hsp, hsp2, hn1, hn2, ht1, ht2, effClear]
          exact hQ _ _ (EndsP_at [0] (.inl rfl) (by simp) rfl (by simp) rfl (by simp))
      · cases hh
    · cases hh
  · cases hh
end Go.Sx.Lk
end
section
set_option maxRecDepth 4000
namespace Go.Sx.Lk
open Go Go.Sx Go.Proofs
def within (a n b : Int) : Bool := decide (a ≤ n) && decide (n ≤ b)
theorem within_iff {a n b : Int} : within a n b = true ↔ a ≤ n ∧ n ≤ b := by simp [within]
def u8s (l : List Int) : List AV := l.map fun n => .v (.int .u8 n)
@[simp] theorem u8s_ren (g : Nat → Nat) (l : List Int) : renL g (u8s l) = u8s l := by induction l with | nil => rfl | cons a l ih => simpa [u8s] using ih
@[simp] theorem u8s_clo (l : List Int) : cloL (u8s l) = true := by induction l with | nil => rfl | cons a l ih => simpa [u8s] using ih
@[simp] theorem u8s_flat (l : List Int) : flatL (u8s l) = true := by induction l with | nil => rfl | cons a l ih => simpa [u8s] using ih
@[simp] theorem u8s_fr (id : Nat) (cs : List AV) (l : List Int) : frL id cs (u8s l) = u8s l := by induction l with | nil => rfl | cons a l ih => simpa [u8s] using ih
def trA (s : Int) (O : List Int) : List AV := .v (.int .u8 s) :: u8s O
def iota (n : Nat) : List Int := (List.range n).map fun (i : Nat) => (i : Int)
theorem iota_succ (n : Nat) : iota (n + 1) = iota n ++ [(n : Int)] := by simp [iota, List.range_succ]
@[simp] theorem iota_len (n : Nat) : (iota n).length = n := by simp [iota]
def mtS (O : List Int) (n : Nat) : Nat → List Int × List Int
  | 0 => (iota n, [])
  | i + 1 =>
    let st := mtS O n i
    let k := (O.getD i 0).toNat % st.1.length
    (st.1.eraseIdx k, st.2 ++ [st.1.getD k 0])
theorem mtS_len (O : List Int) (n : Nat) : ∀ {i : Nat}, i ≤ n → (mtS O n i).1.length = n - i
  | 0, _ => by simp [mtS]
  | i + 1, h => by
    have ih := mtS_len O n (i := i) (by omega)
    have hp : 0 < (mtS O n i).1.length := by omega
    simp only [mtS]
    rw [List.length_eraseIdx_of_lt (Nat.mod_lt _ hp), ih]; omega
theorem mtS_out (O : List Int) (n : Nat) : ∀ i : Nat, (mtS O n i).2.length = i
  | 0 => rfl
  | i + 1 => by simp [mtS, mtS_out O n i]
def mtL (s : Nat) (O : List Int) (most : Nat) : List Int := (mtS O (1 + s % most) (1 + s % most)).2
def inA' : AV → Int
  | .v (.int _ n) => n
  | _ => 0
def trS (K : List AV) : Int := inA' (K.getD 0 (.v (.bool false)))
def trO (K : List AV) : List Int := (K.drop 1).map inA'
theorem trS_of (s : Int) (O : List Int) : trS (trA s O) = s := rfl
theorem trO_of (s : Int) (O : List Int) : trO (trA s O) = O := by simp [trO, trA, u8s, Function.comp_def, inA']
def gTr (s : Int) (O : List Int) (most : Int) : Bool := within 0 s 255 && decide (O.length = 7) && O.all (within 0 · 255) && within 1 most 7
noncomputable def f45 : List AV → HL → Nat → Option (AV × HL × Nat) := fun args h k => match args, h, k with
  | [.agg K, .v (.int .i64 most)], [], 0 => open Classical in if K = trA (trS K) (trO K) ∧ gTr (trS K) (trO K) most = true then some (.il (ints (mtL (trS K).toNat (trO K) most.toNat)) (mtL (trS K).toNat (trO K) most.toNat).length false, [], 0) else none
  | _, _, _ => none
theorem f45_at {s : Int} {O : List Int} {most : Int} (h : gTr s O most = true) : f45 [.agg (trA s O), vI most] [] 0 = some (.il (ints (mtL s.toNat O most.toNat)) (mtL s.toNat O most.toNat).length false, [], 0) := by
  simp only [f45, trS_of, trO_of]
  rw [if_pos ⟨trivial, h⟩]
noncomputable def s45 : Sp := ⟨45, f45⟩
@[simp] theorem s45_g : s45.g = 45 := rfl
@[simp] theorem s45_f : s45.f = f45 := rfl
attribute [simp] evCall reach idsB idsL ids inA Go.Sx.inL Go.Sx.inM inB allHp enumH gl renB
@[simp] theorem idsL_app9 : ∀ a b : List AV, idsL (a ++ b) = idsL a ++ idsL b
  | [], b => rfl
  | x :: a, b => by cases x <;> simp [idsL, idsL_app9 a b]
@[simp] theorem inL_app9 (p : Nat → Bool) : ∀ a b : List AV, Go.Sx.inL p (a ++ b) = (Go.Sx.inL p a && Go.Sx.inL p b)
  | [], b => by simp
  | x :: a, b => by rw [List.cons_append, Go.Sx.inL, Go.Sx.inL, inL_app9 p a b, Bool.and_assoc]
@[simp] theorem idsL_ints9 : ∀ l : List Int, idsL (ints l) = []
  | [] => rfl
  | x :: l => by rw [ints_cons, idsL, idsL_ints9 l]
@[simp] theorem inL_ints9 (p : Nat → Bool) : ∀ l : List Int, Go.Sx.inL p (ints l) = true
  | [] => rfl
  | x :: l => by rw [ints_cons, Go.Sx.inL, inL_ints9 p l]; rfl
def mt1 (K : List AV) (n : Nat) : Nat → ST
  | 0 => ⟨[(2, .ptr 0 0), (5, vI n), (6, .v (.slice none 0 0)), (7, .v (.slice none 0 0)), (17, vI n), (18, vI (0 : Nat))], [(0, .cells K)], 1⟩
  | i + 1 => ⟨[(2, .ptr 0 0), (5, vI n), (6, .ref 1 0 (i + 1) 1 none), (7, .v (.slice none 0 0)), (17, vI n), (18, vI (i + 1 : Nat))], [(0, .cells K), (1, .cells (ints (iota (i + 1))))], 2⟩
def mt2 (K : List AV) (n : Nat) (l L : List Int) : Nat → ST
  | 0 => ⟨[(2, .ptr 0 0), (6, .ref 1 0 l.length 1 none), (7, .v (.slice none 0 0)), (26, vI n), (27, vI (0 : Nat))], [(0, .cells K), (1, .cells (ints l))], 2⟩
  | i + 1 => ⟨[(2, .ptr 0 0), (6, .ref 1 0 l.length 1 none), (7, .ref 2 0 (i + 1) 1 none), (26, vI n), (27, vI (i + 1 : Nat))], [(0, .cells K), (1, .cells (ints (l ++ List.replicate (i + 1) 0))), (2, .cells (ints L))], 3⟩
set_option maxHeartbeats 8000000 in
theorem s45_ok : s45.ok Try.prog := by
  intro args h k r h' k' hh
  simp only [s45_f, f45] at hh
  split at hh
  · rename_i K most
    split at hh
    · rename_i hc
      cases hh
      obtain ⟨hK, hg⟩ := hc
      generalize trS K = s at *
      generalize trO K = O at *
      simp only [gTr, Bool.and_eq_true, decide_eq_true_eq, within_iff, List.all_eq_true] at hg
      obtain ⟨⟨⟨hs, hO⟩, hOb⟩, hm⟩ := hg
      obtain ⟨s, rfl⟩ := Int.eq_ofNat_of_zero_le hs.1
      obtain ⟨most, rfl⟩ := Int.eq_ofNat_of_zero_le (show 0 ≤ most by omega)
      simp only [Int.toNat_natCast]
      obtain ⟨q, hq⟩ : ∃ q, s % most = q := ⟨_, rfl⟩
      have hsm : s % most < most := Nat.mod_lt _ (by omega)
      obtain ⟨n, hn⟩ : ∃ n, q + 1 = n := ⟨_, rfl⟩
      have hn7 : n ≤ 7 := by omega
      have hn0 : ¬ n = 0 := by omega
      have k0 : K[0]? = some (.v (.int .u8 s)) := by rw [hK]; rfl
      have k0' := (List.getElem?_eq_some_iff.1 k0).2
      have kO : ∀ i : Nat, i < 7 → ∃ x : Nat, x ≤ 255 ∧ O.getD i 0 = x ∧ K[1 + i]? = some (.v (.int .u8 x)) := fun i hi => by
        have hb := hOb O[i] (List.getElem_mem (by omega))
        obtain ⟨x, hx⟩ := Int.eq_ofNat_of_zero_le hb.1
        refine ⟨x, by omega, by rw [List.getD_eq_getElem?_getD, List.getElem?_eq_getElem (by omega), hx]; rfl, ?_⟩
        rw [hK, trA, Nat.add_comm, List.getElem?_cons_succ, u8s, List.getElem?_map, List.getElem?_eq_getElem (by omega), hx]; rfl
      have hKr : ∀ f, renL f K = K := fun f => by rw [hK]; simp [trA]
      have hKf : ∀ id cs, frL id cs K = K := fun id cs => by rw [hK]; simp [trA]
      have hKl : K.length = 8 := by rw [hK]; simp [trA, u8s, hO]
      have hmod : (s : Int) % (most : Int) = (q : Int) := by rw [← hq]; simp
      have hmne : ¬ (most : Int) = 0 := by omega
      have hmne2 : ¬ most = 0 := by omega
      have hadd : (1 : Int) + (q : Int) = (n : Int) := by omega
      have hml : mtL s O most = (mtS O n n).2 := by unfold mtL; rw [hq, show 1 + q = n by omega]
      rw [hml]
      clear hK hml
      simp only [hp_eq]
      refine P45.rz (ss := [s87]) ⟨s87_ok, trivial⟩ (by simp) fun Q hQ => ?_
      delta p45 p45_r0 p45_r1 p45_r2 p45_r3
      simp (disch := omega) [oLt, oLe, oLtN, oLeN, nLt, nLe, nLtN, nLeN, k0, k0', hmod, hmne, hmne2, hadd]
      refine XZ_for (fun i : Nat => mt1 K n i) (fun i => n - i) (fun i => i ≤ n) 0 (by simp) (.tot [2] (by simp [mt1, hKr])) ?_
      intro i hi N Q' hN hE
      rcases Nat.lt_or_ge i n with h | h
      · have hic : (i : Int) < n := by omega
        have fin : ∀ s', ChgT 0 s' (mt1 K n (i + 1)) → N s' := fun s' hh => hN s' (i + 1) (by omega) h hh
        clear hN hE hQ
        rcases i with _ | i
        · simp only [mt1] at fin ⊢
          delta p45_l0 p45_r4 p45_r5 p45_r6 p45_r7
          simp (disch := omega) [oLt, oLe, oLtN, oLeN, nLt, nLe, nLtN, nLeN, hic, h]
          exact fin _ (.tot [2, 6] (by simp [hKr, iota]))
        · simp only [mt1] at fin ⊢
          have htk : (iota (i + 1)).take (i + 1) = iota (i + 1) := List.take_of_length_le (by simp)
          delta p45_l0 p45_r4 p45_r5 p45_r6 p45_r7
          simp (disch := omega) [oLt, oLe, oLtN, oLeN, nLt, nLe, nLtN, nLeN, hic, h]
          exact fin _ (.tot [2, 6] (by simp [hKr, iota_succ (i + 1), htk]))
      · obtain rfl : i = n := by omega
        have hic : ¬ (i : Int) < i := by omega
        clear hN
        rcases i with _ | i
        · exact (hn0 rfl).elim
        simp only [mt1]
        delta p45_l0 p45_r4 p45_r5 p45_r6 p45_r7
        simp (disch := omega) [oLt, oLe, oLtN, oLeN, nLt, nLe, nLtN, nLeN, hic]
        refine hE _ _ _ .refl ?_
        delta p45_r8
        simp (disch := omega) [oLt, oLe, oLtN, oLeN, nLt, nLe, nLtN, nLeN]
        have hcast : (i : Int) + 1 = ((i + 1 : Nat) : Int) := by simp
        rw [hcast]
        clear hcast hE hic h hi
        generalize i + 1 = n at *
        refine XZ_for (fun j : Nat => mt2 K n (mtS O n j).1 (mtS O n j).2 j) (fun j => n - j) (fun j => j ≤ n) 0 (by simp) (.tot [2, 6] (by simp [mt2, hKr, mtS])) ?_
        intro j hj N Q2 hN hE2
        have hl := mtS_len O n hj
        have hLl := mtS_out O n j
        rcases Nat.lt_or_ge j n with h | h
        · obtain ⟨x, hx1, hx2, hx3⟩ := kO j (by omega)
          have hx3' := (List.getElem?_eq_some_iff.1 hx3).2
          have hjc : (j : Int) < n := by omega
          have hj7 : j < 7 := by omega
          have hj7c : (j : Int) < 7 := by omega
          have hnext : mtS O n (j + 1) = ((mtS O n j).1.eraseIdx (x % (mtS O n j).1.length), (mtS O n j).2 ++ [(mtS O n j).1.getD (x % (mtS O n j).1.length) 0]) := by
            simp only [mtS, hx2, Int.toNat_natCast]
          have fin : ∀ s', ChgT 0 s' (mt2 K n (mtS O n (j + 1)).1 (mtS O n (j + 1)).2 (j + 1)) → N s' := fun s' hh => hN s' (j + 1) (by omega) h hh
          rw [hnext] at fin
          clear hN hE2 hQ hnext
          have hL0 : j = 0 → (mtS O n j).1 = iota n := fun e => by rw [e]; rfl
          generalize (mtS O n j).1 = l at *
          generalize (mtS O n j).2 = L at *
          have hlp : 0 < l.length := by omega
          obtain ⟨k, hk⟩ : ∃ k, x % l.length = k := ⟨_, rfl⟩
          have hkl : k < l.length := by rw [← hk]; exact Nat.mod_lt _ hlp
          simp only [hk] at fin
          obtain ⟨y, hy⟩ : ∃ y, l[k]? = some y := ⟨l[k], List.getElem?_eq_getElem hkl⟩
          have hy' := (List.getElem?_eq_some_iff.1 hy).2
          have hyd : l.getD k 0 = y := by rw [List.getD_eq_getElem?_getD, hy]; rfl
          rw [hyd] at fin
          have hmodl : (x : Int) % (l.length : Int) = (k : Int) := by rw [← hk]; simp
          have hlne : ¬ (l.length : Int) = 0 := by omega
          have hlnil : ¬ l = [] := fun e => by rw [e] at hlp; simp at hlp
          have hkc : (k : Int) < l.length := by omega
          have hl7 : l.length ≤ 7 := by omega
          have hf87 : f87 [.ref 0 0 l.length 1 none, vI k, vI ((k : Int) + 1)] [(0, .cells (ints (l ++ List.replicate j 0)))] 1 = some (.ref 0 0 (l.length - 1) 1 none, [(0, .cells (ints (l.eraseIdx k ++ List.replicate (j + 1) 0)))], 1) := by
            have hu : unints (ints (l ++ List.replicate j 0)) = some (l ++ List.replicate j 0) := by simp
            have hs2 : small (l ++ List.replicate j 0) = true := by simp [small]; omega
            simp only [f87, hu]
            rw [if_pos ⟨by simp, hs2, by omega, by simpa using hkl, trivial⟩]
            simp [List.replicate_succ]
          have hf87n : ∀ a b c x y h k, f87 [.il a b c, x, y] h k = none := fun _ _ _ _ _ _ _ => rfl
          have hel : (l.eraseIdx k).length = l.length - 1 := List.length_eraseIdx_of_lt hkl
          have hge : (l ++ List.replicate j 0)[k]? = some y := by rw [List.getElem?_append_left hkl]; exact hy
          obtain ⟨M, hM⟩ : ∃ M, l ++ List.replicate j 0 = M := ⟨_, rfl⟩
          obtain ⟨M', hM'⟩ : ∃ M', l.eraseIdx k ++ List.replicate (j + 1) 0 = M' := ⟨_, rfl⟩
          have hkM : k < M.length := by rw [← hM]; simp; omega
          have hlM : l.length ≤ M.length := by rw [← hM]; simp
          rw [hM] at hge
          have hge' := (List.getElem?_eq_some_iff.1 hge).2
          rw [hM, hM'] at hf87
          rcases j with _ | j
          · obtain rfl : L = [] := List.length_eq_zero_iff.1 hLl
            have hMl : l = M := by rw [← hM]; simp
            simp only [mt2, hM', hel] at fin
            simp only [mt2]
            rw [hMl] at hf87 fin hmodl hlne hlnil hkc hkl hl7 ⊢
            delta p45_l1 p45_r9 p45_r10 p45_r11 p45_r12 p45_r13 p45_r14
            simp (disch := omega) [oLt, oLe, oLtN, oLeN, nLt, nLe, nLtN, nLeN, hjc, hj7, hj7c, hx3, hx3', hmodl, hlne, hlnil, hkc, hkl, hkM, hlM, hge, hge', hf87, hf87n, hl7]
            exact fin _ (.to [0, 1, 20] (by simp [hKr]))
          · simp only [mt2, hM', hel] at fin
            simp only [mt2, hM]
            have htk : L.take (j + 1) = L := List.take_of_length_le (by omega)
            delta p45_l1 p45_r9 p45_r10 p45_r11 p45_r12 p45_r13 p45_r14
            simp (disch := omega) [oLt, oLe, oLtN, oLeN, nLt, nLe, nLtN, nLeN, hjc, hj7, hj7c, hx3, hx3', hmodl, hlne, hlnil, hkc, hkl, hkM, hlM, hge, hge', hf87, hf87n, hl7, htk, hLl]
            exact fin _ (.to [0, 1, 21] (by simp [hKr]))
        · obtain rfl : j = n := by omega
          have hjc : ¬ (j : Int) < j := by omega
          rcases j with _ | j
          · exact (hn0 rfl).elim
          generalize (mtS O (j + 1) (j + 1)).1 = l at *
          generalize (mtS O (j + 1) (j + 1)).2 = L at *
          simp only [mt2]
          delta p45_l1 p45_r9 p45_r10 p45_r11 p45_r12 p45_r13 p45_r14
          simp (disch := omega) [oLt, oLe, oLtN, oLeN, nLt, nLe, nLtN, nLeN, hjc]
          refine hE2 _ _ _ .refl ?_
          delta p45_r15
          simp (disch := omega) [oLt, oLe, oLtN, oLeN, nLt, nLe, nLtN, nLeN]
          have ht : (ints L).take (j + 1) = ints L := List.take_of_length_le (by simp [hLl])
          refine hQ _ _ (.chg (.frz 2 (cs := ints L) rfl (by simp) .refl) (.p (.inl rfl) ?_ (by simp [hLl])))
          first | (simp [Eff.exec, hpF, frzS, hLl, ht]; done) | (simp [Eff.exec, hpF, frzS, hLl, ht]; rfl)
    · cases hh
  · cases hh
end Go.Sx.Lk
end
section
set_option maxRecDepth 4000
namespace Go.Sx.Lk
open Go Go.Sx Go.Proofs
abbrev nS : AV := .v (.slice none 0 0)
def basH (st : List Int) : HL := [(0, .cells [.ref 1 0 st.length 1 none]), (1, .cells (ints st))]
def f68 : List AV → HL → Nat → Option (AV × HL × Nat) := fun args h k => match args, h, k with
  | [.ptr 0 0], [(0, .cells [.v (.slice none 0 0)])], 1 => some (.tup [vI 0, vB false], [(0, .cells [nS])], 1)
  | [.ptr 0 0], [(0, .cells [.ref 1 0 n 1 none]), (1, .cells cs)], 2 => match unints cs with
    | some st => if n = st.length ∧ small st = true then some (.tup [vI (st.getLastD 0), vB (!st.isEmpty)], basH st, 2) else none
    | none => none
  | _, _, _ => none
def s68 : Sp := ⟨68, f68⟩
@[simp] theorem s68_g : s68.g = 68 := rfl
@[simp] theorem s68_f : s68.f = f68 := rfl
def f67 : List AV → HL → Nat → Option (AV × HL × Nat) := fun args h k => match args, h, k with
  | [.ptr 0 0, .v (.int .i64 x)], [(0, .cells [.v (.slice none 0 0)])], 1 => some (.tup [], [(0, .cells [.ref 1 0 1 1 none]), (1, .cells [vI x])], 2)
  | [.ptr 0 0, .v (.int .i64 x)], [(0, .cells [.ref 1 0 n 1 none]), (1, .cells cs)], 2 => match unints cs with
    | some st => if n = st.length ∧ small st = true then some (.tup [], [(0, .cells [.ref 2 0 (n + 1) 1 none]), (2, .cells (ints (st ++ [x])))], 3) else none
    | none => none
  | _, _, _ => none
def s67 : Sp := ⟨67, f67⟩
@[simp] theorem s67_g : s67.g = 67 := rfl
@[simp] theorem s67_f : s67.f = f67 := rfl
def f69 : List AV → HL → Nat → Option (AV × HL × Nat) := fun args h k => match args, h, k with
  | [.ptr 0 0], [(0, .cells [.ref 1 0 n 1 none]), (1, .cells cs)], 2 => match unints cs with
    | some st => if n = st.length ∧ small st = true ∧ st ≠ [] then some (.tup [], [(0, .cells [.ref 1 0 (n - 1) 1 none]), (1, .cells (ints st.dropLast))], 2) else none
    | none => none
  | _, _, _ => none
def s69 : Sp := ⟨69, f69⟩
@[simp] theorem s69_g : s69.g = 69 := rfl
@[simp] theorem s69_f : s69.f = f69 := rfl
set_option maxHeartbeats 2000000 in
theorem s68_ok : s68.ok Try.prog := by
  intro args h k r h' k' hh
  simp only [s68_f, f68] at hh
  split at hh
  · cases hh
    simp only [hp_eq]
    refine P68.rz (ss := []) trivial (by simp) fun Q hQ => ?_
    delta p68 p68_r0 p68_r1 p68_r2 p68_r3
    simp (disch := omega) [oLt, oLe, oLtN, oLeN, nLt, nLe, nLtN, nLeN]
    exact hQ _ _ (EndsP_at [0] (.inl rfl) (by simp) rfl (by simp) rfl (by simp))
  · split at hh
    · rename_i st hl
      split at hh
      · rename_i hc
        obtain ⟨rfl, hs⟩ := hc
        cases hh
        rw [unints_inv hl]
        have hsl : st.length ≤ 1000000 := by simpa [small] using hs
        simp only [hp_eq]
        rcases List.eq_nil_or_concat st with rfl | ⟨D, c, rfl⟩
        · refine P68.rz (ss := []) trivial (by simp) fun Q hQ => ?_
          delta p68 p68_r0 p68_r1 p68_r2 p68_r3
          simp (disch := omega) [oLt, oLe, oLtN, oLeN, nLt, nLe, nLtN, nLeN]
          exact hQ _ _ (EndsP_at [0, 1] (.inl rfl) (by simp) rfl (by simp) rfl (by simp [basH]))
        · have hne : ¬ (D.length : Int) + 1 = 0 := by omega
          have h1 : (D.length : Int) + 1 - 1 = D.length := by omega
          have hD : D.length ≤ 1000000 := by simp at hsl; omega
          refine P68.rz (ss := []) trivial (by simp) fun Q hQ => ?_
          delta p68 p68_r0 p68_r1 p68_r2 p68_r3
          simp only [List.concat_eq_append, List.length_append, List.length_singleton, ints_app, ints_cons, ints_nil] at *
          simp (disch := omega) [oLt, oLe, oLtN, oLeN, nLt, nLe, nLtN, nLeN, hne, h1]
          exact hQ _ _ (EndsP_at [0, 1] (.inl rfl) (by simp) rfl (by simp) rfl (by simp [basH]))
      · cases hh
    · cases hh
  · cases hh
set_option maxHeartbeats 2000000 in
theorem s67_ok : s67.ok Try.prog := by
  intro args h k r h' k' hh
  simp only [s67_f, f67] at hh
  split at hh
  · cases hh
    simp only [hp_eq]
    refine P67.rz (ss := []) trivial (by simp) fun Q hQ => ?_
    delta p67 p67_r0
    simp (disch := omega) [oLt, oLe, oLtN, oLeN, nLt, nLe, nLtN, nLeN]
    exact hQ _ _ (EndsP_at [0, 8] (.inr rfl) (by simp) rfl (by simp) rfl (by simp))
  · split at hh
    · rename_i st hl
      split at hh
      · rename_i hc
        obtain ⟨rfl, hs⟩ := hc
        cases hh
        rw [unints_inv hl]
        have hsl : st.length ≤ 1000000 := by simpa [small] using hs
        have ht : (ints st).take st.length = ints st := List.take_of_length_le (by simp)
        simp only [hp_eq]
        refine P67.rz (ss := []) trivial (by simp) fun Q hQ => ?_
        delta p67 p67_r0
        simp (disch := omega) [oLt, oLe, oLtN, oLeN, nLt, nLe, nLtN, nLeN, hsl, ht]
        exact hQ _ _ (EndsP_at [0, 1, 9] (.inr rfl) (by simp) rfl (by simp) rfl (by simp))
      · cases hh
    · cases hh
  · cases hh
set_option maxHeartbeats 2000000 in
theorem s69_ok : s69.ok Try.prog := by
  intro args h k r h' k' hh
  simp only [s69_f, f69] at hh
  split at hh
  · split at hh
    · rename_i st hl
      split at hh
      · rename_i hc
        obtain ⟨rfl, hs, hne0⟩ := hc
        cases hh
        rw [unints_inv hl]
        have hsl : st.length ≤ 1000000 := by simpa [small] using hs
        obtain ⟨D, c, rfl⟩ : ∃ D c, st = D ++ [c] := by
          rcases List.eq_nil_or_concat st with h | ⟨D, c, h⟩
          · exact (hne0 h).elim
          · exact ⟨D, c, by simpa using h⟩
        clear hl hne0 hs
        have h1 : (D.length : Int) + 1 - 1 = D.length := by omega
        have hD : D.length ≤ 1000000 := by simp at hsl; omega
        simp only [hp_eq, List.dropLast_concat, List.length_append, List.length_singleton, Nat.add_sub_cancel]
        refine P69.rz (ss := []) trivial (by simp) fun Q hQ => ?_
        delta p69 p69_r0
        simp (disch := omega) [oLt, oLe, oLtN, oLeN, nLt, nLe, nLtN, nLeN, h1, hD]
        have hw : WkB (.cells (ints D ++ [vI c])) (.cells (ints D)) := ⟨by simp, fun i x y hx hy => by
          have hi : i < (ints D).length := (List.getElem?_eq_some_iff.1 hy).1
          rw [List.getElem?_append_left hi, hy] at hx
          cases hx; exact .refl⟩
        refine hQ _ _ (.chg (.weak (s' := ⟨[], [(0, .cells [.ref 1 0 D.length 1 none]), (1, .cells (ints D))], _⟩) trivial ⟨rfl, .refl, rfl, hw, trivial⟩ rfl .refl) (EndsP_at [0, 1] (.inr rfl) (by simp) rfl (by simp) rfl (by simp)))
      · cases hh
    · cases hh
  · cases hh
end Go.Sx.Lk
end
section
set_option maxRecDepth 4000
namespace Go.Sx.Lk
open Go Go.Sx Go.Proofs
def f96 : List AV → HL → Nat → Option (AV × HL × Nat) := fun args h k => match args with
  | [.v (.int .u8 m), .v (.int .i64 x), .ptr 0 0] => if m = 111 then f67 [.ptr 0 0, .v (.int .i64 x)] h k else if m = 105 then (match f67 [.ptr 0 0, .v (.int .i64 x)] h k with
    | some _ => some (.tup [], h, k)
    | none => none) else none
  | _ => none
def s96 : Sp := ⟨96, f96⟩
@[simp] theorem s96_g : s96.g = 96 := rfl
@[simp] theorem s96_f : s96.f = f96 := rfl
theorem f67_cases {x : Int} {h : HL} {k : Nat} {r : AV} {h' : HL} {k' : Nat} (hh : f67 [.ptr 0 0, .v (.int .i64 x)] h k = some (r, h', k')) :
    (h = [(0, .cells [nS])] ∧ k = 1 ∧ r = .tup [] ∧ h' = [(0, .cells [.ref 1 0 1 1 none]), (1, .cells [vI x])] ∧ k' = 2) ∨
    ∃ st : List Int, h = basH st ∧ k = 2 ∧ st.length ≤ 1000000 ∧ r = .tup [] ∧ h' = [(0, .cells [.ref 2 0 (st.length + 1) 1 none]), (2, .cells (ints (st ++ [x])))] ∧ k' = 3 := by
  simp only [f67] at hh
  split at hh
  · cases hh
    rename_i e1
    cases e1
    exact .inl ⟨rfl, rfl, rfl, rfl, rfl⟩
  · rename_i e1
    cases e1
    split at hh
    · rename_i st hl
      split at hh
      · rename_i hc
        obtain ⟨rfl, hs⟩ := hc
        cases hh
        exact .inr ⟨st, by rw [unints_inv hl]; rfl, rfl, by simpa [small] using hs, rfl, rfl, rfl⟩
      · cases hh
    · cases hh
  · cases hh
set_option maxHeartbeats 2000000 in
theorem s96_ok : s96.ok Try.prog := by
  intro args h k r h' k' hh
  simp only [s96_f, f96] at hh
  split at hh
  · rename_i m x
    split at hh
    · rename_i hm
      subst hm
      rcases f67_cases hh with ⟨rfl, rfl, rfl, rfl, rfl⟩ | ⟨st, rfl, rfl, hsl, rfl, rfl, rfl⟩
      · simp only [hp_eq]
        refine P96.rz (ss := []) trivial (by simp) fun Q hQ => ?_
        delta p96 p96_r0 p96_r1
        simp (disch := omega) [oLt, oLe, oLtN, oLeN, nLt, nLe, nLtN, nLeN]
        exact hQ _ _ (EndsP_at [0, 6] (.inr rfl) (by simp) rfl (by simp) rfl (by simp))
      · have ht : (ints st).take st.length = ints st := List.take_of_length_le (by simp)
        simp only [hp_eq, basH]
        refine P96.rz (ss := []) trivial (by simp) fun Q hQ => ?_
        delta p96 p96_r0 p96_r1
        simp (disch := omega) [oLt, oLe, oLtN, oLeN, nLt, nLe, nLtN, nLeN, hsl, ht]
        exact hQ _ _ (EndsP_at [0, 1, 7] (.inr rfl) (by simp) rfl (by simp) rfl (by simp))
    · split at hh
      · rename_i hm
        subst hm
        split at hh
        · rename_i q hq
          obtain ⟨r1, h1, k1⟩ := q
          cases hh
          rcases f67_cases hq with ⟨rfl, rfl, _, _, _⟩ | ⟨st, rfl, rfl, hsl, _, _, _⟩
          · simp only [hp_eq]
            refine P96.rz (ss := []) trivial (by simp) fun Q hQ => ?_
            delta p96 p96_r0 p96_r1
            simp (disch := omega) [oLt, oLe, oLtN, oLeN, nLt, nLe, nLtN, nLeN]
            exact hQ _ _ (EndsP_at [0] (.inr rfl) (by simp) rfl (by simp) rfl (by simp))
          · simp only [hp_eq, basH]
            refine P96.rz (ss := []) trivial (by simp) fun Q hQ => ?_
            delta p96 p96_r0 p96_r1
            simp (disch := omega) [oLt, oLe, oLtN, oLeN, nLt, nLe, nLtN, nLeN]
            exact hQ _ _ (EndsP_at [0, 1] (.inr rfl) (by simp) rfl (by simp) rfl (by simp))
        · cases hh
      · cases hh
  · cases hh
end Go.Sx.Lk
end
section
namespace Go.Sx
noncomputable def famF {α : Type} (ok : α → Prop) (pat : α → List AV × HL × Nat) (out : α → AV × HL × Nat) : List AV → HL → Nat → Option (AV × HL × Nat) := fun args h k => open Classical in
  if hx : ∃ a, ok a ∧ pat a = (args, h, k) then some (out hx.choose) else none
theorem famF_at {α : Type} {ok : α → Prop} {pat : α → List AV × HL × Nat} {out : α → AV × HL × Nat} (hd : ∀ a b, pat a = pat b → out a = out b) (a : α) (ha : ok a) {args : List AV} {h : HL} {k : Nat} (e : pat a = (args, h, k)) : famF ok pat out args h k = some (out a) := by
  have hx : ∃ a, ok a ∧ pat a = (args, h, k) := ⟨a, ha, e⟩
  unfold famF
  rw [dif_pos hx]
  exact congrArg some (hd _ _ (hx.choose_spec.2.trans e.symm))
theorem famF_ok {P : Program} {g : FuncId} {α : Type} {ok : α → Prop} {pat : α → List AV × HL × Nat} {out : α → AV × HL × Nat} (h : ∀ a, ok a → Runs P g (pat a).2.2 (pat a).1 (hp (pat a).2.1) (out a).1 (out a).2.2 (hp (out a).2.1)) : Sp.ok P ⟨g, famF ok pat out⟩ := by
  intro args hh k r h' k' e
  simp only [famF] at e
  split at e
  · rename_i hx
    have hc := hx.choose_spec
    have := h hx.choose hc.1
    rw [hc.2] at this
    simp only [Option.some.injEq] at e
    rw [e] at this
    exact this
  · cases e
theorem ints_inj : ∀ {a b : List Int}, ints a = ints b → a = b
  | [], [], _ => rfl
  | [], y :: b, h => by simp at h
  | x :: a, [], h => by simp at h
  | x :: a, y :: b, h => by
    simp only [ints_cons, List.cons.injEq, AV.v.injEq, Value.int.injEq, true_and] at h
    rw [h.1, ints_inj h.2]
def via (h : HL) (i : Nat) : Nat := match hpF h i with
  | some (.cells (x :: _)) => idOf x
  | _ => 0
def viaC (h : HL) (i c : Nat) : Nat := match hpF h i with
  | some (.cells xs) => idOf (xs.getD c .any)
  | _ => 0
theorem ChgT.toF {k0 : Nat} (F : HL → List Nat) {s s' : ST} (h : s'.nx = (F s.heap).length ∧ lowTo (F s.heap) k0 = true ∧ k0 ≤ (F s.heap).length ∧ dist (F s.heap) = true ∧ envTo (gT (F s.heap) s.nx) s.env s'.env ∧ heapTo (F s.heap).length (gT (F s.heap) s.nx) s.heap s'.heap) : ChgT k0 s s' := .to (F s.heap) h
theorem EndsP_F {k n : Nat} {rs : List SRes} {r : AV} {H : HL} {e : Exit} {s : ST} (F : HL → List Nat) (he : e = .ret ∨ e = .normal) (hn : (F s.heap).length = n) (h : resA s.st rs = some (ren (gT (F s.heap) s.nx) r) ∧ lowTo (F s.heap) k = true ∧ k ≤ (F s.heap).length ∧ dist (F s.heap) = true ∧ heapTo (F s.heap).length (gT (F s.heap) s.nx) s.heap H) : EndsP k rs r n H e s := by
  obtain ⟨hr, low, hle, nd, hh⟩ := h
  subst hn
  have := cv_to (l := F s.heap) (nx := s.nx) (h := s.heap) (h' := H) low hle nd hh
  exact ⟨by rcases he with rfl | rfl <;> trivial, s, .refl, _, this, hr⟩
theorem ChgT.toS {k0 : Nat} (F : ST → List Nat) {s s' : ST} (h : s'.nx = (F s).length ∧ lowTo (F s) k0 = true ∧ k0 ≤ (F s).length ∧ dist (F s) = true ∧ envTo (gT (F s) s.nx) s.env s'.env ∧ heapTo (F s).length (gT (F s) s.nx) s.heap s'.heap) : ChgT k0 s s' := .to (F s) h
def ida (s : ST) (t : Nat) : Nat := idOf (enF s.env t)
@[simp] theorem ida_mk (e : List (Nat × AV)) (h : HL) (n t : Nat) : ida ⟨e, h, n⟩ t = idOf (enF e t) := rfl
@[simp] theorem range2 : List.range 2 = [0, 1] := rfl
@[simp] theorem range3 : List.range 3 = [0, 1, 2] := rfl
@[simp] theorem range4 : List.range 4 = [0, 1, 2, 3] := rfl
@[simp] theorem range5 : List.range 5 = [0, 1, 2, 3, 4] := rfl
@[simp] theorem range6 : List.range 6 = [0, 1, 2, 3, 4, 5] := rfl
@[simp] theorem range7 : List.range 7 = [0, 1, 2, 3, 4, 5, 6] := rfl
@[simp] theorem range8 : List.range 8 = [0, 1, 2, 3, 4, 5, 6, 7] := rfl
@[simp high] theorem low3 (l : List Nat) : lowTo (0 :: 1 :: 2 :: l) 3 = true := by simp [lowTo]
@[simp high] theorem low4 (l : List Nat) : lowTo (0 :: 1 :: 2 :: 3 :: l) 4 = true := by simp [lowTo]
@[simp high] theorem low5 (l : List Nat) : lowTo (0 :: 1 :: 2 :: 3 :: 4 :: l) 5 = true := by simp [lowTo]
@[simp high] theorem low6 (l : List Nat) : lowTo (0 :: 1 :: 2 :: 3 :: 4 :: 5 :: l) 6 = true := by simp [lowTo]
attribute [simp] evCall reach idsB idsL ids inA Go.Sx.inL Go.Sx.inM inB allHp enumH gl renB
attribute [simp] effMkfn via viaC
end Go.Sx
end
section
set_option maxRecDepth 4000
namespace Go.Sx.Lk
open Go Go.Sx Go.Proofs
def outA (id : Nat) (out : List Int) : AV := if out = [] then nS else .ref id 0 out.length 1 none
def outH (id : Nat) (out : List Int) : HL := if out = [] then [] else [(id, .cells (ints out))]
def outK (out : List Int) : Nat := if out = [] then 0 else 1
@[simp] theorem outA_nil (id : Nat) : outA id [] = nS := rfl
@[simp] theorem outA_cons (id : Nat) (x : Int) (r : List Int) : outA id (x :: r) = .ref id 0 (r.length + 1) 1 none := by simp [outA]
@[simp] theorem outH_nil (id : Nat) : outH id [] = [] := rfl
@[simp] theorem outH_cons (id : Nat) (x : Int) (r : List Int) : outH id (x :: r) = [(id, .cells (vI x :: ints r))] := by simp [outH]
@[simp] theorem outK_nil : outK [] = 0 := rfl
@[simp] theorem outK_cons (x : Int) (r : List Int) : outK (x :: r) = 1 := by simp [outK]
def popR (b : Int) : Nat → List Int → List Int → List Int × List Int
  | 0, st, out => (st, out)
  | n + 1, st, out => if st = [] then (st, out) else if st.getLastD 0 < b then popR b n st.dropLast (out ++ [st.getLastD 0]) else (st, out)
def hpP (j : Nat) (st out : List Int) : HL := [(0, .cells [.ref 1 0 st.length 1 none]), (1, .cells (ints st)), (2, .cells [.fn (.func 96) [] [.ptr 3 0]]), (3, .cells [outA j out])] ++ outH j out
def hpN : HL := [(0, .cells [nS]), (1, .cells [.fn (.func 96) [] [.ptr 2 0]]), (2, .cells [nS])]
def newJ (out out' : List Int) : Nat := if out = [] then 4 else if out'.length = out.length then 4 else 5
def pat97 : Int × Option (List Int × List Int) → List AV × HL × Nat
  | (b, some (st, out)) => ([vI b, .ptr 0 0, .ptr 2 0], hpP 4 st out, 4 + outK out)
  | (b, none) => ([vI b, .ptr 0 0, .ptr 1 0], hpN, 3)
def out97 : Int × Option (List Int × List Int) → AV × HL × Nat
  | (b, some (st, out)) => (.tup [], hpP (newJ out (popR b st.length st out).2) (popR b st.length st out).1 (popR b st.length st out).2, newJ out (popR b st.length st out).2 + outK (popR b st.length st out).2)
  | (b, none) => (.tup [], hpN, 3)
def ok97 : Int × Option (List Int × List Int) → Prop
  | (_, some (st, out)) => st.length + out.length ≤ 1000
  | (_, none) => True
theorem hpP_inj {j : Nat} {st out st' out' : List Int} (h : hpP j st out = hpP j st' out') : st = st' ∧ out = out' := by
  simp only [hpP, List.cons_append, List.nil_append, List.cons.injEq, Prod.mk.injEq, Blk.cells.injEq, true_and, and_true] at h
  obtain ⟨h1, h2, h3, h4⟩ := h
  refine ⟨ints_inj h2, ?_⟩
  cases out with
  | nil => cases out' with
    | nil => rfl
    | cons y r => simp at h4
  | cons x r => cases out' with
    | nil => simp at h4
    | cons y r' =>
      simp only [outH_cons, List.cons.injEq, Prod.mk.injEq, Blk.cells.injEq, true_and, and_true, AV.v.injEq, Value.int.injEq] at h4
      rw [h4.1, ints_inj h4.2]
theorem pat97_inj (a b : Int × Option (List Int × List Int)) (h : pat97 a = pat97 b) : out97 a = out97 b := by
  obtain ⟨x, a⟩ := a
  obtain ⟨y, b⟩ := b
  cases a with
  | none => cases b with
    | none => rfl
    | some q => obtain ⟨st, out⟩ := q; simp [pat97] at h
  | some p =>
    obtain ⟨st, out⟩ := p
    cases b with
    | none => simp [pat97] at h
    | some q =>
      obtain ⟨st', out'⟩ := q
      simp only [pat97, Prod.mk.injEq, List.cons.injEq, AV.v.injEq, Value.int.injEq, true_and, and_true] at h
      obtain ⟨rfl, h2, h3⟩ := h
      obtain ⟨rfl, rfl⟩ := hpP_inj h2
      rfl
noncomputable def f97 := famF ok97 pat97 out97
noncomputable def s97 : Sp := ⟨97, f97⟩
@[simp] theorem s97_g : s97.g = 97 := rfl
@[simp] theorem s97_f : s97.f = f97 := rfl
theorem popR_le (b : Int) : ∀ n st out, (popR b n st out).1.length ≤ st.length
  | 0, st, out => Nat.le_refl _
  | n + 1, st, out => by
    simp only [popR]
    split
    · exact Nat.le_refl _
    · split
      · have := popR_le b n st.dropLast (out ++ [st.getLastD 0])
        have e : st.dropLast.length = st.length - 1 := by simp
        omega
      · exact Nat.le_refl _
theorem popR_len (b : Int) : ∀ n st out, (popR b n st out).1.length + (popR b n st out).2.length = st.length + out.length
  | 0, st, out => rfl
  | n + 1, st, out => by
    simp only [popR]
    split
    · rfl
    · rename_i h
      have : 0 < st.length := List.length_pos_iff.2 h
      split
      · rw [popR_len b n]; simp; omega
      · rfl
def mk97 (b : Int) (j : Nat) (st out : List Int) : ST := ⟨[(0, vI b), (1, .ptr 0 0), (2, .ptr 2 0), (4, vI (st.getLastD 0)), (5, vB (!st.isEmpty))], hpP j st out, j + outK out⟩
theorem f96n (c : Int) : f96 [.v (.int .u8 111), vI c, .ptr 0 0] [(0, .cells [nS])] 1 = some (.tup [], [(0, .cells [.ref 1 0 1 1 none]), (1, .cells [vI c])], 2) := by simp [f96, f67]
theorem f96c (c x : Int) (r : List Int) (h : r.length ≤ 1000) : f96 [.v (.int .u8 111), vI c, .ptr 0 0] [(0, .cells [.ref 1 0 (r.length + 1) 1 none]), (1, .cells (vI x :: ints r))] 2 = some (.tup [], [(0, .cells [.ref 2 0 (r.length + 1 + 1) 1 none]), (2, .cells (vI x :: (ints r ++ [vI c])))], 3) := by
  have : small (x :: r) = true := by simp [small]; omega
  simp [f96, f67, this]
theorem step97 (T : List Int) {n : Nat} (hl : T.length + n ≤ 1000) : T = [] ∨ ∃ c D, T ≠ [] ∧ T.dropLast = D ∧ T.getLastD 0 = c ∧ T.length = D.length + 1 ∧ T.isEmpty = false ∧
    f69 [.ptr 0 0] [(0, .cells [.ref 1 0 T.length 1 none]), (1, .cells (ints T))] 2 = some (.tup [], basH D, 2) ∧
    f68 [.ptr 0 0] [(0, .cells [.ref 1 0 D.length 1 none]), (1, .cells (ints D))] 2 = some (.tup [vI (D.getLastD 0), vB (!D.isEmpty)], basH D, 2) := by
  by_cases h : T = []
  · exact .inl h
  · have hp : 0 < T.length := List.length_pos_iff.2 h
    have e : T.dropLast.length = T.length - 1 := by simp
    refine .inr ⟨_, _, h, rfl, rfl, by omega, by simpa using h, ?_, ?_⟩
    · have hs : small T = true := by simp [small]; omega
      simp [f69, hs, h, basH]
    · have hs : small T.dropLast = true := by simp only [small, e, decide_eq_true_eq]; omega
      simp [f68, hs, basH]
set_option maxHeartbeats 4000000 in
theorem s97_ok : s97.ok Try.prog := by
  refine famF_ok ?_
  rintro ⟨b, _ | ⟨st, out⟩⟩ hok
  · simp only [pat97, out97, hp_eq, hpN]
    refine P97.rz (ss := [s68, s69, s96]) ⟨s68_ok, s69_ok, s96_ok, trivial⟩ (by simp) fun Q hQ => ?_
    delta p97 p97_r0
    simp (disch := omega) [oLt, oLe, oLtN, oLeN, nLt, nLe, nLtN, nLeN, f68]
    refine XZ_for (fun _ : Nat => ⟨[(0, vI b), (1, .ptr 0 0), (2, .ptr 1 0), (4, vI 0), (5, vB false)], hpN, 3⟩) (fun i => i) (fun i => True) 0 trivial (.to [0, 1, 2] (by simp [hpN])) ?_
    rintro i _ N Q' hN hE
    delta p97_l0 p97_r1 p97_r2 p97_r3 p97_r4
    simp (disch := omega) [oLt, oLe, oLtN, oLeN, nLt, nLe, nLtN, nLeN]
    exact hE _ _ _ .refl (hQ _ _ (EndsP_at [0, 1, 2] (.inr rfl) (by simp) rfl (by simp) rfl (by simp [hpN])))
  · simp only [ok97] at hok
    simp only [pat97, out97, hp_eq]
    refine P97.rz (ss := [s68, s69, s96]) ⟨s68_ok, s69_ok, s96_ok, trivial⟩ (by simp) fun Q hQ => ?_
    have hss : small st = true := by simp [small]; omega
    have h1 : f68 [.ptr 0 0] [(0, .cells [.ref 1 0 st.length 1 none]), (1, .cells (ints st))] 2 = some (.tup [vI (st.getLastD 0), vB (!st.isEmpty)], basH st, 2) := by simp [f68, hss]
    cases out with
    | nil =>
      simp only [hpP, outA_nil, outH_nil, List.append_nil, outK_nil]
      delta p97 p97_r0
      simp (disch := omega) [oLt, oLe, oLtN, oLeN, nLt, nLe, nLtN, nLeN, h1, basH]
      refine XZ_for (fun p : List Int × List Int => mk97 b 4 p.1 p.2) (fun p => p.1.length) (fun p => p.1.length + p.2.length ≤ 1000 ∧ popR b p.1.length p.1 p.2 = popR b st.length st []) (st, []) ⟨by simpa using hok, rfl⟩ (.to [0, 1, 2, 3] (by simp [mk97, hpP])) ?_
      rintro ⟨T, O⟩ ⟨hl, hinv⟩ N Q' hN hE
      simp only at hl hinv
      simp only [mk97]
      have stop : popR b T.length T O = (T, O) → XZ (rZ (spc [s68, s69, s96])) 4 p97_l0 ⟨[(0, vI b), (1, .ptr 0 0), (2, .ptr 2 0), (4, vI (T.getLastD 0)), (5, vB (!T.isEmpty))], hpP 4 T O, 4 + outK O⟩ (thenE N Q') := fun e => by
        have hj : newJ [] O = 4 := rfl
        rw [← hinv, e] at hQ
        simp only [hj] at hQ
        have hcb : T.isEmpty = true ∨ (T.isEmpty = false ∧ ¬ T.getLastD 0 < b) := by
          rcases step97 T hl with rfl | ⟨c, D, hne, hD, hc, hlen, hem, h4, h5⟩
          · exact .inl rfl
          · refine .inr ⟨hem, fun hlt => ?_⟩
            rw [hlen] at e
            simp only [popR] at e
            rw [if_neg hne, if_pos hlt] at e
            have := congrArg (fun q => q.1.length + q.2.length) e
            have h2 := congrArg (fun q => q.1.length) e
            have h3 := popR_le b D.length T.dropLast (O ++ [T.getLastD 0])
            simp only at h2
            rw [hD] at h2 h3
            omega
        rcases hcb with hem | ⟨hem, hnb⟩
        · cases O with
          | nil =>
            simp only [hpP, outA_nil, outH_nil, List.append_nil, outK_nil] at hQ ⊢
            delta p97_l0 p97_r1 p97_r2 p97_r3 p97_r4
            simp (disch := omega) [oLt, oLe, oLtN, oLeN, nLt, nLe, nLtN, nLeN, hem]
            exact hE _ _ _ .refl (hQ _ _ (EndsP_at [0, 1, 2, 3] (.inr rfl) (by simp) rfl (by simp) rfl (by simp)))
          | cons x r =>
            simp only [hpP, outA_cons, outH_cons, List.append_nil, outK_cons] at hQ ⊢
            delta p97_l0 p97_r1 p97_r2 p97_r3 p97_r4
            simp (disch := omega) [oLt, oLe, oLtN, oLeN, nLt, nLe, nLtN, nLeN, hem]
            exact hE _ _ _ .refl (hQ _ _ (EndsP_at [0, 1, 2, 3, 4] (.inr rfl) (by simp) rfl (by simp) rfl (by simp)))
        · obtain ⟨c, hc⟩ : ∃ c, T.getLastD 0 = c := ⟨_, rfl⟩
          rw [hc] at hnb ⊢
          cases O with
          | nil =>
            simp only [hpP, outA_nil, outH_nil, List.append_nil, outK_nil] at hQ ⊢
            delta p97_l0 p97_r1 p97_r2 p97_r3 p97_r4
            simp (disch := omega) [oLt, oLe, oLtN, oLeN, nLt, nLe, nLtN, nLeN, hem, hnb]
            exact hE _ _ _ .refl (hQ _ _ (EndsP_at [0, 1, 2, 3] (.inr rfl) (by simp) rfl (by simp) rfl (by simp)))
          | cons x r =>
            simp only [hpP, outA_cons, outH_cons, List.append_nil, outK_cons] at hQ ⊢
            delta p97_l0 p97_r1 p97_r2 p97_r3 p97_r4
            simp (disch := omega) [oLt, oLe, oLtN, oLeN, nLt, nLe, nLtN, nLeN, hem, hnb]
            exact hE _ _ _ .refl (hQ _ _ (EndsP_at [0, 1, 2, 3, 4] (.inr rfl) (by simp) rfl (by simp) rfl (by simp)))
      rcases step97 T hl with rfl | ⟨c, D, hne, hD, hc, hlen, hem, h4, h5⟩
      · exact stop rfl
      · by_cases hcb : c < b
        · have hst : popR b T.length T O = popR b D.length D (O ++ [c]) := by
            rw [hlen, popR, if_neg hne, hc, if_pos hcb, hD]
          rw [hst] at hinv
          have fin : ∀ s', ChgT 4 s' (mk97 b 4 D (O ++ [c])) → N s' := fun s' hh => hN s' (D, O ++ [c]) (by simp only; omega) ⟨by simp; omega, hinv⟩ hh
          clear stop hN hE hQ
          rw [hc]
          have h6 := f96n c
          cases O with
          | nil =>
            simp only [hpP, outA_nil, outH_nil, List.append_nil, outK_nil]
            delta p97_l0 p97_r1 p97_r2 p97_r3 p97_r4
            simp (disch := omega) [oLt, oLe, oLtN, oLeN, nLt, nLe, nLtN, nLeN, hem, hcb, h4, h5, h6, basH]
            exact fin _ (.to [0, 1, 2, 3, 12] (by simp [mk97, hpP]))
          | cons x r =>
            have h7 := f96c c x r (by simp at hl; omega)
            simp only [hpP, outA_cons, outH_cons, List.append_nil, outK_cons]
            delta p97_l0 p97_r1 p97_r2 p97_r3 p97_r4
            simp (disch := omega) [oLt, oLe, oLtN, oLeN, nLt, nLe, nLtN, nLeN, hem, hcb, h4, h5, h7, basH]
            exact fin _ (.to [0, 1, 2, 3, 13] (by simp [mk97, hpP]))
        · refine stop ?_
          rw [hlen, popR, if_neg hne, hc, if_neg hcb]
    | cons y out =>
      simp only [hpP, outA_cons, outH_cons, List.cons_append, List.nil_append, outK_cons]
      delta p97 p97_r0
      simp (disch := omega) [oLt, oLe, oLtN, oLeN, nLt, nLe, nLtN, nLeN, h1, basH]
      refine XZ_for (fun p : Nat × List Int × List Int => mk97 b p.1 p.2.1 p.2.2) (fun p => p.2.1.length) (fun p => p.2.1.length + p.2.2.length ≤ 1000 ∧ popR b p.2.1.length p.2.1 p.2.2 = popR b st.length st (y :: out) ∧ ((p.1 = 4 ∧ p.2.2.length = out.length + 1) ∨ (p.1 = 5 ∧ out.length + 1 < p.2.2.length))) (4, st, y :: out) ⟨by simpa using hok, rfl, .inl ⟨rfl, rfl⟩⟩ (.to [0, 1, 2, 3, 4] (by simp [mk97, hpP])) ?_
      rintro ⟨j, T, O⟩ ⟨hl, hinv, hj⟩ N Q' hN hE
      simp only at hl hinv hj
      simp only [mk97]
      obtain ⟨x, r, rfl⟩ : ∃ x r, O = x :: r := by
        cases O with
        | nil => simp at hj
        | cons x r => exact ⟨x, r, rfl⟩
      have stop : popR b T.length T (x :: r) = (T, x :: r) → XZ (rZ (spc [s68, s69, s96])) 5 p97_l0 ⟨[(0, vI b), (1, .ptr 0 0), (2, .ptr 2 0), (4, vI (T.getLastD 0)), (5, vB (!T.isEmpty))], hpP j T (x :: r), j + outK (x :: r)⟩ (thenE N Q') := fun e => by
        have hjn : newJ (y :: out) (x :: r) = j := by
          simp only [newJ, List.length_cons]
          rcases hj with ⟨rfl, h⟩ | ⟨rfl, h⟩
          · rw [if_neg (by simp), if_pos (by simpa using h)]
          · rw [if_neg (by simp), if_neg (by simp at h; omega)]
        rw [← hinv, e] at hQ
        simp only [hjn] at hQ
        have hcb : T.isEmpty = true ∨ (T.isEmpty = false ∧ ¬ T.getLastD 0 < b) := by
          rcases step97 T hl with rfl | ⟨c, D, hne, hD, hc, hlen, hem, h4, h5⟩
          · exact .inl rfl
          · refine .inr ⟨hem, fun hlt => ?_⟩
            rw [hlen] at e
            simp only [popR] at e
            rw [if_neg hne, if_pos hlt] at e
            have h2 := congrArg (fun q => q.1.length) e
            have h3 := popR_le b D.length T.dropLast (x :: r ++ [T.getLastD 0])
            simp only at h2
            rw [hD] at h2 h3
            omega
        rcases hcb with hem | ⟨hem, hnb⟩
        · rcases hj with ⟨rfl, h⟩ | ⟨rfl, h⟩
          · simp only [hpP, outA_cons, outH_cons, List.append_nil, outK_cons] at hQ ⊢
            delta p97_l0 p97_r1 p97_r2 p97_r3 p97_r4
            simp (disch := omega) [oLt, oLe, oLtN, oLeN, nLt, nLe, nLtN, nLeN, hem]
            exact hE _ _ _ .refl (hQ _ _ (EndsP_at [0, 1, 2, 3, 4] (.inr rfl) (by simp) rfl (by simp) rfl (by simp)))
          · simp only [hpP, outA_cons, outH_cons, List.append_nil, outK_cons] at hQ ⊢
            delta p97_l0 p97_r1 p97_r2 p97_r3 p97_r4
            simp (disch := omega) [oLt, oLe, oLtN, oLeN, nLt, nLe, nLtN, nLeN, hem]
            exact hE _ _ _ .refl (hQ _ _ (EndsP_at [0, 1, 2, 3, 4, 5] (.inr rfl) (by simp) rfl (by simp) rfl (by simp)))
        · obtain ⟨c, hc⟩ : ∃ c, T.getLastD 0 = c := ⟨_, rfl⟩
          rw [hc] at hnb ⊢
          rcases hj with ⟨rfl, h⟩ | ⟨rfl, h⟩
          · simp only [hpP, outA_cons, outH_cons, List.append_nil, outK_cons] at hQ ⊢
            delta p97_l0 p97_r1 p97_r2 p97_r3 p97_r4
            simp (disch := omega) [oLt, oLe, oLtN, oLeN, nLt, nLe, nLtN, nLeN, hem, hnb]
            exact hE _ _ _ .refl (hQ _ _ (EndsP_at [0, 1, 2, 3, 4] (.inr rfl) (by simp) rfl (by simp) rfl (by simp)))
          · simp only [hpP, outA_cons, outH_cons, List.append_nil, outK_cons] at hQ ⊢
            delta p97_l0 p97_r1 p97_r2 p97_r3 p97_r4
            simp (disch := omega) [oLt, oLe, oLtN, oLeN, nLt, nLe, nLtN, nLeN, hem, hnb]
            exact hE _ _ _ .refl (hQ _ _ (EndsP_at [0, 1, 2, 3, 4, 5] (.inr rfl) (by simp) rfl (by simp) rfl (by simp)))
      rcases step97 T hl with rfl | ⟨c, D, hne, hD, hc, hlen, hem, h4, h5⟩
      · exact stop rfl
      · by_cases hcb : c < b
        · have hst : popR b T.length T (x :: r) = popR b D.length D (x :: r ++ [c]) := by
            rw [hlen, popR, if_neg hne, hc, if_pos hcb, hD]
          rw [hst] at hinv
          have fin : ∀ s', ChgT 5 s' (mk97 b 5 D (x :: r ++ [c])) → N s' := fun s' hh => hN s' (5, D, x :: r ++ [c]) (by simp only; omega) ⟨by simp at hl ⊢; omega, hinv, .inr ⟨rfl, by simp at hj ⊢; omega⟩⟩ hh
          clear stop hN hE hQ
          rw [hc]
          have h7 := f96c c x r (by simp at hl; omega)
          rcases hj with ⟨rfl, h⟩ | ⟨rfl, h⟩
          · simp only [hpP, outA_cons, outH_cons, List.append_nil, outK_cons]
            delta p97_l0 p97_r1 p97_r2 p97_r3 p97_r4
            simp (disch := omega) [oLt, oLe, oLtN, oLeN, nLt, nLe, nLtN, nLeN, hem, hcb, h4, h5, h7, basH]
            exact fin _ (.to [0, 1, 2, 3, 4, 13] (by simp [mk97, hpP]))
          · simp only [hpP, outA_cons, outH_cons, List.append_nil, outK_cons]
            delta p97_l0 p97_r1 p97_r2 p97_r3 p97_r4
            simp (disch := omega) [oLt, oLe, oLtN, oLeN, nLt, nLe, nLtN, nLeN, hem, hcb, h4, h5, h7, basH]
            exact fin _ (.to [0, 1, 2, 3, 4, 14] (by simp [mk97, hpP]))
        · refine stop ?_
          rw [hlen, popR, if_neg hne, hc, if_neg hcb]
theorem f97_at {b : Int} {st out : List Int} (h : st.length + out.length ≤ 1000) {args : List AV} {H : HL} {k : Nat} (e : pat97 (b, some (st, out)) = (args, H, k)) : f97 args H k = some (out97 (b, some (st, out))) := famF_at pat97_inj (b, some (st, out)) h e
theorem f97_nil (b : Int) : f97 [vI b, .ptr 0 0, .ptr 1 0] hpN 3 = some (.tup [], hpN, 3) := famF_at pat97_inj (b, none) trivial rfl
end Go.Sx.Lk
end
section
set_option maxRecDepth 4000
namespace Go.Sx.Lk
open Go Go.Sx Go.Proofs
def psR : List Int → List Int → List Int → List Int × List Int
  | [], st, out => (st, out)
  | x :: r, st, out => psR r ((popR x st.length st out).1 ++ [x]) (popR x st.length st out).2
def psd (l : List Int) : List Int := (popR l.length (psR l [] []).1.length (psR l [] []).1 (psR l [] []).2).2
def pat63 (a : List Int × Bool) : List AV × HL × Nat := ([.il (ints a.1) a.1.length a.2, .fn (.func 96) [] [.ptr 0 0]], [(0, .cells [nS])], 1)
def out63 (a : List Int × Bool) : AV × HL × Nat := (.tup [], (0, .cells [outA 1 (psd a.1)]) :: outH 1 (psd a.1), 1 + outK (psd a.1))
theorem pat63_inj (a b : List Int × Bool) (h : pat63 a = pat63 b) : out63 a = out63 b := by
  obtain ⟨a, u⟩ := a
  obtain ⟨b, v⟩ := b
  simp only [pat63, Prod.mk.injEq, List.cons.injEq, AV.il.injEq, true_and, and_true] at h
  rw [ints_inj h.1]
  rfl
noncomputable def f63 := famF (fun a : List Int × Bool => a.1.length ≤ 1000) pat63 out63
noncomputable def s63 : Sp := ⟨63, f63⟩
@[simp] theorem s63_g : s63.g = 63 := rfl
@[simp] theorem s63_f : s63.f = f63 := rfl
def mk63 (l : List Int) (u : Bool) (st out : List Int) : Nat → ST
  | 0 => ⟨[(0, .il (ints l) l.length u), (3, .ptr 1 0), (4, .ptr 2 0), (5, .fn (.func 97) [] [.ptr 2 0, .ptr 1 0]), (9, .il (ints l) l.length u), (10, vI l.length), (11, vI (0 : Nat))], [(0, .cells [nS]), (1, .cells [.fn (.func 96) [] [.ptr 0 0]]), (2, .cells [nS])], 3⟩
  | i + 1 => ⟨[(0, .il (ints l) l.length u), (3, .ptr 1 0), (4, .ptr 2 0), (5, .fn (.func 97) [] [.ptr 2 0, .ptr 1 0]), (9, .il (ints l) l.length u), (10, vI l.length), (11, vI (i + 1 : Nat))], [(0, .cells [outA 4 out]), (1, .cells [.fn (.func 96) [] [.ptr 0 0]]), (2, .cells [.ref 3 0 st.length 1 none]), (3, .cells (ints st))] ++ outH 4 out, 4 + outK out⟩
set_option maxHeartbeats 4000000 in
theorem s63_ok : s63.ok Try.prog := by
  refine famF_ok ?_
  rintro ⟨l, u⟩ hok
  simp only at hok
  simp only [pat63, out63, hp_eq]
  refine P63.rz (ss := [s97, s67, s96]) ⟨s97_ok, s67_ok, s96_ok, trivial⟩ (by simp) fun Q hQ => ?_
  delta p63 p63_r0 p63_r1 p63_r2 p63_r3
  simp (disch := omega) [oLt, oLe, oLtN, oLeN, nLt, nLe, nLtN, nLeN, effMkfn]
  refine XZ_for (fun p : Nat × List Int × List Int => mk63 l u p.2.1 p.2.2 p.1) (fun p => l.length - p.1) (fun p => p.1 ≤ l.length ∧ p.2.1.length + p.2.2.length ≤ p.1 ∧ psR (l.drop p.1) p.2.1 p.2.2 = psR l [] []) (0, [], []) ⟨by simp, by simp, rfl⟩ (.to [0, 1, 2] ?_) ?_
  · simp [mk63]
  rintro ⟨i, st, out⟩ ⟨hi, hle, hinv⟩ N Q' hN hE
  simp only at hi hle hinv
  simp only
  rcases Nat.lt_or_ge i l.length with h | h
  · have hic : (i : Int) < l.length := by omega
    obtain ⟨x, r, e1, e2, e3, e4, e5⟩ := drop_split h
    rw [e1] at hinv
    simp only [psR] at hinv
    have hpl := popR_len x st.length st out
    obtain ⟨S, O, hSO⟩ : ∃ S O, popR x st.length st out = (S, O) := ⟨_, _, rfl⟩
    have hfa : st.length + out.length ≤ 1000 → ∀ {args : List AV} {H : HL} {k : Nat}, pat97 (x, some (st, out)) = (args, H, k) → f97 args H k = some (.tup [], hpP (newJ out O) S O, newJ out O + outK O) := fun h1 args H k e => by
      have := f97_at h1 e; simpa only [out97, hSO] using this
    rw [hSO] at hinv hpl
    simp only at hinv hpl
    have fin := fun s' hh => hN s' (i + 1, S ++ [x], O) (by simp only; omega) ⟨h, by simp; omega, by rw [e4]; exact hinv⟩ hh
    clear hN hE hQ hinv
    have hf : ∀ S : List Int, S.length ≤ 1000 → f67 [.ptr 0 0, vI x] [(0, .cells [.ref 1 0 S.length 1 none]), (1, .cells (ints S))] 2 = some (.tup [], [(0, .cells [.ref 2 0 (S.length + 1) 1 none]), (2, .cells (ints (S ++ [x])))], 3) := fun S h => by
      have : small S = true := by simp [small]; omega
      simp [f67, this]
    have hfn : f67 [.ptr 0 0, vI x] [(0, .cells [nS])] 1 = some (.tup [], [(0, .cells [.ref 1 0 1 1 none]), (1, .cells [vI x])], 2) := by simp [f67]
    have hgn : f96 [.v (.int .u8 105), vI x, .ptr 0 0] [(0, .cells [nS])] 1 = some (.tup [], [(0, .cells [nS])], 1) := by simp [f96, f67]
    have hg : ∀ (y : Int) (O : List Int), O.length ≤ 1000 → f96 [.v (.int .u8 105), vI x, .ptr 0 0] [(0, .cells [.ref 1 0 (O.length + 1) 1 none]), (1, .cells (vI y :: ints O))] 2 = some (.tup [], [(0, .cells [.ref 1 0 (O.length + 1) 1 none]), (1, .cells (vI y :: ints O))], 2) := fun y O h => by
      have : small (y :: O) = true := by simp [small]; omega
      simp [f96, f67, this]
    rcases i with _ | i
    · have h1 : st = [] := List.length_eq_zero_iff.1 (by omega)
      have h2 : out = [] := List.length_eq_zero_iff.1 (by omega)
      subst h1 h2
      have h3 : ([] : List Int) = S ∧ ([] : List Int) = O := by simpa [popR] using hSO
      obtain ⟨rfl, rfl⟩ := h3
      simp only [mk63, outA_nil, outH_nil, outK_nil] at fin ⊢
      have hf97 := f97_nil x
      simp only [hpN] at hf97
      delta p63_l0 p63_r4 p63_r5 p63_r6 p63_r7 p63_r8 p63_r9
      simp (disch := omega) [oLt, oLe, oLtN, oLeN, nLt, nLe, nLtN, nLeN, hic, h, e2, e3, hf97, hfn, hgn]
      exact fin _ (.to [0, 1, 2, 10] (by simp))
    · have hls : st.length + out.length ≤ 1000 := by omega
      cases out with
      | nil =>
        have hf97 := hfa hls (rfl : pat97 (x, some (st, [])) = ([vI x, .ptr 0 0, .ptr 2 0], hpP 4 st [], 4 + outK []))
        have hj : newJ [] O = 4 := rfl
        have hp := hf S (by omega)
        cases O with
        | nil =>
          simp only [hj, hpP, outA_nil, outH_nil, outK_nil, List.append_nil, List.cons_append, List.nil_append, mk63] at hf97 fin ⊢
          delta p63_l0 p63_r4 p63_r5 p63_r6 p63_r7 p63_r8 p63_r9
          simp (disch := omega) [oLt, oLe, oLtN, oLeN, nLt, nLe, nLtN, nLeN, hic, h, e2, e3, hf97, hp, hgn]
          exact fin _ (.toF (fun h => [0, 1, 2, via h 2]) (by simp))
        | cons y O =>
          have hgy := hg y O (by simp at hpl; omega)
          simp only [hj, hpP, outA_nil, outH_nil, outK_nil, outA_cons, outH_cons, outK_cons, List.append_nil, List.cons_append, List.nil_append, mk63] at hf97 fin ⊢
          delta p63_l0 p63_r4 p63_r5 p63_r6 p63_r7 p63_r8 p63_r9
          simp (disch := omega) [oLt, oLe, oLtN, oLeN, nLt, nLe, nLtN, nLeN, hic, h, e2, e3, hf97, hp, hgy]
          exact fin _ (.toF (fun h => [0, 1, 2, via h 2, via h 0]) (by simp))
      | cons z o =>
        have hf97 := hfa hls (rfl : pat97 (x, some (st, z :: o)) = ([vI x, .ptr 0 0, .ptr 2 0], hpP 4 st (z :: o), 4 + outK (z :: o)))
        have hp := hf S (by omega)
        have hpe := popR_le x st.length st (z :: o)
        rw [hSO] at hpe
        simp only [List.length_cons] at hpe hpl hls
        cases O with
        | nil => simp at hpl; omega
        | cons y O =>
          simp only [List.length_cons] at hpl
          have hgy := hg y O (by omega)
          by_cases hjl : (y :: O).length = (z :: o).length
          · have hj : newJ (z :: o) (y :: O) = 4 := by simp only [newJ]; rw [if_neg (by simp), if_pos hjl]
            simp only [hj, hpP, outA_nil, outH_nil, outK_nil, outA_cons, outH_cons, outK_cons, List.append_nil, List.cons_append, List.nil_append, mk63] at hf97 fin ⊢
            delta p63_l0 p63_r4 p63_r5 p63_r6 p63_r7 p63_r8 p63_r9
            simp (disch := omega) [oLt, oLe, oLtN, oLeN, nLt, nLe, nLtN, nLeN, hic, h, e2, e3, hf97, hp, hgy]
            exact fin _ (.toF (fun h => [0, 1, 2, via h 2, via h 0]) (by simp))
          · have hj : newJ (z :: o) (y :: O) = 5 := by simp only [newJ]; rw [if_neg (by simp), if_neg hjl]
            simp only [hj, hpP, outA_nil, outH_nil, outK_nil, outA_cons, outH_cons, outK_cons, List.append_nil, List.cons_append, List.nil_append, mk63] at hf97 fin ⊢
            delta p63_l0 p63_r4 p63_r5 p63_r6 p63_r7 p63_r8 p63_r9
            simp (disch := omega) [oLt, oLe, oLtN, oLeN, nLt, nLe, nLtN, nLeN, hic, h, e2, e3, hf97, hp, hgy]
            exact fin _ (.toF (fun h => [0, 1, 2, via h 2, via h 0]) (by simp))
  · obtain rfl : i = l.length := by omega
    have hic : ¬ (l.length : Int) < l.length := by omega
    rw [List.drop_eq_nil_of_le (Nat.le_refl _)] at hinv
    simp only [psR] at hinv
    have hpd : psd l = (popR l.length st.length st out).2 := by unfold psd; rw [← hinv]
    rw [hpd] at hQ
    clear hpd hinv
    rcases hl0 : l.length with _ | i
    · have hlc : (l.length : Int) = 0 := by omega
      have h1 : st = [] := List.length_eq_zero_iff.1 (by omega)
      have h2 : out = [] := List.length_eq_zero_iff.1 (by omega)
      subst h1 h2
      have hf97 := f97_nil 0
      simp only [hpN] at hf97
      simp only [popR, List.length_nil, outA_nil, outH_nil, outK_nil] at hQ
      simp only [mk63]
      delta p63_l0 p63_r4 p63_r5 p63_r6 p63_r7 p63_r8 p63_r9
      simp (disch := omega) [oLt, oLe, oLtN, oLeN, nLt, nLe, nLtN, nLeN, hlc]
      refine hE _ _ _ .refl ?_
      delta p63_r10
      simp (disch := omega) [oLt, oLe, oLtN, oLeN, nLt, nLe, nLtN, nLeN, hf97, hlc]
      exact hQ _ _ (EndsP_F (fun h => [0]) (.inr rfl) rfl (by simp))
    · have hlc : (l.length : Int) = i + 1 := by omega
      have hpl := popR_len l.length st.length st out
      obtain ⟨S, O, hSO⟩ : ∃ S O, popR l.length st.length st out = (S, O) := ⟨_, _, rfl⟩
      have hfa : st.length + out.length ≤ 1000 → ∀ {args : List AV} {H : HL} {k : Nat}, pat97 ((l.length : Int), some (st, out)) = (args, H, k) → f97 args H k = some (.tup [], hpP (newJ out O) S O, newJ out O + outK O) := fun h1 args H k e => by
        have := f97_at h1 e; simpa only [out97, hSO] using this
      rw [hSO] at hQ hpl
      simp only at hQ hpl
      have hls : st.length + out.length ≤ 1000 := by omega
      cases out with
      | nil =>
        have hf97 := hfa hls (rfl : pat97 ((l.length : Int), some (st, [])) = ([vI l.length, .ptr 0 0, .ptr 2 0], hpP 4 st [], 4 + outK []))
        have hj : newJ [] O = 4 := rfl
        cases O with
        | nil =>
          simp only [hj, hpP, outA_nil, outH_nil, outK_nil, List.append_nil, List.cons_append, List.nil_append, mk63] at hf97 hQ ⊢
          delta p63_l0 p63_r4 p63_r5 p63_r6 p63_r7 p63_r8 p63_r9
          simp (disch := omega) [oLt, oLe, oLtN, oLeN, nLt, nLe, nLtN, nLeN, hlc]
          refine hE _ _ _ .refl ?_
          delta p63_r10
          rw [hlc] at hf97
          simp (disch := omega) [oLt, oLe, oLtN, oLeN, nLt, nLe, nLtN, nLeN, hf97, hlc]
          exact hQ _ _ (EndsP_F (fun h => [0]) (.inr rfl) rfl (by simp))
        | cons y O =>
          simp only [hj, hpP, outA_nil, outH_nil, outK_nil, outA_cons, outH_cons, outK_cons, List.append_nil, List.cons_append, List.nil_append, mk63] at hf97 hQ ⊢
          delta p63_l0 p63_r4 p63_r5 p63_r6 p63_r7 p63_r8 p63_r9
          simp (disch := omega) [oLt, oLe, oLtN, oLeN, nLt, nLe, nLtN, nLeN, hlc]
          refine hE _ _ _ .refl ?_
          delta p63_r10
          rw [hlc] at hf97
          simp (disch := omega) [oLt, oLe, oLtN, oLeN, nLt, nLe, nLtN, nLeN, hf97, hlc]
          exact hQ _ _ (EndsP_F (fun h => [0, via h 0]) (.inr rfl) rfl (by simp))
      | cons z o =>
        have hf97 := hfa hls (rfl : pat97 ((l.length : Int), some (st, z :: o)) = ([vI l.length, .ptr 0 0, .ptr 2 0], hpP 4 st (z :: o), 4 + outK (z :: o)))
        have hpe := popR_le l.length st.length st (z :: o)
        rw [hSO] at hpe
        simp only [List.length_cons] at hpe hpl hls
        cases O with
        | nil => simp at hpl; omega
        | cons y O =>
          by_cases hjl : (y :: O).length = (z :: o).length
          · have hj : newJ (z :: o) (y :: O) = 4 := by simp only [newJ]; rw [if_neg (by simp), if_pos hjl]
            simp only [hj, hpP, outA_nil, outH_nil, outK_nil, outA_cons, outH_cons, outK_cons, List.append_nil, List.cons_append, List.nil_append, mk63] at hf97 hQ ⊢
            delta p63_l0 p63_r4 p63_r5 p63_r6 p63_r7 p63_r8 p63_r9
            simp (disch := omega) [oLt, oLe, oLtN, oLeN, nLt, nLe, nLtN, nLeN, hlc]
            refine hE _ _ _ .refl ?_
            delta p63_r10
            rw [hlc] at hf97
            simp (disch := omega) [oLt, oLe, oLtN, oLeN, nLt, nLe, nLtN, nLeN, hf97, hlc]
            exact hQ _ _ (EndsP_F (fun h => [0, via h 0]) (.inr rfl) rfl (by simp))
          · have hj : newJ (z :: o) (y :: O) = 5 := by simp only [newJ]; rw [if_neg (by simp), if_neg hjl]
            simp only [hj, hpP, outA_nil, outH_nil, outK_nil, outA_cons, outH_cons, outK_cons, List.append_nil, List.cons_append, List.nil_append, mk63] at hf97 hQ ⊢
            delta p63_l0 p63_r4 p63_r5 p63_r6 p63_r7 p63_r8 p63_r9
            simp (disch := omega) [oLt, oLe, oLtN, oLeN, nLt, nLe, nLtN, nLeN, hlc]
            refine hE _ _ _ .refl ?_
            delta p63_r10
            rw [hlc] at hf97
            simp (disch := omega) [oLt, oLe, oLtN, oLeN, nLt, nLe, nLtN, nLeN, hf97, hlc]
            exact hQ _ _ (EndsP_F (fun h => [0, via h 0]) (.inr rfl) rfl (by simp))
end Go.Sx.Lk
end
