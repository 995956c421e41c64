/- What the laws of the lock layer have in common: works, an order made by numbers is checked. No conditions. -/
import Derived.Test.YteoiebmbgbgpgaaSxJLUtoLVe
import Derived.Test.YteoiebmbgbgpgaaSxJPLbtoLEw
import Derived.Test.YteoiebmbgbgpgaaSxJMItoLQ
import Derived.Test.YteoiebmbgbgpgaaSxPLc
set_option linter.unusedVariables false
set_option linter.unusedSimpArgs false
set_option maxRecDepth 4000
namespace Go.Sx.Lk
open Go Go.Sx Go.Proofs
section
def s15 : Sp := spT 15 [] (res true (vB true))
@[simp] theorem s15_g : s15.g = 15 := rfl
@[simp] theorem s15_f : s15.f = (spT 15 [] (res true (vB true))).f := rfl
theorem s15_ok : s15.ok Try.prog := by
  apply spT_ok
  simp only [OkT]
  intro r h' k' hh
  obtain ⟨_, rfl, rfl, rfl⟩ := res_inv hh
  exact k100_ok
theorem iota_zs (n : Nat) : iota n = zs (List.range n) := rfl
theorem erase_perm : ∀ (l : List Int) (k : Nat) (h : k < l.length), (l[k] :: l.eraseIdx k).Perm l
  | [], k, h => by simp at h
  | x :: r, 0, h => by simp
  | x :: r, k + 1, h => by
    simp only [List.getElem_cons_succ, List.eraseIdx_cons_succ]
    exact (List.Perm.swap _ _ _).trans ((erase_perm r k (by simpa using h)).cons x)
theorem mtS_perm (O : List Int) (n : Nat) : ∀ {i : Nat}, i ≤ n → ((mtS O n i).1 ++ (mtS O n i).2).Perm (iota n)
  | 0, _ => by simp [mtS]
  | i + 1, h => by
    have ih := mtS_perm O n (i := i) (by omega)
    have hl := mtS_len O n (i := i) (by omega)
    have hp : 0 < (mtS O n i).1.length := by omega
    simp only [mtS]
    generalize hk : (O.getD i 0).toNat % (mtS O n i).1.length = k
    have hkl : k < (mtS O n i).1.length := by rw [← hk]; exact Nat.mod_lt _ hp
    refine List.Perm.trans ?_ ih
    have e : (mtS O n i).1.getD k 0 = (mtS O n i).1[k] := by rw [List.getD_eq_getElem?_getD, List.getElem?_eq_getElem hkl]; rfl
    rw [e, ← List.append_assoc]
    refine List.perm_append_comm.trans ?_
    rw [List.singleton_append, ← List.cons_append]
    exact (erase_perm _ k hkl).append_right _
theorem chkN_of {n : Nat} : ∀ {l : List Nat}, l.Nodup → (∀ x ∈ l, x < n) → chkN n l = true
  | [], _, _ => rfl
  | x :: r, hd, hb => by
    simp only [chkN, Bool.and_eq_true, Bool.not_eq_true']
    refine ⟨⟨blt_iff.2 (hb x (by simp)), ?_⟩, chkN_of (List.nodup_cons.1 hd).2 fun y hy => hb y (by simp [hy])⟩
    cases h : memN x r
    · rfl
    · exact absurd (memN_iff.1 h) (List.nodup_cons.1 hd).1
theorem perm_chk {l : List Int} {n : Nat} (h0 : 0 < n) (h7 : n ≤ 7) (hp : l.Perm (iota n)) : chkF l = 0 := by
  have hm : (l.map Int.toNat).Perm (List.range n) := by
    have := hp.map Int.toNat
    rwa [iota_zs, toNat_zs] at this
  have hz : l = zs (l.map Int.toNat) := by
    have : ∀ x ∈ l, (x.toNat : Int) = x := fun x hx => by
      have := hp.mem_iff.1 hx
      rw [iota_zs] at this
      simp only [zs, List.mem_map] at this
      obtain ⟨k, _, rfl⟩ := this
      simp
    rw [zs, List.map_map]
    exact (List.map_id l).symm.trans (List.map_congr_left fun x hx => (this x hx).symm)
  have hlen : (l.map Int.toNat).length = n := by rw [hm.length_eq, List.length_range]
  rw [hz]
  refine chkN_F (by omega) (by omega) (chkN_of (hm.nodup_iff.2 List.nodup_range) fun x hx => ?_)
  rw [hlen]
  exact List.mem_range.1 (hm.mem_iff.1 hx)
theorem made_chk {s : Int} {O : List Int} {most : Int} (h : gTr s O most = true) : chkF (mtL s.toNat O most.toNat) = 0 := by
  simp only [gTr, Bool.and_eq_true, decide_eq_true_eq, within_iff, List.all_eq_true] at h
  obtain ⟨⟨⟨hs, hO⟩, hOb⟩, hm⟩ := h
  have hml : s.toNat % most.toNat < most.toNat := Nat.mod_lt _ (by omega)
  have hl := mtS_len O (1 + s.toNat % most.toNat) (Nat.le_refl _)
  have hp := mtS_perm O (1 + s.toNat % most.toNat) (Nat.le_refl _)
  have h1 : (mtS O (1 + s.toNat % most.toNat) (1 + s.toNat % most.toNat)).1 = [] := List.length_eq_zero_iff.1 (by omega)
  rw [h1, List.nil_append] at hp
  exact perm_chk (by omega) (by omega) hp
theorem made_most {s : Int} {O : List Int} {most : Int} (h : gTr s O most = true) : (mtL s.toNat O most.toNat).length ≤ most := by
  simp only [gTr, Bool.and_eq_true, decide_eq_true_eq, within_iff, List.all_eq_true] at h
  obtain ⟨⟨⟨hs, hO⟩, hOb⟩, hm⟩ := h
  have hml : s.toNat % most.toNat < most.toNat := Nat.mod_lt _ (by omega)
  unfold mtL
  rw [mtS_out]
  omega
theorem made_pack {s : Int} {O : List Int} {most : Int} (h : gTr s O most = true) : ∃ l K, K = trA s O ∧ f45 [.agg K, vI most] [] 0 = some (.il (ints l) l.length false, [], 0) ∧ chkF l = 0 ∧ (l.length : Int) ≤ most ∧
    K.length = 8 ∧ K.take 8 = K ∧ (∀ f, renL f K = K) ∧ (∀ id cs, frL id cs K = K) ∧ cloL K = true ∧ flatL K = true := by
  have hO : O.length = 7 := by simp only [gTr, Bool.and_eq_true, decide_eq_true_eq] at h; exact h.1.1.2
  have hl : (trA s O).length = 8 := by simp [trA, u8s, hO]
  exact ⟨_, _, rfl, f45_at h, made_chk h, made_most h, hl, List.take_of_length_le (by omega), fun f => by simp [trA], fun id cs => by simp [trA], by simp [trA], by simp [trA]⟩
theorem gTr_of {s : Int} {l : List Int} {most : Int} (hs : 0 ≤ s ∧ s ≤ 255) (hl : l.length = 7) (hb : ∀ x ∈ l, 0 ≤ x ∧ x ≤ 255) (hm : 1 ≤ most ∧ most ≤ 7 := by omega) : gTr s l most = true := by
  simp only [gTr, Bool.and_eq_true, decide_eq_true_eq, within_iff, List.all_eq_true]
  exact ⟨⟨⟨hs, hl⟩, hb⟩, hm⟩
end
section
abbrev Bas := List Int × List Int × List Int
def rE : List Int → Bas → Int × Bas
  | [], s => (0, s)
  | c :: r, s => if c = 105 then (match s.2.2 with
      | [] => (2, s)
      | x :: l => rE r (s.1 ++ [x], s.2.1, l))
    else if c = 111 then (if s.1 = [] then (4, s) else rE r (s.1.dropLast, s.2.1 ++ [s.1.getLastD 0], s.2.2)) else (10, s)
theorem rE_app : ∀ (a b : List Int) (s : Bas), rE (a ++ b) s = if (rE a s).1 = 0 then rE b (rE a s).2 else rE a s
  | [], b, s => by simp [rE]
  | c :: r, b, ⟨st, out, left⟩ => by
    simp only [List.cons_append, rE]
    by_cases h1 : c = 105
    · simp only [h1, if_true]
      cases left with
      | nil => simp
      | cons x l => exact rE_app r b _
    · simp only [h1, if_false]
      by_cases h2 : c = 111
      · simp only [h2, if_true]
        by_cases h3 : st = []
        · simp [h3]
        · simp only [h3, if_false]; exact rE_app r b _
      · simp [h2]
def bsz (s : Bas) : Nat := s.1.length + s.2.1.length + s.2.2.length
theorem rE_sz : ∀ (a : List Int) (s : Bas), bsz (rE a s).2 = bsz s
  | [], s => rfl
  | c :: r, ⟨st, out, left⟩ => by
    simp only [rE]
    by_cases h1 : c = 105
    · simp only [h1, if_true]
      cases left with
      | nil => rfl
      | cons x l => rw [rE_sz r]; simp [bsz]; omega
    · simp only [h1, if_false]
      by_cases h2 : c = 111
      · simp only [h2, if_true]
        by_cases h3 : st = []
        · simp [h3]
        · simp only [h3, if_false]
          rw [rE_sz r]
          have : 0 < st.length := List.length_pos_iff.2 h3
          simp [bsz]; omega
      · simp [h2]
def rEnd (n : Nat) (q : Int × Bas) : Int × List Int := if q.1 = 0 then (if q.2.2.1.length < n then (21, []) else (0, q.2.2.1)) else (q.1, [])
theorem strB_at {w : List Int} {i : Nat} {c : Int} (h : w[i]? = some c) : (strB w)[i]? = some c.toNat.toUInt8 := by
  have hi : i < w.length := (List.getElem?_eq_some_iff.1 h).1
  have hs : i < (strB w).size := by rw [strB_size]; exact hi
  have e0 : (strB w)[i]? = some ((strB w)[i]) := getElem?_pos (strB w) i hs
  rw [e0]
  have e : (strB w)[i] = (w.map fun n => n.toNat.toUInt8)[i]'(by simpa using hi) := rfl
  rw [e, List.getElem_map]
  rw [List.getElem?_eq_getElem hi] at h
  cases h; rfl
theorem u8_eq {c : Int} {k : Nat} (hc : 0 ≤ c ∧ c < 256) (hk : k < 256) : (c.toNat.toUInt8 = k.toUInt8) ↔ c = k := by
  rw [← UInt8.toNat_inj]
  simp only [Nat.toUInt8, UInt8.toNat_ofNat']
  omega
theorem rnR_rE {w : List Int} (hw : letB w) (n : Nat) : ∀ (f i : Nat) (st out left : List Int), i + f = w.length → rnR (strB w) n f i st out left = rEnd n (rE (w.drop i) (st, out, left))
  | 0, i, st, out, left, h => by
    rw [List.drop_eq_nil_of_le (by omega)]
    simp only [rnR, rE, rEnd, if_true]
    rfl
  | f + 1, i, st, out, left, h => by
    have hi : i < w.length := by omega
    have hg : w[i]? = some w[i] := List.getElem?_eq_getElem hi
    have hd : w.drop i = w[i] :: w.drop (i + 1) := List.drop_eq_getElem_cons hi
    have hb := hw w[i] (List.getElem_mem hi)
    simp only [rnR, strB_at hg]
    rw [hd]
    generalize w[i] = c at *
    have h1 : (c.toNat.toUInt8 = 105) ↔ c = 105 := u8_eq (k := 105) hb (by omega)
    have h2 : (c.toNat.toUInt8 = 111) ↔ c = 111 := u8_eq (k := 111) hb (by omega)
    simp only [rE]
    by_cases c1 : c = 105
    · rw [if_pos (h1.2 c1), if_pos c1]
      cases left with
      | nil => simp [rEnd]
      | cons x l => exact rnR_rE hw n f (i + 1) _ _ _ (by omega)
    · rw [if_neg (fun h => c1 (h1.1 h)), if_neg c1]
      by_cases c2 : c = 111
      · rw [if_pos (h2.2 c2), if_pos c2]
        by_cases c3 : st = []
        · rw [if_pos c3, if_pos c3]; simp [rEnd]
        · rw [if_neg c3, if_neg c3]; exact rnR_rE hw n f (i + 1) _ _ _ (by omega)
      · rw [if_neg (fun h => c2 (h2.1 h)), if_neg c2]
        simp [rEnd]
theorem rnF_rE {w : List Int} (hw : letB w) (l : List Int) : rnF (strB w) l = rEnd l.length (rE w ([], [], l)) := by
  unfold rnF
  rw [strB_size, rnR_rE hw _ _ _ _ _ _ (by omega), List.drop_zero]
/-! ### The moves of a pass -/
theorem mv_pop (b : Int) (left : List Int) : ∀ (n : Nat) (st w out : List Int), ∃ v, mvR b n st w = ((popR b n st out).1, w ++ v) ∧ rE v (st, out, left) = (0, (popR b n st out).1, (popR b n st out).2, left)
  | 0, st, w, out => ⟨[], by simp [mvR, popR], rfl⟩
  | n + 1, st, w, out => by
    simp only [mvR, popR]
    by_cases h : st = []
    · exact ⟨[], by simp [h], by simp [h, rE]⟩
    · simp only [h, if_false]
      by_cases hb : st.getLastD 0 < b
      · simp only [hb, if_true]
        obtain ⟨v, h1, h2⟩ := mv_pop b left n st.dropLast (w ++ [111]) (out ++ [st.getLastD 0])
        refine ⟨111 :: v, by rw [h1]; simp, ?_⟩
        simp only [rE, h, if_false, if_true, show ¬ (111 : Int) = 105 by omega]
        exact h2
      · exact ⟨[], by rw [if_neg hb, if_neg hb]; simp, by rw [if_neg hb]; rfl⟩
theorem mv_ps : ∀ (l st w out : List Int), ∃ v, mvS l st w = ((psR l st out).1, w ++ v) ∧ rE v (st, out, l) = (0, (psR l st out).1, (psR l st out).2, [])
  | [], st, w, out => ⟨[], by simp [mvS, psR], rfl⟩
  | x :: r, st, w, out => by
    simp only [mvS, psR]
    obtain ⟨v, h1, h2⟩ := mv_pop x (x :: r) st.length st w out
    obtain ⟨v2, h3, h4⟩ := mv_ps r ((popR x st.length st out).1 ++ [x]) (w ++ v ++ [105]) (popR x st.length st out).2
    refine ⟨v ++ 105 :: v2, by rw [h1, h3]; simp, ?_⟩
    rw [rE_app, h2]
    simp only [if_true, rE]
    exact h4
theorem mvF_rE (l : List Int) : ∃ st, rE (mvF l) ([], [], l) = (0, st, psd l, []) := by
  obtain ⟨v, h1, h2⟩ := mv_ps l [] [] []
  obtain ⟨v2, h3, h4⟩ := mv_pop l.length [] (psR l [] []).1.length (psR l [] []).1 v (psR l [] []).2
  refine ⟨(popR l.length (psR l [] []).1.length (psR l [] []).1 (psR l [] []).2).1, ?_⟩
  have e : mvF l = v ++ v2 := by
    unfold mvF
    rw [h1]
    simp only [List.nil_append]
    rw [h3]
  rw [e, rE_app, h2]
  simp only [if_true]
  rw [h4]
  rfl
theorem rnF_mvF {l : List Int} (h : chkF l = 0) : rnF (strB (mvF l)) l = (0, psd l) := by
  rw [rnF_rE (mvF_let l)]
  obtain ⟨st, hs⟩ := mvF_rE l
  rw [hs]
  simp only [rEnd, if_true]
  rw [if_neg (by rw [(ck_facts h).len]; omega)]
end
section
set_option maxHeartbeats 8000000
def mk46 (l : List Int) (u : Bool) (s : ByteArray) (p : Bool) (st J out : List Int) (i : Nat) : ST := if p = true
  then ⟨[(0, .il (ints l) l.length u), (1, vS s), (6, .ref 0 0 st.length 1 none), (7, outA 1 out), (10, vI s.size), (11, vI i)], [(0, .cells (ints (st ++ J)))] ++ outH 1 out, 1 + outK out⟩
  else ⟨[(0, .il (ints l) l.length u), (1, vS s), (6, nS), (7, nS), (10, vI s.size), (11, vI i)], [], 0⟩
theorem splice_mid (D : List Int) (a x : AV) (r : List AV) : splice (ints D ++ a :: r) D.length [x] = ints D ++ x :: r := by
  unfold splice
  rw [List.take_left' (by simp), show D.length + [x].length = (ints D).length + 1 by simp, ← List.drop_drop, List.drop_left' rfl]
  simp
theorem t46t {l : List Int} {u : Bool} {s : ByteArray} {st J out : List Int} {i : Nat} {x : Int} {b : UInt8} {N : ST → Prop} {Q' : Exit → ST → Prop} (hss : s.size ≤ 1000) (hl7 : l.length ≤ 7) (hic : (i : Int) < s.size) (hb : s[i]? = some b) (h : i < s.size) (hbi : s[i] = b) (hbc : (b.toNat : Int) = 105) (hcm : st.length + out.length < l.length) (hcc : (st.length : Int) + out.length < l.length) (hcne : ¬ (st.length : Int) + out.length = l.length) (hnat : ((st.length : Int) + out.length).toNat = st.length + out.length) (e2 : l[st.length + out.length]? = some x) (e3 : l[st.length + out.length] = x) (fin : ∀ J' s', ChgT 0 s' (mk46 l u s true (st ++ [x]) J' out (i + 1)) → N s') :
    XZ (rZ (spc [])) 0 p46_l0 (mk46 l u s true st J out i) (thenE N Q') := by
  cases st with
  | nil =>
    cases J with
    | nil =>
      have fin := fin []
      simp only [mk46, if_true] at fin ⊢
      cases out with
      | nil =>
        simp only [List.length_nil, Nat.add_zero, Int.natCast_zero, Int.add_zero, Int.toNat_natCast] at e2 e3 hcc hcne hnat hcm
        delta p46_l0 p46_r3 p46_r4 p46_r5 p46_r6 p46_r7 p46_r8 p46_r9 p46_r10 p46_r11 p46_r12 p46_r13
        simp (disch := omega) [oLt, oLe, oLtN, oLeN, nLt, nLe, nLtN, nLeN, hic, hb, hbi, effIdxS, hbc, hcc, hcne, hcm, hnat, e2, e3]
        exact fin _ (.toS (fun s => [ida s 6]) (by simp))
      | cons y o =>
        simp only [List.length_nil, Nat.add_zero, Nat.zero_add, Int.natCast_zero, Int.add_zero, Int.zero_add, Int.toNat_natCast, List.length_cons, Int.natCast_add, Int.natCast_one] at e2 e3 hcc hcne hnat hcm
        delta p46_l0 p46_r3 p46_r4 p46_r5 p46_r6 p46_r7 p46_r8 p46_r9 p46_r10 p46_r11 p46_r12 p46_r13
        simp (disch := omega) [oLt, oLe, oLtN, oLeN, nLt, nLe, nLtN, nLeN, hic, hb, hbi, effIdxS, hbc, hcc, hcne, hcm, hnat, e2, e3]
        exact fin _ (.toS (fun s => [ida s 6, ida s 7]) (by simp))
    | cons j J =>
      have fin := fin J
      simp only [mk46, if_true] at fin ⊢
      cases out with
      | nil =>
        simp only [List.length_nil, Nat.add_zero, Int.natCast_zero, Int.add_zero, Int.toNat_natCast] at e2 e3 hcc hcne hnat hcm
        delta p46_l0 p46_r3 p46_r4 p46_r5 p46_r6 p46_r7 p46_r8 p46_r9 p46_r10 p46_r11 p46_r12 p46_r13
        simp (disch := omega) [oLt, oLe, oLtN, oLeN, nLt, nLe, nLtN, nLeN, hic, hb, hbi, effIdxS, hbc, hcc, hcne, hcm, hnat, e2, e3, splice_mid]
        exact fin _ (.toS (fun s => [ida s 6]) (by simp))
      | cons y o =>
        simp only [List.length_nil, Nat.add_zero, Nat.zero_add, Int.natCast_zero, Int.add_zero, Int.zero_add, Int.toNat_natCast, List.length_cons, Int.natCast_add, Int.natCast_one] at e2 e3 hcc hcne hnat hcm
        delta p46_l0 p46_r3 p46_r4 p46_r5 p46_r6 p46_r7 p46_r8 p46_r9 p46_r10 p46_r11 p46_r12 p46_r13
        simp (disch := omega) [oLt, oLe, oLtN, oLeN, nLt, nLe, nLtN, nLeN, hic, hb, hbi, effIdxS, hbc, hcc, hcne, hcm, hnat, e2, e3, splice_mid]
        exact fin _ (.toS (fun s => [ida s 6, ida s 7]) (by simp))
  | cons d D =>
    have hsl : D.length ≤ 7 := by simp at hcm; omega
    cases J with
    | nil =>
      have fin := fin []
      simp only [mk46, if_true] at fin ⊢
      cases out with
      | nil =>
        simp only [List.length_nil, Nat.add_zero, Nat.zero_add, Int.natCast_zero, Int.add_zero, Int.zero_add, Int.toNat_natCast, List.length_cons, Int.natCast_add, Int.natCast_one] at e2 e3 hcc hcne hnat hcm
        delta p46_l0 p46_r3 p46_r4 p46_r5 p46_r6 p46_r7 p46_r8 p46_r9 p46_r10 p46_r11 p46_r12 p46_r13
        simp (disch := omega) [oLt, oLe, oLtN, oLeN, nLt, nLe, nLtN, nLeN, hic, hb, hbi, effIdxS, hbc, hcc, hcne, hcm, hnat, e2, e3, hsl]
        exact fin _ (.toS (fun s => [ida s 6]) (by simp))
      | cons y o =>
        simp only [List.length_nil, Nat.add_zero, Nat.zero_add, Int.natCast_zero, Int.add_zero, Int.zero_add, Int.toNat_natCast, List.length_cons, Int.natCast_add, Int.natCast_one] at e2 e3 hcc hcne hnat hcm
        delta p46_l0 p46_r3 p46_r4 p46_r5 p46_r6 p46_r7 p46_r8 p46_r9 p46_r10 p46_r11 p46_r12 p46_r13
        simp (disch := omega) [oLt, oLe, oLtN, oLeN, nLt, nLe, nLtN, nLeN, hic, hb, hbi, effIdxS, hbc, hcc, hcne, hcm, hnat, e2, e3, hsl]
        exact fin _ (.toS (fun s => [ida s 6, ida s 7]) (by simp))
    | cons j J =>
      have fin := fin J
      simp only [mk46, if_true] at fin ⊢
      cases out with
      | nil =>
        simp only [List.length_nil, Nat.add_zero, Nat.zero_add, Int.natCast_zero, Int.add_zero, Int.zero_add, Int.toNat_natCast, List.length_cons, Int.natCast_add, Int.natCast_one] at e2 e3 hcc hcne hnat hcm
        delta p46_l0 p46_r3 p46_r4 p46_r5 p46_r6 p46_r7 p46_r8 p46_r9 p46_r10 p46_r11 p46_r12 p46_r13
        simp (disch := omega) [oLt, oLe, oLtN, oLeN, nLt, nLe, nLtN, nLeN, hic, hb, hbi, effIdxS, hbc, hcc, hcne, hcm, hnat, e2, e3, hsl, splice_mid]
        exact fin _ (.toS (fun s => [ida s 6]) (by simp))
      | cons y o =>
        simp only [List.length_nil, Nat.add_zero, Nat.zero_add, Int.natCast_zero, Int.add_zero, Int.zero_add, Int.toNat_natCast, List.length_cons, Int.natCast_add, Int.natCast_one] at e2 e3 hcc hcne hnat hcm
        delta p46_l0 p46_r3 p46_r4 p46_r5 p46_r6 p46_r7 p46_r8 p46_r9 p46_r10 p46_r11 p46_r12 p46_r13
        simp (disch := omega) [oLt, oLe, oLtN, oLeN, nLt, nLe, nLtN, nLeN, hic, hb, hbi, effIdxS, hbc, hcc, hcne, hcm, hnat, e2, e3, hsl, splice_mid]
        exact fin _ (.toS (fun s => [ida s 6, ida s 7]) (by simp))
def g46 (s : ByteArray) (l : List Int) : Bool := decide (l.length ≤ 7) && decide (0 < l.length) && decide ((rnF s l).1 = 0)
def s46 : Sp := spT 46 [.l, .av] fun (l : List Int) (a : AV) => match a with
  | .v (.string s) => res (g20 s && g46 s l) (.tup [.il (ints (rnF s l).2) (rnF s l).2.length false, vB true])
  | _ => none
@[simp] theorem s46_g : s46.g = 46 := rfl
@[simp] theorem s46_f : s46.f = (spT 46 [.l, .av] fun (l : List Int) (a : AV) => match a with
  | .v (.string s) => res (g20 s && g46 s l) (.tup [.il (ints (rnF s l).2) (rnF s l).2.length false, vB true])
  | _ => none).f := rfl
theorem s46_ok : s46.ok Try.prog := by
  apply spT_ok
  simp only [OkT, Ty.all, List.nil_append, List.cons_append]
  intro (l : List Int) u (a : AV)
  cases a with
  | v x =>
    cases x with
    | string s =>
      apply okT_res; intro hg
      simp only [g20, g46, Bool.and_eq_true, decide_eq_true_eq] at hg
      obtain ⟨hss, ⟨hl7, hl0⟩, hz⟩ := hg
      refine P46.rz (ss := []) trivial (by simp) fun Q hQ => ?_
      delta p46 p46_r0 p46_r1 p46_r2
      simp (disch := omega) [oLt, oLe, oLtN, oLeN, nLt, nLe, nLtN, nLeN, effLenS]
      refine XZ_for (fun p : Nat × Bool × List Int × List Int × List Int => mk46 l u s p.2.1 p.2.2.1 p.2.2.2.1 p.2.2.2.2 p.1) (fun p => s.size - p.1) (fun p => p.1 ≤ s.size ∧ (p.2.1 = false → p.2.2.1 = [] ∧ p.2.2.2.2 = []) ∧ p.2.2.1.length + p.2.2.2.2.length ≤ l.length ∧ rnR s l.length (s.size - p.1) p.1 p.2.2.1 p.2.2.2.2 (l.drop (p.2.2.1.length + p.2.2.2.2.length)) = rnF s l) (0, false, [], [], []) ⟨by simp, by simp, by simp, by simp [rnF]⟩ (.to [] (by simp [mk46])) ?_
      rintro ⟨i, p, st, J, out⟩ ⟨hi, hp, hcl, hinv⟩ N Q' hN hE
      simp only at hi hp hcl hinv ⊢
      rcases Nat.lt_or_ge i s.size with h | h
      · have hic : (i : Int) < s.size := by omega
        obtain ⟨b, hb, hbi⟩ := sz_get h
        rw [show s.size - i = (s.size - (i + 1)) + 1 by omega] at hinv
        simp only [rnR, hb] at hinv
        have fin : ∀ st' J' out', st'.length + out'.length ≤ l.length → rnR s l.length (s.size - (i + 1)) (i + 1) st' out' (l.drop (st'.length + out'.length)) = rnF s l → ∀ s', ChgT 0 s' (mk46 l u s true st' J' out' (i + 1)) → N s' := fun st' J' out' h2 h3 s' hh => hN s' (i + 1, true, st', J', out') (by simp only; omega) ⟨h, by simp, h2, h3⟩ hh
        clear hN hQ
        by_cases hb1 : b = 105
        · rw [if_pos hb1] at hinv
          have hbc := byte_c hb1
          rcases Nat.lt_or_ge (st.length + out.length) l.length with hcm | hcm
          · obtain ⟨x, r, e1, e2, e3, e4, e5⟩ := drop_split hcm
            rw [e1] at hinv
            simp only at hinv
            have hcc : (st.length : Int) + out.length < l.length := by omega
            have hcne : ¬ (st.length : Int) + out.length = l.length := by omega
            have hnat : ((st.length : Int) + out.length).toNat = st.length + out.length := by omega
            rw [← e4] at hinv
            have fin := fun J' => fin (st ++ [x]) J' out (by simp; omega) (by rw [List.length_append, List.length_singleton, Nat.add_right_comm]; exact hinv)
            cases p with
            | false =>
              obtain ⟨rfl, rfl⟩ := hp rfl
              have hl0c : ¬ (0 : Int) = l.length := by omega
              have hl0d : (0 : Int) < l.length := by omega
              simp only [List.length_nil, Nat.add_zero] at e2 e3
              have fin := fin []
              simp only [mk46, Bool.false_eq_true, if_false, if_true] at fin ⊢
              delta p46_l0 p46_r3 p46_r4 p46_r5 p46_r6 p46_r7 p46_r8 p46_r9 p46_r10 p46_r11 p46_r12 p46_r13
              simp (disch := omega) [oLt, oLe, oLtN, oLeN, nLt, nLe, nLtN, nLeN, hic, hb, hbi, effIdxS, hbc, hl0c, hl0d, hl0, e2, e3]
              exact fin _ (.toS (fun s => [ida s 6]) (by simp))
            | true => exact t46t hss hl7 hic hb h hbi hbc hcm hcc hcne hnat e2 e3 fin
          · rw [List.drop_eq_nil_of_le hcm] at hinv
            simp only at hinv
            rw [← hinv] at hz
            cases hz
        · rw [if_neg hb1] at hinv
          have hbn := byte_n (k := 105) (by omega) hb1
          simp only [Int.cast_ofNat_Int] at hbn
          by_cases hb2 : b = 111
          · rw [if_pos hb2] at hinv
            have hbc := byte_c2 hb2
            by_cases h0 : st = []
            · rw [if_pos h0] at hinv
              rw [← hinv] at hz
              cases hz
            · rw [if_neg h0] at hinv
              cases p with
              | false => exact absurd (hp rfl).1 h0
              | true =>
                obtain ⟨D, c, rfl⟩ : ∃ D c, st = D ++ [c] := by
                  rcases List.eq_nil_or_concat st with h | ⟨D, c, h⟩
                  · exact absurd h h0
                  · exact ⟨D, c, by simpa using h⟩
                have hll : (D ++ [c]).getLastD 0 = c := by simp
                rw [List.dropLast_concat, hll] at hinv
                have fin := fin D (c :: J) (out ++ [c]) (by simp at hcl ⊢; omega) (by
                  rw [List.length_append, List.length_singleton]
                  rw [List.length_append, List.length_singleton] at hinv
                  rw [show D.length + (out.length + 1) = D.length + 1 + out.length by omega]; exact hinv)
                have hget : (ints D ++ (vI c :: ints J))[D.length]? = some (vI c) := by rw [List.getElem?_append_right (by simp)]; simp
                have hdl : ¬ (D.length : Int) + 1 = 0 := by omega
                have hd1 : (D.length : Int) + 1 - 1 = D.length := by omega
                have hdm : D.length ≤ 7 := by simp at hcl; omega
                simp only [mk46, if_true, List.append_assoc, List.singleton_append, List.length_append, List.length_singleton] at fin ⊢
                cases out with
                | nil =>
                  simp only [List.nil_append, outA_cons, outH_cons, outK_cons] at fin
                  delta p46_l0 p46_r3 p46_r4 p46_r5 p46_r6 p46_r7 p46_r8 p46_r9 p46_r10 p46_r11 p46_r12 p46_r13
                  simp (disch := omega) [oLt, oLe, oLtN, oLeN, nLt, nLe, nLtN, nLeN, hic, hb, hbi, effIdxS, hbc, hdl, hd1, hdm, hget]
                  exact fin _ (.toS (fun s => [ida s 6, ida s 7]) (by simp))
                | cons y o =>
                  have hol : o.length ≤ 7 := by simp at hcl; omega
                  simp only [List.cons_append, outA_cons, outH_cons, outK_cons] at fin
                  delta p46_l0 p46_r3 p46_r4 p46_r5 p46_r6 p46_r7 p46_r8 p46_r9 p46_r10 p46_r11 p46_r12 p46_r13
                  simp (disch := omega) [oLt, oLe, oLtN, oLeN, nLt, nLe, nLtN, nLeN, hic, hb, hbi, effIdxS, hbc, hdl, hd1, hdm, hol, hget]
                  exact fin _ (.toS (fun s => [ida s 6, ida s 7]) (by simp))
          · rw [if_neg hb2] at hinv
            rw [← hinv] at hz
            cases hz
      · obtain rfl : i = s.size := by omega
        have hic : ¬ (s.size : Int) < s.size := by omega
        rw [Nat.sub_self] at hinv
        simp only [rnR] at hinv
        clear hN
        by_cases hol : out.length < l.length
        · rw [if_pos hol] at hinv
          rw [← hinv] at hz
          cases hz
        · rw [if_neg hol] at hinv
          rw [← hinv] at hQ
          simp only at hQ
          cases p with
          | false =>
            obtain ⟨rfl, rfl⟩ := hp rfl
            exact absurd (by simpa using hl0) hol
          | true =>
            simp only [mk46, if_true]
            cases out with
            | nil => exact absurd (by simpa using hl0) hol
            | cons y o =>
              have hlc : (o.length : Int) + 1 = l.length := by simp at hol hcl; omega
              delta p46_l0 p46_r3 p46_r4 p46_r5 p46_r6 p46_r7 p46_r8 p46_r9 p46_r10 p46_r11 p46_r12 p46_r13
              simp (disch := omega) [oLt, oLe, oLtN, oLeN, nLt, nLe, nLtN, nLeN, hic]
              refine hE _ _ _ .refl ?_
              delta p46_r14
              simp (disch := omega) [oLt, oLe, oLtN, oLeN, nLt, nLe, nLtN, nLeN, hlc]
              exact hQ _ _ (.fz [4, 5] _ (.inl rfl) (by simp; rfl) (by simp) (by simp))
    | _ => intro r h' k' hh; cases hh
  | _ => intro r h' k' hh; cases hh
end
end Go.Sx.Lk
