/- Lists of small numbers of 32 bits, and their bits. No conditions. -/
import Derived.Test.YtfiebjbhiflfpaaDoorSxJDKtoDM
import Derived.Test.YtfiebjbhiflfpaaDoorSxJCNtoCO
set_option linter.unusedVariables false
set_option linter.unusedSimpArgs false
set_option maxRecDepth 4000
namespace Go.Sx.Ch
open Go Go.Sx Go.Proofs

abbrev vU (n : Nat) : AV := .v (.int .u32 (n : Int))
def uws (l : List Nat) : List AV := l.map fun (n : Nat) => .v (.int .u32 (n : Int))
@[simp] theorem uws_len (l : List Nat) : (uws l).length = l.length := by simp [uws]
@[simp] theorem uws_nil : uws [] = [] := rfl
@[simp] theorem uws_cons (x : Nat) (l : List Nat) : uws (x :: l) = vU x :: uws l := rfl
@[simp] theorem uws_get? (l : List Nat) (i : Nat) : (uws l)[i]? = (l[i]?).map fun (n : Nat) => vU n := by simp [uws]
@[simp] theorem uws_at (l : List Nat) (i : Nat) (h : i < (uws l).length) : (uws l)[i] = vU (l[i]'(by simpa using h)) := by simp [uws]
@[simp] theorem uws_take (l : List Nat) (n : Nat) : (uws l).take n = uws (l.take n) := by simp [uws, List.map_take]
@[simp] theorem uws_drop (l : List Nat) (n : Nat) : (uws l).drop n = uws (l.drop n) := by simp [uws, List.map_drop]
@[simp] theorem uws_set (l : List Nat) (i : Nat) (b : Nat) : (uws l).set i (vU b) = uws (l.set i b) := by simp [uws, List.map_set]
@[simp] theorem uws_ren (g : Nat → Nat) (l : List Nat) : renL g (uws l) = uws l := by induction l with | nil => rfl | cons a l ih => simp [ih]
@[simp] theorem uws_clo (l : List Nat) : cloL (uws l) = true := by induction l with | nil => rfl | cons a l ih => simp [ih]
@[simp] theorem uws_fr (id : Nat) (cs : List AV) (l : List Nat) : frL id cs (uws l) = uws l := by induction l with | nil => rfl | cons a l ih => simp [ih]
@[simp] theorem uws_flat (l : List Nat) : flatL (uws l) = true := by induction l with | nil => rfl | cons a l ih => simp [ih]
@[simp] theorem splice_uws (M : List Nat) (i : Nat) (b : Nat) (h : i < M.length) : splice (uws M) i [vU b] = uws (M.set i b) := by rw [splice_one _ _ _ (by simpa using h), uws_set]
theorem uws_rep (n : Nat) : (List.replicate n (AV.v (.int .u32 0))) = uws (List.replicate n 0) := by simp [uws]

@[simp] theorem bin_eff (P : Program) (ρ : Operand → AV) (op : BinOp) (t : TypeId) (x y : Operand) : SOp.eff P ρ (.bin op t x y) = effPlain2 P (fun u v => do eqGuard op t x y u v; binOp op t u v) (ρ x) (ρ y) := rfl
theorem wrap32 {n : Nat} (h : n < 4294967296) : IntKind.u32.wrap (n : Int) = n := by
  have : IntKind.u32.bits = 32 := rfl
  have h2 : IntKind.u32.signed = false := rfl
  simp only [IntKind.wrap, this, h2, Bool.false_and, Bool.false_eq_true, if_false]
  omega
theorem or32 (x y : Operand) {a b : Nat} (ha : a < 65536) (hb : b < 65536) : effPlain2 Tryd.prog (fun u v => do eqGuard .or 65 x y u v; binOp .or 65 u v) (vU a) (vU b) = ret (vU (a ||| b)) := by
  have e1 : a % 2 ^ IntKind.u32.bits = a := Nat.mod_eq_of_lt (by show a < 4294967296; omega)
  have e2 : b % 2 ^ IntKind.u32.bits = b := Nat.mod_eq_of_lt (by show b < 4294967296; omega)
  have h2 : a ||| b < 65536 := Nat.or_lt_two_pow (n := 16) ha hb
  simp [vU, effPlain2, AV.val, eqGuard, binOp, Op.intBits, pureRun, e1, e2, wrap32 (show a ||| b < 4294967296 by omega), ofVal, Value.oneCell', ret]
theorem and32 (x y : Operand) {a : Nat} (ha : a < 65536) : effPlain2 Tryd.prog (fun u v => do eqGuard .and 65 x y u v; binOp .and 65 u v) (vU a) (.v (.int .u32 1)) = ret (vU (a % 2)) := by
  have e1 : a % 2 ^ IntKind.u32.bits = a := Nat.mod_eq_of_lt (by show a < 4294967296; omega)
  have e2 : 1 % 2 ^ IntKind.u32.bits = 1 := by decide
  have h2 : a % 2 < 4294967296 := by omega
  have e3 : IntKind.u32.wrap ((a : Int) % 2) = (a : Int) % 2 := by
    have := wrap32 h2
    simpa using this
  simp [vU, effPlain2, AV.val, eqGuard, binOp, Op.intBits, pureRun, e1, e2, e3, Nat.and_one_is_mod, ofVal, Value.oneCell', ret]
theorem shr32 (x y : Operand) {a p : Nat} (ha : a < 65536) (hp : p < 16) : effPlain2 Tryd.prog (fun u v => do eqGuard .shr 65 x y u v; binOp .shr 65 u v) (vU a) (vI p) = ret (vU (a / 2 ^ p)) := by
  have h0 : ¬ (p : Int) < 0 := by omega
  have h1 : min p 32 = p := by omega
  have h2 : (a : Int).fdiv (2 ^ p) = (a : Int) / 2 ^ p := by
    have e : (2 ^ p : Int) = ((2 ^ p : Nat) : Int) := by simp
    have e2 : (0 : Int) ≤ ((2 ^ p : Nat) : Int) := Int.natCast_nonneg _
    rw [e, Int.fdiv_eq_ediv_of_nonneg _ e2]
  simp [vU, effPlain2, AV.val, eqGuard, binOp, Op.shift, pureRun, h0, IntKind.bits, h1, h2, ofVal, Value.oneCell', ret]
theorem shl32 (x y : Operand) {p : Nat} (hp : p < 16) : effPlain2 Tryd.prog (fun u v => do eqGuard .shl 65 x y u v; binOp .shl 65 u v) (.v (.int .u32 1)) (vI p) = ret (vU (2 ^ p)) := by
  have h0 : ¬ (p : Int) < 0 := by omega
  have h1 : min p 32 = p := by omega
  have h3 : 2 ^ p < 2 ^ 16 := Nat.pow_lt_pow_right (by omega) hp
  have h4 : IntKind.u32.wrap (2 ^ p) = 2 ^ p := by
    have := wrap32 (n := 2 ^ p) (by omega)
    simpa using this
  simp [vU, effPlain2, AV.val, eqGuard, binOp, Op.shift, pureRun, h0, IntKind.bits, h1, h4, ofVal, Value.oneCell', ret]
/-- A bit of a number, as the program looks at it. -/
theorem bit_at (a q : Nat) : (a / 2 ^ q % 2 = 1) ↔ a.testBit q = true := by
  rw [Nat.testBit_eq_decide_div_mod_eq, decide_eq_true_eq]
end Go.Sx.Ch
set_option maxRecDepth 4000
namespace Go.Sx.Ch
open Go Go.Sx Go.Proofs

/-- The point of an end, and how many points. -/
def atC (C : List Int) (e : Int) : Int := C.getD (17 + e.toNat) 0
def ptsC (C : List Int) : Int := C.getD 33 0
theorem tabI_at_ne {l C : List Int} {m : Nat} {k : Nat} (hl : in16 l = true) (hk : k < l.length) (hm : m < 16) (hne : l[k]? ≠ some (m : Int)) : (tabI l C k).getD (17 + m) 0 = C.getD (17 + m) 0 := by
  obtain ⟨q, hq, h1, h2⟩ := in16_get hl hk
  simp only [tabI, h2, Int.toNat_natCast]
  have hqm : q ≠ m := fun e => hne (by rw [h1, e])
  rw [getD_set_ne (by omega), getD_set_ne (by omega)]
theorem tabE_at_skip {l C : List Int} {m : Nat} (hl : in16 l = true) (hm : m < 16) (hnot : (m : Int) ∉ l) : ∀ j, j ≤ l.length → ((List.range j).foldl (tabI l) C).getD (17 + m) 0 = C.getD (17 + m) 0
  | 0, _ => rfl
  | j + 1, hj => by
    rw [List.range_succ, List.foldl_append]
    simp only [List.foldl_cons, List.foldl_nil]
    rw [tabI_at_ne hl (by omega) hm (fun e => hnot (List.mem_of_getElem? e))]
    exact tabE_at_skip hl hm hnot j (by omega)
theorem tabE_at {l C : List Int} {m k : Nat} (hl : in16 l = true) (hnd : l.Nodup) (hC : C.length = 34) (hm : m < 16) (hk : k < l.length) (hkm : l[k]? = some (m : Int)) :
    ∀ j, j ≤ l.length → k < j → ((List.range j).foldl (tabI l) C).getD (17 + m) 0 = C.getD 33 0
  | 0, _, h => by omega
  | j + 1, hj, hkj => by
    rw [List.range_succ, List.foldl_append]
    simp only [List.foldl_cons, List.foldl_nil]
    by_cases e : j = k
    · subst e
      have hg : l.getD j 0 = (m : Int) := by rw [List.getD_eq_getElem?_getD, hkm]; rfl
      simp only [tabI, hg, Int.toNat_natCast]
      rw [getD_set_eq (by rw [List.length_set, tabE_len]; omega)]
      exact (tabE_keep hl (List.range j) C fun k hk => by have := List.mem_range.1 hk; omega).2
    · rw [tabI_at_ne hl (by omega) hm (fun h => e ?_)]
      · exact tabE_at hl hnd hC hm hk hkm j (by omega) (by omega)
      · exact nd_inj hnd h hkm
theorem tabL_at_skip {l C : List Int} {m : Nat} (hl : in16 l = true) (hm : m < 16) (hnot : (m : Int) ∉ l) : (tabL C l).getD (17 + m) 0 = C.getD (17 + m) 0 := by
  unfold tabL
  split
  · rfl
  · rw [getD_set_ne (by omega), getD_set_ne (by omega)]
    exact tabE_at_skip hl hm hnot _ (Nat.le_refl _)
theorem tabL_at {l C : List Int} {m k : Nat} (hl : in16 l = true) (hnd : l.Nodup) (hC : C.length = 34) (hm : m < 16) (hk : k < l.length) (hkm : l[k]? = some (m : Int)) : (tabL C l).getD (17 + m) 0 = C.getD 33 0 := by
  unfold tabL
  rw [if_neg (by omega), getD_set_ne (by omega), getD_set_ne (by omega)]
  exact tabE_at hl hnd hC hm hk hkm _ (Nat.le_refl _) hk
theorem tabs_at_skip {m : Nat} (hm : m < 16) : ∀ {B : List (List Int)} {C : List Int}, B.all in16 = true → (m : Int) ∉ B.flatten → (B.foldl tabL C).getD (17 + m) 0 = C.getD (17 + m) 0
  | [], C, _, _ => rfl
  | l :: B, C, h, hn => by
    simp only [List.all_cons, Bool.and_eq_true] at h
    rw [List.flatten_cons, List.mem_append, not_or] at hn
    simp only [List.foldl_cons]
    rw [tabs_at_skip hm h.2 hn.2, tabL_at_skip h.1 hm hn.1]
/-- As many points as lists that hold something. -/
theorem tabs_pts : ∀ {B : List (List Int)} {C : List Int}, B.all in16 = true → C.length = 34 → (∀ l ∈ B, l.length ≠ 0) → (B.foldl tabL C).getD 33 0 = C.getD 33 0 + B.length
  | [], C, _, _, _ => by simp
  | l :: B, C, h, hC, h0 => by
    simp only [List.all_cons, Bool.and_eq_true] at h
    simp only [List.foldl_cons]
    obtain ⟨h1, -, h3⟩ := tabL_facts (C := C) h.1 hC
    rw [tabs_pts h.2 h1 (fun l hl => h0 l (List.mem_cons_of_mem _ hl)), h3, if_neg (h0 l List.mem_cons_self), List.length_cons]
    omega
theorem pts_eq {L : List (List Int)} (h : L.all in16 = true) (h0 : ∀ l ∈ L, l.length ≠ 0) : ptsC (tabF L) = L.length := by
  unfold ptsC tabF
  rw [tabs_pts h rfl h0]
  have : Z34.getD 33 0 = 0 := by decide
  omega
theorem ptR_app {x : Int} {l : List Int} {B : List (List Int)} (hl : 0 ≤ idxL l x) : ∀ {A : List (List Int)} {i : Int}, (∀ a ∈ A, ¬ 0 ≤ idxL a x) → ptR x (A ++ l :: B) i = i + A.length
  | [], i, _ => by simp [ptR, hl]
  | a :: A, i, h => by
    simp only [List.cons_append, ptR]
    rw [if_neg (h a List.mem_cons_self), ptR_app hl (fun a ha => h a (List.mem_cons_of_mem _ ha)), List.length_cons]
    omega
/-- The table tells the point of an end as looking does. -/
theorem Cov.at {L : List (List Int)} {n : Nat} (h : Cov L n) (h0 : ∀ l ∈ L, l.length ≠ 0) {k m : Nat} {l : List Int} (hk : L[k]? = some l) (hm : (m : Int) ∈ l) : atC (tabF L) m = k ∧ Go.Sx.Ch.ptL L m = k := by
  obtain ⟨hkl, hkk⟩ := List.getElem?_eq_some_iff.1 hk
  have hs : L = L.take k ++ l :: L.drop (k + 1) := by
    rw [← hkk, ← List.drop_eq_getElem_cons hkl, List.take_append_drop]
  obtain ⟨j, hj, hjm⟩ := List.getElem_of_mem hm
  have h16 := h.h16
  have hnd := h.nd
  have hin := h.rng m (List.mem_flatten.2 ⟨l, List.mem_of_getElem? hk, hm⟩)
  have hlt : m < 16 := by have := h.le; omega
  generalize hA : L.take k = A at hs
  generalize L.drop (k + 1) = B at hs
  have hAl : A.length = k := by rw [← hA, List.length_take]; omega
  subst hs
  have hA16 : A.all in16 = true := List.all_eq_true.2 fun x hx => List.all_eq_true.1 h16 x (by simp [hx])
  have hB16 : B.all in16 = true := List.all_eq_true.2 fun x hx => List.all_eq_true.1 h16 x (by simp [hx])
  have hl16 : in16 l = true := List.all_eq_true.1 h16 l (by simp)
  rw [List.flatten_append, List.flatten_cons] at hnd
  obtain ⟨-, h2, hAn⟩ := List.nodup_append.1 hnd
  obtain ⟨h3, -, h5⟩ := List.nodup_append.1 h2
  refine ⟨?_, ?_⟩
  · have e : tabF (A ++ l :: B) = B.foldl tabL (tabL (tabF A) l) := by simp [tabF, List.foldl_append]
    unfold atC
    rw [e, Int.toNat_natCast, tabs_at_skip hlt hB16 (fun h => h5 _ hm _ h rfl), tabL_at hl16 h3 (tabF_facts hA16).1 hlt hj (by rw [List.getElem?_eq_getElem hj, hjm])]
    have := pts_eq hA16 (fun l hl => h0 l (by simp [hl]))
    unfold ptsC at this
    rw [this, hAl]
  · unfold Go.Sx.Ch.ptL
    rw [ptR_app (idxL_mem.2 hm) (fun a ha hx => hAn _ (List.mem_flatten.2 ⟨a, ha, idxL_mem.1 hx⟩) _ (List.mem_append_left _ hm) rfl), hAl]
    omega
theorem Cov.pnt {L : List (List Int)} {n : Nat} (h : Cov L n) (h0 : ∀ l ∈ L, l.length ≠ 0) {m : Nat} (hm : m < n) : ∃ k l, L[k]? = some l ∧ (m : Int) ∈ l ∧ atC (tabF L) m = ((k : Nat) : Int) ∧ Go.Sx.Ch.ptL L m = k := by
  obtain ⟨l, i, hl, hi, him⟩ := h.place hm
  obtain ⟨k, hk, hkl⟩ := List.getElem_of_mem hl
  have hkk : L[k]? = some l := by rw [List.getElem?_eq_getElem hk, hkl]
  have hmem := List.mem_of_getElem? him
  exact ⟨k, l, hkk, hmem, h.at h0 hkk hmem⟩
theorem chk_ne {L : List (List Int)} (h : chk L = 0) : ∀ l ∈ L, l.length ≠ 0 := fun l hl => (scanM_in (chk_zero h).2.1 l hl).1

/-! ### Which points a line joins -/
/-- .. as the document looks for it. -/
def joinR (L : List (List Int)) (p q : Int) : Bool := (L.getD p.toNat []).any fun e => decide (ptL L (otherI e) = q)
def nrI (C : List Int) (N : List Nat) (e : Nat) : List Nat := N.set (atC C e).toNat (N.getD (atC C e).toNat 0 ||| 2 ^ (atC C (othI e)).toNat)
def nearN (C : List Int) (n : Nat) : List Nat := (List.range n).foldl (nrI C) (List.replicate (ptsC C).toNat 0)
theorem nearN_succ (C : List Int) (n : Nat) : nearN C (n + 1) = nrI C (nearN C n) n := by simp [nearN, List.range_succ, List.foldl_append]
theorem nearN_len (C : List Int) (n : Nat) : (nearN C n).length = (ptsC C).toNat := by
  induction n with
  | zero => simp [nearN]
  | succ n ih => rw [nearN_succ]; simp [nrI, ih]
theorem nearN_lt {C : List Int} : ∀ (n : Nat), (∀ e : Nat, e < n → (atC C (othI e)).toNat < 16) → ∀ i, (nearN C n).getD i 0 < 65536
  | 0, _, i => by
    have : (nearN C 0).getD i 0 = 0 := by simp [nearN, List.getD_eq_getElem?_getD, List.getElem?_replicate]; split <;> rfl
    omega
  | n + 1, h, i => by
    have ih := nearN_lt n (fun e he => h e (by omega))
    rw [nearN_succ]
    unfold nrI
    by_cases e : (atC C n).toNat = i ∧ i < (nearN C n).length
    · rw [e.1, List.getD_eq_getElem?_getD, List.getElem?_set_self e.2]
      have h2 : 2 ^ (atC C (othI n)).toNat < 2 ^ 16 := Nat.pow_lt_pow_right (by omega) (h n (by omega))
      exact Nat.or_lt_two_pow (n := 16) (ih i) h2
    · have : ((nearN C n).set (atC C n).toNat ((nearN C n).getD (atC C n).toNat 0 ||| 2 ^ (atC C (othI n)).toNat)).getD i 0 = (nearN C n).getD i 0 := by
        simp only [List.getD_eq_getElem?_getD, List.getElem?_set]
        split
        · rename_i e1
          split
          · rename_i e2; exact absurd ⟨e1, by rw [← e1]; exact e2⟩ e
          · rename_i e2; rw [List.getElem?_eq_none (by omega)]
        · rfl
      rw [this]; exact ih i
def nearF (C : List Int) : List Nat := nearN C (endsC C).toNat
theorem nearN_bit {C : List Int} {p q : Nat} (hp : p < (ptsC C).toNat) : ∀ (n : Nat), (∀ e : Nat, e < n → 0 ≤ atC C e ∧ 0 ≤ atC C (othI e)) →
    (((nearN C n).getD p 0).testBit q = true ↔ ∃ e : Nat, e < n ∧ atC C e = p ∧ atC C (othI e) = q)
  | 0, _ => by
    have : (nearN C 0).getD p 0 = 0 := by simp [nearN, List.getD_eq_getElem?_getD, List.getElem?_replicate, hp]
    rw [this]; simp
  | n + 1, h => by
    have ih := nearN_bit (q := q) hp n (fun e he => h e (by omega))
    obtain ⟨ha, hb⟩ := h n (by omega)
    rw [nearN_succ]
    unfold nrI
    have hlen := nearN_len C n
    by_cases e : (atC C n).toNat = p
    · rw [e, List.getD_eq_getElem?_getD, List.getElem?_set_self (by omega), Option.getD_some, Nat.testBit_or, Bool.or_eq_true, ih, Nat.testBit_two_pow, decide_eq_true_eq]
      constructor
      · rintro (⟨m, h1, h2, h3⟩ | h1)
        · exact ⟨m, by omega, h2, h3⟩
        · exact ⟨n, by omega, by omega, by omega⟩
      · rintro ⟨m, h1, h2, h3⟩
        by_cases em : m = n
        · subst em; right; omega
        · exact .inl ⟨m, by omega, h2, h3⟩
    · rw [List.getD_eq_getElem?_getD, List.getElem?_set_ne e, ← List.getD_eq_getElem?_getD, ih]
      constructor
      · rintro ⟨m, h1, h2, h3⟩; exact ⟨m, by omega, h2, h3⟩
      · rintro ⟨m, h1, h2, h3⟩
        by_cases em : m = n
        · subst em; omega
        · exact ⟨m, by omega, h2, h3⟩
/-- The bits tell what the document's looking tells. -/
theorem near_join {L : List (List Int)} (hc : chk L = 0) {p : Nat} (q : Nat) (hp : p < L.length) : ((nearF (tabF L)).getD p 0).testBit q = joinR L p q := by
  have hcv := chk_cov hc
  have h0 := chk_ne hc
  obtain ⟨h1, -, h3⟩ := chk_zero hc
  have hpts : ptsC (tabF L) = L.length := pts_eq hcv.h16 h0
  have hends : (endsC (tabF L)).toNat = total L := by
    have := (tabF_facts hcv.h16).2.1
    unfold endsC; omega
  have hat : ∀ m : Nat, m < total L → ∃ k : Nat, k < L.length ∧ atC (tabF L) m = k ∧ ptL L m = k := fun m hm => by
    obtain ⟨k, l, e1, e2, e3, e4⟩ := hcv.pnt h0 hm
    exact ⟨k, (List.getElem?_eq_some_iff.1 e1).1, e3, e4⟩
  have hoth : ∀ m : Nat, m < total L → othI m = (onat m : Int) ∧ otherI m = (onat m : Int) ∧ onat m < total L := fun m hm => ⟨oth_onat m (by omega), other_onat m, onat_lt (by omega) hm⟩
  apply Bool.eq_iff_iff.2
  unfold nearF
  rw [hends, nearN_bit (by omega) _ (fun e he => by
    obtain ⟨k, -, e1, -⟩ := hat e he
    obtain ⟨g1, -, g3⟩ := hoth e he
    obtain ⟨k', -, e2, -⟩ := hat (onat e) g3
    rw [g1, e1, e2]; omega)]
  unfold joinR
  rw [List.any_eq_true, Int.toNat_natCast]
  constructor
  · rintro ⟨m, hm, m1, m2⟩
    obtain ⟨k, l, e1, e2, e3, e4⟩ := hcv.pnt h0 hm
    obtain ⟨g1, g2, g3⟩ := hoth m hm
    have hkp : k = p := by omega
    subst hkp
    refine ⟨(m : Int), by rw [List.getD_eq_getElem?_getD, e1]; exact e2, ?_⟩
    obtain ⟨k', -, e5, e6⟩ := hat (onat m) g3
    rw [g1, e5] at m2
    rw [decide_eq_true_eq, g2, e6]; exact m2
  · rintro ⟨e, he, hq⟩
    rw [decide_eq_true_eq] at hq
    have hpl : L[p]? = some (L.getD p []) := by rw [List.getD_eq_getElem?_getD, List.getElem?_eq_getElem hp]; rfl
    have hin := hcv.rng e (List.mem_flatten.2 ⟨_, List.mem_of_getElem? hpl, he⟩)
    obtain ⟨m, rfl⟩ := Int.eq_ofNat_of_zero_le hin.1
    have hm : m < total L := by omega
    obtain ⟨g1, g2, g3⟩ := hoth m hm
    obtain ⟨k', -, e5, e6⟩ := hat (onat m) g3
    exact ⟨m, hm, (hcv.at h0 hpl he).1, by rw [g1, e5]; rw [g2, e6] at hq; exact hq⟩
end Go.Sx.Ch
