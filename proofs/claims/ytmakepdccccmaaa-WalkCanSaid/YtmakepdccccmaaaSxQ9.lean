/- What functions of the walk layer return: the shore, and one tide. No conditions. -/
import Derived.Test.YtmakepdccccmaaaSxQ8
set_option linter.unusedVariables false
set_option linter.unusedSimpArgs false
set_option maxRecDepth 4000
namespace Go.Sx
@[simp] theorem range1 : List.range 1 = [0] := rfl
@[simp] theorem range2 : List.range 2 = [0, 1] := rfl
@[simp] theorem range3 : List.range 3 = [0, 1, 2] := rfl
@[simp] theorem range4 : List.range 4 = [0, 1, 2, 3] := rfl
@[simp] theorem range5 : List.range 5 = [0, 1, 2, 3, 4] := rfl
@[simp] theorem splice4 (a b c d : AV) (m : List Int) (h : m.length = 4) : splice [a, b, c, d] 0 (ints m) = ints m := by simp [splice, h]
@[simp] theorem splice4' (a b c d e f g h : AV) : splice [a, b, c, d] 0 [e, f, g, h] = [e, f, g, h] := by simp [splice]
@[simp] theorem exec_mk {rs ws : List Nat} {k : List Blk → Nat → Option Res} {h : Heap} {id : Nat} : (Eff.mk rs ws k).exec h id = match getAll h rs with
  | none => none
  | some bs => match k bs id with
    | none => none
    | some r => match r.nb with
      | none => some (r.v, setAll h ws r.outs)
      | some b => some (r.v, upd (setAll h ws r.outs) id (some b)) := rfl
attribute [simp] evCall reach idsB idsL ids inA inL inM inB allHp enumH gl renB effSlcA
@[simp] theorem ints_ids (l : List Int) : idsL (ints l) = [] := by
  induction l with
  | nil => rfl
  | cons a l ih => show idsL (.v (.int .i64 a) :: ints l) = []; simp [idsL, ids, ih]
@[simp] theorem ints_in (p : Nat → Bool) (l : List Int) : inL p (ints l) = true := by induction l with | nil => rfl | cons a l ih => simp [ih]
/-- The key of a row of numbers, and maps that have such keys. -/
def kS (s : List Int) : Value := .agg (s.map (Value.int .i64)).toArray
def mM {β : Type} (c : β → AV) (m : List (List Int × β)) : List (Value × AV) := m.map fun p => (kS p.1, c p.2)
@[simp] theorem mM_len {β : Type} (c : β → AV) (m : List (List Int × β)) : (mM c m).length = m.length := by simp [mM]
theorem mM_ids {β : Type} (c : β → AV) (hc : ∀ b, ids (c b) = []) (m : List (List Int × β)) : (mM c m).flatMap (fun p => ids p.2) = [] := by
  induction m with
  | nil => rfl
  | cons p m ih => simp only [mM, List.map_cons, List.flatMap_cons, hc, List.nil_append]; exact ih
theorem mM_ren {β : Type} (c : β → AV) (g : Nat → Nat) (hc : ∀ b, ren g (c b) = c b) (m : List (List Int × β)) : (mM c m).map (fun p => (p.1, ren g p.2)) = mM c m := by
  induction m with
  | nil => rfl
  | cons p m ih => simp only [mM, List.map_cons, hc]; congr 1
theorem mM_in {β : Type} (c : β → AV) (q : Nat → Bool) (hc : ∀ b, inA q (c b) = true) (m : List (List Int × β)) : inM q (mM c m) = true := by
  induction m with
  | nil => rfl
  | cons p m ih => simp only [mM, List.map_cons, inM, hc, Bool.true_and]; exact ih
theorem vals0_ints (l : List Int) : vals0 (ints l) = some (l.map (Value.int .i64)) := by
  induction l with
  | nil => rfl
  | cons a l ih => simp [vals0, AV.val0, ih]
@[simp] theorem val_ints (l : List Int) : (AV.agg (ints l)).val = some (kS l) := by simp [AV.val, vals0_ints, kS]
theorem allInt_ints (l : List Int) : allInt .i64 (l.map (Value.int .i64)) = true := by
  induction l with
  | nil => rfl
  | cons a l ih => simp [allInt, ih]
theorem kS_ok {l : List Int} (h : l.length = 4) : (KTy.ar 4 .i64).ok (kS l) = true := by simp [KTy.ok, kS, h, allInt_ints]
theorem keys_ok {β : Type} (c : β → AV) : ∀ {m : List (List Int × β)}, (∀ p ∈ m, p.1.length = 4) → keysOk (.ar 4 .i64) (mM c m) = true
  | [], _ => rfl
  | p :: m, h => by simp only [mM, List.map_cons, keysOk, kS_ok (h p (by simp)), Bool.true_and]; exact keys_ok c fun q hq => h q (by simp [hq])
theorem kEqL_ints : ∀ (a b : List Int), kEqL (a.map (Value.int .i64)) (b.map (Value.int .i64)) = decide (a = b)
  | [], [] => rfl
  | [], b :: s => by simp [kEqL]
  | a :: r, [] => by simp [kEqL]
  | a :: r, b :: s => by
    simp only [List.map_cons, kEqL, kEqL_ints r s]
    rw [Bool.eq_iff_iff]; simp
theorem kEq_kS (a b : List Int) : kEq (kS a) (kS b) = decide (a = b) := by simp [kS, kEq, kEqL_ints]
def findP {β : Type} (s : List Int) : List (List Int × β) → Nat → Option (Nat × β)
  | [], _ => none
  | p :: m, i => if s = p.1 then some (i, p.2) else findP s m (i + 1)
@[simp] theorem find_mM {β : Type} (c : β → AV) (s : List Int) : ∀ (m : List (List Int × β)) (i : Nat), findK (kS s) (mM c m) i = (findP s m i).map fun p => (p.1, c p.2)
  | [], _ => rfl
  | p :: m, i => by
    simp only [mM, List.map_cons, findK, findP, kEq_kS, decide_eq_true_eq]
    split
    · rfl
    · exact find_mM c s m (i + 1)
def putP {β : Type} (s : List Int) (b : β) (m : List (List Int × β)) : List (List Int × β) :=
  match findP s m 0 with
  | some (i, _) => m.set i (s, b)
  | none => m ++ [(s, b)]
theorem put_mM {β : Type} (c : β → AV) (s : List Int) (b : β) (m : List (List Int × β)) : putK (kS s) (c b) (mM c m) = mM c (putP s b m) := by
  unfold putK putP
  rw [find_mM]
  cases findP s m 0 with
  | none => simp [mM]
  | some p => simp [mM, List.map_set]
def mE (m : List (List Int × Bool)) : List (Value × AV) := mM (fun b => .v (.bool b)) m
def mI (m : List (List Int × Int)) : List (Value × AV) := mM (fun n => .v (.int .i64 n)) m
@[simp] theorem mE_len (m : List (List Int × Bool)) : (mE m).length = m.length := mM_len _ _
@[simp] theorem mI_len (m : List (List Int × Int)) : (mI m).length = m.length := mM_len _ _
@[simp] theorem mE_ids (m : List (List Int × Bool)) : (mE m).flatMap (fun p => ids p.2) = [] := mM_ids _ (fun _ => rfl) _
@[simp] theorem mI_ids (m : List (List Int × Int)) : (mI m).flatMap (fun p => ids p.2) = [] := mM_ids _ (fun _ => rfl) _
@[simp] theorem mE_ren (g : Nat → Nat) (m : List (List Int × Bool)) : (mE m).map (fun p => (p.1, ren g p.2)) = mE m := mM_ren _ g (fun _ => rfl) _
@[simp] theorem mI_ren (g : Nat → Nat) (m : List (List Int × Int)) : (mI m).map (fun p => (p.1, ren g p.2)) = mI m := mM_ren _ g (fun _ => rfl) _
@[simp] theorem mE_in (q : Nat → Bool) (m : List (List Int × Bool)) : inM q (mE m) = true := mM_in _ q (fun _ => rfl) _
@[simp] theorem mI_in (q : Nat → Bool) (m : List (List Int × Int)) : inM q (mI m) = true := mM_in _ q (fun _ => rfl) _
@[simp] theorem mE_find (s : List Int) (m : List (List Int × Bool)) (i : Nat) : findK (kS s) (mE m) i = (findP s m i).map fun p => (p.1, .v (.bool p.2)) := find_mM _ _ _ _
@[simp] theorem mI_find (s : List Int) (m : List (List Int × Int)) (i : Nat) : findK (kS s) (mI m) i = (findP s m i).map fun p => (p.1, .v (.int .i64 p.2)) := find_mM _ _ _ _
@[simp] theorem mE_put (s : List Int) (b : Bool) (m : List (List Int × Bool)) : putK (kS s) (.v (.bool b)) (mE m) = mE (putP s b m) := put_mM (fun b => .v (.bool b)) s b m
@[simp] theorem mI_put (s : List Int) (b : Int) (m : List (List Int × Int)) : putK (kS s) (.v (.int .i64 b)) (mI m) = mI (putP s b m) := put_mM (fun b => .v (.int .i64 b)) s b m
/-- The blocks of a shore. -/
def shp (t : List Int) (u : Bool) (b : List Int) (ev : List (List Int × Bool)) (sh : List (List Int × Int)) : HL :=
  [(0, .cells (.il (ints t) t.length u :: (ints b ++ [.map 1, .map 2]))), (1, .map (mE ev)), (2, .map (mI sh))]
end Go.Sx
namespace Go.Sx.Wk
open Go Go.Sx Go.Proofs

def stp (t : List Int) (x : Nat) (p : List Int) : Option (List Int) := (aftG x t (p.take t.length) 0).map (· ++ p.drop t.length)
def decT (i : Nat) (p : List Int) : List Int := (p.take i).map (· - 1) ++ p.drop i
theorem decT_len (i : Nat) (p : List Int) : (decT i p).length = p.length := by simp [decT]; omega
theorem decT_get {i : Nat} {p : List Int} (h : i < p.length) : (decT i p)[i]? = p[i]? := by
  unfold decT
  rw [List.getElem?_append_right (by simp; omega)]
  simp [show min i p.length = i by omega]
theorem decT_set {i : Nat} {p : List Int} {z : Int} (h : p[i]? = some z) : (decT i p).set i (z - 1) = decT (i + 1) p := by
  have hi : i < p.length := (List.getElem?_eq_some_iff.1 h).1
  unfold decT
  rw [List.set_append_right _ _ (by simp; omega)]
  simp only [List.length_map, List.length_take, show min i p.length = i by omega, Nat.sub_self]
  rw [List.drop_eq_getElem_cons hi, List.set_cons_zero, List.take_add_one, h]
  simp
theorem decT_zero (p : List Int) : decT 0 p = p := by simp [decT]

def avSt (o : Option (List Int)) : AV :=
  match o with
  | some q => .tup [.agg (ints q), vB true]
  | none => .tup [.agg (ints [0, 0, 0, 0]), vB false]
def stOk (t p : List Int) : Prop := p.length = 4 ∧ ∀ y ∈ p, 0 ≤ y ∧ y ≤ 8

theorem set_app_lt {α : Type} {a b : List α} {i : Nat} {x : α} (h : i < a.length) : (a ++ b).set i x = a.set i x ++ b := List.set_append_left _ _ h

theorem meet_runs {t p b : List Int} {u : Bool} {ev : List (List Int × Bool)} {sh : List (List Int × Int)} {x : Nat} (ht : t.length ≤ 4) (hp : stOk t p) (hb : b.length = 4) (hx : x < t.length) :
    Runs Try.prog 77 3 [.ptr 0 0, .agg (ints p), vI x] (hpF (shp t u b ev sh)) (avSt (stp t x p)) 3 (hpF (shp t u b ev sh)) := by
  obtain ⟨b0, b1, b2, b3, rfl⟩ : ∃ b0 b1 b2 b3, b = [b0, b1, b2, b3] := by
    match b, hb with
    | [b0, b1, b2, b3], _ => exact ⟨_, _, _, _, rfl⟩
  obtain ⟨hp4, hp8⟩ := hp
  refine P77.rz (ss := []) trivial (by simp) fun Q hQ => ?_
  delta p77 p77_r0 p77_r1
  simp [shp]
  obtain ⟨tx, htx⟩ : ∃ tx, t[x]? = some tx := ⟨t[x], by simp [hx]⟩
  have htx' : t[x] = tx := (List.getElem?_eq_some_iff.1 htx).2
  let H : List Int → HL := fun m => [(0, .cells [.il (ints t) t.length u, vI b0, vI b1, vI b2, vI b3, .map 1, .map 2]), (1, .map (mE ev)), (2, .map (mI sh)), (3, .cells (ints m)), (4, .cells (ints [0, 0, 0, 0]))]
  refine XZ_for (fun i : Nat => ⟨[(0, .ptr 0 0), (2, vI x), (4, .ptr 3 0), (6, .ptr 4 0), (13, vI t.length), (14, vI i)], H (decT i p), 5⟩) (fun i => t.length - i)
    (fun i => i ≤ t.length ∧ (aftG x (t.drop i) ((p.take t.length).drop i) i).map (((p.take i).map (· - 1)).set x tx ++ ·) = aftG x t (p.take t.length) 0) 0 (by simp) (.tot [4, 6] (by simp [H, decT_zero])) ?_
  rintro i ⟨hi, hb2⟩ N Q' hN hE
  have hml := decT_len i p
  rcases Nat.lt_or_ge i t.length with h | h
  · obtain ⟨y, r, e1, e2, e3, e4, e5⟩ := drop_split h
    have hpl : (p.take t.length).length = t.length := by simp; omega
    obtain ⟨z, q, f1, f2, f3, f4, f5⟩ := drop_split (show i < (p.take t.length).length by omega)
    have hip : i < p.length := by omega
    have hz : p[i]? = some z := by rw [List.getElem?_take] at f2; rwa [if_pos h] at f2
    have hz8 := hp8 z (List.mem_of_getElem? hz)
    have g1 := decT_get hip
    rw [hz] at g1
    have g1' : (decT i p)[i]'(by omega) = z := (List.getElem?_eq_some_iff.1 g1).2
    have g2 := decT_set hz
    have g3 : (decT (i + 1) p)[i]? = some (z - 1) := by rw [← g2]; simp [hml, hip]
    have g4 : (decT (i + 1) p).length = p.length := decT_len _ _
    have g3' : (decT (i + 1) p)[i]'(by omega) = z - 1 := (List.getElem?_eq_some_iff.1 g3).2
    rw [e1, f1] at hb2
    simp only [aftG] at hb2
    have tk : (p.take (i + 1)).map (· - 1) = (p.take i).map (· - 1) ++ [z - 1] := by rw [List.take_add_one, hz]; simp
    have tl : ((p.take i).map (· - 1)).length = i := by simp; omega
    by_cases hix : i = x
    · subst hix
      rw [if_pos rfl, map_app] at hb2
      delta p77_l0 p77_r2 p77_r3 p77_r4 p77_r5 p77_r6 p77_r7
      simp (disch := omega) [oLt, oLe, oLtN, oLeN, nLt, nLe, nLtN, nLeN, H, hml, hp4, g1, g1', g2, g3, g3', g4]
      refine hN _ (i + 1) (by omega) ⟨h, ?_⟩ (.tot [4, 6] (by simp [H]))
      rw [e4, f4, tk]
      have : tx = y := by rw [htx] at e2; simpa using e2
      subst this
      rw [List.set_append_right _ _ (by omega), tl, Nat.sub_self, List.set_cons_zero]
      rw [List.set_eq_of_length_le (by omega)] at hb2
      simpa using hb2
    · have hixI : ¬ (i : Int) = x := by omega
      rw [if_neg hixI] at hb2
      by_cases hz1 : z = 1
      · rw [if_pos hz1] at hb2
        simp only [Option.map_none] at hb2
        subst hz1
        simp only [Int.sub_self] at g2 g3 g3'
        delta p77_l0 p77_r2 p77_r3 p77_r4 p77_r5 p77_r6 p77_r7
        simp (disch := omega) [oLt, oLe, oLtN, oLeN, nLt, nLe, nLtN, nLeN, H, hml, hp4, g1, g1', g2, g3, g3', g4, hixI]
        refine hE _ _ _ .refl (hQ _ _ (.same (.inl rfl) ?_ ?_ rfl rfl ?_))
        · simp [stp, ← hb2, avSt]
        · simp [stp, ← hb2, avSt]
        · simp [shp]
      · rw [if_neg hz1, map_app] at hb2
        have hz0 : ¬ z - 1 = 0 := by omega
        delta p77_l0 p77_r2 p77_r3 p77_r4 p77_r5 p77_r6 p77_r7
        simp (disch := omega) [oLt, oLe, oLtN, oLeN, nLt, nLe, nLtN, nLeN, H, hml, hp4, g1, g1', g2, g3, g3', g4, hixI, hz0]
        refine hN _ (i + 1) (by omega) ⟨h, ?_⟩ (.tot [4, 6] (by simp [H]))
        rw [e4, f4, tk]
        have : ((p.take i).map (· - 1) ++ [z - 1]).set x tx = ((p.take i).map (· - 1)).set x tx ++ [z - 1] := by
          rcases Nat.lt_or_ge x i with hlt | hge
          · rw [set_app_lt (by omega)]
          · rw [List.set_eq_of_length_le (by simp; omega), List.set_eq_of_length_le (by omega)]
        rw [this]
        exact hb2
  · have : i = t.length := by omega
    subst this
    rw [List.drop_eq_nil_of_le (Nat.le_refl _)] at hb2
    simp only [aftG, Option.map_some, List.append_nil] at hb2
    have hst : stp t x p = some ((decT t.length p).set x tx) := by
      unfold stp
      rw [← hb2]
      simp only [Option.map_some, decT]
      rw [set_app_lt (by simp; omega)]
    delta p77_l0 p77_r2 p77_r3 p77_r4 p77_r5 p77_r6 p77_r7
    simp (disch := omega) [oLt, oLe, oLtN, oLeN, nLt, nLe, nLtN, nLeN, H]
    refine hE _ _ _ .refl ?_
    delta p77_r8 p77_r9
    have hs4 : ((decT t.length p).set x tx).length = 4 := by simp [hml, hp4]
    have hs5 : ((decT t.length p).set x tx).take 4 = (decT t.length p).set x tx := List.take_of_length_le (by omega)
    simp (disch := omega) [oLt, oLe, oLtN, oLeN, nLt, nLe, nLtN, nLeN, H, hml, hp4, htx, htx', hs4, hs5]
    refine hQ _ _ (.same (.inl rfl) ?_ ?_ rfl rfl ?_)
    · rw [hst]; simp [avSt, hs4, hs5]
    · rw [hst]; simp [avSt]
    · simp [shp]
end Go.Sx.Wk
