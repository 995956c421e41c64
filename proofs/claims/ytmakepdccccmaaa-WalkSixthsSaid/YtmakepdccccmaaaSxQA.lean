/- What functions of the walk layer return: the search. No conditions. -/
import Derived.Test.YtmakepdccccmaaaSxJQ7toQ9
set_option linter.unusedVariables false
set_option linter.unusedSimpArgs false
set_option maxRecDepth 4000
namespace Go.Sx
def unV : List Value → Option (List Int)
  | [] => some []
  | .int .i64 n :: r => match unV r with
    | some l => some (n :: l)
    | none => none
  | _ => none
def unK : Value → Option (List Int)
  | .agg a => unV a.toList
  | _ => none
theorem unV_ints (l : List Int) : unV (l.map (Value.int .i64)) = some l := by induction l with | nil => rfl | cons a l ih => simp [unV, ih]
theorem unV_inv : ∀ {c : List Value} {l : List Int}, unV c = some l → c = l.map (Value.int .i64)
  | [], l, h => by simp [unV] at h; subst h; rfl
  | x :: c, l, h => by
    unfold unV at h
    split at h
    · rename_i h0; cases h0
    · rename_i n r e
      cases e
      split at h
      · rename_i m hm
        cases h
        rw [unV_inv hm]; rfl
      · cases h
    · cases h
theorem unK_kS (l : List Int) : unK (kS l) = some l := by simp [unK, kS, unV_ints]
theorem unK_inv {v : Value} {l : List Int} (h : unK v = some l) : v = kS l := by
  unfold unK at h
  split at h
  · rename_i a
    have := unV_inv h
    unfold kS; rw [← this]
  · cases h
def unmE : List (Value × AV) → Option (List (List Int × Bool))
  | [] => some []
  | (k, .v (.bool b)) :: r => match unK k with
    | some s => match unmE r with
      | some m => some ((s, b) :: m)
      | none => none
    | none => none
  | _ => none
def unmI : List (Value × AV) → Option (List (List Int × Int))
  | [] => some []
  | (k, .v (.int .i64 b)) :: r => match unK k with
    | some s => match unmI r with
      | some m => some ((s, b) :: m)
      | none => none
    | none => none
  | _ => none
@[simp] theorem unmE_mE : ∀ m, unmE (mE m) = some m
  | [] => rfl
  | p :: m => by
    have := unmE_mE m
    unfold mE mM at this ⊢
    simp [unmE, unK_kS, this]
@[simp] theorem unmI_mI : ∀ m, unmI (mI m) = some m
  | [] => rfl
  | p :: m => by
    have := unmI_mI m
    unfold mI mM at this ⊢
    simp [unmI, unK_kS, this]
theorem unmE_inv : ∀ {e : List (Value × AV)} {m}, unmE e = some m → e = mE m
  | [], m, h => by simp [unmE] at h; subst h; rfl
  | p :: e, m, h => by
    unfold unmE at h
    split at h
    · rename_i h0; cases h0
    · rename_i k b r hp
      cases hp
      split at h
      · rename_i s hs
        split at h
        · rename_i m' hm
          cases h
          rw [unmE_inv hm, unK_inv hs]; rfl
        · cases h
      · cases h
    · cases h
theorem unmI_inv : ∀ {e : List (Value × AV)} {m}, unmI e = some m → e = mI m
  | [], m, h => by simp [unmI] at h; subst h; rfl
  | p :: e, m, h => by
    unfold unmI at h
    split at h
    · rename_i h0; cases h0
    · rename_i k b r hp
      cases hp
      split at h
      · rename_i s hs
        split at h
        · rename_i m' hm
          cases h
          rw [unmI_inv hm, unK_inv hs]; rfl
        · cases h
      · cases h
    · cases h

/-- A spec of a function that is handed a shore first. -/
def spS (g : FuncId) (F : List Int → List Int → List (List Int × Bool) → List (List Int × Int) → List AV → Option (AV × List (List Int × Bool) × List (List Int × Int))) : Sp := ⟨g, fun args h k => match args, h, k with
  | .ptr 0 0 :: rest, [(0, .cells [.il ct n u, .v (.int .i64 b0), .v (.int .i64 b1), .v (.int .i64 b2), .v (.int .i64 b3), .map 1, .map 2]), (1, .map e), (2, .map m)], 3 => match unints ct with
    | some t => match unmE e with
      | some ev => match unmI m with
        | some sh => if n = t.length then (match F t [b0, b1, b2, b3] ev sh rest with
          | some (r, ev', sh') => some (r, [(0, .cells [.il ct n u, .v (.int .i64 b0), .v (.int .i64 b1), .v (.int .i64 b2), .v (.int .i64 b3), .map 1, .map 2]), (1, .map (mE ev')), (2, .map (mI sh'))], 3)
          | none => none) else none
        | none => none
      | none => none
    | none => none
  | _, _, _ => none⟩
theorem spS_ok {P : Program} {g : FuncId} {F : List Int → List Int → List (List Int × Bool) → List (List Int × Int) → List AV → Option (AV × List (List Int × Bool) × List (List Int × Int))}
    (h : ∀ t u b0 b1 b2 b3 ev sh rest r ev' sh', F t [b0, b1, b2, b3] ev sh rest = some (r, ev', sh') → Runs P g 3 (.ptr 0 0 :: rest) (hpF (shp t u [b0, b1, b2, b3] ev sh)) r 3 (hpF (shp t u [b0, b1, b2, b3] ev' sh'))) : (spS g F).ok P := by
  intro args hl k r h' k' hh
  simp only [spS] at hh
  split at hh
  · rename_i rest ct n u b0 b1 b2 b3 e m
    split at hh
    · rename_i t ht
      split at hh
      · rename_i ev hev
        split at hh
        · rename_i sh hsh
          split at hh
          · rename_i hn
            split at hh
            · rename_i r ev' sh' hF
              cases hh
              have := h t u _ _ _ _ ev sh _ _ _ _ hF
              rw [unints_inv ht, hn, unmE_inv hev, unmI_inv hsh]
              simp only [hp_eq]
              exact this
            · cases hh
          · cases hh
        · cases hh
      · cases hh
    · cases hh
  · cases hh
end Go.Sx
namespace Go.Sx.Wk
open Go Go.Sx Go.Proofs

def stOkB (p : List Int) : Bool := decide (p.length = 4) && p.all (within 0 · 8)
theorem stOkB_ok {t p : List Int} (h : stOkB p = true) : stOk t p := by
  simp only [stOkB, Bool.and_eq_true, decide_eq_true_eq, List.all_eq_true, within_iff] at h
  exact h
def G77 (t b : List Int) (ev : List (List Int × Bool)) (sh : List (List Int × Int)) (rest : List AV) : Option (AV × List (List Int × Bool) × List (List Int × Int)) :=
  match rest with
  | [.agg c, .v (.int .i64 x)] => match unints c with
    | some p => if (decide (t.length ≤ 4) && stOkB p && decide (0 ≤ x) && decide (x < t.length)) = true then some (avSt (stp t x.toNat p), ev, sh) else none
    | none => none
  | _ => none
def s77 : Sp := spS 77 G77
@[simp] theorem s77_g : s77.g = 77 := rfl
@[simp] theorem s77_f : s77.f = (spS 77 G77).f := rfl
theorem s77_ok : s77.ok Try.prog := by
  apply spS_ok
  intro t u b0 b1 b2 b3 ev sh rest r ev' sh' hF
  unfold G77 at hF
  split at hF
  · split at hF
    · rename_i c x p hp
      split at hF
      · rename_i hg
        simp only [Bool.and_eq_true, decide_eq_true_eq] at hg
        obtain ⟨⟨⟨h4, hs⟩, h0⟩, hx⟩ := hg
        cases hF
        obtain ⟨x, rfl⟩ := Int.eq_ofNat_of_zero_le h0
        rw [unints_inv hp]
        exact meet_runs h4 (stOkB_ok (t := t) hs) rfl (by omega)
      · cases hF
    · cases hF
  · cases hF

def keys4 {β : Type} (m : List (List Int × β)) : Bool := m.all fun p => decide (p.1.length = 4)
theorem keys4_E {m : List (List Int × Bool)} (h : keys4 m = true) : keysOk (.ar 4 .i64) (mE m) = true := keys_ok _ fun p hp => by simpa using List.all_eq_true.1 h p hp
theorem keys4_I {m : List (List Int × Int)} (h : keys4 m = true) : keysOk (.ar 4 .i64) (mI m) = true := keys_ok _ fun p hp => by simpa using List.all_eq_true.1 h p hp
theorem findP_lt {β : Type} {s : List Int} : ∀ {m : List (List Int × β)} {j i : Nat} {b : β}, findP s m j = some (i, b) → j ≤ i ∧ i - j < m.length
  | [], j, i, b, h => by simp [findP] at h
  | p :: m, j, i, b, h => by
    simp only [findP] at h
    split at h
    · cases h; simp
    · have := findP_lt h; simp only [List.length_cons]; omega
theorem set_get {α : Type} {l : List α} {i : Nat} (h : i < l.length) (y : α) : (l.set i y)[i]? = some y := by simp [h]
theorem app_get {α : Type} {l : List α} {n : Nat} (h : l.length = n) (y : α) : (l ++ [y])[n]? = some y := by subst h; simp
theorem app_set {α : Type} {l : List α} {n : Nat} (h : l.length = n) (y z : α) : (l ++ [y]).set n z = l ++ [z] := by subst h; simp
theorem put_E_some {m : List (List Int × Bool)} {p : List Int} {i : Nat} {x b : Bool} (h : findP p m 0 = some (i, x)) : (mE m).set i (kS p, .v (.bool b)) = mE (putP p b m) := by simp [putP, h, mE, mM, List.map_set]
theorem put_E_none {m : List (List Int × Bool)} {p : List Int} {b : Bool} (h : findP p m 0 = none) : mE m ++ [(kS p, .v (.bool b))] = mE (putP p b m) := by simp [putP, h, mE, mM]
theorem put_I_some {m : List (List Int × Int)} {p : List Int} {i : Nat} {x b : Int} (h : findP p m 0 = some (i, x)) : (mI m).set i (kS p, .v (.int .i64 b)) = mI (putP p b m) := by simp [putP, h, mI, mM, List.map_set]
theorem put_I_none {m : List (List Int × Int)} {p : List Int} {b : Int} (h : findP p m 0 = none) : mI m ++ [(kS p, .v (.int .i64 b))] = mI (putP p b m) := by simp [putP, h, mI, mM]
theorem aft_len {s : Int} : ∀ {t x l : List Int} {i : Int}, aftG s t x i = some l → l.length = t.length
  | [], x, l, i, h => by simp [aftG] at h; subst h; rfl
  | t :: ts, [], l, i, h => by simp [aftG] at h
  | t :: ts, x :: xs, l, i, h => by
    simp only [aftG] at h
    split at h
    · obtain ⟨r, hr, rfl⟩ := Option.map_eq_some_iff.1 h
      simp [aft_len hr]
    · split at h
      · cases h
      · obtain ⟨r, hr, rfl⟩ := Option.map_eq_some_iff.1 h
        simp [aft_len hr]
theorem stp_len {t p q : List Int} {x : Nat} (h4 : t.length ≤ 4) (hp : p.length = 4) (h : stp t x p = some q) : q.length = 4 := by
  unfold stp at h
  obtain ⟨r, hr, rfl⟩ := Option.map_eq_some_iff.1 h
  simp [aft_len hr]; omega
abbrev GoR := Option (Bool × List (List Int × Bool) × List (List Int × Int))
def getS (s : List Int) (sh : List (List Int × Int)) : Int := match findP s sh 0 with
  | some (_, n) => n
  | none => 0
def goL (rec : List Int → List (List Int × Bool) → List (List Int × Int) → GoR) (t s : List Int) : Nat → Int → List (List Int × Bool) → List (List Int × Int) → GoR
  | 0, lg, ev, sh => if (keys4 ev && keys4 sh) = true then some (false, putP s false ev, putP s lg sh) else none
  | r + 1, lg, ev, sh => match stp t (t.length - (r + 1)) s with
    | none => goL rec t s r lg ev sh
    | some q => match rec q ev sh with
      | none => none
      | some (true, ev', sh') => some (true, ev', sh')
      | some (false, ev', sh') => if (keys4 sh' && within 0 (getS q sh') 1000000 && decide (q.length = 4)) = true then goL rec t s r (max lg (1 + getS q sh')) ev' sh' else none
def goF (t : List Int) : Nat → List Int → List (List Int × Bool) → List (List Int × Int) → GoR
  | 0, _, _, _ => none
  | f + 1, s, ev, sh => if (decide (t.length ≤ 4) && stOkB s && keys4 ev) = true then (match findP s ev 0 with
    | some (_, b) => some (b, ev, sh)
    | none => goL (goF t f) t s t.length 0 (putP s true ev) sh) else none
def G55 (f : Nat) (t b : List Int) (ev : List (List Int × Bool)) (sh : List (List Int × Int)) (rest : List AV) : Option (AV × List (List Int × Bool) × List (List Int × Int)) :=
  match rest with
  | [.agg c] => match unints c with
    | some p => match goF t f p ev sh with
      | some (b, ev', sh') => some (vB b, ev', sh')
      | none => none
    | none => none
  | _ => none
def s55n (f : Nat) : Sp := spS 55 (G55 f)
@[simp] theorem s55n_g (f : Nat) : (s55n f).g = 55 := rfl
@[simp] theorem s55n_f (f : Nat) : (s55n f).f = (spS 55 (G55 f)).f := rfl
attribute [simp] effBig spS effLook effMset effMent effMst look

set_option maxHeartbeats 4000000 in
theorem s55n_ok : ∀ f, (s55n f).ok Try.prog
  | 0 => by
    apply spS_ok
    intro t u b0 b1 b2 b3 ev sh rest r ev' sh' hF
    unfold G55 at hF
    split at hF
    · split at hF
      · simp [goF] at hF
      · cases hF
    · cases hF
  | f + 1 => by
    apply spS_ok
    intro t u b0 b1 b2 b3 ev sh rest r ev' sh' hF
    unfold G55 at hF
    split at hF
    · split at hF
      · rename_i c p hp
        split at hF
        · rename_i b ev1 sh1 hG
          cases hF
          rw [unints_inv hp]
          simp only [goF] at hG
          split at hG
          · rename_i hg
            simp only [Bool.and_eq_true, decide_eq_true_eq] at hg
            obtain ⟨⟨h4, hs⟩, hk⟩ := hg
            have hs' := hs
            simp only [stOkB, Bool.and_eq_true, decide_eq_true_eq] at hs'
            have hp4 := hs'.1
            have hpt : p.take 4 = p := List.take_of_length_le (by omega)
            have hkE := keys4_E hk
            have hkS := kS_ok hp4
            refine P55.rz (ss := [s55n f, s77]) ⟨s55n_ok f, s77_ok, trivial⟩ (by simp) fun Q hQ => ?_
            delta p55 p55_r0 p55_r1 p55_r2 p55_r3 p55_r4 p55_r5 p55_r6
            cases hfind : findP p ev 0 with
            | some pr =>
              obtain ⟨ix, b'⟩ := pr
              simp only [hfind] at hG
              cases hG
              simp (disch := omega) [oLt, oLe, oLtN, oLeN, nLt, nLe, nLtN, nLeN, shp, hp4, hpt, hkE, hkS, hfind]
              exact hQ _ _ (.same (.inl rfl) rfl rfl rfl rfl (by simp [shp]))
            | none =>
              simp only [hfind] at hG
              simp (disch := omega) [oLt, oLe, oLtN, oLeN, nLt, nLe, nLtN, nLeN, shp, hp4, hpt, hkE, hkS, hfind]
              let H : List (List Int × Bool) → List (List Int × Int) → HL := fun ev sh => [(0, .cells [.il (ints t) t.length u, vI b0, vI b1, vI b2, vI b3, .map 1, .map 2]), (1, .map (mE ev)), (2, .map (mI sh)), (3, .cells (ints p))]
              refine XZ_for (fun q : Nat × Int × List (List Int × Bool) × List (List Int × Int) => ⟨[(0, .ptr 0 0), (3, .ptr 3 0), (7, vI q.2.1), (31, vI t.length), (32, vI ((t.length - q.1 : Nat) : Int))], H q.2.2.1 q.2.2.2, 4⟩) (fun q => q.1)
                (fun q => q.1 ≤ t.length ∧ goL (goF t f) t p q.1 q.2.1 q.2.2.1 q.2.2.2 = some (b, ev', sh')) (t.length, 0, putP p true ev, sh) ⟨by simp, hG⟩ (.tot [3] (by simp [H])) ?_
              clear hG hk hkE hfind
              rintro ⟨r, lg, ev1, sh1⟩ ⟨hr, hG⟩ N Q' hN hE
              simp only at hr hG ⊢
              cases r with
              | zero =>
                simp only [goL] at hG
                split at hG
                · rename_i hk
                  simp only [Bool.and_eq_true] at hk
                  obtain ⟨hk1, hk2⟩ := hk
                  have hkE := keys4_E hk1
                  have hkI := keys4_I hk2
                  cases hG
                  delta p55_l0 p55_r7 p55_r8 p55_r9 p55_r10 p55_r11 p55_r12 p55_r13 p55_r14
                  simp (disch := omega) [oLt, oLe, oLtN, oLeN, nLt, nLe, nLtN, nLeN, H]
                  refine hE _ _ _ .refl ?_
                  delta p55_r15 p55_r16
                  have fin : ∀ nx, Q .ret ⟨[(4, vB false)], H (putP p false ev1) (putP p lg sh1), nx⟩ := fun nx => hQ _ _ (.same (.inl rfl) rfl rfl rfl rfl (by simp [shp, H]))
                  cases h1 : findP p ev1 0 with
                  | some r1 =>
                    obtain ⟨i1, x1⟩ := r1
                    have a1 := set_get (l := mE ev1) (i := i1) (by have := findP_lt h1; simp; omega)
                    have a2 := put_E_some (b := false) h1
                    cases h2 : findP p sh1 0 with
                    | some r2 =>
                      obtain ⟨i2, x2⟩ := r2
                      have a3 := set_get (l := mI sh1) (i := i2) (by have := findP_lt h2; simp; omega)
                      have a4 := put_I_some (b := lg) h2
                      simp (disch := omega) [oLt, oLe, oLtN, oLeN, nLt, nLe, nLtN, nLeN, H, hp4, hpt, hkE, hkI, hkS, h1, h2, a1, a2, a3, a4]
                      exact fin _
                    | none =>
                      have a3 := app_get (l := mI sh1) (mI_len _)
                      have a5 := app_set (l := mI sh1) (mI_len _)
                      have a4 := put_I_none (b := lg) h2
                      simp (disch := omega) [oLt, oLe, oLtN, oLeN, nLt, nLe, nLtN, nLeN, H, hp4, hpt, hkE, hkI, hkS, h1, h2, a1, a2, a3, a4, a5]
                      exact fin _
                  | none =>
                    have a2 := put_E_none (b := false) h1
                    have a1 : (mE (putP p false ev1))[ev1.length]? = some (kS p, .v (.bool false)) := by rw [← a2]; exact app_get (mE_len _) _
                    have a6 : (mE (putP p false ev1)).set ev1.length (kS p, .v (.bool false)) = mE (putP p false ev1) := by rw [← a2]; exact app_set (mE_len _) _ _
                    cases h2 : findP p sh1 0 with
                    | some r2 =>
                      obtain ⟨i2, x2⟩ := r2
                      have a3 := set_get (l := mI sh1) (i := i2) (by have := findP_lt h2; simp; omega)
                      have a4 := put_I_some (b := lg) h2
                      simp (disch := omega) [oLt, oLe, oLtN, oLeN, nLt, nLe, nLtN, nLeN, H, hp4, hpt, hkE, hkI, hkS, h1, h2, a1, a2, a3, a4, a6]
                      exact fin _
                    | none =>
                      have a3 := app_get (l := mI sh1) (mI_len _)
                      have a5 := app_set (l := mI sh1) (mI_len _)
                      have a4 := put_I_none (b := lg) h2
                      simp (disch := omega) [oLt, oLe, oLtN, oLeN, nLt, nLe, nLtN, nLeN, H, hp4, hpt, hkE, hkI, hkS, h1, h2, a1, a2, a3, a4, a5, a6]
                      exact fin _
                · cases hG
              | succ r =>
                simp only [goL] at hG
                have hi : t.length - (r + 1) < t.length := by omega
                have hi2 : ((t.length - r : Nat) : Int) = ((t.length - (r + 1) : Nat) : Int) + 1 := by omega
                have hi3 : t.length - (r + 1) ≤ 3 := by omega
                generalize t.length - (r + 1) = i at *
                have h77 : G77 t [b0, b1, b2, b3] ev1 sh1 [.agg (ints p), vI i] = some (avSt (stp t i p), ev1, sh1) := by simp [G77, h4, hs, hi]
                cases ho : stp t i p with
                | none =>
                  simp only [ho] at hG
                  rw [ho] at h77
                  delta p55_l0 p55_r7 p55_r8 p55_r9 p55_r10 p55_r11 p55_r12 p55_r13 p55_r14
                  simp (disch := omega) [oLt, oLe, oLtN, oLeN, nLt, nLe, nLtN, nLeN, H, hp4, hpt, h77, avSt]
                  exact hN _ (r, lg, ev1, sh1) (by simp) ⟨by simp only; omega, hG⟩ (.tot [3] (by simp [H, hi2]))
                | some q =>
                  have hq4 := stp_len h4 hp4 ho
                  have hqt : q.take 4 = q := List.take_of_length_le (by omega)
                  have hqS := kS_ok hq4
                  simp only [ho] at hG
                  rw [ho] at h77
                  cases hrec : goF t f q ev1 sh1 with
                  | none => simp [hrec] at hG
                  | some res =>
                    obtain ⟨b', ev2, sh2⟩ := res
                    simp only [hrec] at hG
                    have h55 : G55 f t [b0, b1, b2, b3] ev1 sh1 [.agg (ints q)] = some (vB b', ev2, sh2) := by simp [G55, hrec]
                    cases b' with
                    | true =>
                      simp only [Option.some.injEq, Prod.mk.injEq] at hG
                      obtain ⟨rfl, rfl, rfl⟩ := hG
                      delta p55_l0 p55_r7 p55_r8 p55_r9 p55_r10 p55_r11 p55_r12 p55_r13 p55_r14
                      simp (disch := omega) [oLt, oLe, oLtN, oLeN, nLt, nLe, nLtN, nLeN, H, hp4, hpt, h77, avSt, h55, hq4, hqt, hqS]
                      exact hE _ _ _ .refl (hQ _ _ (.same (.inl rfl) rfl rfl rfl rfl (by simp [shp])))
                    | false =>
                      simp only at hG
                      split at hG
                      · rename_i hk
                        simp only [Bool.and_eq_true, within_iff, decide_eq_true_eq] at hk
                        obtain ⟨⟨hk1, hk2⟩, hk3⟩ := hk
                        have hkI := keys4_I hk1
                        have hlk : (match findK (kS q) (mI sh2) 0 with | some (_, x) => x | none => vI 0) = vI (getS q sh2) := by
                          unfold getS; rw [mI_find]; cases findP q sh2 0 with
                          | none => rfl
                          | some r => rfl
                        have hmx : (if lg < 1 + getS q sh2 then 1 + getS q sh2 else lg) = max lg (1 + getS q sh2) := by
                          rw [Int.max_def]; split <;> split <;> omega
                        delta p55_l0 p55_r7 p55_r8 p55_r9 p55_r10 p55_r11 p55_r12 p55_r13 p55_r14
                        cases h2 : findP q sh2 0 with
                        | some r2 =>
                          obtain ⟨i2, x2⟩ := r2
                          have hgs : getS q sh2 = x2 := by simp [getS, h2]
                          rw [hgs] at hG hk2 hmx
                          by_cases hlt : lg < 1 + x2
                          · rw [if_pos hlt] at hmx
                            rw [← hmx] at hG
                            simp (disch := omega) [oLt, oLe, oLtN, oLeN, nLt, nLe, nLtN, nLeN, H, hp4, hpt, h77, avSt, h55, hq4, hqt, hqS, hkI, h2, hlt]
                            exact hN _ (r, 1 + x2, ev2, sh2) (by simp) ⟨by simp only; omega, hG⟩ (.tot [3] (by simp [H, hi2]))
                          · rw [if_neg hlt] at hmx
                            rw [← hmx] at hG
                            simp (disch := omega) [oLt, oLe, oLtN, oLeN, nLt, nLe, nLtN, nLeN, H, hp4, hpt, h77, avSt, h55, hq4, hqt, hqS, hkI, h2, hlt]
                            exact hN _ (r, lg, ev2, sh2) (by simp) ⟨by simp only; omega, hG⟩ (.tot [3] (by simp [H, hi2]))
                        | none =>
                          have hgs : getS q sh2 = 0 := by simp [getS, h2]
                          rw [hgs] at hG hk2 hmx
                          simp only [Int.add_zero] at hG hmx
                          by_cases hlt : lg < 1
                          · rw [if_pos hlt] at hmx
                            rw [← hmx] at hG
                            simp (disch := omega) [oLt, oLe, oLtN, oLeN, nLt, nLe, nLtN, nLeN, H, hp4, hpt, h77, avSt, h55, hq4, hqt, hqS, hkI, h2, hlt]
                            exact hN _ (r, 1, ev2, sh2) (by simp) ⟨by simp only; omega, hG⟩ (.tot [3] (by simp [H, hi2]))
                          · rw [if_neg hlt] at hmx
                            rw [← hmx] at hG
                            simp (disch := omega) [oLt, oLe, oLtN, oLeN, nLt, nLe, nLtN, nLeN, H, hp4, hpt, h77, avSt, h55, hq4, hqt, hqS, hkI, h2, hlt]
                            exact hN _ (r, lg, ev2, sh2) (by simp) ⟨by simp only; omega, hG⟩ (.tot [3] (by simp [H, hi2]))
                      · cases hG
          · cases hG
        · cases hF
      · cases hF
    · cases hF
end Go.Sx.Wk
