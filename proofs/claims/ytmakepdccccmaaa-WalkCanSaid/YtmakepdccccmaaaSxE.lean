/- More effects: cuts of slices, copy, literals. No conditions. -/
import Derived.Test.YtmakepdccccmaaaSxD
set_option linter.unusedVariables false
set_option linter.unusedSimpArgs false
namespace Go.Sx

/-! ### Cuts of slices -/
def RepO (S : Nat → Prop) (w : World) (f : Place) : Option AV → Option Value → Prop
  | none, none => True
  | some x, some y => Rep S w f x y
  | _, _ => False

def bnd (d : Nat) : Option AV → Option Nat
  | none => some d
  | some a => match a.int? with
    | some n => if 0 ≤ n then some n.toNat else none
    | none => none

theorem sliceBound_run {P : Program} {S w f} {a : AV} {u : Value} (ha : Rep S w f a u) {n : Nat} (hn : bnd 0 (some a) = some n) (y : Nat) (hy : n ≤ y) (c : BoundsCode) : (Instr.sliceBound u y c).run P w = .ok n w := by
  simp only [bnd] at hn
  split at hn
  · rename_i m hm
    obtain ⟨k, rfl⟩ := int_rep ha hm
    split at hn
    · rename_i h0
      cases hn
      have : m ≤ y := by omega
      simp [Instr.sliceBound, asIntOf, h0, this]
    · cases hn
  · cases hn
theorem bnd_some (d d' : Nat) (a : AV) : bnd d (some a) = bnd d' (some a) := rfl

theorem sliceBounds_run {P : Program} {S w f} (isS : Bool) (len cap : Nat) {lo hi mx : Option AV} {lo' hi' mx' : Option Value} (h1 : RepO S w f lo lo') (h2 : RepO S w f hi hi') (h3 : RepO S w f mx mx')
    {l h m : Nat} (hl : bnd 0 lo = some l) (hh : bnd len hi = some h) (hm : bnd cap mx = some m) (hmx : mx.isSome → hi.isSome) (hlh : l ≤ h) (hhm : h ≤ m) (hmc : m ≤ cap) :
    (Instr.sliceBounds isS len cap lo' hi' mx').run P w = .ok (l, h, m) w := by
  unfold Instr.sliceBounds
  have L1 : ∀ v, lo' = some v → ∀ (c : BoundsCode), (Instr.sliceBound v h c).run P w = .ok l w := fun v hv c => by
    subst hv
    cases lo <;> simp only [RepO] at h1
    exact sliceBound_run h1 hl h hlh c
  have L0 : lo' = none → l = 0 := fun hv => by
    subst hv
    cases lo <;> simp only [RepO] at h1
    simpa [bnd] using hl.symm
  clear hl h1
  cases mx <;> cases mx' <;> simp only [RepO] at h3
  · simp [bnd] at hm; subst hm
    cases hi <;> cases hi' <;> simp only [RepO] at h2
    · simp [bnd] at hh; subst hh
      cases lo' with
      | none => simp [L0 rfl]
      | some v => simp [L1 v rfl]
    · have e := sliceBound_run (P := P) h2 (by rw [bnd_some 0 len]; exact hh) cap hhm (if isS = true then BoundsCode.sliceAcap else BoundsCode.sliceAlen)
      cases lo' with
      | none => simp [L0 rfl, e]
      | some v => simp [L1 v rfl, e]
  · have e1 := sliceBound_run (P := P) h3 (by rw [bnd_some 0 cap]; exact hm) cap hmc (if isS = true then BoundsCode.slice3Acap else BoundsCode.slice3Alen)
    cases hi <;> cases hi' <;> simp only [RepO] at h2
    · simp at hmx
    · have e := sliceBound_run (P := P) h2 (by rw [bnd_some 0 len]; exact hh) m hhm .slice3B
      cases lo' with
      | none => simp [L0 rfl, e1, e]
      | some v => simp [L1 v rfl, e1, e]

theorem ite_add (m l o b k : Nat) (h : m = l → l * k = 0) : (if m = l then some (⟨b, o, none⟩ : Addr) else some (Addr.add ⟨b, o, none⟩ (l * k))) = some ⟨b, o + l * k, none⟩ := by
  by_cases e : m = l
  · simp [e, h e]
  · rw [if_neg e, add_lit]

/-- A cut of a slice. 'known': how many elements are surely there. -/
def effSlc (esz : Nat) (x : AV) (lo hi mx : Option AV) : Option Eff :=
  match x with
  | .v (.slice none 0 0) => if bnd 0 lo = some 0 ∧ bnd 0 hi = some 0 ∧ bnd 0 mx = some 0 ∧ (mx.isSome = true → hi.isSome = true) then ret x else none
  | .ref id off len esz' cap =>
    match bnd 0 lo, bnd len hi with
    | some l, some h =>
      if esz' = esz ∧ l ≤ h ∧ (mx.isSome = true → hi.isSome = true) then
        match mx with
        | none => if h ≤ cap.getD len then (if l = 0 ∨ l < h then ret (.ref id (off + l * esz) (h - l) esz (cap.map (· - l))) else ret (.il [] 0 false)) else none
        | some m => match bnd 0 (some m) with
          | some m => if h ≤ m ∧ m ≤ cap.getD len then (if l = 0 ∨ l < h then ret (.ref id (off + l * esz) (h - l) esz (some (m - l))) else ret (.il [] 0 false)) else none
          | none => none
      else none
    | _, _ => none
  | .il cells len full =>
    match bnd 0 lo, bnd len hi with
    | some l, some h =>
      if l ≤ h ∧ (mx.isSome = true → hi.isSome = true) then
        match mx with
        | none => if h ≤ len then ret (.il ((cells.drop (l * esz)).take ((h - l) * esz)) (h - l) (full && decide (h = len))) else none
        | some m => match bnd 0 (some m) with
          | some m => if h ≤ m ∧ m ≤ len then ret (.il ((cells.drop (l * esz)).take ((h - l) * esz)) (h - l) (decide (m = h))) else none
          | none => none
      else none
    | _, _ => none
  | _ => none

theorem slice_run {P : Program} {S w f} {t e esz : Nat} (ht : P.underlying t = some (.slice e)) (he : (P.info? e).map (·.size) = some esz) (b o len cap : Nat)
    {lo hi mx : Option AV} {lo' hi' mx' : Option Value} (h1 : RepO S w f lo lo') (h2 : RepO S w f hi hi') (h3 : RepO S w f mx mx')
    {l h m : Nat} (hl : bnd 0 lo = some l) (hh : bnd len hi = some h) (hm : bnd cap mx = some m) (hmx : mx.isSome → hi.isSome) (hlh : l ≤ h) (hhm : h ≤ m) (hmc : m ≤ cap) :
    (do pure (Next.value (← Instr.sliceAt t (.slice (some ⟨b, o, none⟩) len cap) lo' hi' mx')) : Sem Next).run P w =
      .ok (.value (.slice (if m = l then some ⟨b, o, none⟩ else some ⟨b, o + l * esz, none⟩) (h - l) (m - l))) w := by
  have e1 := sliceBounds_run (P := P) true len cap h1 h2 h3 hl hh hm hmx hlh hhm hmc
  cases hq : P.info? e with
  | none => simp [hq] at he
  | some inf =>
    have hsz : inf.size = esz := by simpa [hq] using he
    simp only [Instr.sliceAt, Instr.slice, Sem.run_bind, run_underlying ht, Result.andThen_ok, e1, sizeOf, typeInfo, run_program, hq, Sem.run_pure, hsz, Option.map_some]
    congr 3
    rw [add_lit]

theorem slice_run_nil {P : Program} {S w f} {t e esz : Nat} (ht : P.underlying t = some (.slice e)) (he : (P.info? e).map (·.size) = some esz)
    {lo hi mx : Option AV} {lo' hi' mx' : Option Value} (h1 : RepO S w f lo lo') (h2 : RepO S w f hi hi') (h3 : RepO S w f mx mx')
    (hl : bnd 0 lo = some 0) (hh : bnd 0 hi = some 0) (hm : bnd 0 mx = some 0) (hmx : mx.isSome → hi.isSome) :
    (do pure (Next.value (← Instr.sliceAt t (.slice none 0 0) lo' hi' mx')) : Sem Next).run P w = .ok (.value (.slice none 0 0)) w := by
  have e1 := sliceBounds_run (P := P) true 0 0 h1 h2 h3 hl hh hm hmx (Nat.le_refl _) (Nat.le_refl _) (Nat.le_refl _)
  cases hq : P.info? e with
  | none => simp [hq] at he
  | some inf =>
    simp [Instr.sliceAt, Instr.slice, run_underlying ht, e1, sizeOf, typeInfo, hq]

theorem rep_cut {S w f} {cells : List AV} {vals : List Value} {b o len full c} (hl : vals.length = cells.length) (hS : cells ≠ [] → S b)
      (hc : ∀ i x, vals[i]? = some x → w.cell? ⟨b, o + i, none⟩ = some x) (h1 : ∀ x ∈ vals, x.oneCell' = true)
      (hr : ∀ (i : Nat) x y, cells[i]? = some x → vals[i]? = some y → Rep S w (fun _ => none) x y) (p n : Nat) (hn : len ≤ c) (hf : full = true → c = len) :
      Rep S w f (.il ((cells.drop p).take n) len full) (.slice (some ⟨b, o + p, none⟩) len c) := by
  refine .il (vals := (vals.drop p).take n) (by simp [hl]) (fun h0 => hS (fun e => h0 (by simp [e]))) (fun i x hx => ?_) (fun x hx => h1 x (List.mem_of_mem_drop (List.mem_of_mem_take hx))) (fun i x y hx hy => ?_) hn hf
  · rw [List.getElem?_take] at hx
    split at hx
    · rw [List.getElem?_drop] at hx
      rw [Nat.add_assoc]; exact hc _ _ hx
    · cases hx
  · rw [List.getElem?_take] at hx hy
    split at hx
    · rename_i hlt
      rw [if_pos hlt] at hy
      rw [List.getElem?_drop] at hx hy
      exact hr _ x y hx hy
    · cases hx

theorem rep_empty {S w f full} (b o c : Nat) (hf : full = true → c = 0) : Rep S w f (.il [] 0 full) (.slice (some ⟨b, o, none⟩) 0 c) :=
  .il (vals := []) rfl (fun h => absurd rfl h) (fun i x hx => by simp at hx) (fun x hx => by cases hx) (fun i x y hx => by simp at hx) (Nat.zero_le _) hf

theorem good_slc {P S w f h id x u t e esz lo hi mx lo' hi' mx'} {E : Eff} (ht : P.underlying t = some (.slice e)) (he : (P.info? e).map (·.size) = some esz) (hx : Rep S w f x u)
    (h1 : RepO S w f lo lo') (h2 : RepO S w f hi hi') (h3 : RepO S w f mx mx') (hE : effSlc esz x lo hi mx = some E) :
    Good P E (do pure (.value (← Instr.sliceAt t u lo' hi' mx'))) S w f h id := by
  unfold effSlc at hE
  split at hE
  · split at hE
    · rename_i hb
      cases hx
      exact good_pure hE (slice_run_nil ht he h1 h2 h3 hb.1 hb.2.1 hb.2.2.1 hb.2.2.2) (.v _)
    · cases hE
  · rename_i id' off len esz' cap
    split at hE
    · rename_i l hh hl hh'
      split at hE
      · rename_i hb
        obtain ⟨rfl, hlh, hmx⟩ := hb
        cases hx with
        | @ref _ _ _ _ _ _ c L hf q1 q2 q3 q4 =>
          have hcap : cap.getD len ≤ c := by
            cases cap with
            | none => simpa using q4
            | some k => rw [q1 k rfl]; exact Nat.le_refl _
          have hcm : ∀ m, m ≤ c → l ≤ m → L.base + (off + l * esz') + (m - l) * esz' ≤ L.n := fun m hm hlm => by
            have : l * esz' + (m - l) * esz' = m * esz' := by rw [← Nat.add_mul]; congr 1; omega
            have : m * esz' ≤ c * esz' := Nat.mul_le_mul_right _ hm
            omega
          split at hE
          · split at hE
            · rename_i hle
              have e1 := slice_run (P := P) ht he L.b (L.base + off) len c h1 h2 h3 hl hh' rfl hmx hlh (by omega) (Nat.le_refl _)
              split at hE
              · rename_i hc2
                have e2 : (if c = l then some (⟨L.b, L.base + off, none⟩ : Addr) else some ⟨L.b, L.base + off + l * esz', none⟩) = some ⟨L.b, L.base + (off + l * esz'), none⟩ := by
                  by_cases e : c = l
                  · have : l = 0 := by omega
                    subst this; simp
                  · rw [if_neg e, Nat.add_assoc]
                rw [e2] at e1
                refine good_pure hE e1 (.ref hf (fun k hk => ?_) (fun hk => ?_) (hcm c (Nat.le_refl _) (by omega)) (by omega))
                · cases cap with
                  | none => cases hk
                  | some k' => simp at hk; rw [q1 k' rfl]; exact hk
                · cases cap with
                  | none =>
                    have := q2 rfl
                    have : l * esz' + (c - l) * esz' = c * esz' := by rw [← Nat.add_mul]; congr 1; omega
                    omega
                  | some k' => simp at hk
              · rename_i hc2
                have hz : hh - l = 0 := by omega
                rw [hz] at e1
                refine good_pure hE e1 ?_
                split
                · exact rep_empty _ _ _ (by simp)
                · exact rep_empty _ _ _ (by simp)
            · cases hE
          · rename_i m
            split at hE
            · rename_i m' hm'
              split at hE
              · rename_i hle
                have e1 := slice_run (P := P) ht he L.b (L.base + off) len c h1 h2 h3 hl hh' (m := m') (by rw [bnd_some c 0]; exact hm') hmx hlh hle.1 (by omega)
                split at hE
                · rename_i hc2
                  have e2 : (if m' = l then some (⟨L.b, L.base + off, none⟩ : Addr) else some ⟨L.b, L.base + off + l * esz', none⟩) = some ⟨L.b, L.base + (off + l * esz'), none⟩ := by
                    by_cases e : m' = l
                    · have : l = 0 := by omega
                      subst this; simp
                    · rw [if_neg e, Nat.add_assoc]
                  rw [e2] at e1
                  refine good_pure hE e1 (.ref hf (fun k hk => ?_) (fun hk => ?_) (hcm m' (by omega) (by omega)) (by omega))
                  · simp at hk; exact hk
                  · cases hk
                · rename_i hc2
                  have hz : hh - l = 0 := by omega
                  rw [hz] at e1
                  refine good_pure hE e1 ?_
                  split
                  · exact rep_empty _ _ _ (by simp)
                  · exact rep_empty _ _ _ (by simp)
              · cases hE
            · cases hE
      · cases hE
    · cases hE
  · rename_i cells len full
    split at hE
    · rename_i l hh hl hh'
      split at hE
      · rename_i hb
        obtain ⟨hlh, hmx⟩ := hb
        cases hx with
        | nil =>
          have hz : ∀ full', Rep S w f (.il ((([] : List AV).drop (l * esz)).take ((hh - l) * esz)) (hh - l) full') (.slice none 0 0) → Rep S w f (.il ((([] : List AV).drop (l * esz)).take ((hh - l) * esz)) (hh - l) full') (.slice none 0 0) := fun _ h => h
          have fin : ∀ full' : Bool, hh ≤ 0 → Rep S w f (.il ((([] : List AV).drop (l * esz)).take ((hh - l) * esz)) (hh - l) full') (.slice none 0 0) := fun full' h0 => by
            have : hh - l = 0 := by omega
            rw [this]; simp; exact .nil
          split at hE
          · split at hE
            · rename_i hle
              have e0 : l = 0 := by omega
              have e0' : hh = 0 := by omega
              refine good_pure hE (slice_run_nil ht he h1 h2 h3 (e0 ▸ hl) (e0' ▸ hh') rfl hmx) (fin _ hle)
            · cases hE
          · split at hE
            · rename_i m' hm'
              split at hE
              · rename_i hle
                have e0 : l = 0 := by omega
                have e0' : hh = 0 := by omega
                have e0'' : m' = 0 := by omega
                refine good_pure hE (slice_run_nil ht he h1 h2 h3 (e0 ▸ hl) (e0' ▸ hh') (e0'' ▸ hm') hmx) (fin _ (by omega))
              · cases hE
            · cases hE
        | @il _ _ _ _ vals b o c hvl hS hc hone hr hn hf =>
          have fin : ∀ (m : Nat) (full' : Bool), hh ≤ m → (full' = true → m = hh) → Rep S w f (.il ((cells.drop (l * esz)).take ((hh - l) * esz)) (hh - l) full') (.slice (if m = l then some ⟨b, o, none⟩ else some ⟨b, o + l * esz, none⟩) (hh - l) (m - l)) := fun m full' hm hfu => by
            split
            · rename_i e
              have hz : hh - l = 0 := by omega
              rw [hz]; simp only [Nat.zero_mul, List.take_zero]
              exact rep_empty _ _ _ (fun h => by have := hfu h; omega)
            · exact rep_cut hvl hS hc hone hr _ _ (by omega) (fun h => by have := hfu h; omega)
          split at hE
          · split at hE
            · rename_i hle
              refine good_pure hE (slice_run ht he b o len c h1 h2 h3 hl hh' rfl hmx hlh (by omega) (Nat.le_refl _)) (fin c _ (by omega) (fun h => ?_))
              simp only [Bool.and_eq_true, decide_eq_true_eq] at h
              rw [hf h.1, h.2]
            · cases hE
          · split at hE
            · rename_i m' hm'
              split at hE
              · rename_i hle
                refine good_pure hE (slice_run ht he b o len c h1 h2 h3 hl hh' (m := m') (by rw [bnd_some c 0]; exact hm') hmx hlh hle.1 (by omega)) (fin m' _ hle.1 (fun h => by simpa using h))
              · cases hE
            · cases hE
      · cases hE
    · cases hE
  · cases hE

/-- A cut of an array behind an address. -/
def effSlcA (n esz : Nat) (x : AV) (lo hi mx : Option AV) : Option Eff :=
  match bnd 0 lo, bnd n hi, bnd n mx with
  | some l, some h, some m =>
    if l ≤ h ∧ h ≤ m ∧ m ≤ n ∧ (mx.isSome = true → hi.isSome = true) then
      match x with
      | .ptr id off => some ⟨[id], [], fun bs _ => match bs with
        | [b] => (match b with
          | .cells cs => if off + n * esz ≤ cs.length then some (if l = 0 ∨ l < h then AV.ref id (off + l * esz) (h - l) esz (some (m - l)) else AV.il [] 0 false) else none
          | _ => none).map (⟨·, [], none⟩)
        | _ => none⟩
      | .elt cells off => ret (.il ((cells.drop (off + l * esz)).take ((h - l) * esz)) (h - l) (decide (m = h)))
      | _ => none
    else none
  | _, _, _ => none
theorem good_slcA {P S w f h id x u t n e esz lo hi mx lo' hi' mx'} {E : Eff} (ht : P.underlying t = some (.array n e)) (he : (P.info? e).map (·.size) = some esz) (hx : Rep S w f x u)
    (h1 : RepO S w f lo lo') (h2 : RepO S w f hi hi') (h3 : RepO S w f mx mx') (hE : effSlcA n esz x lo hi mx = some E) :
    Good P E (do pure (.value (← Instr.sliceAt t u lo' hi' mx'))) S w f h id := by
  unfold effSlcA at hE
  split at hE
  · rename_i l hh m hl hh' hm
    split at hE
    · rename_i hb
      obtain ⟨hlh, hhm, hmc, hmx⟩ := hb
      have e1 := sliceBounds_run (P := P) false n n h1 h2 h3 hl hh' hm hmx hlh hhm hmc
      have key : ∀ b o, (do pure (Next.value (← Instr.sliceAt t (.pointer (some ⟨b, o, none⟩)) lo' hi' mx')) : Sem Next).run P w =
          .ok (.value (.slice (some (if m = l then ⟨b, o, none⟩ else ⟨b, o + l * esz, none⟩)) (hh - l) (m - l))) w := fun b o => by
        cases hq : P.info? e with
        | none => simp [hq] at he
        | some inf =>
          have hsz : inf.size = esz := by simpa [hq] using he
          simp only [Instr.sliceAt, Sem.run_bind, run_underlying ht, Result.andThen_ok, Instr.sureAddr, e1, sizeOf, typeInfo, run_program, hq, Sem.run_pure, hsz, add_lit]
      split at hE
      · rename_i i off
        cases hx with
        | @ptr _ _ _ L hf =>
          refine good_read (Option.some.inj hE).symm hf (fun b x hB hk => ⟨_, key _ _, ?_⟩)
          cases b with
          | cells cs =>
            simp only at hk
            split at hk
            · rename_i hle
              cases hk
              obtain ⟨arr, tt, a1, a2, a3, a4, a5⟩ := hB
              split
              · rename_i hc2
                have e2 : (if m = l then (⟨L.b, L.base + off, none⟩ : Addr) else ⟨L.b, L.base + off + l * esz, none⟩) = ⟨L.b, L.base + (off + l * esz), none⟩ := by
                  by_cases e : m = l
                  · have : l = 0 := by omega
                    subst this; simp
                  · rw [if_neg e, Nat.add_assoc]
                rw [e2]
                refine .ref hf (fun k hk => by simpa using hk) (fun hk => by cases hk) ?_ (by omega)
                have : l * esz + (m - l) * esz = m * esz := by rw [← Nat.add_mul]; congr 1; omega
                have : m * esz ≤ n * esz := Nat.mul_le_mul_right _ hmc
                omega
              · rename_i hc2
                have hz : hh - l = 0 := by omega
                rw [hz]
                split <;> exact rep_empty _ _ _ (fun h => by cases h)
            · cases hk
          | map es => cases hk
      · rename_i cells off
        cases hx with
        | @elt _ _ _ vals b o hvl hS hc hone hr =>
          refine good_pure hE (key _ _) ?_
          split
          · rename_i e
            have hz : hh - l = 0 := by omega
            rw [hz]; simp only [Nat.zero_mul, List.take_zero]
            have e3 : m - l = 0 := by omega
            rw [e3]
            exact rep_empty _ _ _ (fun _ => rfl)
          · rw [Nat.add_assoc]
            exact rep_cut hvl hS hc hone hr _ _ (by omega) (fun h => by simp at h; omega)
      · cases hE
    · cases hE
  · cases hE

end Go.Sx
