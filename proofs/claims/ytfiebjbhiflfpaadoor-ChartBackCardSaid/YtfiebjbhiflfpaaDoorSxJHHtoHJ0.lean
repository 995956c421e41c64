/- Faces are rounds, points are rounds; what the lines less the points and faces are. No conditions. -/
import Derived.Test.YtfiebjbhiflfpaaDoorSxJKAtoDV0
import Derived.Test.YtfiebjbhiflfpaaDoorSxJHFtoHG
import Derived.Test.YtfiebjbhiflfpaaDoorSxJCAtoCC
set_option linter.unusedVariables false
set_option linter.unusedSimpArgs false
namespace Go.Sx.Ch
open Go Go.Sx Go.Proofs
section
set_option maxRecDepth 4000
def natS (σ : Int → Int) (m : Nat) : Nat := (σ m).toNat
theorem Prm.nat {σ : Int → Int} {n : Nat} (h : Prm σ n) {m : Nat} (hm : m < n) : σ m = natS σ m ∧ natS σ m < n := by
  have := h.rng m hm
  unfold natS
  constructor <;> omega
theorem Prm.stp {σ : Int → Int} {n : Nat} (h : Prm σ n) : Stp (natS σ) n :=
  ⟨fun x hx => (h.nat hx).2, fun x y hx hy e => h.inj x y hx hy (by rw [(h.nat hx).1, (h.nat hy).1, e])⟩
theorem orb_mem {σ : Int → Int} {n : Nat} (h : Prm σ n) {a : Nat} (ha : a < n) {l : List Int} (hl : orb σ a 16 a = some l) {x : Nat} (hx : x < n) : (x : Int) ∈ l ↔ Lead (natS σ) a x := by
  have hlk := orb_lnk hl
  obtain ⟨h1, h2, -, -⟩ := orb_facts hl
  have hlp : 0 < l.length := (List.getElem?_eq_some_iff.1 h1).1
  constructor
  · intro hm
    have key : ∀ (i : Nat) (y : Nat), l[i]? = some (y : Int) → Lead (natS σ) a y := by
      intro i
      induction i with
      | zero =>
        intro y hy
        rw [h1] at hy
        have : a = y := by have := Option.some.inj hy; omega
        rw [this]; exact .refl
      | succ i ih =>
        intro y hy
        have hi : i < l.length := by have := (List.getElem?_eq_some_iff.1 hy).1; omega
        have hin := orb_in h ha hl l[i] (List.getElem_mem hi)
        obtain ⟨z, hz⟩ := Int.eq_ofNat_of_zero_le hin.1
        have hzi : l[i]? = some (z : Int) := by rw [List.getElem?_eq_getElem hi, hz]
        have e := h2 i z y hzi hy
        have : natS σ z = y := by unfold natS; rw [e]; simp
        rw [← this]
        exact (ih z hzi).trans .one
    obtain ⟨i, hi, he⟩ := List.getElem_of_mem hm
    exact key i x (by rw [List.getElem?_eq_getElem hi, he])
  · rintro ⟨k, rfl⟩
    clear hx
    induction k with
    | zero => exact List.mem_of_getElem? h1
    | succ k ih =>
      obtain ⟨i, hi, he⟩ := List.getElem_of_mem ih
      have := hlk i _ (by rw [List.getElem?_eq_getElem hi, he])
      rw [it_succ, ← (h.nat (h.stp.it ha k)).1]
      exact List.mem_of_getElem? this
open Classical in
theorem fac_cls {σ : Int → Int} {n : Nat} (h : Prm σ n) (hn : n ≤ 16) : ∀ k, k ≤ n → (facN σ k).2.length = ((List.range k).filter fun p => decide (Low (Lead (natS σ)) p)).length ∧ ∀ x : Nat, x < n → ((x : Int) ∈ (facN σ k).1 ↔ ∃ j, j < k ∧ Lead (natS σ) j x)
  | 0, _ => ⟨by simp [facN], fun x hx => by simp [facN]⟩
  | k + 1, hk => by
    obtain ⟨h1, h2⟩ := fac_cls h hn k (by omega)
    rw [facN_succ, List.range_succ, List.filter_append, List.length_append]
    unfold facS
    by_cases hm : (k : Int) ∈ (facN σ k).1
    · rw [if_pos hm]
      obtain ⟨j, hj, hjk⟩ := (h2 k (by omega)).1 hm
      have hno : ¬ Low (Lead (natS σ)) k := fun hl => hl j hj hjk
      refine ⟨by rw [h1]; simp [hno], fun x hx => ?_⟩
      rw [h2 x hx]
      constructor
      · rintro ⟨i, h3, h4⟩; exact ⟨i, by omega, h4⟩
      · rintro ⟨i, h3, h4⟩
        by_cases e : i = k
        · subst e; exact ⟨j, hj, hjk.trans h4⟩
        · exact ⟨i, by omega, h4⟩
    · rw [if_neg hm]
      obtain ⟨-, -, l, hl⟩ := (okS_iff.1 (h.ok hn)).2 k (by omega) |>.imp id id |> fun q => (⟨q.1, q.1, q.2⟩ : _ ∧ _ ∧ _)
      have hyes : Low (Lead (natS σ)) k := fun j hj hjk => hm ((h2 k (by omega)).2 ⟨j, hj, hjk⟩)
      rw [hl, Option.getD_some]
      refine ⟨by simp [h1, hyes], fun x hx => ?_⟩
      rw [List.mem_append, h2 x hx, orb_mem h (by omega) hl hx]
      constructor
      · rintro (⟨i, h3, h4⟩ | h3)
        · exact ⟨i, by omega, h4⟩
        · exact ⟨k, by omega, h3⟩
      · rintro ⟨i, h3, h4⟩
        by_cases e : i = k
        · subst e; exact .inr h4
        · exact .inl ⟨i, by omega, h4⟩
theorem cyc_cls {σ : Int → Int} {n : Nat} (h : Prm σ n) (hn : n ≤ 16) : (cyc σ n).length = cls n (Lead (natS σ)) := by
  unfold cyc
  rw [(cyc_fac h hn n (Nat.le_refl _)).1, (fac_cls h hn n (Nat.le_refl _)).1]
  rfl
def atN (L : List (List Int)) (m : Nat) : Nat := (ptL L m).toNat
theorem Cov.same_at {L : List (List Int)} {n : Nat} (h : Cov L n) (h0 : ∀ l ∈ L, l.length ≠ 0) {m : Nat} (hm : m < n) : atN L (natS (afterC (tabF L)) m) = atN L m := by
  obtain ⟨k, l, e1, e2, -, e4⟩ := h.pnt h0 hm
  obtain ⟨i, hi, he⟩ := List.getElem_of_mem e2
  have hlm := List.mem_of_getElem? e1
  have hx := h.after hlm hi (by rw [List.getElem?_eq_getElem hi, he])
  obtain ⟨-, x, g1, g2, g3⟩ := next_get hi
  rw [g2] at hx
  have hn := (h.prm.nat hm).1
  rw [hx] at hn
  have h5 := (h.at h0 e1 (m := natS (afterC (tabF L)) m) (by rw [← hn]; exact g3)).2
  unfold atN
  rw [h5, e4]
theorem Cov.lead_at {L : List (List Int)} {n : Nat} (h : Cov L n) (h0 : ∀ l ∈ L, l.length ≠ 0) {x y : Nat} (hx : x < n) (hy : y < n) : Lead (natS (afterC (tabF L))) x y ↔ atN L x = atN L y := by
  constructor
  · intro hl
    exact lead_in h.prm.stp (Q := fun x y => atN L x = atN L y) (fun _ _ => rfl) (fun _ _ _ _ _ _ u v => u.trans v) (fun x hx => (h.same_at h0 hx).symm) hx hl
  · intro he
    obtain ⟨k, l, e1, e2, -, e4⟩ := h.pnt h0 hx
    obtain ⟨k', l', f1, f2, -, f4⟩ := h.pnt h0 hy
    unfold atN at he
    rw [e4, f4] at he
    have : k = k' := by simpa using he
    subst this
    rw [e1] at f1
    cases f1
    obtain ⟨i, hi, hei⟩ := List.getElem_of_mem e2
    obtain ⟨j, hj, hej⟩ := List.getElem_of_mem f2
    have hlm := List.mem_of_getElem? e1
    have go : ∀ (d i : Nat) (hi : i < l.length) (z : Nat), l[i] = (z : Int) → z < n → ∃ w : Nat, w < n ∧ Lead (natS (afterC (tabF L))) z w ∧ l[(i + d) % l.length]? = some (w : Int) := by
      intro d
      induction d with
      | zero => intro i hi z hz hzn; exact ⟨z, hzn, .refl, by rw [Nat.add_zero, Nat.mod_eq_of_lt hi, List.getElem?_eq_getElem hi, hz]⟩
      | succ d ih =>
        intro i hi z hz hzn
        obtain ⟨g0, v, g1, g2, g3⟩ := next_get hi
        have hx := h.after hlm hi (by rw [List.getElem?_eq_getElem hi, hz])
        rw [g2] at hx
        have hn := h.prm.nat hzn
        obtain ⟨w, w1, w2, w3⟩ := ih ((i + 1) % l.length) g0 (natS (afterC (tabF L)) z) (by rw [← hn.1, hx]; exact (List.getElem?_eq_some_iff.1 g1).2) hn.2
        refine ⟨w, w1, Lead.one.trans w2, ?_⟩
        rw [Nat.mod_add_mod] at w3
        rw [← w3]; congr 2; omega
    obtain ⟨w, w1, w2, w3⟩ := go (j + (l.length - i)) i hi x hei hx
    have hmod : (i + (j + (l.length - i))) % l.length = j := by
      rw [show i + (j + (l.length - i)) = j + l.length by omega, Nat.add_mod_right, Nat.mod_eq_of_lt hj]
    rw [hmod, List.getElem?_eq_getElem hj, hej] at w3
    have : y = w := by have := Option.some.inj w3; omega
    rw [this]; exact w2
theorem Cov.cls_pts {L : List (List Int)} {n : Nat} (h : Cov L n) (h0 : ∀ l ∈ L, l.length ≠ 0) : cls n (Lead (natS (afterC (tabF L)))) = L.length := by
  rw [cls_congr (S := fun x y => atN L x = atN L y) (fun p q hp hq => h.lead_at h0 hp hq)]
  refine cls_map (fun m hm => ?_) (fun p hp => ?_)
  · obtain ⟨k, l, e1, -, -, e4⟩ := h.pnt h0 hm
    unfold atN; rw [e4]
    have := (List.getElem?_eq_some_iff.1 e1).1
    omega
  · have hl := h0 L[p] (List.getElem_mem hp)
    have hmem : (L[p])[0]'(by omega) ∈ L[p] := List.getElem_mem _
    have hr := h.rng _ (List.mem_flatten.2 ⟨L[p], List.getElem_mem hp, hmem⟩)
    obtain ⟨m, hm⟩ := Int.eq_ofNat_of_zero_le hr.1
    rw [hm] at hmem hr
    refine ⟨m, by omega, ?_⟩
    unfold atN
    rw [(h.at h0 (List.getElem?_eq_getElem hp) hmem).2]; simp
theorem onK_onat {n m : Nat} (hn : n % 2 = 0) (hm : m < n) : onK (n / 2) m = onat m := by
  unfold onK onat
  rw [if_pos (by omega)]
def partN (L : List (List Int)) : Int := (labN (atN L) L.length (total L / 2)).2
theorem euler_map {L : List (List Int)} (hc : chk L = 0) : ∃ g : Nat, 2 * partN L + (total L / 2 : Nat) = L.length + (faceL L).length + 2 * g := by
  have h := chk_cov hc
  have h0 := chk_ne hc
  obtain ⟨-, h16, hev, hl16, -⟩ := tab_pts hc
  have hat : ∀ m, m < total L → atN L m < L.length := fun m hm => by
    obtain ⟨k, l, e1, -, -, e4⟩ := h.pnt h0 hm
    unfold atN; rw [e4]
    have := (List.getElem?_eq_some_iff.1 e1).1
    omega
  obtain ⟨-, g, hg⟩ := euler (f := natS (afterC (tabF L))) hl16 hat h.prm.stp (fun m hm => h.same_at h0 hm) (h.cls_pts h0) (total L / 2) (by omega)
  refine ⟨g, ?_⟩
  have hf : (faceL L).length = cls (total L) (Lead fun x => natS (afterC (tabF L)) (onK (total L / 2) x)) := by
    unfold faceL
    rw [if_pos hc, cyc_cls (h.along hev) h16]
    have hs : ∀ x, x < total L → natS (alongC (tabF L)) x = natS (afterC (tabF L)) (onK (total L / 2) x) := fun x hx => by
      rw [onK_onat hev hx]
      unfold natS alongC
      rw [oth_onat x (by omega)]
    have hst := (h.along hev).stp
    apply cls_congr
    intro p q hp hq
    have hit : ∀ k, it (natS (alongC (tabF L))) k p = it (fun x => natS (afterC (tabF L)) (onK (total L / 2) x)) k p := by
      intro k
      induction k with
      | zero => rfl
      | succ k ih => rw [it_succ, it_succ, ← ih]; exact hs _ (hst.it hp k)
    constructor
    · rintro ⟨k, hk⟩; exact ⟨k, by rw [← hit]; exact hk⟩
    · rintro ⟨k, hk⟩; exact ⟨k, by rw [hit]; exact hk⟩
  unfold partN
  rw [hf]; exact hg
end
section
set_option maxRecDepth 4000
def rchI (L : List (List Int)) (met : List Int) (e : Int) : List Int := if idxL met (ptL L (otherI e)) < 0 then met ++ [ptL L (otherI e)] else met
def rchE (L : List (List Int)) (met : List Int) (x : Int) : List Int := (L.getD x.toNat []).foldl (rchI L) met
def rchF (L : List (List Int)) : Nat → Nat → List Int → List Int
  | 0, _, met => met
  | f + 1, i, met => if i < met.length then rchF L f (i + 1) (rchE L met (met.getD i 0)) else met
theorem rchI_mem {L : List (List Int)} {met : List Int} {e : Int} {x : Int} : x ∈ rchI L met e ↔ x ∈ met ∨ x = ptL L (otherI e) := by
  unfold rchI
  have h : idxL met (ptL L (otherI e)) < 0 ↔ ptL L (otherI e) ∉ met := by rw [← idxL_mem]; omega
  split
  · rw [List.mem_append, List.mem_singleton]
  · rename_i hh
    have : ptL L (otherI e) ∈ met := Classical.not_not.1 fun hn => hh (h.2 hn)
    constructor
    · exact .inl
    · rintro (h1 | rfl)
      · exact h1
      · exact this
theorem rchL_mem {L : List (List Int)} {x : Int} : ∀ {l met : List Int}, x ∈ l.foldl (rchI L) met ↔ x ∈ met ∨ ∃ e ∈ l, x = ptL L (otherI e)
  | [], met => by simp
  | e :: l, met => by
    rw [List.foldl_cons, rchL_mem, rchI_mem]
    constructor
    · rintro ((h | h) | ⟨e', h1, h2⟩)
      · exact .inl h
      · exact .inr ⟨e, List.mem_cons_self, h⟩
      · exact .inr ⟨e', List.mem_cons_of_mem _ h1, h2⟩
    · rintro (h | ⟨e', h1, h2⟩)
      · exact .inl (.inl h)
      · rcases List.mem_cons.1 h1 with rfl | h1
        · exact .inl (.inr h2)
        · exact .inr ⟨e', h1, h2⟩
theorem rchI_nodup {L : List (List Int)} {met : List Int} {e : Int} (h : met.Nodup) : (rchI L met e).Nodup := by
  unfold rchI
  split
  · rename_i hh
    have : ptL L (otherI e) ∉ met := fun hm => by rw [← idxL_mem] at hm; omega
    rw [List.nodup_append]
    exact ⟨h, by simp, fun a ha b hb => by rw [List.mem_singleton] at hb; subst hb; exact fun e => this (e ▸ ha)⟩
  · exact h
theorem rchL_nodup {L : List (List Int)} : ∀ {l met : List Int}, met.Nodup → (l.foldl (rchI L) met).Nodup
  | [], met, h => h
  | e :: l, met, h => rchL_nodup (l := l) (rchI_nodup h)
theorem rchI_pre {L : List (List Int)} {met : List Int} {e : Int} {i : Nat} {x : Int} (h : met[i]? = some x) : (rchI L met e)[i]? = some x := by
  unfold rchI
  split
  · rw [List.getElem?_append_left (List.getElem?_eq_some_iff.1 h).1]; exact h
  · exact h
theorem rchL_pre {L : List (List Int)} : ∀ {l met : List Int} {i : Nat} {x : Int}, met[i]? = some x → (l.foldl (rchI L) met)[i]? = some x
  | [], met, i, x, h => h
  | e :: l, met, i, x, h => rchL_pre (l := l) (rchI_pre h)
structure Good (L : List (List Int)) (n : Nat) : Prop where
  cov : Cov L n
  ne : ∀ l ∈ L, l.length ≠ 0
  ev : n % 2 = 0
  p16 : L.length ≤ 16
theorem chk_good {L : List (List Int)} (hc : chk L = 0) : Good L (total L) := by
  obtain ⟨-, -, h3, h4, -⟩ := tab_pts hc
  exact ⟨chk_cov hc, chk_ne hc, h3, h4⟩
theorem Good.atN {L n} (g : Good L n) {m : Nat} (hm : m < n) : Go.Sx.Ch.atN L m < L.length ∧ ptL L m = Go.Sx.Ch.atN L m := by
  obtain ⟨k, l, e1, -, -, e4⟩ := g.cov.pnt g.ne hm
  have := (List.getElem?_eq_some_iff.1 e1).1
  unfold Go.Sx.Ch.atN; rw [e4]
  constructor <;> omega
theorem Good.ends {L n} (g : Good L n) {q : Nat} (hq : q < L.length) {e : Int} (he : e ∈ L.getD q []) : ∃ m : Nat, m < n ∧ e = m ∧ Go.Sx.Ch.atN L m = q ∧ onat m < n ∧ ptL L (otherI e) = Go.Sx.Ch.atN L (onK n m) := by
  have hql : L[q]? = some (L.getD q []) := by rw [List.getD_eq_getElem?_getD, List.getElem?_eq_getElem hq]; rfl
  have hr := g.cov.rng e (List.mem_flatten.2 ⟨_, List.mem_of_getElem? hql, he⟩)
  obtain ⟨m, rfl⟩ := Int.eq_ofNat_of_zero_le hr.1
  have hm : m < n := by omega
  have ho := onat_lt g.ev hm
  refine ⟨m, hm, rfl, ?_, ho, ?_⟩
  · unfold Go.Sx.Ch.atN; rw [(g.cov.at g.ne hql he).2]; simp
  · have e1 : onK n m = onat m := by unfold onK onat; rw [if_pos (by omega)]
    rw [e1, other_onat m, (g.atN ho).2]
structure RInv (L : List (List Int)) (n p i : Nat) (met : List Int) : Prop where
  nd : met.Nodup
  pts : ∀ x ∈ met, ∃ k : Nat, k < L.length ∧ x = k ∧ Rch (Go.Sx.Ch.atN L) n p k
  fst : (p : Int) ∈ met
  i16 : i ≤ met.length
  cl : ∀ j, j < i → ∀ x, met[j]? = some x → ∀ e ∈ L.getD x.toNat [], ptL L (otherI e) ∈ met
theorem RInv.len {L n p i met} (h : RInv L n p i met) : met.length ≤ L.length := by
  have hs : ∀ x ∈ met, x ∈ (List.range L.length).map fun (k : Nat) => (k : Int) := fun x hx => by
    obtain ⟨k, hk, rfl, -⟩ := h.pts x hx
    exact List.mem_map.2 ⟨k, List.mem_range.2 hk, rfl⟩
  have := h.nd.length_le_of_subset hs
  simpa using this
theorem rinv_init {L n p} (hp : p < L.length) : RInv L n p 0 [(p : Int)] :=
  ⟨by simp, fun x hx => by rw [List.mem_singleton] at hx; exact ⟨p, hp, hx, .refl⟩, by simp, Nat.zero_le _, fun j hj => by omega⟩
theorem rinv_step {L n p i met} (g : Good L n) (h : RInv L n p i met) (hi : i < met.length) : RInv L n p (i + 1) (rchE L met (met.getD i 0)) := by
  have hx : met[i]? = some (met.getD i 0) := by rw [List.getD_eq_getElem?_getD, List.getElem?_eq_getElem hi]; rfl
  obtain ⟨q, hq, hqx, hr⟩ := h.pts _ (List.mem_of_getElem? hx)
  rw [hqx] at hx ⊢
  unfold rchE
  rw [Int.toNat_natCast]
  have hlen : i + 1 ≤ ((L.getD q []).foldl (rchI L) met).length := (List.getElem?_eq_some_iff.1 (rchL_pre (l := L.getD q []) (L := L) hx)).1
  refine ⟨rchL_nodup h.nd, fun x hxm => ?_, rchL_mem.2 (.inl h.fst), hlen, fun j hj x hjx e he => ?_⟩
  · rcases rchL_mem.1 hxm with h1 | ⟨e, he, rfl⟩
    · exact h.pts x h1
    · obtain ⟨m, m1, m2, m3, m4, m5⟩ := g.ends hq he
      rw [m5]
      have hk : onK n m < n := onK_in g.ev m1
      refine ⟨_, (g.atN hk).1, rfl, ?_⟩
      refine .step ?_ m1
      rw [m3]; exact hr
  · have hjm : j < met.length := by omega
    have e2 := rchL_pre (l := L.getD q []) (L := L) (List.getElem?_eq_getElem hjm)
    rw [e2] at hjx
    have hjx' : met[j]? = some x := by rw [List.getElem?_eq_getElem hjm]; exact hjx
    by_cases hji : j < i
    · exact rchL_mem.2 (.inl (h.cl j hji x hjx' e he))
    · have : j = i := by omega
      subst this
      rw [hx] at hjx'
      have hxq : x = (q : Int) := (Option.some.inj hjx').symm
      subst hxq
      rw [Int.toNat_natCast] at he
      exact rchL_mem.2 (.inr ⟨e, he, rfl⟩)
theorem rinv_end {L n p} (g : Good L n) : ∀ {f i : Nat} {met : List Int}, RInv L n p i met → 17 ≤ f + i → ∃ R, rchF L f i met = R ∧ RInv L n p R.length R
  | 0, i, met, h, hf => by
    have := h.len; have := h.i16; have := g.p16; omega
  | f + 1, i, met, h, hf => by
    unfold rchF
    by_cases hi : i < met.length
    · rw [if_pos hi]
      exact rinv_end g (rinv_step g h hi) (by omega)
    · rw [if_neg hi]
      have := h.i16
      have : i = met.length := by omega
      exact ⟨met, rfl, this ▸ h⟩
def rchd (L : List (List Int)) (p : Nat) : List Int := rchF L 17 0 [(p : Int)]
theorem rchd_mem {L n p} (g : Good L n) (hp : p < L.length) {q : Nat} (hq : q < L.length) : (q : Int) ∈ rchd L p ↔ Rch (Go.Sx.Ch.atN L) n p q := by
  obtain ⟨R, hR, h⟩ := rinv_end (p := p) g (f := 17) (rinv_init hp) (by omega)
  unfold rchd
  rw [hR]
  constructor
  · intro hm
    obtain ⟨k, -, he, hr⟩ := h.pts _ hm
    have : q = k := by omega
    rw [this]; exact hr
  · intro hr
    clear hq
    induction hr with
    | refl => exact h.fst
    | @step m hr hm ih =>
      obtain ⟨j, hj, hje⟩ := List.getElem_of_mem ih
      have hat := g.atN hm
      obtain ⟨k, l, e1, e2, -, e4⟩ := g.cov.pnt g.ne hm
      have hkm : Go.Sx.Ch.atN L m = k := by unfold Go.Sx.Ch.atN; rw [e4]; simp
      have hel : (m : Int) ∈ L.getD ((Go.Sx.Ch.atN L m : Nat) : Int).toNat [] := by
        rw [Int.toNat_natCast, hkm, List.getD_eq_getElem?_getD, e1]; exact e2
      have := h.cl j hj _ (by rw [List.getElem?_eq_getElem hj, hje]) m hel
      have hgl : L.getD (Go.Sx.Ch.atN L m) [] = L.getD ((Go.Sx.Ch.atN L m : Nat) : Int).toNat [] := by rw [Int.toNat_natCast]
      obtain ⟨m', m1, m2, -, -, m5⟩ := g.ends hat.1 (e := (m : Int)) (by rw [hgl]; exact hel)
      have : m' = m := by omega
      subst this
      rw [← m5]; assumption
theorem rchd_ne {L n p} (g : Good L n) (hp : p < L.length) : 0 < (rchd L p).length := by
  have := (rchd_mem g hp hp).2 .refl
  exact List.length_pos_iff.2 fun e => by rw [e] at this; cases this
def partR (L : List (List Int)) : Nat := ((List.range L.length).filter fun p => decide (hd (rchd L p) = p)).length
open Classical in
theorem part_eq {L : List (List Int)} (hc : chk L = 0) : partN L = partR L := by
  have g := chk_good hc
  have hat : ∀ m, m < total L → Go.Sx.Ch.atN L m < L.length := fun m hm => (g.atN hm).1
  have ok := lab_ok (at' := Go.Sx.Ch.atN L) g.p16 hat (total L / 2) (by omega)
  unfold partN
  rw [← ok.cnt]
  unfold cls partR
  congr 2
  apply List.filter_congr
  intro p hp
  rw [List.mem_range] at hp
  apply decide_eq_decide.2
  have hpos := rchd_ne g hp
  obtain ⟨-, h1, h2⟩ := hd_facts hpos
  have lab : ∀ q, q < L.length → (Lab (Go.Sx.Ch.atN L) L.length (total L / 2) q p ↔ (q : Int) ∈ rchd L p) := fun q hq => by
    rw [rchd_mem g hp hq]
    constructor
    · intro h; exact (lab_rch g.p16 g.ev hat _ (by omega) q p hq hp h).symm g.ev
    · intro h; exact (rch_lab g.p16 g.ev hat h).symm
  obtain ⟨R, hR, hI⟩ := rinv_end (p := p) g (f := 17) (rinv_init hp) (by omega)
  have hpts : ∀ x ∈ rchd L p, ∃ k : Nat, k < L.length ∧ x = k := fun x hx => by
    have hx' : x ∈ R := by rw [← hR]; exact hx
    obtain ⟨k, k1, k2, -⟩ := hI.pts x hx'
    exact ⟨k, k1, k2⟩
  constructor
  · intro hl
    have hself := h2 p ((rchd_mem g hp hp).2 .refl)
    obtain ⟨k, k1, k2⟩ := hpts _ h1
    rw [k2] at hself h1 ⊢
    by_cases e : k = p
    · rw [e]
    · exact absurd ((lab k k1).2 h1) (hl k (by omega))
  · intro he q hq hl
    have := h2 q ((lab q (by omega)).1 hl)
    omega
def genN (L : List (List Int)) : Int := (2 * (partR L : Int) + (total L / 2 : Nat) - L.length - (faceL L).length).tdiv 2
theorem genus_eq {L : List (List Int)} (hc : chk L = 0) : partN L - ((L.length : Int) - (total L / 2 : Nat) + (faceL L).length).tdiv 2 = genN L := by
  obtain ⟨g, hg⟩ := euler_map hc
  have hp := part_eq hc
  unfold genN
  rw [hp] at hg ⊢
  have e1 : (L.length : Int) - (total L / 2 : Nat) + (faceL L).length = 2 * ((partR L : Int) - g) := by omega
  have e2 : 2 * (partR L : Int) + (total L / 2 : Nat) - L.length - (faceL L).length = 2 * (g : Int) := by omega
  rw [e1, e2, Int.mul_tdiv_cancel_left _ (by decide), Int.mul_tdiv_cancel_left _ (by decide)]
  omega
end
section
def gdM (L : List (List Int)) : Bool := smM L && decide (chk L = 0)
end
end Go.Sx.Ch
