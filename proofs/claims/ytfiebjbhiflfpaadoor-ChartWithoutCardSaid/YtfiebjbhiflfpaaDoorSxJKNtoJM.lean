/- Without a line: the genus is the same, or smaller by 1 (plain). No conditions. -/
import Derived.Test.YtfiebjbhiflfpaaDoorSxJKOtoJS
import Derived.Test.YtfiebjbhiflfpaaDoorSxJKBtoCO
import Derived.Test.YtfiebjbhiflfpaaDoorSxJJAtoKI
set_option linter.unusedVariables false
set_option linter.unusedSimpArgs false
namespace Go.Sx.Ch
open Go Go.Sx Go.Proofs
section
set_option maxRecDepth 4000
def Nx (l : List Int) (x y : Int) : Prop := ∃ k, k < l.length ∧ l[k]? = some x ∧ l.getD ((k + 1) % l.length) 0 = y
theorem Nx.rot {A C : List Int} {x y : Int} (h : Nx (A ++ C) x y) : Nx (C ++ A) x y := by
  rcases A with _ | ⟨a, A⟩
  · simpa using h
  have e : (a :: A) ++ C = Go.Sx.Ch.rot C.length (C ++ a :: A) := by
    unfold Go.Sx.Ch.rot
    rw [List.drop_left' rfl, List.take_left' rfl]
  have hlen : ((a :: A) ++ C).length = (C ++ a :: A).length := by simp; omega
  obtain ⟨k, h1, h2, h3⟩ := h
  rw [hlen] at h1 h3
  rw [e] at h2 h3
  have ht : C.length < (C ++ a :: A).length := by simp
  generalize C ++ a :: A = l at *
  generalize C.length = t at *
  rw [rot_get ht h1] at h2
  refine ⟨(t + k) % l.length, Nat.mod_lt _ (by omega), h2, ?_⟩
  have hm : (k + 1) % l.length < l.length := Nat.mod_lt _ (by omega)
  rw [List.getD_eq_getElem?_getD, rot_get ht hm] at h3
  rw [List.getD_eq_getElem?_getD, Nat.mod_add_mod, Nat.add_assoc]
  rw [Nat.add_mod_mod] at h3
  exact h3
theorem Nx.out {A B : List Int} {e x y : Int} (hx : x ≠ e) (hnd : (A ++ e :: B).Nodup) (h : Nx (A ++ e :: B) x y) : (y ≠ e → Nx (A ++ B) x y) ∧ (y = e → ∀ z, Nx (A ++ e :: B) e z → Nx (A ++ B) x z) := by
  have hR : e ∉ B ++ A := by
    obtain ⟨n1, n2, n3⟩ := List.nodup_append.1 hnd
    obtain ⟨n4, n5⟩ := List.nodup_cons.1 n2
    intro hm
    rcases List.mem_append.1 hm with hm | hm
    · exact n4 hm
    · exact n3 e hm e List.mem_cons_self rfl
  have hr := h.rot
  have hz : ∀ z, Nx (A ++ e :: B) e z → Nx (e :: (B ++ A)) e z := fun z hz => hz.rot
  have back : ∀ y, Nx (B ++ A) x y → Nx (A ++ B) x y := fun y hy => hy.rot
  rw [List.cons_append] at hr
  generalize B ++ A = R at *
  obtain ⟨k, h1, h2, h3⟩ := hr
  rcases k with _ | i
  · simp at h2; exact absurd h2.symm hx
  rw [List.getElem?_cons_succ] at h2
  have hi := (List.getElem?_eq_some_iff.1 h2).1
  rw [List.length_cons] at h3
  rcases Nat.lt_or_ge (i + 1) R.length with c | c
  · rw [Nat.mod_eq_of_lt (by omega), List.getD_cons_succ] at h3
    have hy : R[i + 1]? = some y := by
      rw [List.getD_eq_getElem?_getD, List.getElem?_eq_getElem c] at h3
      rw [List.getElem?_eq_getElem c]; exact congrArg some h3
    refine ⟨fun _ => back y ⟨i, hi, h2, by rw [Nat.mod_eq_of_lt c]; exact h3⟩, fun he => absurd (he ▸ List.mem_of_getElem? hy) hR⟩
  · have e1 : i + 1 = R.length := by omega
    rw [show i + 1 + 1 = R.length + 1 by omega, Nat.mod_self, List.getD_cons_zero] at h3
    refine ⟨fun hy => absurd h3.symm hy, fun _ z hzz => back z ⟨i, hi, h2, ?_⟩⟩
    obtain ⟨k, k1, k2, k3⟩ := hz z hzz
    rcases k with _ | k
    · rw [List.length_cons, Nat.mod_eq_of_lt (by omega), List.getD_cons_succ] at k3
      rw [e1, Nat.mod_self]; exact k3
    · rw [List.getElem?_cons_succ] at k2
      exact absurd (List.mem_of_getElem? k2) hR
def flE (e : Int) (l : List Int) : List Int := l.filter fun x => decide (x ≠ e)
theorem flE_mid {A B : List Int} {e : Int} (hnd : (A ++ e :: B).Nodup) : flE e (A ++ e :: B) = A ++ B := by
  obtain ⟨n1, n2, n3⟩ := List.nodup_append.1 hnd
  obtain ⟨n4, n5⟩ := List.nodup_cons.1 n2
  unfold flE
  rw [List.filter_append, List.filter_cons, if_neg (by simp)]
  rw [List.filter_eq_self.2 fun x hx => by simpa using n3 x hx e List.mem_cons_self, List.filter_eq_self.2 fun x hx => by
    have : x ≠ e := fun h => n4 (h ▸ hx)
    simpa using this]
theorem flE_off {l : List Int} {e : Int} (h : e ∉ l) : flE e l = l := List.filter_eq_self.2 fun x hx => by
  have : x ≠ e := fun hh => h (hh ▸ hx)
  simpa using this
theorem flE_flat (e : Int) : ∀ G : List (List Int), (G.map (flE e)).flatten = flE e G.flatten
  | [] => rfl
  | l :: G => by
    rw [List.map_cons, List.flatten_cons, List.flatten_cons, flE_flat e G]
    unfold flE
    rw [List.filter_append]
structure Gd (G : List (List Int)) : Prop where
  h16 : G.all in16 = true
  nd : G.flatten.Nodup
theorem Gd.ndl {G : List (List Int)} (h : Gd G) {l : List Int} (hl : l ∈ G) : l.Nodup := by
  have hnd := h.nd
  obtain ⟨A, B, rfl⟩ := List.append_of_mem hl
  rw [List.flatten_append, List.flatten_cons] at hnd
  obtain ⟨-, h2, -⟩ := List.nodup_append.1 hnd
  exact (List.nodup_append.1 h2).1
theorem Gd.fl {G : List (List Int)} (h : Gd G) (e : Int) : Gd (G.map (flE e)) := by
  refine ⟨List.all_eq_true.2 fun l hl => ?_, ?_⟩
  · obtain ⟨l0, h0, rfl⟩ := List.mem_map.1 hl
    have := List.all_eq_true.1 h.h16 l0 h0
    exact List.all_eq_true.2 fun x hx => List.all_eq_true.1 this x (List.mem_filter.1 hx).1
  · rw [flE_flat]
    exact h.nd.filter _
theorem Gd.nx {G : List (List Int)} (h : Gd G) {l : List Int} (hl : l ∈ G) {m : Nat} {y : Int} (hx : Nx l m y) : afterC (tabF G) m = y := by
  obtain ⟨k, k1, k2, k3⟩ := hx
  rw [tabF_after h.h16 h.nd hl k1 k2, k3]
theorem Nx.ex {l : List Int} {x : Int} (hx : x ∈ l) : ∃ y, Nx l x y ∧ y ∈ l := by
  obtain ⟨k, hk, e⟩ := List.getElem_of_mem hx
  obtain ⟨-, y, -, y2, y3⟩ := next_get hk
  exact ⟨y, ⟨k, hk, by rw [List.getElem?_eq_getElem hk, e], y2⟩, y3⟩
theorem Gd.after {G : List (List Int)} (h : Gd G) {e m : Nat} (hm : (m : Int) ∈ G.flatten) (hme : m ≠ e) : afterC (tabF (G.map (flE e))) m = if afterC (tabF G) m = e then afterC (tabF G) e else afterC (tabF G) m := by
  obtain ⟨l, hl, hx⟩ := List.mem_flatten.1 hm
  obtain ⟨y, hy, hyl⟩ := Nx.ex hx
  have hme' : (m : Int) ≠ e := by omega
  have e0 := h.nx hl hy
  have hl' : flE e l ∈ G.map (flE e) := List.mem_map.2 ⟨l, hl, rfl⟩
  rw [e0]
  by_cases hel : (e : Int) ∈ l
  · obtain ⟨A, B, rfl⟩ := List.append_of_mem hel
    have hnd := h.ndl hl
    obtain ⟨o1, o2⟩ := Nx.out hme' hnd hy
    rw [flE_mid hnd] at hl'
    by_cases c : y = e
    · rw [if_pos c]
      obtain ⟨z, hz, -⟩ := Nx.ex hel
      rw [h.nx hl hz]
      exact (h.fl e).nx hl' (o2 c z hz)
    · rw [if_neg c]
      exact (h.fl e).nx hl' (o1 c)
  · rw [flE_off hel] at hl'
    have : y ≠ e := fun hh => hel (hh ▸ hyl)
    rw [if_neg this]
    exact (h.fl e).nx hl' hy
def shf (n : Int) (v : Int) : Int := if v < 2 * n then v else v - 2
theorem flt_shf (n : Int) : ∀ l : List Int, flt n l = (flE (2 * n + 1) (flE (2 * n) l)).map (shf n)
  | [] => rfl
  | v :: l => by
    have ih := flt_shf n l
    unfold flt flE shf at *
    rw [List.filterMap_cons, ih]
    by_cases c1 : v < 2 * n
    · have c2 : v ≠ 2 * n := by omega
      have c3 : v ≠ 2 * n + 1 := by omega
      simp [c1, c2, c3]
    · by_cases c2 : v = 2 * n
      · subst c2
        have c4 : ¬ (2 * n + 1 < 2 * n) := by omega
        simp [c4]
      · by_cases c3 : v = 2 * n + 1
        · subst c3
          have : ¬ (2 * n + 1 < 2 * n) := by omega
          have : ¬ (2 * n + 1 = 2 * n) := by omega
          simp [*]
        · have : 2 * n + 1 < v := by omega
          simp [c1, c2, c3, this]
theorem Nx.map {l : List Int} {x y : Int} (f : Int → Int) (h : Nx l x y) : Nx (l.map f) (f x) (f y) := by
  obtain ⟨k, k1, k2, k3⟩ := h
  have hm : (k + 1) % l.length < l.length := Nat.mod_lt _ (by omega)
  refine ⟨k, by simpa using k1, by rw [List.getElem?_map, k2]; rfl, ?_⟩
  rw [List.getD_eq_getElem?_getD, List.length_map, List.getElem?_map, List.getElem?_eq_getElem hm]
  rw [List.getD_eq_getElem?_getD, List.getElem?_eq_getElem hm] at k3
  simp only [Option.getD_some, Option.map_some] at k3 ⊢
  rw [k3]
theorem Stp.pre {s n} (h : Stp s n) {e : Nat} (he : e < n) : ∃ p, p < n ∧ s p = e := by
  obtain ⟨q, q0, -, hq⟩ := h.per he
  obtain ⟨q, rfl⟩ : ∃ q', q = q' + 1 := ⟨q - 1, by omega⟩
  rw [it_succ] at hq
  exact ⟨_, h.it he q, hq⟩
theorem lead_cong {f g : Nat → Nat} {n : Nat} (hf : Stp f n) (h : ∀ x, x < n → f x = g x) : cls n (Lead f) = cls n (Lead g) := by
  refine cls_congr fun x y hx hy => ?_
  have hit : ∀ k, it f k x = it g k x := fun k => by
    induction k with
    | zero => rfl
    | succ k ih => rw [it_succ, it_succ, ← ih]; exact h _ (hf.it hx k)
  constructor
  · rintro ⟨k, hk⟩; exact ⟨k, by rw [← hit]; exact hk⟩
  · rintro ⟨k, hk⟩; exact ⟨k, by rw [hit]; exact hk⟩
theorem con_all {s : Nat → Nat} {n : Nat} {ls : List Nat} (hs : Stp s n) (hev : n % 2 = 0) (h : ∀ k, k ∈ ls ↔ k < n / 2) : cls n (ConA s n ls) = cls n (Con s n) := by
  refine cls_congr fun x y hx hy => ?_
  clear hy
  constructor
  · intro c
    induction c with
    | refl => exact .refl
    | st h1 hy ih => exact .st ih hy
    | @ln y k h1 hy hk ih =>
      by_cases e : y / 2 = k
      · rw [sw_onat e]; exact .ot ih hy
      · rw [sw_off e]; exact ih
  · intro c
    induction c with
    | refl => exact .refl
    | st h1 hy ih => exact .st ih hy
    | @ot y h1 hy ih =>
      have := ConA.ln ih hy ((h (y / 2)).2 (by omega))
      rwa [sw_onat rfl] at this
theorem face_cls {L : List (List Int)} (hc : chk L = 0) : (faceL L).length = cls (total L) (Lead fun x => stpM L (onat x)) := by
  obtain ⟨-, h16, hev, -, -⟩ := tab_pts hc
  have hcv := chk_cov hc
  unfold faceL
  rw [if_pos hc, cyc_cls (hcv.along hev) h16]
  refine lead_cong (hcv.along hev).stp fun x hx => ?_
  unfold stpM natS alongC
  rw [oth_onat x (by omega)]
theorem pts_cls {L : List (List Int)} (hc : chk L = 0) : L.length = cls (total L) (Lead (stpM L)) := ((chk_cov hc).cls_pts (chk_ne hc)).symm
theorem onat_stp {n : Nat} (hev : n % 2 = 0) {s : Nat → Nat} (h : Stp s n) : Stp (fun x => s (onat x)) n :=
  ⟨fun x hx => h.rng _ (onat_lt hev hx), fun x y hx hy e => onat_inj (h.inj _ _ (onat_lt hev hx) (onat_lt hev hy) e)⟩
theorem wit_gen {L : List (List Int)} {l : Nat} (hc : chk L = 0) (hin : 2 * l + 1 < total L) :
    chk (cyc (afterC (tabF (witL l L))) (total L - 2)) = 0 ∧ total (cyc (afterC (tabF (witL l L))) (total L - 2)) = total L - 2 ∧
    (genN (cyc (afterC (tabF (witL l L))) (total L - 2)) = genN L ∨ genN (cyc (afterC (tabF (witL l L))) (total L - 2)) = genN L - 1) := by
  obtain ⟨-, h16, hev, -, -⟩ := tab_pts hc
  have hcv := chk_cov hc
  have hil : inLine l L = true := by simp only [inLine, Bool.and_eq_true, decide_eq_true_eq]; omega
  have hcw := wit_cov hc hil
  have hpw := hcw.prm
  obtain ⟨w1, w2, -, w4⟩ := cyc_map hpw (by omega) (by omega)
  refine ⟨w1, w2, ?_⟩
  obtain ⟨gL, q1, q2, -⟩ := gen_nat hc
  obtain ⟨gW, r1, r2, -⟩ := gen_nat w1
  rw [q1, r1]
  rw [w2] at r2
  have fL := face_cls hc
  have fW := face_cls w1
  have pL := pts_cls hc
  have pW := pts_cls w1
  have cL := part_con hc
  have cW := part_con w1
  rw [part_eq hc] at cL
  rw [part_eq w1, w2] at cW
  rw [w2] at fW pW
  have hst : Stp (stpM L) (total L) := hcv.prm.stp
  -- the step of what is left
  have htS : Stp (natS (afterC (tabF (witL l L)))) (total L - 2) := hpw.stp
  have same : ∀ x, x < total L - 2 → stpM (cyc (afterC (tabF (witL l L))) (total L - 2)) x = natS (afterC (tabF (witL l L))) x := fun x hx => by
    unfold stpM natS; rw [w4 x hx]
  have hW0 : Stp (stpM (cyc (afterC (tabF (witL l L))) (total L - 2))) (total L - 2) := by
    have := (chk_cov w1).prm.stp
    rw [w2] at this; exact this
  rw [lead_cong hW0 same] at pW
  rw [lead_cong (onat_stp (by omega) hW0) (g := fun x => natS (afterC (tabF (witL l L))) (onat x)) fun x hx => same _ (onat_lt (by omega) hx)] at fW
  have cc : cls (total L - 2) (Con (stpM (cyc (afterC (tabF (witL l L))) (total L - 2))) (total L - 2)) = cls (total L - 2) (Con (natS (afterC (tabF (witL l L)))) (total L - 2)) := cls_congr fun x y hx hy =>
    ⟨Con.mono fun y hy => by rw [same y hy]; exact .st .refl hy, Con.mono fun y hy => by rw [← same y hy]; exact .st .refl hy⟩
  rw [cc] at cW
  -- the ends are taken out
  have hs16 : Gd L := ⟨hcv.h16, hcv.nd⟩
  have hmem : ∀ {m : Nat}, m < total L → (m : Int) ∈ L.flatten := fun hm => hcv.cover hm
  have hs0 : ∀ m, m < total L → afterC (tabF L) m = stpM L m := fun m hm => (hcv.prm.nat hm).1
  generalize hn : total L = n at *
  obtain ⟨p1, p1n, hp1⟩ := hst.pre (e := 2 * l) (by omega)
  have hst1 : Stp (fun x => stpM L (sw p1 (2 * l) x)) n := hst.sw (b := 2 * l) p1n (by omega)
  obtain ⟨p2, p2n, hp2⟩ := hst1.pre (e := 2 * l + 1) (by omega)
  have hst2 : Stp (fun x => (fun x => stpM L (sw p1 (2 * l) x)) (sw p2 (2 * l + 1) x)) n := hst1.sw (b := 2 * l + 1) p2n (by omega)
  have f1 : stpM L (sw p1 (2 * l) (2 * l)) = 2 * l := by
    unfold sw
    by_cases e : 2 * l = p1
    · rw [if_pos e, e]; rw [e] at hp1; exact hp1
    · rw [if_neg e, if_pos rfl]; exact hp1
  have f2 : stpM L (sw p1 (2 * l) (sw p2 (2 * l + 1) (2 * l + 1))) = 2 * l + 1 := by
    unfold sw at hp2 ⊢
    by_cases e : 2 * l + 1 = p2
    · rw [if_pos e, e]; rw [e] at hp2; exact hp2
    · rw [if_neg e, if_pos rfl]; exact hp2
  have hp2n : p2 ≠ 2 * l := fun e => by
    rw [e] at hp2
    simp only [f1] at hp2
    omega
  have f1' : stpM L (sw p1 (2 * l) (sw p2 (2 * l + 1) (2 * l))) = 2 * l := by
    rw [sw.eq_1 p2, if_neg (fun e => hp2n e.symm), if_neg (by omega)]
    exact f1
  have a1 : ∀ m, m < n → m ≠ 2 * l → afterC (tabF (L.map (flE (2 * l : Nat)))) m = stpM L (sw p1 (2 * l) m) := fun m hm hne => by
    rw [hs16.after (hmem hm) hne, hs0 m hm, hs0 _ (by omega)]
    unfold sw
    by_cases e : m = p1
    · rw [if_pos e, e, hp1, if_pos rfl]
    · have : stpM L m ≠ 2 * l := fun hh => e (hst.inj m p1 hm p1n (by rw [hh, hp1]))
      rw [if_neg (by omega), if_neg e, if_neg hne]
  have hmem1 : ∀ {m : Nat}, m < n → m ≠ 2 * l → (m : Int) ∈ (L.map (flE (2 * l : Nat))).flatten := fun hm hne => by
    rw [flE_flat]; exact List.mem_filter.2 ⟨hmem hm, by simp; omega⟩
  have a2 : ∀ m, m < n → m ≠ 2 * l → m ≠ 2 * l + 1 → afterC (tabF ((L.map (flE (2 * l : Nat))).map (flE (2 * l + 1 : Nat)))) m = stpM L (sw p1 (2 * l) (sw p2 (2 * l + 1) m)) := fun m hm hne hne2 => by
    rw [(hs16.fl _).after (hmem1 hm hne) hne2, a1 m hm hne, a1 _ (by omega) (by omega)]
    by_cases e : m = p2
    · have e2 : stpM L (sw p1 (2 * l) m) = 2 * l + 1 := by rw [e]; exact hp2
      rw [if_pos (by omega)]
      rw [sw.eq_1 p2, if_pos e]
    · have : stpM L (sw p1 (2 * l) m) ≠ 2 * l + 1 := fun hh => e (hst1.inj m p2 hm p2n (by simp only [hh, hp2]))
      rw [if_neg (by omega), sw.eq_1 p2, if_neg e, if_neg hne2]
  have step : ∀ x, x < n - 2 → stpM L (sw p1 (2 * l) (sw p2 (2 * l + 1) (iot l x))) = iot l (natS (afterC (tabF (witL l L))) x) := fun x hx => by
    have hlt := iot_lt hin hx
    obtain ⟨i1, i2⟩ := @iot_ne l x
    have h2 := a2 _ hlt i1 i2
    have hG2 : Gd ((L.map (flE (2 * l : Nat))).map (flE (2 * l + 1 : Nat))) := (hs16.fl _).fl _
    have hm2 : ((iot l x : Nat) : Int) ∈ ((L.map (flE (2 * l : Nat))).map (flE (2 * l + 1 : Nat))).flatten := by
      rw [flE_flat]; exact List.mem_filter.2 ⟨hmem1 hlt i1, by simp; omega⟩
    obtain ⟨k, hk, hxk⟩ := List.mem_flatten.1 hm2
    obtain ⟨y, hy, hyk⟩ := Nx.ex hxk
    have e2 := hG2.nx hk hy
    rw [h2] at e2
    have hw : k.map (shf l) ∈ witL l L := by
      obtain ⟨k1, hk1, rfl⟩ := List.mem_map.1 hk
      obtain ⟨k0, hk0, rfl⟩ := List.mem_map.1 hk1
      refine List.mem_map.2 ⟨k0, hk0, ?_⟩
      rw [flt_shf]; rfl
    have hsx : shf l (iot l x : Nat) = x := by
      unfold shf iot
      by_cases c : x < 2 * l
      · rw [if_pos c, if_pos (by omega)]
      · rw [if_neg c, if_neg (by omega)]; omega
    have hGw : Gd (witL l L) := ⟨hcw.h16, hcw.nd⟩
    have := hy.map (shf l)
    rw [hsx] at this
    have e3 := hGw.nx hw this
    have hr := (hpw.nat hx).1
    rw [e3, ← e2] at hr
    generalize hv : stpM L (sw p1 (2 * l) (sw p2 (2 * l + 1) (iot l x))) = v at *
    have hv1 : v ≠ 2 * l := fun hh => i1 (hst2.inj _ _ hlt (by omega) (by
      show stpM L (sw p1 (2 * l) (sw p2 (2 * l + 1) (iot l x))) = stpM L (sw p1 (2 * l) (sw p2 (2 * l + 1) (2 * l)))
      rw [hv, f1', hh]))
    have hv2 : v ≠ 2 * l + 1 := fun hh => i2 (hst2.inj _ _ hlt (by omega) (by
      show stpM L (sw p1 (2 * l) (sw p2 (2 * l + 1) (iot l x))) = stpM L (sw p1 (2 * l) (sw p2 (2 * l + 1) (2 * l + 1)))
      rw [hv, f2, hh]))
    unfold shf at hr
    unfold iot
    by_cases c : v < 2 * l
    · rw [if_pos (by omega)] at hr
      rw [if_pos (by omega)]; omega
    · rw [if_neg (by omega)] at hr
      rw [if_neg (by omega)]; omega
  generalize natS (afterC (tabF (witL l L))) = t at *
  generalize stpM L = s at *
  -- the lines but one
  obtain ⟨ls, hnd, hls, hlen⟩ : ∃ ls : List Nat, ls.Nodup ∧ (∀ k, k ∈ ls ↔ k < n / 2 ∧ k ≠ l) ∧ ls.length + 1 = n / 2 := by
    refine ⟨(List.range (n / 2)).erase l, List.nodup_range.erase l, fun k => ?_, ?_⟩
    · rw [List.nodup_range.mem_erase_iff, List.mem_range, and_comm]
    · rw [List.length_erase_of_mem (List.mem_range.2 (by omega)), List.length_range]; omega
  have hL1 : Lns n ls := fun k hk => by have := (hls k).1 hk; omega
  have hL2 : Lns n (l :: ls) := fun k hk => by
    rcases List.mem_cons.1 hk with rfl | hk
    · exact hin
    · exact hL1 k hk
  have hll : l ∉ ls := fun h => ((hls l).1 h).2 rfl
  have hnd2 : (l :: ls).Nodup := List.nodup_cons.2 ⟨hll, hnd⟩
  have hall : ∀ k, k ∈ l :: ls ↔ k < n / 2 := fun k => by
    rw [List.mem_cons, hls]
    constructor
    · rintro (rfl | h) <;> omega
    · intro h
      by_cases e : k = l
      · exact .inl e
      · exact .inr ⟨h, e⟩
  obtain ⟨g, E⟩ := eulA hst hL1
  have E1 := iso_eul hst hL1 hnd p1n (e := 2 * l) (by omega) hp1 (by rw [show 2 * l / 2 = l by omega]; exact hll) E
  have E2 := iso_eul hst1 hL1 hnd p2n (e := 2 * l + 1) (by omega) hp2 (by rw [show (2 * l + 1) / 2 = l by omega]; exact hll) E1
  have ia : ∀ x, x < n - 2 → (fun x => s (sw p1 (2 * l) (sw p2 (2 * l + 1) (onA ls x)))) (iot l x) = iot l ((fun x => t (onat x)) x) := fun x hx => by
    obtain ⟨i1, i2⟩ := @iot_ne l x
    have hm : iot l x / 2 ∈ ls := (hls _).2 ⟨by have := iot_lt hin hx; omega, by omega⟩
    show s (sw p1 (2 * l) (sw p2 (2 * l + 1) (onA ls (iot l x)))) = iot l (t (onat x))
    rw [onA_eq hnd, if_pos hm, iot_onat]
    exact step _ (onat_lt (by omega) hx)
  have hoa : ∀ {e}, e / 2 = l → onA ls e = e := fun {e} he => by rw [onA_eq hnd, if_neg (by rw [he]; exact hll)]
  have k1 := lead_ins (f := fun x => s (sw p1 (2 * l) (sw p2 (2 * l + 1) x))) hin hst2 htS step f1' f2
  have k2 := lead_ins (f := fun x => s (sw p1 (2 * l) (sw p2 (2 * l + 1) (onA ls x)))) (t := fun x => t (onat x)) hin (stpA hst2 hL1) (onat_stp (by omega) htS) ia (by simp only [hoa (show 2 * l / 2 = l by omega)]; exact f1') (by simp only [hoa (show (2 * l + 1) / 2 = l by omega)]; exact f2)
  have k3 := con_ins (f := fun x => s (sw p1 (2 * l) (sw p2 (2 * l + 1) x))) (ls := ls) hin hev hst2 htS step f1' f2 hls
  have EF : Eul s n (l :: ls) g ∨ Eul s n (l :: ls) (g + 1) := eulA_step hst hL2 E
  have m1 := con_all (ls := l :: ls) hst hev hall
  have m2 : cls n (Lead fun x => s (onA (l :: ls) x)) = cls n (Lead fun x => s (onat x)) := lead_cong (stpA hst hL2) fun x hx => by
    rw [onA_eq hnd2, if_pos ((hall _).2 (by omega))]
  have E3 : 2 * cls n (ConA (fun x => s (sw p1 (2 * l) (sw p2 (2 * l + 1) x))) n ls) + ls.length = cls n (Lead fun x => s (sw p1 (2 * l) (sw p2 (2 * l + 1) x))) + cls n (Lead fun x => s (sw p1 (2 * l) (sw p2 (2 * l + 1) (onA ls x)))) + 2 * g := E2
  have EF' : ∃ g', (g' = g ∨ g' = g + 1) ∧ 2 * cls n (Con s n) + (n / 2) = cls n (Lead s) + cls n (Lead fun x => s (onat x)) + 2 * g' := by
    rcases EF with e | e
    · refine ⟨g, .inl rfl, ?_⟩
      unfold Eul at e
      rw [m1, m2, List.length_cons] at e
      omega
    · refine ⟨g + 1, .inr rfl, ?_⟩
      unfold Eul at e
      rw [m1, m2, List.length_cons] at e
      omega
  obtain ⟨g', hg', E4⟩ := EF'
  rw [k1, k2, k3] at E3
  omega
end
section
set_option maxRecDepth 4000
/-! ### Plain -/
def wantL (n : Int) (L : List (List Int)) : List (List Int) := (witL n L).filter fun l => decide (l ≠ [])
theorem flat_ne : ∀ G : List (List Int), (G.filter fun l => decide (l ≠ [])).flatten = G.flatten
  | [] => rfl
  | [] :: G => by simpa using flat_ne G
  | (a :: l) :: G => by
    rw [List.filter_cons, if_pos (by simp), List.flatten_cons, List.flatten_cons, flat_ne G]
theorem want_cov {L : List (List Int)} {n : Int} (hc : chk L = 0) (hin : inLine n L = true) : Cov (wantL n L) (total L - 2) ∧ (∀ l ∈ wantL n L, l.length ≠ 0) ∧ chk (wantL n L) = 0 := by
  obtain ⟨-, h16, hev, -, -⟩ := tab_pts hc
  have h := wit_cov hc hin
  have hf : (wantL n L).flatten = (witL n L).flatten := flat_ne _
  have c : Cov (wantL n L) (total L - 2) := ⟨by rw [hf]; exact h.nd, by rw [hf]; exact h.rng, by rw [← total_flatten, hf, total_flatten, h.len], h.le⟩
  have hne : ∀ l ∈ wantL n L, l.length ≠ 0 := fun l hl => by
    have := (List.mem_filter.1 hl).2
    rw [decide_eq_true_eq] at this
    exact fun e => this (List.length_eq_zero_iff.1 e)
  exact ⟨c, hne, c.chk hne (by omega)⟩
theorem want_tid {L : List (List Int)} {n : Int} (hc : chk L = 0) (hin : inLine n L = true) : tidL (wantL n L) = witC n L := by
  obtain ⟨c, hne, hk⟩ := want_cov hc hin
  have h := wit_cov hc hin
  unfold tidL witC
  rw [if_pos hk, c.len, h.len]
  refine cyc_cong h.prm fun m hm => ?_
  obtain ⟨l, hl, hx⟩ := List.mem_flatten.1 (h.cover hm)
  obtain ⟨y, hy, -⟩ := Nx.ex hx
  have g1 : Gd (witL n L) := ⟨h.h16, h.nd⟩
  have g2 : Gd (wantL n L) := ⟨c.h16, c.nd⟩
  rw [g1.nx hl hy]
  refine g2.nx (List.mem_filter.2 ⟨hl, ?_⟩) hy
  rw [decide_eq_true_eq]
  exact fun e => by rw [e] at hx; cases hx
theorem g21_ok {L : List (List Int)} {n : Int} (hs : smM L = true) : g21 n L = true := by
  have hlen : L.length ≤ 10000 := by simp only [smM, Bool.and_eq_true, decide_eq_true_eq] at hs; exact hs.1
  have hwl : (witL n L).length ≤ 10000 := by simp [witL]; exact hlen
  simp only [g21, Bool.and_eq_true, Bool.or_eq_true, decide_eq_true_eq]
  refine ⟨hs, ?_⟩
  by_cases hw : witE n L = 0
  · obtain ⟨hc, hi⟩ := wit_in hw
    have hcv := wit_cov hc hi
    refine .inr ⟨(cov_g70 hcv hwl).1, ?_⟩
    rw [hcv.len]; exact hcv.prm.ok hcv.le
  · exact .inl hw
theorem wit_small {L : List (List Int)} {n : Int} (hc : chk L = 0) (hi : inLine n L = true) : (decide ((witC n L).length ≤ 10000) && (witC n L).all small) = true := by
  have hcv := wit_cov hc hi
  unfold witC
  rw [hcv.len]
  exact (cyc_small hcv.prm hcv.le).2
theorem md_weak2 {t : Nat} {x : AV} : ChgT 0 ⟨[(1, x), (t, .ptr 0 0)], [(0, .cells [.v (.slice none 0 0)])], 1⟩ ⟨[(1, x), (t, .ptr 0 0)], [(0, .cells [.il (lls []) 0 false])], 1⟩ :=
  .weak (s' := ⟨[(1, x), (t, .ptr 0 0)], [(0, .cells [.il (lls []) 0 false])], 1⟩) ⟨rfl, .refl, rfl, .refl, trivial⟩ ⟨rfl, ⟨rfl, fun i u v hu hv => by
    cases i with
    | zero => cases hu; cases hv; exact .nil
    | succ i => simp at hu⟩, trivial⟩ rfl .refl
/-! ### The walk -/
noncomputable def q12 : PCode := (.seq (.reg p12_r2 [1, 5, 6]) (.seq (.seq (.reg p12_r3 [1, 5, 6, 28]) (.cond (Operand.tmp 28) (.seq (.reg p12_r4 [8]) (.seq (.reg p12_r5 [4]) .ret)) .skip)) (.seq (.reg p12_r6 [5, 6, 9]) (.seq (.reg p12_r7 [5, 6, 9, 10]) (.seq (.seq (.reg p12_r8 [5, 6, 9, 10, 44, 45, 46]) (.block 0 (.loop p12_l1))) (.seq (.reg p12_r23 [5, 6, 10, 16, 17]) (.seq (.reg p12_r24 [5, 10, 16, 17, 19]) (.seq (.seq (.draw p12_r25 [[], [0], [1, 0], [2, 1, 0], [3, 2, 1, 0], [4, 3, 2, 1, 0], [5, 4, 3, 2, 1, 0], [6, 5, 4, 3, 2, 1, 0], [7, 6, 5, 4, 3, 2, 1, 0], [6, 5, 4, 3, 2, 1, 0], [9, 6, 5, 4, 3, 2, 1, 0], [8, 10, 7, 9, 6, 5, 4, 3, 2, 1, 0], [11, 8, 10, 7, 9, 6, 5, 4, 3, 2, 1, 0], [12, 11, 8, 10, 7, 9, 6, 5, 4, 3, 2, 1, 0]] [5, 16, 108]) (.cond (Operand.tmp 108) (.seq (.reg p12_r26 [4]) .ret) .skip)) (.seq (.reg p12_r27 [5, 16, 17, 20]) (.seq (.reg p12_r28 [5, 17, 19, 20, 21]) (.seq (.reg p12_r29 [4]) .ret)))))))))))
noncomputable def p1012 : PCode := .seq (.reg p12_r0 [1, 2]) (.seqC (.reg p12_r1 [1, 5]) q12)
theorem P1012s : strip p1012 = p12 := by kernel_rfl
attribute [local simp] evCall reach idsB idsL ids Go.Sx.inA Go.Sx.inL Go.Sx.inM inB allHp enumH gl renB
noncomputable abbrev ss12 : List Sp := [s16, s21, s23, s37, s49, s53, s57, s59]
def wantK (n : Int) (L : List (List Int)) (i : Nat) : List (List Int) := wantL n (L.take i)
theorem wantK_succ {n : Int} {L : List (List Int)} {i : Nat} (h : i < L.length) : wantK n L (i + 1) = if flt n L[i] = [] then wantK n L i else wantK n L i ++ [flt n L[i]] := by
  unfold wantK wantL witL
  rw [List.take_succ_eq_append_getElem h, List.map_append, List.filter_append]
  by_cases c : flt n L[i] = []
  · rw [if_pos c]; simp [c]
  · rw [if_neg c]; simp [c]
def ex12 (L W : List (List Int)) (h line : Nat) : ST :=
  ⟨[(5, .ptr 0 0), (6, vI h), (9, vI line), (10, .ptr 1 0)], [(0, .cells [.il (lls L) L.length false]), (1, .cells [.il (lls W) W.length false])], 2⟩
set_option maxHeartbeats 8000000
theorem l1_12 {L W : List (List Int)} {h line : Nat} {s0 : ST} {Q : Exit → ST → Prop} (hL16 : L.length ≤ 16) (hl16 : ∀ l ∈ L, l.length ≤ 16) (hin : ∀ l ∈ L, ∀ e ∈ l, 0 ≤ e ∧ e < 16) (hW : wantL line L = W)
    (hs0 : ChgT 0 s0 (st12 L h line 0 [])) (hq : Q (.exit 0) (ex12 L W h line)) : XZ (rZ (spc ss12)) 0 (.loop p12_l1) s0 Q := by
  refine XZ_for (fun i : Nat => st12 L h line i (wantK line L i)) (fun i => L.length - i) (fun i => i ≤ L.length) 0 (Nat.zero_le _) (by simpa [wantK, wantL, witL] using hs0) ?_
  intro i hi N Q' hN hE
  have hwl : (wantK line L i).length ≤ 16 := by
    unfold wantK wantL witL
    refine Nat.le_trans (List.length_filter_le _ _) ?_
    simp; omega
  rcases Nat.lt_or_ge i L.length with h1 | h1
  · have hic : (i : Int) < L.length := by omega
    obtain ⟨l, r, -, e2, e3, -, e5⟩ := drop_split h1
    have hnext := wantK_succ (n := line) h1
    rw [e3] at hnext
    have hll := hl16 l e5
    have hle := hin l e5
    have fin : ∀ s', ChgT 0 s' (st12 L h line (i + 1 : Nat) (if flt line l = [] then wantK line L i else wantK line L i ++ [flt line l])) → N s' := fun s' hh => hN s' (i + 1) (by omega) h1 (by rw [hnext]; exact hh)
    have hfl : (flt line l).length ≤ 16 := Nat.le_trans (flt_len _ _) hll
    clear hN hE hnext hq hs0
    generalize wantK line L i = out at *
    have inner := fun (s1 : ST) (Q1 : Exit → ST → Prop) => in12_ok (ss := ss12) (L := L) (h := h) (line := line) (i := i) (out := out) (l := l) (s0 := s1) (Q := Q1) (by omega) hle
    generalize flt line l = acc at *
    rcases out with _ | ⟨o, orr⟩
    · rcases acc with _ | ⟨a, ar⟩
      · rw [if_pos rfl] at fin
        simp only [st12, fA, fH, fN] at fin ⊢
        delta p12_l1 p12_r9 p12_r10 p12_r11 p12_r12
        simp (disch := omega) [oLt, oLe, oLtN, oLeN, nLt, nLe, nLtN, nLeN, hic, h1, e2, e3]
        refine inner _ _ (.to [0, 1] (by simp [in12, fA, fH, fN, gA, gH, gN])) ?_
        simp only [inBE, thenE, if_true, in12, fA, fH, fN, gA, gH, gN]
        delta p12_r20 p12_r21 p12_r22
        simp (disch := omega) [oLt, oLe, oLtN, oLeN, nLt, nLe, nLtN, nLeN, effEqn, Go.Sx.nilA, fits, nilOf]
        exact fin _ (.to [0, 1] (by simp))
      · rw [if_neg (by simp)] at fin
        simp only [st12, fA, fH, fN] at fin ⊢
        delta p12_l1 p12_r9 p12_r10 p12_r11 p12_r12
        simp (disch := omega) [oLt, oLe, oLtN, oLeN, nLt, nLe, nLtN, nLeN, hic, h1, e2, e3]
        refine inner _ _ (.to [0, 1] (by simp [in12, fA, fH, fN, gA, gH, gN])) ?_
        simp only [inBE, thenE, if_true, in12, fA, fH, fN, gA, gH, gN]
        delta p12_r20 p12_r21 p12_r22
        simp (disch := omega) [oLt, oLe, oLtN, oLeN, nLt, nLe, nLtN, nLeN, effEqn, Go.Sx.nilA, fits, nilOf]
        have htk1 : (ints (a :: ar)).take (ar.length + 1) = ints (a :: ar) := List.take_of_length_le (by simp)
        exact fin _ (.frz 2 (cs := ints (a :: ar)) rfl (by simp) (.to [0, 1, 9] (by simp [frzS, eL])))
    · simp only [List.length_cons] at hwl
      rcases acc with _ | ⟨a, ar⟩
      · rw [if_pos rfl] at fin
        simp only [st12, fA, fH, fN] at fin ⊢
        delta p12_l1 p12_r9 p12_r10 p12_r11 p12_r12
        simp (disch := omega) [oLt, oLe, oLtN, oLeN, nLt, nLe, nLtN, nLeN, hic, h1, e2, e3]
        refine inner _ _ (.to [0, 1, 2] (by simp [in12, fA, fH, fN, gA, gH, gN])) ?_
        simp only [inBE, thenE, if_true, in12, fA, fH, fN, gA, gH, gN]
        delta p12_r20 p12_r21 p12_r22
        simp (disch := omega) [oLt, oLe, oLtN, oLeN, nLt, nLe, nLtN, nLeN, effEqn, Go.Sx.nilA, fits, nilOf]
        exact fin _ (.to [0, 1, 2] (by simp))
      · rw [if_neg (by simp)] at fin
        simp only [st12, fA, fH, fN, List.cons_append] at fin ⊢
        delta p12_l1 p12_r9 p12_r10 p12_r11 p12_r12
        simp (disch := omega) [oLt, oLe, oLtN, oLeN, nLt, nLe, nLtN, nLeN, hic, h1, e2, e3]
        refine inner _ _ (.to [0, 1, 2] (by simp [in12, fA, fH, fN, gA, gH, gN])) ?_
        simp only [inBE, thenE, if_true, in12, fA, fH, fN, gA, gH, gN]
        delta p12_r20 p12_r21 p12_r22
        simp (disch := omega) [oLt, oLe, oLtN, oLeN, nLt, nLe, nLtN, nLeN, effEqn, Go.Sx.nilA, fits, nilOf]
        exact fin _ (.frz 3 (cs := ints (a :: ar)) rfl (by simp) (.to [0, 1, 10] (by simp [frzS, eL])))
  · obtain rfl : i = L.length := by omega
    have hic : ¬ (L.length : Int) < L.length := by omega
    have e : wantK line L L.length = W := by unfold wantK; rw [List.take_length]; exact hW
    rw [e]
    clear hN hwl hW e
    rcases W with _ | ⟨w0, wr⟩
    · simp only [st12, fA, fH, fN]
      delta p12_l1 p12_r9 p12_r10 p12_r11 p12_r12
      simp (disch := omega) [oLt, oLe, oLtN, oLeN, nLt, nLe, nLtN, nLeN, hic]
      refine hE _ _ (ex12 L [] h line) (.trans (b := ⟨[(5, .ptr 0 0), (6, vI h), (9, vI line), (10, .ptr 1 0)], [(0, .cells [.il (lls L) L.length false]), (1, .cells [.v (.slice none 0 0)])], 2⟩) (.to [0, 1] (by simp)) (.weak (s' := ex12 L [] h line) ⟨rfl, .refl, rfl, .refl, rfl, .refl, rfl, .refl, trivial⟩ ⟨rfl, WkB.refl, rfl, ⟨rfl, fun i u v hu hv => by
        cases i with
        | zero => cases hu; cases hv; exact .nil
        | succ i => simp at hu⟩, trivial⟩ rfl .refl)) hq
    · simp only [st12, fA, fH, fN]
      delta p12_l1 p12_r9 p12_r10 p12_r11 p12_r12
      simp (disch := omega) [oLt, oLe, oLtN, oLeN, nLt, nLe, nLtN, nLeN, hic]
      have htk : (lls (w0 :: wr)).take (wr.length + 1) = lls (w0 :: wr) := List.take_of_length_le (by simp)
      exact hE _ _ (ex12 L (w0 :: wr) h line) (.frz 2 (cs := lls (w0 :: wr)) rfl (by simp) (.to [0, 1] (by simp [frzS, ex12, htk]))) hq
end
section
set_option maxRecDepth 4000
attribute [local simp] evCall reach idsB idsL ids Go.Sx.inA Go.Sx.inL Go.Sx.inM inB allHp enumH gl renB
set_option maxHeartbeats 8000000
theorem without_rest {L : List (List Int)} (hc : chk L = 0) {t : Nat} (ht : t ≤ 255) {s0 : ST} {Q : Exit → ST → Prop} (hs0 : s0 = ⟨[(1, .v (.int .u8 t)), (5, .ptr 0 0)], [(0, .cells [.il (lls L) L.length false])], 1⟩) (hret : ∀ h nx, Q .ret ⟨[(4, vB true)], h, nx⟩) : XZ (rZ (spc ss12)) 0 q12 s0 Q := by
  subst hs0
  obtain ⟨hs, hg⟩ := gd_of hc
  obtain ⟨-, h16, hev, hP, -⟩ := tab_pts hc
  have hcv := chk_cov hc
  obtain ⟨h, hh⟩ : ∃ h, total L = 2 * h := ⟨total L / 2, by omega⟩
  have hhc : ((2 * h : Nat) : Int).tdiv 2 = h := by
    rw [show ((2 * h : Nat) : Int) = 2 * (h : Int) by omega, Int.mul_tdiv_cancel_left _ (by decide)]
  have hhc2 : (2 * (h : Int)).tdiv 2 = h := Int.mul_tdiv_cancel_left _ (by decide)
  have hhc3 : (2 * (h : Int)) / 2 = h := by omega
  have out : ∀ n : Int, inLine n L = false → witV n L = .tup [nilA, vI 2] := fun n hn => by
    have : witE n L = 2 := by unfold witE; rw [if_pos hc, hn]; rfl
    unfold witV; rw [this]; rfl
  have wh : inLine (h : Int) L = false := by simp only [inLine, hh]; simp
  have v2 := out _ wh
  have g2 := g21_ok (n := (h : Int)) hs
  have hn : nilA = .agg [.v (.slice none 0 0)] := rfl
  delta q12
  refine XZ_step ?_ (fun N Q_ hN => ?_) ?_
  rotate_left
  · delta p12_r2; simp (disch := omega) [oLt, oLe, oLtN, oLeN, nLt, nLe, nLtN, nLeN, hs, hh, hhc, hhc2, hhc3]
    exact hN
  by_cases h0 : h = 0
  · subst h0
    rw [show ((0 : Nat) : Int) = 0 from rfl] at v2 g2
    refine XZ_seqG (XZ_seqG ?_)
    delta p12_r3
    simp (disch := omega) [oLt, oLe, oLtN, oLeN, nLt, nLe, nLtN, nLeN]
    delta p12_r4
    simp (disch := omega) [oLt, oLe, oLtN, oLeN, nLt, nLe, nLtN, nLeN, g2, v2, hn]
    delta p12_r5
    simp (disch := omega) [oLt, oLe, oLtN, oLeN, nLt, nLe, nLtN, nLeN]
    exact hret _ _
  have h0c : ¬ (h : Int) = 0 := by omega
  refine XZ_step ?_ (fun N Q_ hN => ?_) ?_
  rotate_left
  · refine XZ_seqG ?_
    delta p12_r3
    simp (disch := omega) [oLt, oLe, oLtN, oLeN, nLt, nLe, nLtN, nLeN, h0, h0c]
    exact hN
  have hwt : wrapF IntKind.i64 (t : Int) = t := wrapF_i64 (by omega) (by omega)
  have hmod : (t : Int) % (h : Int) = ((t % h : Nat) : Int) := by simp
  have hlt : t % h < h := Nat.mod_lt _ (by omega)
  obtain ⟨l, hl⟩ : ∃ l, t % h = l := ⟨_, rfl⟩
  rw [hl] at hmod hlt
  have wl : inLine (l : Int) L = true := by simp only [inLine, hh]; simp; omega
  have we : witE (l : Int) L = 0 := by unfold witE; rw [if_pos hc, wl]; rfl
  have v1 : witV l L = .tup [.agg [.il (lls (witC l L)) (witC l L).length false], vI 0] := by unfold witV; rw [we]; rfl
  have g1 := g21_ok (n := (l : Int)) hs
  obtain ⟨cW, nW, kW⟩ := want_cov hc wl
  obtain ⟨hsW, hgW⟩ := gd_of kW
  have tW := want_tid hc wl
  have sC := wit_small hc wl
  obtain ⟨x1, x2, x3⟩ := wit_gen (l := l) hc (by omega)
  have hC : witC l L = cyc (afterC (tabF (witL l L))) (total L - 2) := by unfold witC; rw [(wit_cov hc wl).len]
  rw [← hC] at x1 x2 x3
  obtain ⟨hsC, hgC⟩ := gd_of x1
  have v3 := genV_of hc
  have v4 := genV_of x1
  obtain ⟨g, e1, -, gb⟩ := gen_nat hc
  obtain ⟨g', e2, -, gb'⟩ := gen_nat x1
  rw [e1] at v3 x3
  rw [e2] at v4 x3
  have tl := tid_len kW
  rw [tW] at tl
  have hWs : tidL (wantL l L) = witC l L := tW
  obtain ⟨C, hCe⟩ : ∃ C, witC l L = C := ⟨_, rfl⟩
  rw [hCe] at v1 sC x1 x2 hsC hgC v4 tl hWs
  have htl := tl.symm
  have sC2 : C.all small = true := by rw [Bool.and_eq_true] at sC; exact sC.2
  have hWl : (wantL l L).length ≤ 16 := by
    obtain ⟨-, -, -, q, -⟩ := tab_pts kW
    exact q
  refine XZ_step ?_ (fun N Q_ hN => ?_) ?_
  rotate_left
  · delta p12_r6; simp (disch := omega) [oLt, oLe, oLtN, oLeN, nLt, nLe, nLtN, nLeN, hwt, hmod, h0, h0c]
    exact hN
  refine XZ_step ?_ (fun N Q_ hN => ?_) ?_
  rotate_left
  · delta p12_r7; simp (disch := omega) [oLt, oLe, oLtN, oLeN, nLt, nLe, nLtN, nLeN]
    exact hN
  refine XZ_stepS (ex12 L (wantL l L) h l) (fun N Q_ hN => ?_) ?_
  · refine XZ_seqG ?_
    delta p12_r8
    simp (disch := omega) [oLt, oLe, oLtN, oLeN, nLt, nLe, nLtN, nLeN]
    refine l1_12 (h := h) (line := l) hP (fun k hk => Nat.le_trans (total_mem hk) h16) (fun k hk x hx => ?_) rfl (.tot [5, 10] (by simp [st12, fA, fH, fN])) ?_
    · have := hcv.rng x (List.mem_flatten.2 ⟨k, hk, hx⟩); omega
    · simp only [inBE, thenE, if_true]
      exact hN
  obtain ⟨W, hWe⟩ : ∃ W, wantL l L = W := ⟨_, rfl⟩
  rw [hWe] at hWs hsW hgW tl htl hWl
  rw [hWe]
  simp only [ex12]
  refine XZ_step ?_ (fun N Q_ hN => ?_) ?_
  rotate_left
  · delta p12_r23; simp (disch := omega) [oLt, oLe, oLtN, oLeN, nLt, nLe, nLtN, nLeN, g1, v1]
    exact hN
  refine XZ_step ?_ (fun N Q_ hN => ?_) ?_
  rotate_left
  · delta p12_r24; simp (disch := omega) [oLt, oLe, oLtN, oLeN, nLt, nLe, nLtN, nLeN, g2, v2, hn]
    exact hN
  refine XZ_step ?_ (fun N Q_ hN => ?_) ?_
  rotate_left
  · refine XZ_seqG (XZ_drawG ?_)
    delta p12_r25
    refine zD_cut 7 ?_ ?_ (fun K_ hK => ?_) ?_
    rotate_left 2
    · simp only [List.take_succ_cons, List.take_zero]
      simp (disch := omega) [oLt, oLe, oLtN, oLeN, nLt, nLe, nLtN, nLeN]
      exact hK
    simp only [List.drop_succ_cons, List.drop_zero]
    refine zD_cut 3 ?_ ?_ (fun K_ hK => ?_) ?_
    rotate_left 2
    · simp only [List.take_succ_cons, List.take_zero]
      simp (disch := omega) [oLt, oLe, oLtN, oLeN, nLt, nLe, nLtN, nLeN]
      exact hK
    simp only [List.drop_succ_cons, List.drop_zero]
    refine zD_cut 1 ?_ ?_ (fun K_ hK => ?_) ?_
    rotate_left 2
    · simp only [List.take_succ_cons, List.take_zero]
      simp (disch := omega) [oLt, oLe, oLtN, oLeN, nLt, nLe, nLtN, nLeN, hgW, hWs, htl]
      exact hK
    simp only [List.drop_succ_cons, List.drop_zero]
    refine zD_cut 1 ?_ ?_ (fun K_ hK => ?_) ?_
    rotate_left 2
    · simp only [List.take_succ_cons, List.take_zero]
      simp (disch := omega) [oLt, oLe, oLtN, oLeN, nLt, nLe, nLtN, nLeN, sC, sC2, htl, hWs]
      exact hK
    simp only [List.drop_succ_cons, List.drop_zero]
    refine zD_cut 2 ?_ ?_ (fun K_ hK => ?_) ?_
    rotate_left 2
    · simp only [List.take_succ_cons, List.take_zero]
      simp (disch := omega) [oLt, oLe, oLtN, oLeN, nLt, nLe, nLtN, nLeN]
      exact hK
    simp only [List.drop_succ_cons, List.drop_zero]
    refine goD_ok (by decide) ?_
    simp (disch := omega) [oLt, oLe, oLtN, oLeN, nLt, nLe, nLtN, nLeN]
    exact hN
  refine XZ_step ?_ (fun N Q_ hN => ?_) ?_
  rotate_left
  · delta p12_r27; simp (disch := omega) [oLt, oLe, oLtN, oLeN, nLt, nLe, nLtN, nLeN, hs, v3, hc]
    exact hN
  refine XZ_step ?_ (fun N Q_ hN => ?_) ?_
  rotate_left
  · delta p12_r28; simp (disch := omega) [oLt, oLe, oLtN, oLeN, nLt, nLe, nLtN, nLeN, hsC, v4, x1]
    exact hN
  rcases x3 with x3 | x3
  · have x3' : g' = g := by omega
    subst x3'
    refine XZ_seqG ?_
    delta p12_r29
    refine zOps_cut 7 ?_ (fun K_ hK => ?_) ?_
    rotate_left
    · simp only [List.take_succ_cons, List.take_zero]
      simp (disch := omega) [oLt, oLe, oLtN, oLeN, nLt, nLe, nLtN, nLeN]
      exact hK
    simp only [List.drop_succ_cons, List.drop_zero]
    refine zOps_cut 5 ?_ (fun K_ hK => ?_) ?_
    rotate_left
    · simp only [List.take_succ_cons, List.take_zero]
      simp (disch := omega) [oLt, oLe, oLtN, oLeN, nLt, nLe, nLtN, nLeN, hg, e1]
      exact hK
    simp only [List.drop_succ_cons, List.drop_zero]
    refine zOps_cut 8 ?_ (fun K_ hK => ?_) ?_
    rotate_left
    · simp only [List.take_succ_cons, List.take_zero]
      simp (disch := omega) [oLt, oLe, oLtN, oLeN, nLt, nLe, nLtN, nLeN]
      exact hK
    simp only [List.drop_succ_cons, List.drop_zero]
    refine zOps_cut 8 ?_ (fun K_ hK => ?_) ?_
    rotate_left
    · simp only [List.take_succ_cons, List.take_zero]
      simp (disch := omega) [oLt, oLe, oLtN, oLeN, nLt, nLe, nLtN, nLeN]
      exact hK
    simp only [List.drop_succ_cons, List.drop_zero]
    simp (disch := omega) [oLt, oLe, oLtN, oLeN, nLt, nLe, nLtN, nLeN]
    exact hret _ _
  · have x3' : g = g' + 1 := by omega
    subst x3'
    have y1 : ¬ (g' : Int) = ((g' + 1 : Nat) : Int) := by omega
    have y2 : ¬ (g' : Int) = (g' : Int) + 1 := by omega
    have y3 : ¬ g' = g' + 1 := by omega
    have y4 : (g' : Int) + 1 - 1 = g' := by omega
    refine XZ_seqG ?_
    delta p12_r29
    refine zOps_cut 7 ?_ (fun K_ hK => ?_) ?_
    rotate_left
    · simp only [List.take_succ_cons, List.take_zero]
      simp (disch := omega) [oLt, oLe, oLtN, oLeN, nLt, nLe, nLtN, nLeN]
      exact hK
    simp only [List.drop_succ_cons, List.drop_zero]
    refine zOps_cut 5 ?_ (fun K_ hK => ?_) ?_
    rotate_left
    · simp only [List.take_succ_cons, List.take_zero]
      simp (disch := omega) [oLt, oLe, oLtN, oLeN, nLt, nLe, nLtN, nLeN, hg, e1]
      exact hK
    simp only [List.drop_succ_cons, List.drop_zero]
    refine zOps_cut 8 ?_ (fun K_ hK => ?_) ?_
    rotate_left
    · simp only [List.take_succ_cons, List.take_zero]
      simp (disch := omega) [oLt, oLe, oLtN, oLeN, nLt, nLe, nLtN, nLeN, y1, y2, y3, y4]
      exact hK
    simp only [List.drop_succ_cons, List.drop_zero]
    refine zOps_cut 8 ?_ (fun K_ hK => ?_) ?_
    rotate_left
    · simp only [List.take_succ_cons, List.take_zero]
      simp (disch := omega) [oLt, oLe, oLtN, oLeN, nLt, nLe, nLtN, nLeN, y1, y2, y3, y4]
      exact hK
    simp only [List.drop_succ_cons, List.drop_zero]
    simp (disch := omega) [oLt, oLe, oLtN, oLeN, nLt, nLe, nLtN, nLeN]
    exact hret _ _
theorem without_runs {s : Int} {O : List Int} {g t : Int} (h : gSk s O g 8 = true) (ht : 0 ≤ t ∧ t ≤ 255) : Runs Tryd.prog 12 0 [.agg (skA s O g), .v (.int .u8 t)] (hpF []) (vB true) 0 (hpF []) := by
  obtain ⟨t, rfl⟩ := Int.eq_ofNat_of_zero_le ht.1
  have hf49 := f49_at h
  have hOl : O.length = 16 := by
    simp only [gSk, Bool.and_eq_true, decide_eq_true_eq] at h
    exact h.1.1.1.2
  have hc0 := mdL_chk s.toNat O g.toNat 8 (by omega)
  have e6 : (8 : Int).toNat = 8 := rfl
  rw [e6] at hf49
  generalize mdL s.toNat O g.toNat 8 = L at *
  have hKl := sk_len (s := s) (g := g) hOl
  have hKr : ∀ f, renL f (skA s O g) = skA s O g := fun f => by simp [skA, renL_app]
  have hKc : cloL (skA s O g) = true := by simp [skA]
  have hKt : (skA s O g).take 18 = skA s O g := List.take_of_length_le (by omega)
  generalize skA s O g = K at *
  refine P12.rzC p1012 P1012s (ss := ss12) ⟨s16_ok, s21_ok, s23_ok, s37_ok, s49_ok, s53_ok, s57_ok, s59_ok, trivial⟩ (by simp) fun Q hQ => ?_
  have hret : ∀ h nx, Q .ret ⟨[(4, vB true)], h, nx⟩ := fun h nx => hQ _ _ (.p (.inl rfl) (by simp) rfl)
  have rest := without_rest hc0 (t := t) (by omega) (s0 := _) (Q := Q) rfl hret
  delta p1012
  refine XZ_step ?_ (fun N Q_ hN => ?_) ?_
  rotate_left
  · delta p12_r0; simp (disch := omega) [oLt, oLe, oLtN, oLeN, nLt, nLe, nLtN, nLeN, hKt]
    exact hN
  rcases mdV_or L with hm0 | ⟨hm0, rfl⟩
  · rw [hm0] at hf49
    refine XZ_stepC' ?_ ⟨[(1, .v (.int .u8 t)), (5, .ptr 0 0)], [(0, .cells [.il (lls L) L.length false])], 1⟩ (fun N Q_ hN => ?_) ?_ rest
    rotate_left
    · delta p12_r1
      simp (disch := omega) [oLt, oLe, oLtN, oLeN, nLt, nLe, nLtN, nLeN, hf49, hKl, hKt, hKc]
      exact hN
    · exact .tot [5] (by simp)
  · rw [hm0] at hf49
    refine XZ_stepC' ?_ ⟨[(1, .v (.int .u8 t)), (5, .ptr 0 0)], [(0, .cells [.il (lls []) 0 false])], 1⟩ (fun N Q_ hN => ?_) ?_ rest
    rotate_left
    · delta p12_r1
      simp (disch := omega) [oLt, oLe, oLtN, oLeN, nLt, nLe, nLtN, nLeN, hf49, hKl, hKt, hKc]
      exact hN
    · exact .trans (b := ⟨[(1, .v (.int .u8 t)), (5, .ptr 0 0)], [(0, .cells [.v (.slice none 0 0)])], 1⟩) (.tot [5] (by simp)) md_weak2
end
section
theorem gSk_ok {s g most : Int} {O : List Int} (hl : O.length = 16) (hs : 0 ≤ s ∧ s ≤ 255) (hb : ∀ x ∈ O, 0 ≤ x ∧ x ≤ 255) (hg : 0 ≤ g ∧ g ≤ 65535) (hm : 0 ≤ most ∧ most ≤ 8) : gSk s O g most = true := by
  simp only [gSk, Bool.and_eq_true, decide_eq_true_eq, within_iff, List.all_eq_true]
  exact ⟨⟨⟨⟨hs, hl⟩, hb⟩, hg⟩, hm⟩
end
end Go.Sx.Ch
