/- What the laws of the lock layer have in common: works, an order made by numbers is checked. No conditions. -/
import Derived.Test.YteoiebmbgbgpgaaSxJLRtoLVe
import Derived.Test.YteoiebmbgbgpgaaSxJPLbtoLEw
set_option linter.unusedVariables false
set_option linter.unusedSimpArgs false
set_option maxRecDepth 4000
namespace Go.Sx.Lk
open Go Go.Sx Go.Proofs
def s15 : Sp := spT 15 [] (res true (vB true))
@[simp] theorem s15_g : s15.g = 15 := rfl
@[simp] theorem s15_f : s15.f = (spT 15 [] (res true (vB true))).f := rfl
theorem s15_ok : s15.ok Try.prog := by
  apply spT_ok
  simp only [OkT]
  intro r h' k' hh
  obtain ⟨_, rfl, rfl, rfl⟩ := res_inv hh
  exact k100_ok
theorem iota_zs (n : Nat) : iota n = zs (List.range n) := rfl
theorem erase_perm : ∀ (l : List Int) (k : Nat) (h : k < l.length), (l[k] :: l.eraseIdx k).Perm l
  | [], k, h => by simp at h
  | x :: r, 0, h => by simp
  | x :: r, k + 1, h => by
    simp only [List.getElem_cons_succ, List.eraseIdx_cons_succ]
    exact (List.Perm.swap _ _ _).trans ((erase_perm r k (by simpa using h)).cons x)
theorem mtS_perm (O : List Int) (n : Nat) : ∀ {i : Nat}, i ≤ n → ((mtS O n i).1 ++ (mtS O n i).2).Perm (iota n)
  | 0, _ => by simp [mtS]
  | i + 1, h => by
    have ih := mtS_perm O n (i := i) (by omega)
    have hl := mtS_len O n (i := i) (by omega)
    have hp : 0 < (mtS O n i).1.length := by omega
    simp only [mtS]
    generalize hk : (O.getD i 0).toNat % (mtS O n i).1.length = k
    have hkl : k < (mtS O n i).1.length := by rw [← hk]; exact Nat.mod_lt _ hp
    refine List.Perm.trans ?_ ih
    have e : (mtS O n i).1.getD k 0 = (mtS O n i).1[k] := by rw [List.getD_eq_getElem?_getD, List.getElem?_eq_getElem hkl]; rfl
    rw [e, ← List.append_assoc]
    refine List.perm_append_comm.trans ?_
    rw [List.singleton_append, ← List.cons_append]
    exact (erase_perm _ k hkl).append_right _
theorem chkN_of {n : Nat} : ∀ {l : List Nat}, l.Nodup → (∀ x ∈ l, x < n) → chkN n l = true
  | [], _, _ => rfl
  | x :: r, hd, hb => by
    simp only [chkN, Bool.and_eq_true, Bool.not_eq_true']
    refine ⟨⟨blt_iff.2 (hb x (by simp)), ?_⟩, chkN_of (List.nodup_cons.1 hd).2 fun y hy => hb y (by simp [hy])⟩
    cases h : memN x r
    · rfl
    · exact absurd (memN_iff.1 h) (List.nodup_cons.1 hd).1
theorem perm_chk {l : List Int} {n : Nat} (h0 : 0 < n) (h7 : n ≤ 7) (hp : l.Perm (iota n)) : chkF l = 0 := by
  have hm : (l.map Int.toNat).Perm (List.range n) := by
    have := hp.map Int.toNat
    rwa [iota_zs, toNat_zs] at this
  have hz : l = zs (l.map Int.toNat) := by
    have : ∀ x ∈ l, (x.toNat : Int) = x := fun x hx => by
      have := hp.mem_iff.1 hx
      rw [iota_zs] at this
      simp only [zs, List.mem_map] at this
      obtain ⟨k, _, rfl⟩ := this
      simp
    rw [zs, List.map_map]
    exact (List.map_id l).symm.trans (List.map_congr_left fun x hx => (this x hx).symm)
  have hlen : (l.map Int.toNat).length = n := by rw [hm.length_eq, List.length_range]
  rw [hz]
  refine chkN_F (by omega) (by omega) (chkN_of (hm.nodup_iff.2 List.nodup_range) fun x hx => ?_)
  rw [hlen]
  exact List.mem_range.1 (hm.mem_iff.1 hx)
theorem made_chk {s : Int} {O : List Int} {most : Int} (h : gTr s O most = true) : chkF (mtL s.toNat O most.toNat) = 0 := by
  simp only [gTr, Bool.and_eq_true, decide_eq_true_eq, within_iff, List.all_eq_true] at h
  obtain ⟨⟨⟨hs, hO⟩, hOb⟩, hm⟩ := h
  have hml : s.toNat % most.toNat < most.toNat := Nat.mod_lt _ (by omega)
  have hl := mtS_len O (1 + s.toNat % most.toNat) (Nat.le_refl _)
  have hp := mtS_perm O (1 + s.toNat % most.toNat) (Nat.le_refl _)
  have h1 : (mtS O (1 + s.toNat % most.toNat) (1 + s.toNat % most.toNat)).1 = [] := List.length_eq_zero_iff.1 (by omega)
  rw [h1, List.nil_append] at hp
  exact perm_chk (by omega) (by omega) hp
theorem made_most {s : Int} {O : List Int} {most : Int} (h : gTr s O most = true) : (mtL s.toNat O most.toNat).length ≤ most := by
  simp only [gTr, Bool.and_eq_true, decide_eq_true_eq, within_iff, List.all_eq_true] at h
  obtain ⟨⟨⟨hs, hO⟩, hOb⟩, hm⟩ := h
  have hml : s.toNat % most.toNat < most.toNat := Nat.mod_lt _ (by omega)
  unfold mtL
  rw [mtS_out]
  omega
theorem made_pack {s : Int} {O : List Int} {most : Int} (h : gTr s O most = true) : ∃ l K, K = trA s O ∧ f45 [.agg K, vI most] [] 0 = some (.il (ints l) l.length false, [], 0) ∧ chkF l = 0 ∧ (l.length : Int) ≤ most ∧
    K.length = 8 ∧ K.take 8 = K ∧ (∀ f, renL f K = K) ∧ (∀ id cs, frL id cs K = K) ∧ cloL K = true ∧ flatL K = true := by
  have hO : O.length = 7 := by simp only [gTr, Bool.and_eq_true, decide_eq_true_eq] at h; exact h.1.1.2
  have hl : (trA s O).length = 8 := by simp [trA, u8s, hO]
  exact ⟨_, _, rfl, f45_at h, made_chk h, made_most h, hl, List.take_of_length_le (by omega), fun f => by simp [trA], fun id cs => by simp [trA], by simp [trA], by simp [trA]⟩
theorem gTr_of {s : Int} {l : List Int} {most : Int} (hs : 0 ≤ s ∧ s ≤ 255) (hl : l.length = 7) (hb : ∀ x ∈ l, 0 ≤ x ∧ x ≤ 255) (hm : 1 ≤ most ∧ most ≤ 7 := by omega) : gTr s l most = true := by
  simp only [gTr, Bool.and_eq_true, decide_eq_true_eq, within_iff, List.all_eq_true]
  exact ⟨⟨⟨hs, hl⟩, hb⟩, hm⟩
end Go.Sx.Lk
