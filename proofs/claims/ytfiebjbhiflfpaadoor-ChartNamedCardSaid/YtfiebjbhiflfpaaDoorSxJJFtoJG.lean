/- Lists that hold each end once are a map. No conditions. -/
import Derived.Test.YtfiebjbhiflfpaaDoorSxJE
set_option linter.unusedVariables false
set_option linter.unusedSimpArgs false
namespace Go.Sx.Ch
open Go Go.Sx Go.Proofs

theorem scanL_ok {n : Int} : ∀ (l seen : List Int), (∀ e ∈ l, 0 ≤ e ∧ e < n) → l.Nodup → (∀ e ∈ l, e ∉ seen) → scanL n seen l = 0
  | [], _, _, _, _ => rfl
  | x :: l, seen, h, hd, hs => by
    have h0 := h x List.mem_cons_self
    obtain ⟨d1, d2⟩ := List.nodup_cons.1 hd
    simp only [scanL]
    rw [if_neg (by omega), if_neg (hs x List.mem_cons_self)]
    refine scanL_ok l _ (fun e he => h e (List.mem_cons_of_mem _ he)) d2 fun e he hm => ?_
    rw [List.mem_append, List.mem_singleton] at hm
    rcases hm with hm | rfl
    · exact hs e (List.mem_cons_of_mem _ he) hm
    · exact d1 he
theorem scanM_ok {n : Int} : ∀ (L : List (List Int)) (seen : List Int), (∀ l ∈ L, l.length ≠ 0) → (∀ e ∈ L.flatten, 0 ≤ e ∧ e < n) → L.flatten.Nodup → (∀ e ∈ L.flatten, e ∉ seen) → scanM n seen L = 0
  | [], _, _, _, _, _ => rfl
  | l :: L, seen, h0, h, hd, hs => by
    rw [List.flatten_cons] at h hd hs
    obtain ⟨d1, d2, d3⟩ := List.nodup_append.1 hd
    simp only [scanM]
    rw [if_neg (h0 l List.mem_cons_self), if_pos (scanL_ok l seen (fun e he => h e (List.mem_append_left _ he)) d1 fun e he => hs e (List.mem_append_left _ he))]
    refine scanM_ok L _ (fun l hl => h0 l (List.mem_cons_of_mem _ hl)) (fun e he => h e (List.mem_append_right _ he)) d2 fun e he hm => ?_
    rw [List.mem_append] at hm
    rcases hm with hm | hm
    · exact hs e (List.mem_append_right _ he) hm
    · exact d3 e hm e he rfl
/-- Each end once, no list empty, an even number: a map. -/
theorem Cov.chk {L : List (List Int)} {n : Nat} (h : Cov L n) (h0 : ∀ l ∈ L, l.length ≠ 0) (hev : n % 2 = 0) : chk L = 0 := by
  have hle := h.le
  unfold Go.Sx.Ch.chk
  rw [h.len, if_neg (by omega), if_pos (scanM_ok L [] h0 (fun e he => h.rng e he) h.nd fun e _ hm => by cases hm), if_neg (by omega)]
end Go.Sx.Ch
namespace Go.Sx.Ch
open Go Go.Sx Go.Proofs

theorem mdS_flat (O : List Int) (g n i : Nat) : (mdS O g n (i + 1)).2.flatten = (mdS O g n i).2.flatten ++ [(mdS O g n i).1.getD ((O.getD i 0).toNat % (mdS O g n i).1.length) 0] := by
  simp only [mdS]
  generalize (mdS O g n i).1.getD ((O.getD i 0).toNat % (mdS O g n i).1.length) 0 = y
  generalize (mdS O g n i).2 = L
  split
  · simp
  · rcases List.eq_nil_or_concat L with rfl | ⟨D, c, rfl⟩
    · simp
    · simp [List.dropLast_concat, List.getLastD_concat]
theorem mdS_perm (O : List Int) (g n : Nat) : ∀ i : Nat, i ≤ n → ((mdS O g n i).1 ++ (mdS O g n i).2.flatten).Perm (iota n)
  | 0, _ => by simp [mdS]
  | i + 1, h => by
    have ih := mdS_perm O g n i (by omega)
    have hl := mdS_len O g n (i := i) (by omega)
    rw [mdS_flat]
    have e1 : (mdS O g n (i + 1)).1 = (mdS O g n i).1.eraseIdx ((O.getD i 0).toNat % (mdS O g n i).1.length) := rfl
    rw [e1]
    have hk : (O.getD i 0).toNat % (mdS O g n i).1.length < (mdS O g n i).1.length := Nat.mod_lt _ (by omega)
    generalize (O.getD i 0).toNat % (mdS O g n i).1.length = k at *
    generalize (mdS O g n i).1 = l at *
    generalize (mdS O g n i).2.flatten = F at *
    have hy : l.getD k 0 = l[k] := by rw [List.getD_eq_getElem?_getD, List.getElem?_eq_getElem hk]; rfl
    rw [hy]
    refine List.Perm.trans ?_ ih
    have p1 : (l[k] :: l.eraseIdx k).Perm l := by
      have e : l = l.take k ++ l[k] :: l.drop (k + 1) := by rw [← List.drop_eq_getElem_cons hk, List.take_append_drop]
      have e2 : (l[k] :: (l.take k ++ l.drop (k + 1))).Perm (l.take k ++ l[k] :: l.drop (k + 1)) := List.perm_middle.symm
      rw [← e] at e2
      rw [List.eraseIdx_eq_take_drop_succ]
      exact e2
    have p2 : (l.eraseIdx k ++ (F ++ [l[k]])).Perm (l[k] :: (l.eraseIdx k ++ F)) := by
      rw [← List.append_assoc]
      exact List.perm_append_singleton _ _
    exact p2.trans (p1.append_right F)
theorem mdS_no (O : List Int) (g n : Nat) : ∀ i : Nat, ∀ l ∈ (mdS O g n i).2, l.length ≠ 0
  | 0, l, h => by simp [mdS] at h
  | i + 1, l, h => by
    simp only [mdS] at h
    split at h
    · rw [List.mem_append, List.mem_singleton] at h
      rcases h with h | rfl
      · exact mdS_no O g n i l h
      · simp
    · rw [List.mem_append, List.mem_singleton] at h
      rcases h with h | rfl
      · exact mdS_no O g n i l (List.dropLast_subset _ h)
      · simp
/-- The map that is made holds each end once. -/
theorem mdL_cov (s : Nat) (O : List Int) (g most : Nat) (hm : most ≤ 8) : Cov (mdL s O g most) (2 * (s % (most + 1))) := by
  have hs : s % (most + 1) < most + 1 := Nat.mod_lt _ (by omega)
  unfold mdL
  generalize hn : 2 * (s % (most + 1)) = n
  have hp := mdS_perm O g n n (Nat.le_refl _)
  have hl := mdS_len O g n (i := n) (Nat.le_refl _)
  have h0 : (mdS O g n n).1 = [] := List.length_eq_zero_iff.1 (by omega)
  rw [h0, List.nil_append] at hp
  have hnd : (iota n).Nodup := by
    unfold iota
    exact List.Pairwise.map _ (fun a b h e => h (by omega)) List.nodup_range
  refine ⟨hp.nodup_iff.2 hnd, fun x hx => ?_, ?_, by omega⟩
  · have := hp.mem_iff.1 hx
    simp only [iota, List.mem_map, List.mem_range] at this
    obtain ⟨a, ha, rfl⟩ := this
    omega
  · rw [← total_flatten, hp.length_eq, iota_len]
theorem mdL_chk (s : Nat) (O : List Int) (g most : Nat) (hm : most ≤ 8) : chk (mdL s O g most) = 0 :=
  (mdL_cov s O g most hm).chk (mdS_no O g _ _) (by omega)
theorem mdL_gd (s : Nat) (O : List Int) (g most : Nat) (hm : most ≤ 8) : gdM (mdL s O g most) = true := by
  have hc := mdL_chk s O g most hm
  obtain ⟨-, h16, -, hP, -⟩ := tab_pts hc
  simp only [gdM, smM, Bool.and_eq_true, decide_eq_true_eq]
  exact ⟨⟨by omega, by omega⟩, hc⟩
end Go.Sx.Ch
