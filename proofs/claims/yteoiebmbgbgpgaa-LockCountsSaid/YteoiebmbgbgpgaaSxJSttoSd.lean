/- A part of the code, and the state behind it. No conditions. -/
import Derived.Test.YteoiebmbgbgpgaaSxU
set_option linter.unusedVariables false
set_option linter.unusedSimpArgs false
section
namespace Go.Sx
theorem XZ_step {R : Rsv} {k0 : Nat} {a b : PCode} {s : ST} {Q : Exit → ST → Prop} (s1 : ST) (h1 : ∀ (N : ST → Prop) (Q' : Exit → ST → Prop), N s1 → XZ R k0 a s (thenE N Q')) (h2 : XZ R k0 b s1 Q) : XZ R k0 (.seq a b) s Q := h1 _ _ h2
end Go.Sx
end
section
namespace Go.Sx
theorem zD_app {R : Rsv} {K : List Foot → ST → Prop} : ∀ {a b : List PI} {fs : List Foot} {s : ST}, zD R (fun fs s => zD R K b fs s) a fs s → zD R K (a ++ b) fs s
  | [], b, fs, s, h => h
  | i :: a, b, fs, s, h => by
    simp only [List.cons_append, zD] at h ⊢
    split
    · rename_i hg
      simp only [hg] at h
      split
      · rename_i ft s' h1; simp only [h1] at h; exact zD_app h
      · rename_i h1; simp only [h1] at h
    · rename_i t want hg
      simp only [hg] at h
      split
      · rename_i c hc
        simp only [hc] at h
        refine ⟨fun hh => ?_, fun hh => zD_app (h.2 hh)⟩
        have := h.1 hh
        split
        · rename_i ft s' h1; simp only [h1] at this; exact zD_app this
        · rename_i h1; simp only [h1] at this
      · rename_i hc; simp only [hc] at h
theorem zD_cut {R : Rsv} {K : List Foot → ST → Prop} {is : List PI} {fs : List Foot} {s : ST} (n : Nat) (fs1 : List Foot) (s1 : ST) (h1 : ∀ K' : List Foot → ST → Prop, K' fs1 s1 → zD R K' (is.take n) fs s) (h2 : zD R K (is.drop n) fs1 s1) : zD R K is fs s := by
  have := zD_app (h1 (fun fs s => zD R K (is.drop n) fs s) h2)
  rwa [List.take_append_drop] at this
theorem XZ_drawG {R : Rsv} {k0 : Nat} {ops : List PI} {anc : List (List Nat)} {ks : List Nat} {e : List (Nat × AV)} {h : HL} {n : Nat} {Q : Exit → ST → Prop} (hh : zD R (goD anc ks Q) ops [] ⟨e, h, n⟩) : XZ R k0 (.draw ops anc ks) ⟨e, h, n⟩ Q := by rw [XZ_draw]; exact hh
theorem XZ_seqG {R : Rsv} {k0 : Nat} {a b : PCode} {s : ST} {Q : Exit → ST → Prop} (h : XZ R k0 a s (thenE (fun s' => XZ R k0 b s' Q) Q)) : XZ R k0 (.seq a b) s Q := h
theorem goD_ok {anc : List (List Nat)} {ks : List Nat} {Q : Exit → ST → Prop} {fs : List Foot} {s : ST} (h : indep [] anc fs = true) (h2 : goOn Q ks s) : goD anc ks Q fs s := by
  unfold goD; rw [if_pos h]; exact h2
end Go.Sx
end
