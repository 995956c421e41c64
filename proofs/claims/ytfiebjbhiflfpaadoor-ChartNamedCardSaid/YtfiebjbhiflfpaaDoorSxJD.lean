/- What functions of the chart layer's own statements return: a map made by numbers (plain). No conditions. -/
import Derived.Test.YtfiebjbhiflfpaaDoorSxJJAtoJC
set_option linter.unusedVariables false
set_option linter.unusedSimpArgs false
set_option maxRecDepth 4000
namespace Go.Sx.Ch
open Go Go.Sx Go.Proofs

def u8s (l : List Int) : List AV := l.map fun n => .v (.int .u8 n)
@[simp] theorem u8s_ren (g : Nat → Nat) (l : List Int) : renL g (u8s l) = u8s l := by induction l with | nil => rfl | cons a l ih => simpa [u8s] using ih
@[simp] theorem u8s_clo (l : List Int) : cloL (u8s l) = true := by induction l with | nil => rfl | cons a l ih => simpa [u8s] using ih
@[simp] theorem u8s_flat (l : List Int) : flatL (u8s l) = true := by induction l with | nil => rfl | cons a l ih => simpa [u8s] using ih
@[simp] theorem u8s_fr (id : Nat) (cs : List AV) (l : List Int) : frL id cs (u8s l) = u8s l := by induction l with | nil => rfl | cons a l ih => simpa [u8s] using ih
/-- A sketch's cells. -/
def skA (s : Int) (O : List Int) (g : Int) : List AV := (.v (.int .u8 s) :: u8s O) ++ [.v (.int .u16 g)]
def iota (n : Nat) : List Int := (List.range n).map fun (i : Nat) => (i : Int)
theorem iota_succ (n : Nat) : iota (n + 1) = iota n ++ [(n : Int)] := by simp [iota, List.range_succ]
@[simp] theorem iota_len (n : Nat) : (iota n).length = n := by simp [iota]
/-- Whether a point begins. -/
def beg (g i : Nat) : Bool := decide (i = 0 ∨ g / 2 ^ i % 2 = 1)
/-- What is left, and the points, after i steps. -/
def mdS (O : List Int) (g n : Nat) : Nat → List Int × List (List Int)
  | 0 => (iota n, [])
  | i + 1 =>
    let st := mdS O g n i
    let k := (O.getD i 0).toNat % st.1.length
    (st.1.eraseIdx k, if beg g i = true then st.2 ++ [[st.1.getD k 0]] else st.2.dropLast ++ [st.2.getLastD [] ++ [st.1.getD k 0]])
theorem mdS_len (O : List Int) (g n : Nat) : ∀ {i : Nat}, i ≤ n → (mdS O g n i).1.length = n - i
  | 0, _ => by simp [mdS]
  | i + 1, h => by
    have ih := mdS_len O g n (i := i) (by omega)
    have hp : 0 < (mdS O g n i).1.length := by omega
    simp only [mdS]
    rw [List.length_eraseIdx_of_lt (Nat.mod_lt _ hp), ih]; omega
theorem mdS_ne (O : List Int) (g n : Nat) : ∀ {i : Nat}, 0 < i → ∃ D c, (mdS O g n i).2 = D ++ [c]
  | i + 1, _ => by
    simp only [mdS]
    split
    · exact ⟨_, _, rfl⟩
    · exact ⟨_, _, rfl⟩
theorem lastD_len {L : List (List Int)} {i : Nat} (h : ∀ l ∈ L, l.length ≤ i) : (L.getLastD []).length ≤ i := by
  rcases List.eq_nil_or_concat L with rfl | ⟨D, c, rfl⟩
  · simp
  · simpa using h c (by simp)
theorem mdS_bd (O : List Int) (g n : Nat) : ∀ i : Nat, (mdS O g n i).2.length ≤ i ∧ ∀ l ∈ (mdS O g n i).2, l.length ≤ i
  | 0 => by simp [mdS]
  | i + 1 => by
    obtain ⟨h1, h2⟩ := mdS_bd O g n i
    have h3 := lastD_len h2
    simp only [mdS]
    split
    · refine ⟨by simp; omega, fun l hl => ?_⟩
      rw [List.mem_append, List.mem_singleton] at hl
      rcases hl with hl | rfl
      · have := h2 l hl; omega
      · simp
    · refine ⟨by simp; omega, fun l hl => ?_⟩
      rw [List.mem_append, List.mem_singleton] at hl
      rcases hl with hl | rfl
      · have := h2 l (List.dropLast_subset _ hl); omega
      · rw [List.length_append, List.length_singleton]; omega
def mdL (s : Nat) (O : List Int) (g most : Nat) : List (List Int) := (mdS O g (2 * (s % (most + 1))) (2 * (s % (most + 1)))).2
/-- The map that is made. -/
def mdV (L : List (List Int)) : AV := .agg [if L.length = 0 then .v (.slice none 0 0) else .il (lls L) L.length false]
def inA' : AV → Int
  | .v (.int _ n) => n
  | _ => 0
def skS (K : List AV) : Int := inA' (K.getD 0 (.v (.bool false)))
def skO (K : List AV) : List Int := ((K.drop 1).take 16).map inA'
def skG (K : List AV) : Int := inA' (K.getD 17 (.v (.bool false)))
theorem skS_of (s : Int) (O : List Int) (g : Int) : skS (skA s O g) = s := rfl
theorem skO_of {s : Int} {O : List Int} {g : Int} (h : O.length = 16) : skO (skA s O g) = O := by
  have h1 : (u8s O).length = 16 := by simp [u8s, h]
  have : ((skA s O g).drop 1).take 16 = u8s O := by
    show (u8s O ++ [AV.v (.int .u16 g)]).take 16 = _
    rw [List.take_left' h1]
  unfold skO
  rw [this]
  simp [u8s, Function.comp_def, inA']
theorem skG_of {s : Int} {O : List Int} {g : Int} (h : O.length = 16) : skG (skA s O g) = g := by
  have h1 : (AV.v (.int .u8 s) :: u8s O).length = 17 := by simp [u8s, h]
  have : (skA s O g).getD 17 (.v (.bool false)) = .v (.int .u16 g) := by
    unfold skA
    rw [List.getD_eq_getElem?_getD, List.getElem?_append_right (by omega), h1]; rfl
  unfold skG
  rw [this]; rfl
def gSk (s : Int) (O : List Int) (g most : Int) : Bool := within 0 s 255 && decide (O.length = 16) && O.all (within 0 · 255) && within 0 g 65535 && within 0 most 8
noncomputable def f49 : List AV → HL → Nat → Option (AV × HL × Nat) := fun args h k => match args, h, k with
  | [.agg K, .v (.int .i64 most)], [], 0 => open Classical in if K = skA (skS K) (skO K) (skG K) ∧ gSk (skS K) (skO K) (skG K) most = true then some (mdV (mdL (skS K).toNat (skO K) (skG K).toNat most.toNat), [], 0) else none
  | _, _, _ => none
theorem f49_at {s : Int} {O : List Int} {g most : Int} (h : gSk s O g most = true) : f49 [.agg (skA s O g), vI most] [] 0 = some (mdV (mdL s.toNat O g.toNat most.toNat), [], 0) := by
  have h1 : O.length = 16 := by
    simp only [gSk, Bool.and_eq_true, decide_eq_true_eq] at h
    exact h.1.1.1.2
  simp only [f49, skS_of, skO_of h1, skG_of h1]
  rw [if_pos ⟨trivial, h⟩]
noncomputable def s49 : Sp := ⟨49, f49⟩
@[simp] theorem s49_g : s49.g = 49 := rfl
@[simp] theorem s49_f : s49.f = f49 := rfl
theorem wrap16 {n : Nat} (h : n < 65536) : IntKind.u16.wrap (n : Int) = n := by
  have : IntKind.u16.bits = 16 := rfl
  have h2 : IntKind.u16.signed = false := rfl
  simp only [IntKind.wrap, this, h2, Bool.false_and, Bool.false_eq_true, if_false]
  omega
abbrev vH (n : Nat) : AV := .v (.int .u16 (n : Int))
theorem and16 (x y : Operand) {a : Nat} (ha : a < 65536) : effPlain2 Tryd.prog (fun u v => do eqGuard .and 58 x y u v; binOp .and 58 u v) (vH a) (.v (.int .u16 1)) = ret (vH (a % 2)) := by
  have e1 : a % 2 ^ IntKind.u16.bits = a := Nat.mod_eq_of_lt (by show a < 65536; omega)
  have e2 : 1 % 2 ^ IntKind.u16.bits = 1 := by decide
  have h2 : a % 2 < 65536 := by omega
  have e3 : IntKind.u16.wrap ((a : Int) % 2) = (a : Int) % 2 := by
    have := wrap16 h2
    simpa using this
  simp [vH, effPlain2, AV.val, eqGuard, binOp, Op.intBits, pureRun, e1, e2, e3, Nat.and_one_is_mod, ofVal, Value.oneCell', ret]
theorem shr16 (x y : Operand) {a p : Nat} (ha : a < 65536) (hp : p < 16) : effPlain2 Tryd.prog (fun u v => do eqGuard .shr 58 x y u v; binOp .shr 58 u v) (vH a) (vI p) = ret (vH (a / 2 ^ p)) := by
  have h0 : ¬ (p : Int) < 0 := by omega
  have h1 : min p 16 = p := by omega
  have h2 : (a : Int).fdiv (2 ^ p) = (a : Int) / 2 ^ p := by
    have e : (2 ^ p : Int) = ((2 ^ p : Nat) : Int) := by simp
    have e2 : (0 : Int) ≤ ((2 ^ p : Nat) : Int) := Int.natCast_nonneg _
    rw [e, Int.fdiv_eq_ediv_of_nonneg _ e2]
  simp [vH, effPlain2, AV.val, eqGuard, binOp, Op.shift, pureRun, h0, IntKind.bits, h1, h2, ofVal, Value.oneCell', ret]
end Go.Sx.Ch
