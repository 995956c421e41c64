/- What functions of the outright laws return: all lists of inspectors are tried. No conditions. -/
import Derived.Test.YtmakepdccccmaaaSxRE
import Derived.Test.YtmakepdccccmaaaSxO6
import Derived.Test.YtmakepdccccmaaaSxJPd11toPd75
set_option linter.unusedVariables false
set_option linter.unusedSimpArgs false
set_option maxRecDepth 4000
namespace Go.Sx.Wk
open Go Go.Sx Go.Proofs

@[simp] theorem bin_eff' (P : Program) (ρ : Operand → AV) (op : BinOp) (t : TypeId) (x y : Operand) : SOp.eff P ρ (.bin op t x y) = effPlain2 P (fun u v => do eqGuard op t x y u v; binOp op t u v) (ρ x) (ρ y) := rfl
theorem shlI (x y : Operand) {s : Nat} (h : s < 5) : effPlain2 Try.prog (fun u v => do eqGuard .shl 3 x y u v; binOp .shl 3 u v) (.v (.int .i64 1)) (.v (.int .i64 (s : Int))) = ret (.v (.int .i64 ((2 ^ s : Nat) : Int))) := by
  have : s = 0 ∨ s = 1 ∨ s = 2 ∨ s = 3 ∨ s = 4 := by omega
  rcases this with rfl | rfl | rfl | rfl | rfl <;> (refine Eq.symm (Eq.symm ?_); kernel_rfl)
theorem orI (x y : Operand) {a s : Nat} (ha : a < 16) (h : s < 4) : effPlain2 Try.prog (fun u v => do eqGuard .or 3 x y u v; binOp .or 3 u v) (.v (.int .i64 (a : Int))) (.v (.int .i64 ((2 ^ s : Nat) : Int))) = ret (.v (.int .i64 ((a ||| 2 ^ s : Nat) : Int))) := by
  have h1 : a = 0 ∨ a = 1 ∨ a = 2 ∨ a = 3 ∨ a = 4 ∨ a = 5 ∨ a = 6 ∨ a = 7 ∨ a = 8 ∨ a = 9 ∨ a = 10 ∨ a = 11 ∨ a = 12 ∨ a = 13 ∨ a = 14 ∨ a = 15 := by omega
  have h2 : s = 0 ∨ s = 1 ∨ s = 2 ∨ s = 3 := by omega
  rcases h1 with rfl | rfl | rfl | rfl | rfl | rfl | rfl | rfl | rfl | rfl | rfl | rfl | rfl | rfl | rfl | rfl <;> rcases h2 with rfl | rfl | rfl | rfl <;> (refine Eq.symm (Eq.symm ?_); kernel_rfl)
theorem shrI (x y : Operand) {a s : Nat} (ha : a < 16) (h : s < 4) : effPlain2 Try.prog (fun u v => do eqGuard .shr 3 x y u v; binOp .shr 3 u v) (.v (.int .i64 (a : Int))) (.v (.int .i64 (s : Int))) = ret (.v (.int .i64 ((a / 2 ^ s : Nat) : Int))) := by
  have h1 : a = 0 ∨ a = 1 ∨ a = 2 ∨ a = 3 ∨ a = 4 ∨ a = 5 ∨ a = 6 ∨ a = 7 ∨ a = 8 ∨ a = 9 ∨ a = 10 ∨ a = 11 ∨ a = 12 ∨ a = 13 ∨ a = 14 ∨ a = 15 := by omega
  have h2 : s = 0 ∨ s = 1 ∨ s = 2 ∨ s = 3 := by omega
  rcases h1 with rfl | rfl | rfl | rfl | rfl | rfl | rfl | rfl | rfl | rfl | rfl | rfl | rfl | rfl | rfl | rfl <;> rcases h2 with rfl | rfl | rfl | rfl <;> (refine Eq.symm (Eq.symm ?_); kernel_rfl)
theorem andI (x y : Operand) {a : Nat} (ha : a < 16) : effPlain2 Try.prog (fun u v => do eqGuard .and 3 x y u v; binOp .and 3 u v) (.v (.int .i64 (a : Int))) (.v (.int .i64 1)) = ret (.v (.int .i64 ((a % 2 : Nat) : Int))) := by
  have h1 : a = 0 ∨ a = 1 ∨ a = 2 ∨ a = 3 ∨ a = 4 ∨ a = 5 ∨ a = 6 ∨ a = 7 ∨ a = 8 ∨ a = 9 ∨ a = 10 ∨ a = 11 ∨ a = 12 ∨ a = 13 ∨ a = 14 ∨ a = 15 := by omega
  rcases h1 with rfl | rfl | rfl | rfl | rfl | rfl | rfl | rfl | rfl | rfl | rfl | rfl | rfl | rfl | rfl | rfl <;> (refine Eq.symm (Eq.symm ?_); kernel_rfl)

/-- The best list so far, or none. -/
def bO : Option (List Int) → AV
  | none => .v (.slice none 0 0)
  | some L => .il (ints L) L.length false
def dbO : AV → Option (Option (List Int))
  | .v (.slice none 0 0) => some none
  | .il c n false => match unints c with
    | some L => if n = L.length then some (some L) else none
    | none => none
  | _ => none
@[simp] theorem dbO_bO (b : Option (List Int)) : dbO (bO b) = some b := by cases b <;> simp [dbO, bO]
theorem dbO_inv {x : AV} {b : Option (List Int)} (h : dbO x = some b) : x = bO b := by
  unfold dbO at h
  split at h
  · cases h; rfl
  · split at h
    · rename_i L hL
      split at h
      · rename_i hn; cases h; rw [unints_inv hL, hn]; rfl
      · cases h
    · cases h
  · cases h
@[simp] theorem bO_ids (b : Option (List Int)) : ids (bO b) = [] := by cases b <;> rfl
@[simp] theorem bO_ren (g : Nat → Nat) (b : Option (List Int)) : ren g (bO b) = bO b := by cases b <;> simp [bO]
@[simp] theorem bO_in (p : Nat → Bool) (b : Option (List Int)) : inA p (bO b) = true := by cases b <;> simp [bO]
@[simp] theorem bO_fr (id : Nat) (cs : List AV) (b : Option (List Int)) : frA id cs (bO b) = bO b := by cases b <;> simp [bO]
/-- Groups from one on. -/
def rest (g : Nat) : Nat → List Int
  | 0 => []
  | m + 1 => (g : Int) :: rest (g + 1) m
theorem rest_eq : ∀ {m g : Nat}, rest g m = (List.range m).map fun (j : Nat) => ((g + j : Nat) : Int)
  | 0, g => rfl
  | m + 1, g => by
    rw [rest, rest_eq, List.range_succ_eq_map]
    simp only [List.map_cons, List.map_map, Nat.add_zero, List.cons.injEq, true_and]
    refine List.map_congr_left fun x _ => ?_
    simp only [Function.comp]; congr 1; omega
theorem gs_rest (n : Nat) : gs n = rest 0 n := by rw [rest_eq]; simp [gs]
/-- All groups so far have a stretch. -/
def rgB (l : List Int) : Bool := (gs (nextL l).toNat).all fun g => l.contains g
theorem rgB_iff {l : List Int} : rgB l = true ↔ ∀ g : Int, 0 ≤ g → g < nextL l → g ∈ l := by
  have h0 := nextL_nonneg l
  simp only [rgB, List.all_eq_true, gs_mem, List.contains_iff_mem]
  exact ⟨fun h g a b => h g ⟨a, by omega⟩, fun h g a => h g a.1 (by omega)⟩
theorem rgB_app {l : List Int} {g : Int} (h : rgB l = true) (h0 : 0 ≤ g) (hg : g ≤ nextL l) : rgB (l ++ [g]) = true := by
  rw [rgB_iff] at h ⊢
  intro x h1 h2
  rw [nextL_app] at h2
  rw [List.mem_append, List.mem_singleton]
  by_cases hx : x < nextL l
  · exact .inl (h x h1 hx)
  · right; omega
def g47 (f : Nat) (t l : List Int) (x : Int) : Bool := decide (t.length ≤ 4) && decide (l.length ≤ t.length) && decide (t.length - l.length < f) && decide (x = nextL l) && l.all (within 0 · 4) && decide (nextL l ≤ l.length) && rgB l
theorem g47_iff {f : Nat} {t l : List Int} {x : Int} : g47 f t l x = true ↔ t.length ≤ 4 ∧ l.length ≤ t.length ∧ t.length - l.length < f ∧ x = nextL l ∧ (∀ y ∈ l, 0 ≤ y ∧ y ≤ 4) ∧ nextL l ≤ l.length ∧ rgB l = true := by
  simp only [g47, Bool.and_eq_true, decide_eq_true_eq, List.all_eq_true, within_iff, and_assoc]
def R47 (t l : List Int) (fw : Int) : Option (List Int) × Int := bstO (goodF t) nextL (divs (t.length - l.length) l) fw
def hp47 (t l : List Int) (fw : Int) (b : Option (List Int)) (u : Bool) : HL := [(0, .cells (ints l)), (1, .cells [vI t.length]), (2, .cells [.il (bls (evL t (2 ^ t.length))) (2 ^ t.length) u]), (3, .cells [vI fw]), (4, .cells [bO b]), (5, .cells [.fn (.func 47) [] [.ptr 1 0, .ptr 2 0, .ptr 3 0, .ptr 4 0, .ptr 5 0]])]
def ho47 (t : List Int) (fw : Int) (b : Option (List Int)) (u : Bool) : HL := [(1, .cells [vI t.length]), (2, .cells [.il (bls (evL t (2 ^ t.length))) (2 ^ t.length) u]), (3, .cells [vI fw]), (4, .cells [bO b]), (5, .cells [.fn (.func 47) [] [.ptr 1 0, .ptr 2 0, .ptr 3 0, .ptr 4 0, .ptr 5 0]])]
def G47 (t : List Int) (f : Nat) : List AV → HL → Nat → Option (AV × HL × Nat) := fun args h k => match args, h, k with
  | [.ref 0 0 m 1 none, .v (.int .i64 x), .ptr 1 0, .ptr 2 0, .ptr 3 0, .ptr 4 0, .ptr 5 0], [(0, .cells cl), (1, .cells [.v (.int .i64 n)]), (2, .cells [.il ce ne u]), (3, .cells [.v (.int .i64 fw)]), (4, .cells [o]), (5, .cells [.fn (.func 47) [] [.ptr 1 0, .ptr 2 0, .ptr 3 0, .ptr 4 0, .ptr 5 0]])], 6 => match unints cl with
    | some l => match unbls ce with
      | some E => match dbO o with
        | some b => if m = l.length ∧ n = t.length ∧ E = evL t (2 ^ t.length) ∧ ne = 2 ^ t.length ∧ g47 f t l x = true ∧ 0 < l.length then some (.tup [], ho47 t (R47 t l fw).2 ((R47 t l fw).1.or b) u, 6) else none
        | none => none
      | none => none
    | none => none
  | _, _, _ => none
def put47 (t : List Int) (f : Nat) : Sp := ⟨47, G47 t f⟩
@[simp] theorem put47_g (t : List Int) (f : Nat) : (put47 t f).g = 47 := rfl
@[simp] theorem put47_f (t : List Int) (f : Nat) : (put47 t f).f = G47 t f := rfl
theorem R47_leaf {t l : List Int} {fw : Int} (h : l.length = t.length) : R47 t l fw = if goodF t l = true ∧ nextL l < fw then (some l, nextL l) else (none, fw) := by
  unfold R47
  rw [h, Nat.sub_self]
  simp only [divs, bstO, Bool.and_eq_true, decide_eq_true_eq, Option.none_or]
theorem R47_node {t l : List Int} {fw : Int} {r x : Nat} (h : t.length - l.length = r + 1) (hx : nextL l = x) : R47 t l fw = bstO (goodF t) nextL ((rest 0 (x + 1)).flatMap fun g => divs r (l ++ [g])) fw := by
  unfold R47
  rw [h]
  simp only [divs, hx, Int.toNat_natCast, gs_rest]
theorem goodF_rest {t l : List Int} {x : Nat} (hx : nextL l = x) : goodF t l = (rest 0 x).all fun g => canB (grpL l t g) := by
  simp only [goodF, hx, Int.toNat_natCast, gs_rest]
end Go.Sx.Wk
