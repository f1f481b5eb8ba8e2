/- Layer 3: flags, whole numbers, floats as values. -/
import Derived.Test.YtaejlgdmalhhnaaDoorKit
import Derived.Laws.FloatBits
import Derived.Laws.Cover2
import Derived.Laws.Externs
import Derived.Deep.RegionHeld3
import Derived.Laws.StructEq
set_option linter.unusedVariables false
namespace Go.Proofs.YtaejlgdmalhhnaaDoor
open Go.RowKit

/-- An attribute's value. -/
structure Val where
  k : Int
  n : Int
  f : Nat
  s : ByteArray
deriving DecidableEq
def Val.cells (v : Val) : List Value := [.int .u8 v.k, .int .i64 v.n, .int .u64 (v.f : Int), .string v.s]
def Val.v (v : Val) : Value := .agg #[.int .u8 v.k, .int .i64 v.n, .int .u64 (v.f : Int), .string v.s]

theorem call47 (b : Nat) (w : World) : (callFunc 47 #[.float .f64 b]).run Tryd.prog w = .ok (.value (.int .u64 (b : Int))) w := by
  rw [run_callFunc_extern (e := Extern.MathFloatBits.float64bits) Tryd.func47 (by kernel_rfl) rfl (by kernel_rfl) (by kernel_rfl)]
  rfl
theorem call52 (b : Nat) (w : World) : (callFunc 52 #[.int .u64 (b : Int)]).run Tryd.prog w = .ok (.value (.float .f64 b)) w := by
  rw [run_callFunc_extern (e := Extern.MathFloatBits.float64frombits) Tryd.func52 (by kernel_rfl) rfl (by kernel_rfl) (by kernel_rfl)]
  rfl

/-- Does a float64's word say that it is no number? -/
def nanB (b : Nat) : Bool := Ieee.double.order b b != some .eq
def nanW : Nat := 9221120237041090560
/-- The word of a float64 as a value holds it. -/
def floatW (b : Nat) : Nat := if nanB b then nanW else b
theorem isNaN_any (b : Nat) (w : World) : Calls Tryd.prog 94 #[.float .f64 b] w fun e w' => e = .returned (.bool (nanB b)) ∧ w = w' := by
  go_enter Tryd.func94, Tryd.ntmps94
  go_wp2
  go_ret
  exact ⟨rfl, rfl⟩
def flagN (b : Bool) : Int := if b then 1 else 0
theorem flag_any (b : Bool) (w : World) : Calls Tryd.prog 49 #[.bool b] w fun e w' => e = .returned (.agg #[.int .u8 1, .int .i64 (flagN b), .int .u64 0, .string ⟨#[]⟩]) ∧ Below w.heap.size w w' := by
  cases b
  · go_enter Tryd.func49, Tryd.ntmps49
    go_wp2
    exact bodyPost_ret (v := .agg #[.int .u8 1, .int .i64 0, .int .u64 0, .string ⟨#[]⟩]) (by simp [results, Tryd.results49, go_sem]) rfl ⟨rfl, below_alloc (below_alloc (below_refl w) _) _⟩
  · go_enter Tryd.func49, Tryd.ntmps49
    go_wp2
    exact bodyPost_ret (v := .agg #[.int .u8 1, .int .i64 1, .int .u64 0, .string ⟨#[]⟩]) (by simp [results, Tryd.results49, go_sem]) rfl ⟨rfl, below_alloc (below_alloc (below_refl w) _) _⟩
theorem int_any (n : Int) (w : World) : Calls Tryd.prog 50 #[.int .i64 n] w fun e w' => e = .returned (.agg #[.int .u8 2, .int .i64 n, .int .u64 0, .string ⟨#[]⟩]) ∧ Below w.heap.size w w' := by
  go_enter Tryd.func50, Tryd.ntmps50
  go_wp2
  exact bodyPost_ret (v := .agg #[.int .u8 2, .int .i64 n, .int .u64 0, .string ⟨#[]⟩]) (by simp [results, Tryd.results50, go_sem]) rfl ⟨rfl, below_alloc (below_refl w) _⟩
set_option maxRecDepth 100000 in
theorem float_any (b : Nat) (w : World) : Calls Tryd.prog 51 #[.float .f64 b] w fun e w' => e = .returned (.agg #[.int .u8 3, .int .i64 0, .int .u64 (floatW b : Int), .string ⟨#[]⟩]) ∧ Below w.heap.size w w' := by
  have hn := isNaN_any b
  by_cases h : nanB b = true
  · rw [h] at hn
    have HN := Aside.mk hn
    have hf : ((floatW b : Nat) : Int) = 9221120237041090560 := by unfold floatW; rw [if_pos h]; rfl
    rw [hf]
    clear hn h hf
    go_enter Tryd.func51, Tryd.ntmps51
    go_wp2_with (go_at_call 94; go_must (refine (HN.out _).mono ?_; rintro e w' ⟨rfl, rfl⟩))
    exact bodyPost_ret (v := .agg #[.int .u8 3, .int .i64 0, .int .u64 9221120237041090560, .string ⟨#[]⟩]) (by simp [results, Tryd.results51, go_sem]) rfl ⟨rfl, below_alloc (below_refl w) _⟩
  · have h : nanB b = false := by simpa using h
    have hf : floatW b = b := by unfold floatW; rw [if_neg (by simp [h])]
    rw [hf]
    rw [h] at hn
    have HN := Aside.mk hn
    have h47 := call47 b
    clear hn h hf
    go_enter Tryd.func51, Tryd.ntmps51
    go_wp2_with (go_at_call 94; go_must (refine (HN.out _).mono ?_; rintro e w' ⟨rfl, rfl⟩))
    exact bodyPost_ret (v := .agg #[.int .u8 3, .int .i64 0, .int .u64 (b : Int), .string ⟨#[]⟩]) (by simp [results, Tryd.results51, go_sem]) rfl ⟨rfl, below_alloc (below_refl w) _⟩
/-- '==' of two values. -/
theorem eq_val (a b : Val) (w : World) : (binOp .eql 56 (.agg #[.int .u8 a.k, .int .i64 a.n, .int .u64 (a.f : Int), .string a.s]) (.agg #[.int .u8 b.k, .int .i64 b.n, .int .u64 (b.f : Int), .string b.s])).run Tryd.prog w = .ok (.bool (decide (a = b))) w := by
  have hs : (a.s.toList = b.s.toList) ↔ a.s = b.s := by
    rw [ByteArray.toList_eq, ByteArray.toList_eq]
    constructor
    · intro h; apply ByteArray.ext; apply Array.ext'; exact h
    · intro h; rw [h]
  have hd : (a = b) ↔ (a.k = b.k ∧ a.n = b.n ∧ a.f = b.f ∧ a.s = b.s) := by
    constructor
    · rintro rfl; exact ⟨rfl, rfl, rfl, rfl⟩
    · cases a; cases b; rintro ⟨h1, h2, h3, h4⟩; simp only at h1 h2 h3 h4; subst h1 h2 h3 h4; rfl
  simp [binOp, Op.equal, Op.maxDepth, go_sem, hs, hd]
  by_cases h1 : a.k = b.k <;> by_cases h2 : a.n = b.n <;> by_cases h3 : (a.f : Int) = (b.f : Int) <;> by_cases h4 : a.s = b.s <;> simp [h1, h2, h3, h4] <;> omega
theorem eq_at {a b : Val} {R : Bool} (h : decide (a = b) = R) (w : World) : (binOp .eql 56 (.agg #[.int .u8 a.k, .int .i64 a.n, .int .u64 (a.f : Int), .string a.s]) (.agg #[.int .u8 b.k, .int .i64 b.n, .int .u64 (b.f : Int), .string b.s])).run Tryd.prog w = .ok (.bool R) w := by
  rw [eq_val, h]
end Go.Proofs.YtaejlgdmalhhnaaDoor
