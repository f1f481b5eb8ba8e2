/- Layer 3: known. -/
import Derived.Test.YtaejlgdmalhhnaaDoorVk
set_option linter.unusedVariables false
namespace Go.Proofs.YtaejlgdmalhhnaaDoor
open Go.RowKit

def kA : Val := ⟨3, 0, 9223372036854775808, ⟨#[]⟩⟩
def kB : Val := ⟨3, 0, 0, ⟨#[]⟩⟩
theorem kAB : lessV kA kB = true := by decide +kernel
theorem kBA : lessV kB kA = false := by decide +kernel
theorem kNan : mayV ⟨3, 0, 9221120237041090561, ⟨#[]⟩⟩ = false := by decide +kernel
theorem kNaw : mayV ⟨3, 0, 9221120237041090560, ⟨#[]⟩⟩ = true := by decide +kernel
theorem kThree : numB ⟨2, 3, 0, ⟨#[]⟩⟩ = some 4613937818241073152 := by decide +kernel
/-- '!=' of two values. -/
theorem ne_at {a b : Val} {R : Bool} (h : decide (a = b) = !R) (w : World) : (binOp .neq 56 (.agg #[.int .u8 a.k, .int .i64 a.n, .int .u64 (a.f : Int), .string a.s]) (.agg #[.int .u8 b.k, .int .i64 b.n, .int .u64 (b.f : Int), .string b.s])).run Tryd.prog w = .ok (.bool R) w := by
  have he := eq_at h w
  rw [run_eql_struct] at he
  rw [run_neq_struct]
  generalize (Op.equalIn 10000 56 (.agg #[.int .u8 a.k, .int .i64 a.n, .int .u64 (a.f : Int), .string a.s]) (.agg #[.int .u8 b.k, .int .i64 b.n, .int .u64 (b.f : Int), .string b.s])).run Tryd.prog w = r at he ⊢
  cases r <;> simp_all [Result.andThen]
theorem box_below4 {w w1 : World} {g : Nat} {k n : Int} {f : Nat} {s : ByteArray} (h : Box w g ⟨k, n, f, s⟩) (hb : Below w.heap.size w w1) :
    w1.cell? ⟨g, 0, none⟩ = some (.int .u8 k) ∧ w1.cell? ⟨g, 1, none⟩ = some (.int .i64 n) ∧ w1.cell? ⟨g, 2, none⟩ = some (.int .u64 (f : Int)) ∧ w1.cell? ⟨g, 3, none⟩ = some (.string s) := h.below hb
set_option maxRecDepth 100000 in
set_option maxHeartbeats 2000000 in
theorem known3_any (w : World) (hT : Lib.Utf8Tabs 1 2 w) : Calls Tryd.prog 42 #[] w fun e w' => e = .returned (.bool true) ∧ Below w.heap.size w w' := by
  have HT := Aside.mk (fun W (h : Below w.heap.size w W) => tabs_below hT h)
  have H91 := Aside.mk copysign0
  have F1 := Aside.mk (fun W => show Calls Tryd.prog 51 #[.float .f64 9223372036854775808] W fun e w' => e = .returned (.agg #[.int .u8 3, .int .i64 0, .int .u64 9223372036854775808, .string ⟨#[]⟩]) ∧ Below W.heap.size W w' from float_any 9223372036854775808 W)
  have F2 := Aside.mk (fun W => show Calls Tryd.prog 51 #[.float .f64 0] W fun e w' => e = .returned (.agg #[.int .u8 3, .int .i64 0, .int .u64 0, .string ⟨#[]⟩]) ∧ Below W.heap.size W w' from float_any 0 W)
  have F3 := Aside.mk (fun W => show Calls Tryd.prog 51 #[.float .f64 9221120237041090561] W fun e w' => e = .returned (.agg #[.int .u8 3, .int .i64 0, .int .u64 9221120237041090560, .string ⟨#[]⟩]) ∧ Below W.heap.size W w' from float_any 9221120237041090561 W)
  have I3 := Aside.mk (fun W => int_any 3 W)
  have N3 := Aside.mk (fun W h => show Calls Tryd.prog 45 #[.agg #[.int .u8 2, .int .i64 3, .int .u64 0, .string ⟨#[]⟩]] W fun e w' => e = .returned (.tuple #[.float .f64 4613937818241073152, .bool true]) ∧ Below W.heap.size W w' from by
    have h := number_any ⟨2, 3, 0, ⟨#[]⟩⟩ W h
    rw [kThree] at h; exact h)
  have L1 := Aside.mk (fun W h => show Calls Tryd.prog 58 #[.agg #[.int .u8 3, .int .i64 0, .int .u64 9223372036854775808, .string ⟨#[]⟩], .agg #[.int .u8 3, .int .i64 0, .int .u64 0, .string ⟨#[]⟩]] W fun e w' => e = .returned (.bool true) ∧ Below W.heap.size W w' from by
    have h := less_any kA kB W h (by decide) (by decide)
    rw [kAB] at h; exact h)
  have L2 := Aside.mk (fun W h => show Calls Tryd.prog 58 #[.agg #[.int .u8 3, .int .i64 0, .int .u64 0, .string ⟨#[]⟩], .agg #[.int .u8 3, .int .i64 0, .int .u64 9223372036854775808, .string ⟨#[]⟩]] W fun e w' => e = .returned (.bool false) ∧ Below W.heap.size W w' from by
    have h := less_any kB kA W h (by decide) (by decide)
    rw [kBA] at h; exact h)
  have M1 := Aside.mk (fun W h => show Calls Tryd.prog 48 #[.agg #[.int .u8 3, .int .i64 0, .int .u64 9221120237041090561, .string ⟨#[]⟩]] W fun e w' => e = .returned (.bool false) ∧ Below W.heap.size W w' from by
    have h := mayV_any ⟨3, 0, 9221120237041090561, ⟨#[]⟩⟩ W h
    rw [kNan] at h; exact h)
  have M2 := Aside.mk (fun W h => show Calls Tryd.prog 48 #[.agg #[.int .u8 3, .int .i64 0, .int .u64 9221120237041090560, .string ⟨#[]⟩]] W fun e w' => e = .returned (.bool true) ∧ Below W.heap.size W w' from by
    have h := mayV_any ⟨3, 0, 9221120237041090560, ⟨#[]⟩⟩ W h
    rw [kNaw] at h; exact h)
  clear hT
  go_enter Tryd.func42, Tryd.ntmps42
  go_wp2_with (go_at_call 91; go_must (refine (H91.out _).mono ?_; rintro e w' ⟨rfl, rfl⟩))
  (with_reducible refine (F1.out _).mono ?_)
  rintro e w1 ⟨rfl, hb1⟩
  go_wp2_with fail
  (with_reducible refine (F2.out _).mono ?_)
  rintro e w2 ⟨rfl, hb2⟩
  have HB2 := Aside.mk (below_then hb1 hb2)
  clear hb1 hb2
  go_wp2_with fail
  (with_reducible refine (I3.out _).mono ?_)
  rintro e w3 ⟨rfl, hb3⟩
  have A3 := Aside.mk (Box.below (show Box _ w2.heap.size kA from two_a w2 kA kB) hb3)
  have B3 := Aside.mk (Box.below (show Box _ (w2.heap.size + 1) kB from two_b w2 kA kB) hb3)
  have HB3 := Aside.mk (below_then (below_then HB2.out (two_below w2 kA kB)) hb3)
  clear hb3
  go_wp2_with fail
  (with_reducible refine (N3.out _ (HT.out _ HB3.out)).mono ?_)
  rintro e w4 ⟨rfl, hb4⟩
  have A4 := Aside.mk (A3.out.below hb4)
  have B4 := Aside.mk (B3.out.below hb4)
  have HB4 := Aside.mk (below_then HB3.out hb4)
  clear hb4
  have heq : ∀ W : World, (binOp .eql 56 (.agg #[.int .u8 3, .int .i64 0, .int .u64 9223372036854775808, .string ⟨#[]⟩]) (.agg #[.int .u8 3, .int .i64 0, .int .u64 0, .string ⟨#[]⟩])).run Tryd.prog W = .ok (.bool false) W := fun W => eq_at (a := kA) (b := kB) (by decide +kernel) W
  have hne : ∀ W : World, (binOp .neq 56 (.agg #[.int .u8 3, .int .i64 0, .int .u64 9223372036854775808, .string ⟨#[]⟩]) (.agg #[.int .u8 3, .int .i64 0, .int .u64 0, .string ⟨#[]⟩])).run Tryd.prog W = .ok (.bool true) W := fun W => ne_at (a := kA) (b := kB) (by decide +kernel) W
  obtain ⟨a0, a1, a2, a3⟩ := A4.out
  obtain ⟨b0, b1, b2, b3⟩ := B4.out
  replace a2 : w4.cell? ⟨w2.heap.size, 2, none⟩ = some (.int .u64 9223372036854775808) := a2
  replace b2 : w4.cell? ⟨w2.heap.size + 1, 2, none⟩ = some (.int .u64 0) := b2
  unfold kA at a0 a1 a3
  unfold kB at b0 b1 b3
  simp only at a0 a1 a3 b0 b1 b3
  have hord : (FloatKind.f64.format.order 4613937818241073152 4613937818241073152 == some .eq) = true := by decide +kernel
  go_wp2_with fail
  (with_reducible refine (L1.out _ (HT.out _ HB4.out)).mono ?_)
  rintro e w5 ⟨rfl, hb5⟩
  clear a0 a1 a2 a3 b0 b1 b2 b3
  have HB5 := Aside.mk (below_then HB4.out hb5)
  obtain ⟨a0, a1, a2, a3⟩ := A4.out.below hb5
  obtain ⟨b0, b1, b2, b3⟩ := B4.out.below hb5
  replace a2 : w5.cell? ⟨w2.heap.size, 2, none⟩ = some (.int .u64 9223372036854775808) := a2
  replace b2 : w5.cell? ⟨w2.heap.size + 1, 2, none⟩ = some (.int .u64 0) := b2
  unfold kA at a0 a1 a3
  unfold kB at b0 b1 b3
  simp only at a0 a1 a3 b0 b1 b3
  clear hb5
  go_wp2_with fail
  (with_reducible refine (L2.out _ (HT.out _ HB5.out)).mono ?_)
  rintro e w6 ⟨rfl, hb6⟩
  clear a0 a1 a2 a3 b0 b1 b2 b3
  have HB6 := Aside.mk (below_then HB5.out hb6)
  clear hb6
  go_wp2_with fail
  (with_reducible refine (M1.out _ (HT.out _ HB6.out)).mono ?_)
  rintro e w7 ⟨rfl, hb7⟩
  have HB7 := Aside.mk (below_then HB6.out hb7)
  clear hb7
  have H92 := Aside.mk nan_any
  go_wp2_with (go_at_call 92; go_must (refine (H92.out _).mono ?_; rintro e w' ⟨rfl, rfl⟩))
  (with_reducible refine (F3.out _).mono ?_)
  rintro e w8 ⟨rfl, hb8⟩
  have HB8 := Aside.mk (below_then HB7.out hb8)
  clear hb8
  go_wp2_with fail
  (with_reducible refine (M2.out _ (HT.out _ HB8.out)).mono ?_)
  rintro e w9 ⟨rfl, hb9⟩
  have HB9 := Aside.mk (below_then HB8.out hb9)
  clear hb9
  go_wp2
  go_ret
  exact ⟨rfl, HB9.out⟩
end Go.Proofs.YtaejlgdmalhhnaaDoor
