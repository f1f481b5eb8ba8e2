/- Layer 4: keys; which may be; how two are compared. -/
import Derived.Test.YtaejlgdmalhhnaaSa
import Derived.Test.YtaejlgdmalhhnaaBase
set_option linter.unusedVariables false
set_option linter.unusedSimpArgs false
namespace Go.Proofs.Ytaejlgdmalhhnaa
open Go.RowKit

/-- A key of a schema. -/
structure Ky where
  id : Int
  bl : Bool
  kd : Int
  af : Bool
  be : Bool
  gr : Int
deriving DecidableEq
def Ky.cells (k : Ky) : List Value := [.int .i64 k.id, .bool k.bl, .int .u8 k.kd, .bool k.af, .bool k.be, .int .i64 k.gr]
def Ky.v (k : Ky) : Value := .agg #[.int .i64 k.id, .bool k.bl, .int .u8 k.kd, .bool k.af, .bool k.be, .int .i64 k.gr]
def Ky.obj (k : Ky) : Obj := .cells #[.int .i64 k.id, .bool k.bl, .int .u8 k.kd, .bool k.af, .bool k.be, .int .i64 k.gr] 25
def mayK (k : Ky) : Bool := (decide (1 ≤ k.id) && decide (k.id ≤ 1000) && decide (1 ≤ k.kd) && decide (k.kd ≤ 4)) && (if k.bl then (!k.be && decide (0 ≤ k.gr)) && decide (k.gr ≤ 8) else k.gr == 0)
set_option maxRecDepth 100000 in
theorem mayKey_any (k : Ky) (w : World) : Calls Try.prog 11 #[k.v] w fun e w' => e = .returned (.bool (mayK k)) ∧ Below w.heap.size w w' := by
  have HB := Aside.mk (below_alloc (below_refl w) k.obj)
  obtain ⟨id, bl, kd, af, be, gr⟩ := k
  unfold Ky.obj at HB
  unfold Ky.v
  by_cases h1 : id < 1
  · have hm : mayK ⟨id, bl, kd, af, be, gr⟩ = false := by unfold mayK; simp; omega
    rw [hm]
    go_enter Try.func11, Try.ntmps11
    go_wp2
    go_ret
    exact ⟨rfl, HB.out⟩
  have h1 : 1 ≤ id := by omega
  by_cases h2 : 1000 < id
  · have hm : mayK ⟨id, bl, kd, af, be, gr⟩ = false := by unfold mayK; simp; omega
    rw [hm]
    go_enter Try.func11, Try.ntmps11
    go_wp2
    go_ret
    exact ⟨rfl, HB.out⟩
  have h2 : id ≤ 1000 := by omega
  by_cases h3 : kd < 1
  · have hm : mayK ⟨id, bl, kd, af, be, gr⟩ = false := by unfold mayK; simp; omega
    rw [hm]
    go_enter Try.func11, Try.ntmps11
    go_wp2
    go_ret
    exact ⟨rfl, HB.out⟩
  have h3 : 1 ≤ kd := by omega
  by_cases h4 : 4 < kd
  · have hm : mayK ⟨id, bl, kd, af, be, gr⟩ = false := by unfold mayK; simp; omega
    rw [hm]
    go_enter Try.func11, Try.ntmps11
    go_wp2
    go_ret
    exact ⟨rfl, HB.out⟩
  have h4 : kd ≤ 4 := by omega
  cases bl
  · have hm : mayK ⟨id, false, kd, af, be, gr⟩ = (gr == 0) := by unfold mayK; simp [h1, h2, h3, h4]
    rw [hm]
    go_enter Try.func11, Try.ntmps11
    go_wp2
    go_ret
    exact ⟨rfl, HB.out⟩
  cases be
  rotate_left
  · have hm : mayK ⟨id, true, kd, af, true, gr⟩ = false := by unfold mayK; simp
    rw [hm]
    go_enter Try.func11, Try.ntmps11
    go_wp2
    go_ret
    exact ⟨rfl, HB.out⟩
  by_cases h5 : gr < 0
  · have hm : mayK ⟨id, true, kd, af, false, gr⟩ = false := by unfold mayK; simp; omega
    rw [hm]
    go_enter Try.func11, Try.ntmps11
    go_wp2
    go_ret
    exact ⟨rfl, HB.out⟩
  have h5 : 0 ≤ gr := by omega
  have hm : mayK ⟨id, true, kd, af, false, gr⟩ = decide (gr ≤ 8) := by unfold mayK; simp [h1, h2, h3, h4, h5]
  rw [hm]
  go_enter Try.func11, Try.ntmps11
  go_wp2
  go_ret
  exact ⟨rfl, HB.out⟩
theorem isNaN_int (x : Int) (w : World) : Calls Try.prog 18 #[.int .i64 x] w fun e w' => e = .returned (.bool false) ∧ w' = w := by
  go_enter Try.func18, Try.ntmps18
  go_wp2
  go_ret
  exact ⟨rfl, rfl⟩
theorem compare_int (x y : Int) (w : World) : Calls Try.prog 14 #[.int .i64 x, .int .i64 y] w fun e w' => e = .returned (.int .i64 (Lib.compareInt x y)) ∧ w' = w := by
  have HN := Aside.mk isNaN_int
  by_cases h1 : x < y
  · have hc : Lib.compareInt x y = -1 := by unfold Lib.compareInt; simp [h1]
    rw [hc]
    go_enter Try.func14, Try.ntmps14
    go_wp2_with (go_at_call 18; go_must (refine (HN.out _ _).mono ?_; rintro e w' ⟨rfl, rfl⟩))
    go_ret
    exact ⟨rfl, rfl⟩
  have h1 : y ≤ x := by omega
  by_cases h2 : y < x
  · have hc : Lib.compareInt x y = 1 := by unfold Lib.compareInt; simp [h2]; omega
    rw [hc]
    go_enter Try.func14, Try.ntmps14
    go_wp2_with (go_at_call 18; go_must (refine (HN.out _ _).mono ?_; rintro e w' ⟨rfl, rfl⟩))
    go_ret
    exact ⟨rfl, rfl⟩
  · have hc : Lib.compareInt x y = 0 := by unfold Lib.compareInt; rw [if_neg (by omega), if_neg (by omega)]
    have h2 : x ≤ y := by omega
    rw [hc]
    go_enter Try.func14, Try.ntmps14
    go_wp2_with (go_at_call 18; go_must (refine (HN.out _ _).mono ?_; rintro e w' ⟨rfl, rfl⟩))
    go_ret
    exact ⟨rfl, rfl⟩
open Go.Shelf Go.Lib Go.Sort in
theorem closure81 (x y : Ky) (W : World) : Calls Try.prog 13 #[x.v, y.v] W fun e w' => e = .returned (.int .i64 (Lib.compareInt x.id y.id)) ∧ ∃ q os', w' = grow (W.drewN q) os' := by
  have HC := Aside.mk (compare_int x.id y.id)
  obtain ⟨r, hr⟩ : ∃ r, Lib.compareInt x.id y.id = r := ⟨_, rfl⟩
  rw [hr] at HC ⊢
  clear hr
  unfold Ky.v
  go_enter Try.func13, Try.ntmps13
  go_wp2_with (go_at_call 14; go_must (refine (HC.out _).mono ?_; rintro e w' ⟨rfl, rfl⟩))
  go_ret
  exact ⟨rfl, 0, _, by rw [alloc_eq_grow, alloc_eq_grow, grow_grow]; rfl⟩
end Go.Proofs.Ytaejlgdmalhhnaa
