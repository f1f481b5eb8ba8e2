/- Layer 3: May. -/
import Derived.Test.YtaejlgdmalhhnaaDoorVa
import Derived.Test.YtaejlgdmalhhnaaDoorRj
set_option linter.unusedVariables false
namespace Go.Proofs.YtaejlgdmalhhnaaDoor
open Go.RowKit

def noS : ByteArray := ⟨#[]⟩
/-- Whether a value may be. -/
def mayV (v : Val) : Bool :=
  if v.k = 1 then decide (v = ⟨1, flagN (v.n == 1), 0, ⟨#[]⟩⟩)
  else if v.k = 2 then decide (v = ⟨2, v.n, 0, ⟨#[]⟩⟩)
  else if v.k = 3 then decide (v = ⟨3, 0, floatW v.f, ⟨#[]⟩⟩)
  else if v.k = 4 then decide (v.n = 0 ∧ v.f = 0 ∧ v.s.size ≤ 64 ∧ Lib.validD v.s.data.toList = true) else false

theorem below_alloc_drew (w : World) (o : Obj) : Below w.heap.size w (w.alloc o).drew := (below_alloc (below_refl w) o).drew
set_option maxRecDepth 100000 in
set_option maxHeartbeats 1000000 in
theorem mayV_flag (v : Val) (hk : v.k = 1) (w : World) : Calls Tryd.prog 48 #[v.v] w fun e w' => e = .returned (.bool (mayV v)) ∧ Below w.heap.size w w' := by
  have hm : mayV v = decide (v = ⟨1, flagN (v.n == 1), 0, ⟨#[]⟩⟩) := by unfold mayV; rw [if_pos hk]
  obtain ⟨k, n, f, s⟩ := v
  simp only at hk
  subst hk
  obtain ⟨R, hR⟩ : ∃ R, mayV ⟨1, n, f, s⟩ = R := ⟨_, rfl⟩
  rw [hR]
  rw [hR] at hm
  simp only at hm
  have heq : ∀ W : World, (binOp .eql 56 (.agg #[.int .u8 1, .int .i64 n, .int .u64 (f : Int), .string s]) (.agg #[.int .u8 1, .int .i64 (flagN (n == 1)), .int .u64 0, .string ⟨#[]⟩])).run Tryd.prog W = .ok (.bool R) W := fun W => eq_at (a := ⟨1, n, f, s⟩) (b := ⟨1, flagN (n == 1), 0, ⟨#[]⟩⟩) hm.symm W
  have HF := Aside.mk (fun W => flag_any (n == 1) W)
  clear hm hR
  obtain ⟨nb, hnb⟩ : ∃ nb, (n == 1) = nb := ⟨_, rfl⟩
  rw [hnb] at heq HF
  obtain ⟨fl, hfl⟩ : ∃ fl, flagN nb = fl := ⟨_, rfl⟩
  rw [hfl] at heq HF
  clear hfl
  unfold Val.v
  go_enter Tryd.func48, Tryd.ntmps48
  go_wp2_with fail
  go_region_held3 (fun w' => w'.cell? ⟨w.heap.size, 0, none⟩ = some (.int .u8 1) ∧ w'.cell? ⟨w.heap.size, 1, none⟩ = some (.int .i64 n) ∧ w'.cell? ⟨w.heap.size, 2, none⟩ = some (.int .u64 (f : Int)) ∧ w'.cell? ⟨w.heap.size, 3, none⟩ = some (.string s)) (first | (go_split_ands; refine ⟨cell_below hbw ?_, cell_below hbw ?_, cell_below hbw ?_, cell_below hbw ?_⟩ <;> first | assumption | (simp [go_sem]; done)) | go_keep)
    ((go_at_call 49; refine (HF.out _).mono ?_; rintro e w' ⟨rfl, hbw⟩))
  go_wp2
  go_ret
  exact ⟨rfl, below_then (below_alloc_drew w _) hbw⟩
set_option maxRecDepth 100000 in
set_option maxHeartbeats 1000000 in
theorem mayV_int (v : Val) (hk : v.k = 2) (w : World) : Calls Tryd.prog 48 #[v.v] w fun e w' => e = .returned (.bool (mayV v)) ∧ Below w.heap.size w w' := by
  have hm : mayV v = decide (v = ⟨2, v.n, 0, ⟨#[]⟩⟩) := by unfold mayV; rw [if_neg (by omega), if_pos hk]
  obtain ⟨k, n, f, s⟩ := v
  simp only at hk
  subst hk
  obtain ⟨R, hR⟩ : ∃ R, mayV ⟨2, n, f, s⟩ = R := ⟨_, rfl⟩
  rw [hR]
  rw [hR] at hm
  simp only at hm
  have heq : ∀ W : World, (binOp .eql 56 (.agg #[.int .u8 2, .int .i64 n, .int .u64 (f : Int), .string s]) (.agg #[.int .u8 2, .int .i64 n, .int .u64 0, .string ⟨#[]⟩])).run Tryd.prog W = .ok (.bool R) W := fun W => eq_at (a := ⟨2, n, f, s⟩) (b := ⟨2, n, 0, ⟨#[]⟩⟩) hm.symm W
  have HF := Aside.mk (fun W => int_any n W)
  clear hm hR
  unfold Val.v
  go_enter Tryd.func48, Tryd.ntmps48
  go_wp2_with fail
  go_region_held3 (fun w' => w'.cell? ⟨w.heap.size, 0, none⟩ = some (.int .u8 2) ∧ w'.cell? ⟨w.heap.size, 1, none⟩ = some (.int .i64 n) ∧ w'.cell? ⟨w.heap.size, 2, none⟩ = some (.int .u64 (f : Int)) ∧ w'.cell? ⟨w.heap.size, 3, none⟩ = some (.string s)) (first | (go_split_ands; refine ⟨cell_below hbw ?_, cell_below hbw ?_, cell_below hbw ?_, cell_below hbw ?_⟩ <;> first | assumption | (simp [go_sem]; done)) | go_keep)
    ((go_at_call 50; refine (HF.out _).mono ?_; rintro e w' ⟨rfl, hbw⟩))
  go_wp2
  go_ret
  exact ⟨rfl, below_then (below_alloc_drew w _) hbw⟩
set_option maxRecDepth 100000 in
set_option maxHeartbeats 1000000 in
theorem mayV_float (v : Val) (hk : v.k = 3) (w : World) : Calls Tryd.prog 48 #[v.v] w fun e w' => e = .returned (.bool (mayV v)) ∧ Below w.heap.size w w' := by
  have hm : mayV v = decide (v = ⟨3, 0, floatW v.f, ⟨#[]⟩⟩) := by unfold mayV; rw [if_neg (by omega), if_neg (by omega), if_pos hk]
  obtain ⟨k, n, f, s⟩ := v
  simp only at hk
  subst hk
  obtain ⟨R, hR⟩ : ∃ R, mayV ⟨3, n, f, s⟩ = R := ⟨_, rfl⟩
  rw [hR]
  rw [hR] at hm
  simp only at hm
  have heq : ∀ W : World, (binOp .eql 56 (.agg #[.int .u8 3, .int .i64 n, .int .u64 (f : Int), .string s]) (.agg #[.int .u8 3, .int .i64 0, .int .u64 (floatW f : Int), .string ⟨#[]⟩])).run Tryd.prog W = .ok (.bool R) W := fun W => eq_at (a := ⟨3, n, f, s⟩) (b := ⟨3, 0, floatW f, ⟨#[]⟩⟩) hm.symm W
  have HF := Aside.mk (fun W => float_any f W)
  have h52 := call52 f
  clear hm hR
  obtain ⟨fw, hfw⟩ : ∃ fw : Int, ((floatW f : Nat) : Int) = fw := ⟨_, rfl⟩
  rw [hfw] at heq HF
  clear hfw
  unfold Val.v
  go_enter Tryd.func48, Tryd.ntmps48
  go_wp2_with fail
  go_region_held3 (fun w' => w'.cell? ⟨w.heap.size, 0, none⟩ = some (.int .u8 3) ∧ w'.cell? ⟨w.heap.size, 1, none⟩ = some (.int .i64 n) ∧ w'.cell? ⟨w.heap.size, 2, none⟩ = some (.int .u64 (f : Int)) ∧ w'.cell? ⟨w.heap.size, 3, none⟩ = some (.string s)) (first | (go_split_ands; refine ⟨cell_below hbw ?_, cell_below hbw ?_, cell_below hbw ?_, cell_below hbw ?_⟩ <;> first | assumption | (simp [go_sem]; done)) | go_keep)
    ((go_at_call 51; refine (HF.out _).mono ?_; rintro e w' ⟨rfl, hbw⟩))
  go_wp2
  go_ret
  exact ⟨rfl, below_then (below_alloc_drew w _) hbw⟩
end Go.Proofs.YtaejlgdmalhhnaaDoor
