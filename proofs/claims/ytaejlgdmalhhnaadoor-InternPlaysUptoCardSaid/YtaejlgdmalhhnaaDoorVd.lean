/- Layer 3: May at texts; May whole. -/
import Derived.Test.YtaejlgdmalhhnaaDoorVc
set_option linter.unusedVariables false
namespace Go.Proofs.YtaejlgdmalhhnaaDoor
open Go.RowKit

theorem mayV4_eq (v : Val) (hk : v.k = 4) : mayV v = (okText v.s && decide (v = ⟨4, 0, 0, v.s⟩)) := by
  unfold mayV okText
  rw [if_neg (by omega), if_neg (by omega), if_neg (by omega), if_pos hk]
  obtain ⟨k, n, f, s⟩ := v
  simp only at hk
  subst hk
  rw [Bool.eq_iff_iff]
  simp only [decide_eq_true_eq, Bool.and_eq_true, Val.mk.injEq, true_and, and_true]
  constructor
  · rintro ⟨h1, h2, h3, h4⟩; exact ⟨⟨h3, h4⟩, h1, h2⟩
  · rintro ⟨⟨h3, h4⟩, h1, h2⟩; exact ⟨h1, h2, h3, h4⟩

set_option maxRecDepth 100000 in
set_option maxHeartbeats 1000000 in
theorem mayV_text (v : Val) (hk : v.k = 4) (w : World) (hT : Lib.Utf8Tabs 1 2 w) : Calls Tryd.prog 48 #[v.v] w fun e w' => e = .returned (.bool (mayV v)) ∧ Below w.heap.size w w' := by
  have hm := mayV4_eq v hk
  obtain ⟨k, n, f, s⟩ := v
  simp only at hk
  subst hk
  obtain ⟨R, hR⟩ : ∃ R, mayV ⟨4, n, f, s⟩ = R := ⟨_, rfl⟩
  rw [hR]
  rw [hR] at hm
  simp only at hm
  unfold Val.v
  have C1 := text_any s (w.alloc (.cells #[.int .u8 4, .int .i64 n, .int .u64 (f : Int), .string s] 56)) (tabs_below hT (below_alloc (below_refl w) _))
  rcases hok : okText s with _ | _
  · rw [hok, Bool.false_and] at hm
    subst hm
    have C1 := Aside.mk (C1.mono (R' := fun e w' => e = .returned (.tuple #[.agg #[.int .u8 0, .int .i64 0, .int .u64 0, .string ⟨#[]⟩], .int .i64 3]) ∧ Below (w.alloc (.cells #[.int .u8 4, .int .i64 n, .int .u64 (f : Int), .string s] 56)).heap.size (w.alloc (.cells #[.int .u8 4, .int .i64 n, .int .u64 (f : Int), .string s] 56)) w') (fun e w' h => by unfold TextPost at h; rw [if_neg (by simp [hok])] at h; exact h))
    clear hR hok hT
    go_enter Tryd.func48, Tryd.ntmps48
    go_wp2_with fail
    (with_reducible refine C1.out.mono ?_)
    rintro e w1 ⟨rfl, hb1⟩
    go_wp2
    go_ret
    exact ⟨rfl, below_alloc (below_then (below_alloc (below_refl w) _) hb1) _⟩
  · rw [hok, Bool.true_and] at hm
    have C1 := Aside.mk (C1.mono (R' := fun e w' => e = .returned (.tuple #[.agg #[.int .u8 4, .int .i64 0, .int .u64 0, .string s], .int .i64 0]) ∧ Below (w.alloc (.cells #[.int .u8 4, .int .i64 n, .int .u64 (f : Int), .string s] 56)).heap.size (w.alloc (.cells #[.int .u8 4, .int .i64 n, .int .u64 (f : Int), .string s] 56)) w') (fun e w' h => by unfold TextPost at h; rw [if_pos hok] at h; exact h))
    have heq : ∀ W : World, (binOp .eql 56 (.agg #[.int .u8 4, .int .i64 n, .int .u64 (f : Int), .string s]) (.agg #[.int .u8 4, .int .i64 0, .int .u64 0, .string s])).run Tryd.prog W = .ok (.bool R) W := fun W => eq_at (a := ⟨4, n, f, s⟩) (b := ⟨4, 0, 0, s⟩) hm.symm W
    clear hR hok hT hm
    go_enter Tryd.func48, Tryd.ntmps48
    go_wp2_with fail
    (with_reducible refine C1.out.mono ?_)
    rintro e w1 ⟨rfl, hb1⟩
    obtain ⟨kc, kf, kz⟩ := kept_new hb1
    have kc' : ∀ i o, (w1.alloc o).cell? ⟨w.heap.size, i, none⟩ = w1.cell? ⟨w.heap.size, i, none⟩ := fun i o => World.cell?_alloc_past _ _ _ kz
    have kc0 : ∀ o, (w1.alloc o).cell? ⟨w.heap.size, 0, none⟩ = some (.int .u8 4) := fun o => (kc' 0 o).trans (kc 0)
    have kc1 : ∀ o, (w1.alloc o).cell? ⟨w.heap.size, 1, none⟩ = some (.int .i64 n) := fun o => (kc' 1 o).trans (kc 1)
    have kc2 : ∀ o, (w1.alloc o).cell? ⟨w.heap.size, 2, none⟩ = some (.int .u64 (f : Int)) := fun o => (kc' 2 o).trans (kc 2)
    have kc3 : ∀ o, (w1.alloc o).cell? ⟨w.heap.size, 3, none⟩ = some (.string s) := fun o => (kc' 3 o).trans (kc 3)
    have Hb1 := Aside.mk (below_then (below_alloc (below_refl w) _) hb1)
    clear hb1 kc kc'
    go_wp2
    go_ret
    exact ⟨rfl, below_alloc Hb1.out _⟩

set_option maxRecDepth 100000 in
theorem mayV_other (v : Val) (hk : v.k ≠ 1 ∧ v.k ≠ 2 ∧ v.k ≠ 3 ∧ v.k ≠ 4) (w : World) : Calls Tryd.prog 48 #[v.v] w fun e w' => e = .returned (.bool (mayV v)) ∧ Below w.heap.size w w' := by
  have hm : mayV v = false := by unfold mayV; rw [if_neg hk.1, if_neg hk.2.1, if_neg hk.2.2.1, if_neg hk.2.2.2]
  rw [hm]
  obtain ⟨k, n, f, s⟩ := v
  simp only at hk
  have e1 : (k == 1) = false := beq_eq_false_iff_ne.2 hk.1
  have e2 : (k == 2) = false := beq_eq_false_iff_ne.2 hk.2.1
  have e3 : (k == 3) = false := beq_eq_false_iff_ne.2 hk.2.2.1
  have e4 : (k == 4) = false := beq_eq_false_iff_ne.2 hk.2.2.2
  clear hm hk
  unfold Val.v
  go_enter Tryd.func48, Tryd.ntmps48
  go_wp2
  go_ret
  exact ⟨rfl, below_alloc (below_refl w) _⟩
theorem mayV_any (v : Val) (w : World) (hT : Lib.Utf8Tabs 1 2 w) : Calls Tryd.prog 48 #[v.v] w fun e w' => e = .returned (.bool (mayV v)) ∧ Below w.heap.size w w' := by
  by_cases h1 : v.k = 1
  · exact mayV_flag v h1 w
  by_cases h2 : v.k = 2
  · exact mayV_int v h2 w
  by_cases h3 : v.k = 3
  · exact mayV_float v h3 w
  by_cases h4 : v.k = 4
  · exact mayV_text v h4 w hT
  · exact mayV_other v ⟨h1, h2, h3, h4⟩ w
end Go.Proofs.YtaejlgdmalhhnaaDoor
