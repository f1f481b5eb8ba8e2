/- Layer 7: known. -/
import Derived.Test.YtaejlgdmalhhnaaDoorIt
set_option linter.unusedVariables false
set_option linter.unusedSimpArgs false
namespace Go.Proofs.YtaejlgdmalhhnaaDoor
open Go.RowKit Go.Maps

set_option maxRecDepth 100000 in
set_option maxHeartbeats 4000000 in
theorem known7_any (w : World) (hT : Lib.Utf8Tabs 1 2 w) : Calls Tryd.prog 32 #[] w fun e w' => e = .returned (.bool true) ∧ Below w.heap.size w w' := by
  have HT := Aside.mk hT
  have N1 := Aside.mk newI
  unfold kIObj at N1
  clear hT
  go_enter Tryd.func32, Tryd.ntmps32
  go_wp2_with fail
  (with_reducible refine (N1.out _).mono ?_)
  rintro e w1 ⟨hb1, h1⟩
  rw [kI_ok, if_pos rfl] at h1
  obtain ⟨v, srt, rfl, hS, hv, hp, hs⟩ := h1
  have hsp : ∃ so, v = .pointer so := by rcases hS with ⟨rfl, _⟩ | ⟨g, A, c, m, rfl, _⟩ <;> exact ⟨_, rfl⟩
  obtain ⟨so, rfl⟩ := hsp
  have R2 := Aside.mk (run_new (w := w) (below_then (below_alloc (below_refl w) kIObj) hb1) hS (Nat.le_refl _))
  clear hS hv hp hs hb1
  go_wp2_with fail
  (with_reducible refine (new7_any so w1).mono ?_)
  rintro e w2 ⟨rfl, rfl⟩
  go_wp2_with fail
  (with_reducible refine (run_nil R2.out (by decide) HT.out (P' := []) (free' := []) (empty' := 1) (id := 0) (err := 0) (by decide +kernel)).mono ?_)
  rintro e w3 ⟨rfl, hr, _⟩
  have R3 := Aside.mk hr
  clear hr
  go_wp2_with fail
  (with_reducible refine (flags_any 1 _).mono ?_)
  rintro e w' ⟨rfl, rfl⟩
  go_wp2_with fail
  (with_reducible refine (run_flag 1 R3.out (by decide) HT.out (by decide) (P' := [(flagA 1, 1)]) (free' := []) (empty' := 1) (id := 1) (err := 0) (by decide +kernel)).mono ?_)
  rintro e w4 ⟨rfl, hr, _⟩
  have R4 := Aside.mk hr
  clear hr
  go_wp2_with fail
  (with_reducible refine (flags_any 1 _).mono ?_)
  rintro e w' ⟨rfl, rfl⟩
  go_wp2_with fail
  (with_reducible refine (run_flag 1 R4.out (by decide) HT.out (by decide) (P' := [(flagA 1, 2)]) (free' := []) (empty' := 1) (id := 1) (err := 0) (by decide +kernel)).mono ?_)
  rintro e w5 ⟨rfl, hr, _⟩
  have R5 := Aside.mk hr
  clear hr
  go_wp2_with fail
  (with_reducible refine (flags_any 0 _).mono ?_)
  rintro e w' ⟨rfl, rfl⟩
  go_wp2_with fail
  (with_reducible refine (run_flag 0 R5.out (by decide) HT.out (by decide) (P' := [(flagA 1, 2), (flagA 0, 1)]) (free' := []) (empty' := 1) (id := 2) (err := 0) (by decide +kernel)).mono ?_)
  rintro e w6 ⟨rfl, hr, _⟩
  have R6 := Aside.mk hr
  clear hr
  have L7 := Aside.mk (show Calls Tryd.prog 57 #[.pointer (some ⟨w1.heap.size + 1, 0, none⟩)] w6 fun e w' => e = .returned (.int .i64 3) ∧ Below w6.heap.size w6 w' from lenM R6.out.tab (by decide))
  go_wp2_with fail
  (with_reducible refine L7.out.mono ?_)
  rintro e w7 ⟨rfl, hb⟩
  have R7 := Aside.mk (R6.out.later hb)
  clear hb
  go_wp2_with fail
  (with_reducible refine (run_free 1 R7.out (by decide) (by decide) (P' := [(flagA 1, 1), (flagA 0, 1)]) (free' := []) (empty' := 1) (err := 0) (by decide +kernel)).mono ?_)
  rintro e w8 ⟨rfl, hr, _⟩
  have R8 := Aside.mk hr
  clear hr
  go_wp2_with fail
  (with_reducible refine (run_free 1 R8.out (by decide) (by decide) (P' := [([], 0), (flagA 0, 1)]) (free' := [0]) (empty' := 1) (err := 0) (by decide +kernel)).mono ?_)
  rintro e w9 ⟨rfl, hr, _⟩
  have R9 := Aside.mk hr
  clear hr
  go_wp2_with fail
  (with_reducible refine (run_free 1 R9.out (by decide) (by decide) (P' := [([], 0), (flagA 0, 1)]) (free' := [0]) (empty' := 1) (err := 5) (by decide +kernel)).mono ?_)
  rintro e w10 ⟨rfl, hr, _⟩
  have R10 := Aside.mk hr
  clear hr
  have L11 := Aside.mk (show Calls Tryd.prog 57 #[.pointer (some ⟨w1.heap.size + 1, 0, none⟩)] w10 fun e w' => e = .returned (.int .i64 2) ∧ Below w10.heap.size w10 w' from lenM R10.out.tab (by decide))
  go_wp2_with fail
  (with_reducible refine L11.out.mono ?_)
  rintro e w11 ⟨rfl, hb⟩
  have R11 := Aside.mk (R10.out.later hb)
  clear hb
  have H12 := Aside.mk (show Calls Tryd.prog 56 #[.pointer (some ⟨w1.heap.size + 1, 0, none⟩), .int .i64 2] w11 fun e w' => e = .returned (.int .i64 1) ∧ Below w11.heap.size w11 w' from heldM 2 R11.out.tab (by decide) (by decide))
  go_wp2_with fail
  (with_reducible refine H12.out.mono ?_)
  rintro e w12 ⟨rfl, hb⟩
  have R12 := Aside.mk (R11.out.later hb)
  clear hb
  go_wp2
  go_ret
  exact ⟨rfl, R12.out.below⟩
end Go.Proofs.YtaejlgdmalhhnaaDoor
