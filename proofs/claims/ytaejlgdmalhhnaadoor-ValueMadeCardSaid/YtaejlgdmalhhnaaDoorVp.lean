/- Layer 3: ValueMade. -/
import Derived.Test.YtaejlgdmalhhnaaDoorVo
set_option linter.unusedVariables false
set_option linter.unusedSimpArgs false
namespace Go.Proofs.YtaejlgdmalhhnaaDoor
open Go.RowKit

theorem Three.blw {w W : World} {a b c : Val} (h : Three w W a b c) : Below w.heap.size w W := h.2.2.2
abbrev CellsM (w W : World) (x n fl : Int) : Prop :=
  W.cell? ⟨w.heap.size, 0, none⟩ = some (.int .u8 3) ∧ W.cell? ⟨w.heap.size, 1, none⟩ = some (.int .i64 0) ∧ W.cell? ⟨w.heap.size, 2, none⟩ = some (.int .u64 x) ∧ W.cell? ⟨w.heap.size, 3, none⟩ = some (.string ⟨#[]⟩) ∧ W.cell? ⟨w.heap.size + 1, 0, none⟩ = some (.int .u8 2) ∧ W.cell? ⟨w.heap.size + 1, 1, none⟩ = some (.int .i64 n) ∧ W.cell? ⟨w.heap.size + 1, 2, none⟩ = some (.int .u64 0) ∧ W.cell? ⟨w.heap.size + 1, 3, none⟩ = some (.string ⟨#[]⟩) ∧ W.cell? ⟨w.heap.size + 2, 0, none⟩ = some (.int .u8 1) ∧ W.cell? ⟨w.heap.size + 2, 1, none⟩ = some (.int .i64 fl) ∧ W.cell? ⟨w.heap.size + 2, 2, none⟩ = some (.int .u64 0) ∧ W.cell? ⟨w.heap.size + 2, 3, none⟩ = some (.string ⟨#[]⟩) ∧ Below w.heap.size w W
theorem cellsM_of {w W : World} {f : Nat} {x n fl : Int} (h : Three w W ⟨3, 0, f, ⟨#[]⟩⟩ ⟨2, n, 0, ⟨#[]⟩⟩ ⟨1, fl, 0, ⟨#[]⟩⟩ ∧ (f : Int) = x) : CellsM w W x n fl := by
  obtain ⟨h, rfl⟩ := h
  obtain ⟨a0, a1, a2, a3, b0, b1, b2, b3, c0, c1, c2, c3, hb⟩ := Three.cells h
  exact ⟨a0, a1, a2, a3, b0, b1, b2, b3, c0, c1, c2, c3, hb⟩
theorem cellsM_three {w W : World} {f : Nat} {n fl : Int} (h : CellsM w W (f : Int) n fl) : Three w W ⟨3, 0, f, ⟨#[]⟩⟩ ⟨2, n, 0, ⟨#[]⟩⟩ ⟨1, fl, 0, ⟨#[]⟩⟩ := by
  obtain ⟨a0, a1, a2, a3, b0, b1, b2, b3, c0, c1, c2, c3, hb⟩ := h
  exact ⟨⟨a0, a1, a2, a3⟩, ⟨b0, b1, b2, b3⟩, ⟨c0, c1, c2, c3⟩, hb⟩
theorem floatW_idem (f : Nat) : floatW (floatW f) = floatW f := by
  unfold floatW
  cases h : nanB f
  · simp [h]
  · rw [if_pos rfl]
    have : nanB nanW = true := by decide +kernel
    rw [if_pos this]
theorem made_3 (f : Nat) : mayV ⟨3, 0, floatW f, ⟨#[]⟩⟩ = true := by
  unfold mayV
  rw [if_neg (show ¬ (3 : Int) = 1 by decide), if_neg (show ¬ (3 : Int) = 2 by decide), if_pos rfl, floatW_idem]
  simp
theorem made_2 (n : Int) : mayV ⟨2, n, 0, ⟨#[]⟩⟩ = true := by
  unfold mayV
  rw [if_neg (show ¬ (2 : Int) = 1 by decide), if_pos rfl]
  simp
theorem made_1 (b : Bool) : mayV ⟨1, flagN b, 0, ⟨#[]⟩⟩ = true := by
  cases b <;> decide +kernel
theorem cellsM_next {w W W1 : World} {x n fl : Int} (h : CellsM w W x n fl) (hb : Below W.heap.size W W1) : CellsM w W1 x n fl := by
  obtain ⟨a0, a1, a2, a3, b0, b1, b2, b3, c0, c1, c2, c3, hB⟩ := h
  exact ⟨cell_below hb a0, cell_below hb a1, cell_below hb a2, cell_below hb a3, cell_below hb b0, cell_below hb b1, cell_below hb b2, cell_below hb b3, cell_below hb c0, cell_below hb c1, cell_below hb c2, cell_below hb c3, below_then hB hb⟩
set_option maxRecDepth 100000 in
set_option maxHeartbeats 4000000 in
theorem made_false (f : Nat) (n : Int) (b : Bool) (w : World) (hf : f < 18446744073709551616) (hn : (Lit.int .i64 n).wf = true) (hT : Lib.Utf8Tabs 1 2 w) (hq : nanB f = false) :
    Calls Tryd.prog 12 #[.int .u64 (f : Int), .int .i64 n, .bool b] w fun e w' => e = .returned (.bool true) ∧ Below w.heap.size w w' := by
  have HT := Aside.mk (fun W (h : Below w.heap.size w W) => tabs_below hT h)
  have h52 := call52 f
  have F1 := Aside.mk (float_any f)
  have F2 := Aside.mk (float_any (floatW f))
  rw [floatW_idem] at F2
  have I1 := Aside.mk (int_any n)
  have G1 := Aside.mk (flag_any b)
  have MV := Aside.mk (fun W h => show Calls Tryd.prog 48 #[.agg #[.int .u8 3, .int .i64 0, .int .u64 (floatW f : Int), .string ⟨#[]⟩]] W fun e w' => e = .returned (.bool true) ∧ Below W.heap.size W w' from by
    have h := mayV_any ⟨3, 0, floatW f, ⟨#[]⟩⟩ W h
    rw [made_3] at h; exact h)
  have MW := Aside.mk (fun W h => show Calls Tryd.prog 48 #[.agg #[.int .u8 2, .int .i64 n, .int .u64 0, .string ⟨#[]⟩]] W fun e w' => e = .returned (.bool true) ∧ Below W.heap.size W w' from by
    have h := mayV_any ⟨2, n, 0, ⟨#[]⟩⟩ W h
    rw [made_2] at h; exact h)
  have MU := Aside.mk (fun W h => show Calls Tryd.prog 48 #[.agg #[.int .u8 1, .int .i64 (flagN b), .int .u64 0, .string ⟨#[]⟩]] W fun e w' => e = .returned (.bool true) ∧ Below W.heap.size W w' from by
    have h := mayV_any ⟨1, flagN b, 0, ⟨#[]⟩⟩ W h
    rw [made_1] at h; exact h)
  have NV := Aside.mk (fun W h => show Calls Tryd.prog 45 #[.agg #[.int .u8 3, .int .i64 0, .int .u64 (floatW f : Int), .string ⟨#[]⟩]] W fun e w' => e = .returned (.tuple #[.float .f64 (floatW f), .bool true]) ∧ Below W.heap.size W w' from by
    have h := number_any ⟨3, 0, floatW f, ⟨#[]⟩⟩ W h
    rw [numB_3 (made_3 f) rfl] at h; exact h)
  have NW := Aside.mk (fun W h => show Calls Tryd.prog 45 #[.agg #[.int .u8 2, .int .i64 n, .int .u64 0, .string ⟨#[]⟩]] W fun e w' => e = .returned (.tuple #[.float .f64 (floatOfInt .f64 n), .bool true]) ∧ Below W.heap.size W w' from by
    have h := number_any ⟨2, n, 0, ⟨#[]⟩⟩ W h
    rw [numB_2 (made_2 n) rfl] at h; exact h)
  have NU := Aside.mk (fun W h => show Calls Tryd.prog 45 #[.agg #[.int .u8 1, .int .i64 (flagN b), .int .u64 0, .string ⟨#[]⟩]] W fun e w' => e = .returned (.tuple #[.float .f64 0, .bool false]) ∧ Below W.heap.size W w' from by
    have h := number_any ⟨1, flagN b, 0, ⟨#[]⟩⟩ W h
    rw [numB_else (show ¬ (1 : Int) = 3 by decide) (show ¬ (1 : Int) = 2 by decide)] at h; exact h)
  have KN := Aside.mk (fun W h => known3_any W h)
  have TN : Aside (∀ W : World, Three W (((W.alloc (.cells #[.int .u8 3, .int .i64 0, .int .u64 ((floatW f : Nat) : Int), .string ⟨#[]⟩] 56)).alloc (.cells #[.int .u8 2, .int .i64 n, .int .u64 0, .string ⟨#[]⟩] 56)).alloc (.cells #[.int .u8 1, .int .i64 (flagN b), .int .u64 0, .string ⟨#[]⟩] 56)) ⟨3, 0, floatW f, ⟨#[]⟩⟩ ⟨2, n, 0, ⟨#[]⟩⟩ ⟨1, flagN b, 0, ⟨#[]⟩⟩) := Aside.mk (fun W => Three.new W ⟨3, 0, floatW f, ⟨#[]⟩⟩ ⟨2, n, 0, ⟨#[]⟩⟩ ⟨1, flagN b, 0, ⟨#[]⟩⟩)
  have hne : ∀ W : World, (binOp .neq 56 (.agg #[.int .u8 3, .int .i64 0, .int .u64 (floatW f : Int), .string ⟨#[]⟩]) (.agg #[.int .u8 3, .int .i64 0, .int .u64 (floatW f : Int), .string ⟨#[]⟩])).run Tryd.prog W = .ok (.bool false) W := fun W => ne_at (a := ⟨3, 0, floatW f, ⟨#[]⟩⟩) (b := ⟨3, 0, floatW f, ⟨#[]⟩⟩) (by simp) W
  have h47 := call47 (floatW f)
  have HX := Aside.mk (fun h => exact_int (n := n) h)
  have hxx : (FloatKind.f64.format.order f f == some .eq) = true := by
    have h : (Ieee.double.order f f != some .eq) = false := hq
    show (Ieee.double.order f f == some .eq) = true
    cases hh : (Ieee.double.order f f == some .eq) <;> simp_all [bne]
  have hxn : (FloatKind.f64.format.order f f != some .eq) = false := hq
  have hbf : (((floatW f : Nat) : Int) == (f : Int)) = true := by
    have h : floatW f = f := by unfold floatW; rw [hq]; rfl
    rw [h, beq_self_eq_true]
  have hbn : (((floatW f : Nat) : Int) != (f : Int)) = false := by rw [bne, hbf]; rfl
  obtain ⟨fw, hfw⟩ : ∃ fw : Int, ((floatW f : Nat) : Int) = fw := ⟨_, rfl⟩
  obtain ⟨fb, hfb⟩ : ∃ fb : Nat, floatW f = fb := ⟨_, rfl⟩
  rw [hfb] at hfw
  rw [hfb] at F1 F2 MV NV TN hne h47 hbf hbn
  subst hfw
  have HN := Aside.mk hn
  have HF0 := Aside.mk hf
  clear hT hq hf hn
  obtain ⟨fl, hfl⟩ : ∃ fl, flagN b = fl := ⟨_, rfl⟩
  rw [hfl] at G1 MU NU TN
  clear hfl
  go_enter Tryd.func12, Tryd.ntmps12
  go_wp2_with fail
  (with_reducible refine (F1.out _).mono ?_)
  rintro e w1 ⟨rfl, hb1⟩
  go_wp2_with fail
  (with_reducible refine (I1.out _).mono ?_)
  rintro e w2 ⟨rfl, hb2⟩
  go_wp2_with fail
  (with_reducible refine (G1.out _).mono ?_)
  rintro e w3 ⟨rfl, hb3⟩
  have HB3 := Aside.mk (below_then (below_then hb1 hb2) hb3)
  clear hb1 hb2 hb3
  have T : Aside (Three w3 _ ⟨3, 0, fb, ⟨#[]⟩⟩ ⟨2, n, 0, ⟨#[]⟩⟩ ⟨1, fl, 0, ⟨#[]⟩⟩ ∧ (fb : Int) = fb) := Aside.mk ⟨TN.out w3, rfl⟩
  go_wp2_with fail
  have HTT := Aside.mk (fun W (h : Below w3.heap.size w3 W) => HT.out W (below_then HB3.out h))
  (with_reducible refine (MV.out _ (HTT.out _ (Three.blw T.out.1))).mono ?_)
  rintro e w1 ⟨rfl, hb1⟩
  replace T := Aside.mk (⟨Three.next T.out.1 hb1, rfl⟩ : _ ∧ (fb : Int) = fb)
  clear hb1
  obtain ⟨a0, a1, a2, a3, b0, b1, b2, b3, c0, c1, c2, c3, _⟩ := cellsM_of T.out
  go_wp2_with fail
  (with_reducible refine (MW.out _ (HTT.out _ (Three.blw T.out.1))).mono ?_)
  rintro e w1 ⟨rfl, hb1⟩
  clear a0 a1 a2 a3 b0 b1 b2 b3 c0 c1 c2 c3
  replace T := Aside.mk (⟨Three.next T.out.1 hb1, rfl⟩ : _ ∧ (fb : Int) = fb)
  clear hb1
  obtain ⟨a0, a1, a2, a3, b0, b1, b2, b3, c0, c1, c2, c3, _⟩ := cellsM_of T.out
  go_wp2_with fail
  (with_reducible refine (MU.out _ (HTT.out _ (Three.blw T.out.1))).mono ?_)
  rintro e w1 ⟨rfl, hb1⟩
  clear a0 a1 a2 a3 b0 b1 b2 b3 c0 c1 c2 c3
  replace T := Aside.mk (⟨Three.next T.out.1 hb1, rfl⟩ : _ ∧ (fb : Int) = fb)
  clear hb1
  obtain ⟨a0, a1, a2, a3, b0, b1, b2, b3, c0, c1, c2, c3, _⟩ := cellsM_of T.out
  go_wp2_with fail
  (with_reducible refine (NV.out _ (HTT.out _ (Three.blw T.out.1))).mono ?_)
  rintro e w1 ⟨rfl, hb1⟩
  clear a0 a1 a2 a3 b0 b1 b2 b3 c0 c1 c2 c3
  replace T := Aside.mk (⟨Three.next T.out.1 hb1, rfl⟩ : _ ∧ (fb : Int) = fb)
  clear hb1
  obtain ⟨a0, a1, a2, a3, b0, b1, b2, b3, c0, c1, c2, c3, _⟩ := cellsM_of T.out
  go_wp2_with fail
  (with_reducible refine (NW.out _ (HTT.out _ (Three.blw T.out.1))).mono ?_)
  rintro e w1 ⟨rfl, hb1⟩
  clear a0 a1 a2 a3 b0 b1 b2 b3 c0 c1 c2 c3
  replace T := Aside.mk (⟨Three.next T.out.1 hb1, rfl⟩ : _ ∧ (fb : Int) = fb)
  clear hb1
  obtain ⟨a0, a1, a2, a3, b0, b1, b2, b3, c0, c1, c2, c3, _⟩ := cellsM_of T.out
  go_wp2_with fail
  have hSd := (Three.blw T.out.1).drew
  refine wp_region_noPanic ?_
  refine wp_region_held_drew (S := fun W => W.cell? ⟨w3.heap.size, 0, none⟩ = some (.int .u8 3) ∧ W.cell? ⟨w3.heap.size, 1, none⟩ = some (.int .i64 0) ∧ W.cell? ⟨w3.heap.size, 2, none⟩ = some (.int .u64 (fb : Int)) ∧ W.cell? ⟨w3.heap.size, 3, none⟩ = some (.string ⟨#[]⟩) ∧ W.cell? ⟨w3.heap.size + 1, 0, none⟩ = some (.int .u8 2) ∧ W.cell? ⟨w3.heap.size + 1, 1, none⟩ = some (.int .i64 n) ∧ W.cell? ⟨w3.heap.size + 1, 2, none⟩ = some (.int .u64 0) ∧ W.cell? ⟨w3.heap.size + 1, 3, none⟩ = some (.string ⟨#[]⟩) ∧ W.cell? ⟨w3.heap.size + 2, 0, none⟩ = some (.int .u8 1) ∧ W.cell? ⟨w3.heap.size + 2, 1, none⟩ = some (.int .i64 fl) ∧ W.cell? ⟨w3.heap.size + 2, 2, none⟩ = some (.int .u64 0) ∧ W.cell? ⟨w3.heap.size + 2, 3, none⟩ = some (.string ⟨#[]⟩) ∧ Below w3.heap.size w3 W) (by kernel_rfl) ⟨a0, a1, a2, a3, b0, b1, b2, b3, c0, c1, c2, c3, hSd⟩ (fun hHeld => ?_)
  refine take_at (i := 0) (d := some 63) (v := ?v0) rfl rfl (by kernel_rfl) (by kernel_rfl) (by kernel_rfl) (fun _ _ _ h => h) (Or.inl ⟨by rfl, ?hy0⟩) hHeld ?rest0
  case hy0 => (intro w hSw; (try dsimp only at hSw); go_simp; try with_reducible rfl)
  try simp only [Act.put, List.setIfInBounds_toArray, List.set_cons_zero, List.set_cons_succ]
  refine take_at (i := 1) (d := some 64) (v := ?v1) rfl rfl (by kernel_rfl) (by kernel_rfl) (by kernel_rfl) (fun _ _ _ h => h) (Or.inl ⟨by rfl, ?hy1⟩) hHeld ?rest1
  case hy1 => (intro w hSw; (try dsimp only at hSw); go_simp; try with_reducible rfl)
  try simp only [Act.put, List.setIfInBounds_toArray, List.set_cons_zero, List.set_cons_succ]
  refine take_at (i := 2) (d := some 65) (v := ?v2) rfl rfl (by kernel_rfl) (by kernel_rfl) (by kernel_rfl) (fun _ _ _ h => h) (Or.inl ⟨by rfl, ?hy2⟩) hHeld ?rest2
  case hy2 => (intro w hSw; (try dsimp only at hSw); go_simp; try with_reducible rfl)
  try simp only [Act.put, List.setIfInBounds_toArray, List.set_cons_zero, List.set_cons_succ]
  refine take_at (i := 3) (d := some 66) (v := ?v3) rfl rfl (by kernel_rfl) (by kernel_rfl) (by kernel_rfl) (fun _ _ _ h => h) (Or.inl ⟨by rfl, ?hy3⟩) hHeld ?rest3
  case hy3 => (intro w hSw; (try dsimp only at hSw); go_simp; try with_reducible rfl)
  try simp only [Act.put, List.setIfInBounds_toArray, List.set_cons_zero, List.set_cons_succ]
  refine take_at (i := 4) (d := some 67) (v := ?v4) rfl rfl (by kernel_rfl) (by kernel_rfl) (by kernel_rfl) (fun _ _ _ h => h) (Or.inl ⟨by rfl, ?hy4⟩) hHeld ?rest4
  case hy4 => (intro w hSw; (try dsimp only at hSw); go_simp; try with_reducible rfl)
  try simp only [Act.put, List.setIfInBounds_toArray, List.set_cons_zero, List.set_cons_succ]
  refine take_at (i := 5) (d := some 68) (v := ?v5) rfl rfl (by kernel_rfl) (by kernel_rfl) (by kernel_rfl) (fun _ _ _ h => h) (Or.inl ⟨by rfl, ?hy5⟩) hHeld ?rest5
  case hy5 => (intro w hSw; (try dsimp only at hSw); go_simp; try with_reducible rfl)
  try simp only [Act.put, List.setIfInBounds_toArray, List.set_cons_zero, List.set_cons_succ]
  refine take_at (i := 6) (d := some 69) (v := ?v6) rfl rfl (by kernel_rfl) (by kernel_rfl) (by kernel_rfl) (fun _ _ _ h => h) (Or.inl ⟨by rfl, ?hy6⟩) hHeld ?rest6
  case hy6 => (intro w hSw; (try dsimp only at hSw); go_simp; try with_reducible rfl)
  try simp only [Act.put, List.setIfInBounds_toArray, List.set_cons_zero, List.set_cons_succ]
  refine take_at (i := 7) (d := some 70) (v := ?v7) rfl rfl (by kernel_rfl) (by kernel_rfl) (by kernel_rfl) (fun _ _ _ h => h) (Or.inl ⟨by rfl, ?hy7⟩) hHeld ?rest7
  case hy7 => (intro w hSw; (try dsimp only at hSw); go_simp; try with_reducible rfl)
  try simp only [Act.put, List.setIfInBounds_toArray, List.set_cons_zero, List.set_cons_succ]
  refine take_at (i := 9) (d := some 72) (v := ?v9) rfl rfl (by kernel_rfl) (by kernel_rfl) (by kernel_rfl) (fun _ _ _ h => h) (Or.inl ⟨by rfl, ?hy9⟩) hHeld ?rest9
  case hy9 => (intro w hSw; (try dsimp only at hSw); go_simp; try with_reducible rfl)
  try simp only [Act.put, List.setIfInBounds_toArray, List.set_cons_zero, List.set_cons_succ]
  refine wpAnyH_ready (rs := [8]) (by kernel_rfl) (by simp) ?_
  refine AllReadyH.cons rfl (fun K hK => ?_) AllReadyH.nil
  go_simp
  (with_reducible refine (F2.out _).mono ?_)
  rintro e w' ⟨rfl, hbw⟩
  refine hK.out _ _ (cellsM_next hHeld hbw) (fun hHeld' => ?_)
  clear hK K hHeld hbw
  have hHeld := hHeld'
  clear hHeld'
  try simp only [Act.put, List.setIfInBounds_toArray, List.set_cons_zero, List.set_cons_succ]
  refine take_at (i := 10) (d := some 73) (v := ?v10) rfl rfl (by kernel_rfl) (by kernel_rfl) (by kernel_rfl) (fun _ _ _ h => h) (Or.inl ⟨by rfl, ?hy10⟩) hHeld ?rest10
  case hy10 => (intro w hSw; (try dsimp only at hSw); go_simp; try with_reducible rfl)
  try simp only [Act.put, List.setIfInBounds_toArray, List.set_cons_zero, List.set_cons_succ]
  refine take_at (i := 11) (d := some 74) (v := ?v11) rfl rfl (by kernel_rfl) (by kernel_rfl) (by kernel_rfl) (fun _ _ _ h => h) (Or.inl ⟨by rfl, ?hy11⟩) hHeld ?rest11
  case hy11 => (intro w hSw; (try dsimp only at hSw); go_simp; try with_reducible rfl)
  try simp only [Act.put, List.setIfInBounds_toArray, List.set_cons_zero, List.set_cons_succ]
  refine take_at (i := 12) (d := some 75) (v := ?v12) rfl rfl (by kernel_rfl) (by kernel_rfl) (by kernel_rfl) (fun _ _ _ h => h) (Or.inl ⟨by rfl, ?hy12⟩) hHeld ?rest12
  case hy12 => (intro w hSw; (try dsimp only at hSw); go_simp; try with_reducible rfl)
  try simp only [Act.put, List.setIfInBounds_toArray, List.set_cons_zero, List.set_cons_succ]
  refine take_at (i := 13) (d := some 76) (v := ?v13) rfl rfl (by kernel_rfl) (by kernel_rfl) (by kernel_rfl) (fun _ _ _ h => h) (Or.inl ⟨by rfl, ?hy13⟩) hHeld ?rest13
  case hy13 => (intro w hSw; (try dsimp only at hSw); go_simp; try with_reducible rfl)
  try simp only [Act.put, List.setIfInBounds_toArray, List.set_cons_zero, List.set_cons_succ]
  refine take_at (i := 14) (d := some 77) (v := ?v14) rfl rfl (by kernel_rfl) (by kernel_rfl) (by kernel_rfl) (fun _ _ _ h => h) (Or.inl ⟨by rfl, ?hy14⟩) hHeld ?rest14
  case hy14 => (intro w hSw; (try dsimp only at hSw); go_simp; try with_reducible rfl)
  try simp only [Act.put, List.setIfInBounds_toArray, List.set_cons_zero, List.set_cons_succ]
  refine take_at (i := 15) (d := some 78) (v := ?v15) rfl rfl (by kernel_rfl) (by kernel_rfl) (by kernel_rfl) (fun _ _ _ h => h) (Or.inl ⟨by rfl, ?hy15⟩) hHeld ?rest15
  case hy15 => (intro w hSw; (try dsimp only at hSw); go_simp; try with_reducible rfl)
  try simp only [Act.put, List.setIfInBounds_toArray, List.set_cons_zero, List.set_cons_succ]
  refine take_at (i := 16) (d := some 79) (v := ?v16) rfl rfl (by kernel_rfl) (by kernel_rfl) (by kernel_rfl) (fun _ _ _ h => h) (Or.inl ⟨by rfl, ?hy16⟩) hHeld ?rest16
  case hy16 => (intro w hSw; (try dsimp only at hSw); go_simp; try with_reducible rfl)
  try simp only [Act.put, List.setIfInBounds_toArray, List.set_cons_zero, List.set_cons_succ]
  refine take_at (i := 17) (d := some 80) (v := ?v17) rfl rfl (by kernel_rfl) (by kernel_rfl) (by kernel_rfl) (fun _ _ _ h => h) (Or.inl ⟨by rfl, ?hy17⟩) hHeld ?rest17
  case hy17 => (intro w hSw; (try dsimp only at hSw); go_simp; try with_reducible rfl)
  try simp only [Act.put, List.setIfInBounds_toArray, List.set_cons_zero, List.set_cons_succ]
  refine take_at (i := 18) (d := some 81) (v := ?v18) rfl rfl (by kernel_rfl) (by kernel_rfl) (by kernel_rfl) (fun _ _ _ h => h) (Or.inl ⟨by rfl, ?hy18⟩) hHeld ?rest18
  case hy18 => (intro w hSw; (try dsimp only at hSw); go_simp; try with_reducible rfl)
  try simp only [Act.put, List.setIfInBounds_toArray, List.set_cons_zero, List.set_cons_succ]
  refine take_at (i := 19) (d := some 82) (v := ?v19) rfl rfl (by kernel_rfl) (by kernel_rfl) (by kernel_rfl) (fun _ _ _ h => h) (Or.inl ⟨by rfl, ?hy19⟩) hHeld ?rest19
  case hy19 => (intro w hSw; (try dsimp only at hSw); go_simp; try with_reducible rfl)
  try simp only [Act.put, List.setIfInBounds_toArray, List.set_cons_zero, List.set_cons_succ]
  refine take_at (i := 20) (d := some 83) (v := ?v20) rfl rfl (by kernel_rfl) (by kernel_rfl) (by kernel_rfl) (fun _ _ _ h => h) (Or.inl ⟨by rfl, ?hy20⟩) hHeld ?rest20
  case hy20 => (intro w hSw; (try dsimp only at hSw); go_simp; try with_reducible rfl)
  try simp only [Act.put, List.setIfInBounds_toArray, List.set_cons_zero, List.set_cons_succ]
  refine take_at (i := 21) (d := some 84) (v := ?v21) rfl rfl (by kernel_rfl) (by kernel_rfl) (by kernel_rfl) (fun _ _ _ h => h) (Or.inl ⟨by rfl, ?hy21⟩) hHeld ?rest21
  case hy21 => (intro w hSw; (try dsimp only at hSw); go_simp; try with_reducible rfl)
  try simp only [Act.put, List.setIfInBounds_toArray, List.set_cons_zero, List.set_cons_succ]
  refine take_at (i := 22) (d := some 85) (v := ?v22) rfl rfl (by kernel_rfl) (by kernel_rfl) (by kernel_rfl) (fun _ _ _ h => h) (Or.inl ⟨by rfl, ?hy22⟩) hHeld ?rest22
  case hy22 => (intro w hSw; (try dsimp only at hSw); go_simp; try with_reducible rfl)
  try simp only [Act.put, List.setIfInBounds_toArray, List.set_cons_zero, List.set_cons_succ]
  refine take_at (i := 23) (d := some 86) (v := ?v23) rfl rfl (by kernel_rfl) (by kernel_rfl) (by kernel_rfl) (fun _ _ _ h => h) (Or.inl ⟨by rfl, ?hy23⟩) hHeld ?rest23
  case hy23 => (intro w hSw; (try dsimp only at hSw); go_simp; try with_reducible rfl)
  try simp only [Act.put, List.setIfInBounds_toArray, List.set_cons_zero, List.set_cons_succ]
  refine take_at (i := 24) (d := some 87) (v := ?v24) rfl rfl (by kernel_rfl) (by kernel_rfl) (by kernel_rfl) (fun _ _ _ h => h) (Or.inl ⟨by rfl, ?hy24⟩) hHeld ?rest24
  case hy24 => (intro w hSw; (try dsimp only at hSw); go_simp; try with_reducible rfl)
  try simp only [Act.put, List.setIfInBounds_toArray, List.set_cons_zero, List.set_cons_succ]
  refine take_at (i := 25) (d := some 88) (v := ?v25) rfl rfl (by kernel_rfl) (by kernel_rfl) (by kernel_rfl) (fun _ _ _ h => h) (Or.inl ⟨by rfl, ?hy25⟩) hHeld ?rest25
  case hy25 => (intro w hSw; (try dsimp only at hSw); go_simp; try with_reducible rfl)
  try simp only [Act.put, List.setIfInBounds_toArray, List.set_cons_zero, List.set_cons_succ]
  refine take_at (i := 26) (d := some 89) (v := ?v26) rfl rfl (by kernel_rfl) (by kernel_rfl) (by kernel_rfl) (fun _ _ _ h => h) (Or.inl ⟨by rfl, ?hy26⟩) hHeld ?rest26
  case hy26 => (intro w hSw; (try dsimp only at hSw); go_simp; try with_reducible rfl)
  try simp only [Act.put, List.setIfInBounds_toArray, List.set_cons_zero, List.set_cons_succ]
  refine take_at (i := 27) (d := some 90) (v := ?v27) rfl rfl (by kernel_rfl) (by kernel_rfl) (by kernel_rfl) (fun _ _ _ h => h) (Or.inl ⟨by rfl, ?hy27⟩) hHeld ?rest27
  case hy27 => (intro w hSw; (try dsimp only at hSw); go_simp; try with_reducible rfl)
  try simp only [Act.put, List.setIfInBounds_toArray, List.set_cons_zero, List.set_cons_succ]
  refine take_at (i := 28) (d := some 91) (v := undef) rfl rfl (by kernel_rfl) (by kernel_rfl) (by kernel_rfl) (fun _ _ _ h => h) (Or.inr ⟨by rfl, rfl⟩) hHeld ?rest28
  try simp only [Act.put, List.setIfInBounds_toArray, List.set_cons_zero, List.set_cons_succ]
  refine take_at (i := 29) (d := some 92) (v := undef) rfl rfl (by kernel_rfl) (by kernel_rfl) (by kernel_rfl) (fun _ _ _ h => h) (Or.inr ⟨by rfl, rfl⟩) hHeld ?rest29
  try simp only [Act.put, List.setIfInBounds_toArray, List.set_cons_zero, List.set_cons_succ]
  refine take_at (i := 30) (d := some 93) (v := undef) rfl rfl (by kernel_rfl) (by kernel_rfl) (by kernel_rfl) (fun _ _ _ h => h) (Or.inr ⟨by rfl, rfl⟩) hHeld ?rest30
  try simp only [Act.put, List.setIfInBounds_toArray, List.set_cons_zero, List.set_cons_succ]
  refine take_at (i := 31) (d := some 94) (v := ?v31) rfl rfl (by kernel_rfl) (by kernel_rfl) (by kernel_rfl) (fun _ _ _ h => h) (Or.inl ⟨by rfl, ?hy31⟩) hHeld ?rest31
  case hy31 => (intro w hSw; (try dsimp only at hSw); go_simp; try with_reducible rfl)
  try simp only [Act.put, List.setIfInBounds_toArray, List.set_cons_zero, List.set_cons_succ]
  refine take_at (i := 32) (d := some 95) (v := ?v32) rfl rfl (by kernel_rfl) (by kernel_rfl) (by kernel_rfl) (fun _ _ _ h => h) (Or.inl ⟨by rfl, ?hy32⟩) hHeld ?rest32
  case hy32 => (intro w hSw; (try dsimp only at hSw); go_simp; try with_reducible rfl)
  try simp only [Act.put, List.setIfInBounds_toArray, List.set_cons_zero, List.set_cons_succ]
  refine wpAnyH_done (by kernel_rfl) ?_ _
  refine NoPanic.normal ?_
  have T : Aside (Three w3 _ ⟨3, 0, fb, ⟨#[]⟩⟩ ⟨2, n, 0, ⟨#[]⟩⟩ ⟨1, fl, 0, ⟨#[]⟩⟩ ∧ (fb : Int) = fb) := Aside.mk ⟨cellsM_three hHeld, rfl⟩
  clear hHeld a0 a1 a2 a3 b0 b1 b2 b3 c0 c1 c2 c3
  obtain ⟨a0, a1, a2, a3, b0, b1, b2, b3, c0, c1, c2, c3, _⟩ := cellsM_of T.out
  have tb1 := HN.out
  by_cases hr1 : (-9007199254740992 : Int) < n
  rotate_left
  · have hr1 : n ≤ (-9007199254740992 : Int) := by omega
    go_wp2_with fail
    (with_reducible refine (NU.out _ (HTT.out _ (Three.blw T.out.1))).mono ?_)
    rintro e w1 ⟨rfl, hb1⟩
    clear a0 a1 a2 a3 b0 b1 b2 b3 c0 c1 c2 c3
    replace T := Aside.mk (⟨Three.next T.out.1 hb1, rfl⟩ : _ ∧ (fb : Int) = fb)
    clear hb1
    obtain ⟨a0, a1, a2, a3, b0, b1, b2, b3, c0, c1, c2, c3, _⟩ := cellsM_of T.out
    go_wp2_with fail
    (with_reducible refine (KN.out _ (HTT.out _ (Three.blw T.out.1))).mono ?_)
    rintro e w1 ⟨rfl, hb1⟩
    clear a0 a1 a2 a3 b0 b1 b2 b3 c0 c1 c2 c3
    replace T := Aside.mk (⟨Three.next T.out.1 hb1, rfl⟩ : _ ∧ (fb : Int) = fb)
    clear hb1
    obtain ⟨a0, a1, a2, a3, b0, b1, b2, b3, c0, c1, c2, c3, _⟩ := cellsM_of T.out
    go_wp2
    go_ret
    exact ⟨rfl, below_then HB3.out (Three.blw T.out.1)⟩
  by_cases hr2 : n < (9007199254740992 : Int)
  rotate_left
  · have hr2 : (9007199254740992 : Int) ≤ n := by omega
    go_wp2_with fail
    (with_reducible refine (NU.out _ (HTT.out _ (Three.blw T.out.1))).mono ?_)
    rintro e w1 ⟨rfl, hb1⟩
    clear a0 a1 a2 a3 b0 b1 b2 b3 c0 c1 c2 c3
    replace T := Aside.mk (⟨Three.next T.out.1 hb1, rfl⟩ : _ ∧ (fb : Int) = fb)
    clear hb1
    obtain ⟨a0, a1, a2, a3, b0, b1, b2, b3, c0, c1, c2, c3, _⟩ := cellsM_of T.out
    go_wp2_with fail
    (with_reducible refine (KN.out _ (HTT.out _ (Three.blw T.out.1))).mono ?_)
    rintro e w1 ⟨rfl, hb1⟩
    clear a0 a1 a2 a3 b0 b1 b2 b3 c0 c1 c2 c3
    replace T := Aside.mk (⟨Three.next T.out.1 hb1, rfl⟩ : _ ∧ (fb : Int) = fb)
    clear hb1
    obtain ⟨a0, a1, a2, a3, b0, b1, b2, b3, c0, c1, c2, c3, _⟩ := cellsM_of T.out
    go_wp2
    go_ret
    exact ⟨rfl, below_then HB3.out (Three.blw T.out.1)⟩
  have hcv : ∀ W : World, (convert 66 2 (.float .f64 (floatOfInt .f64 n))).run Tryd.prog W = .ok (.int .i64 n) W := fun W => run_convert_float_int W 66 2 .f64 .i64 _ n (by kernel_rfl) Tryd.underlying2 (HX.out (by omega))
  go_wp2_with fail
  (with_reducible refine (NU.out _ (HTT.out _ (Three.blw T.out.1))).mono ?_)
  rintro e w1 ⟨rfl, hb1⟩
  clear a0 a1 a2 a3 b0 b1 b2 b3 c0 c1 c2 c3
  replace T := Aside.mk (⟨Three.next T.out.1 hb1, rfl⟩ : _ ∧ (fb : Int) = fb)
  clear hb1
  obtain ⟨a0, a1, a2, a3, b0, b1, b2, b3, c0, c1, c2, c3, _⟩ := cellsM_of T.out
  go_wp2_with fail
  (with_reducible refine (KN.out _ (HTT.out _ (Three.blw T.out.1))).mono ?_)
  rintro e w1 ⟨rfl, hb1⟩
  clear a0 a1 a2 a3 b0 b1 b2 b3 c0 c1 c2 c3
  replace T := Aside.mk (⟨Three.next T.out.1 hb1, rfl⟩ : _ ∧ (fb : Int) = fb)
  clear hb1
  obtain ⟨a0, a1, a2, a3, b0, b1, b2, b3, c0, c1, c2, c3, _⟩ := cellsM_of T.out
  go_wp2
  go_ret
  exact ⟨rfl, below_then HB3.out (Three.blw T.out.1)⟩
set_option maxRecDepth 100000 in
set_option maxHeartbeats 4000000 in
theorem made_true (f : Nat) (n : Int) (b : Bool) (w : World) (hf : f < 18446744073709551616) (hn : (Lit.int .i64 n).wf = true) (hT : Lib.Utf8Tabs 1 2 w) (hq : nanB f = true) :
    Calls Tryd.prog 12 #[.int .u64 (f : Int), .int .i64 n, .bool b] w fun e w' => e = .returned (.bool true) ∧ Below w.heap.size w w' := by
  have HT := Aside.mk (fun W (h : Below w.heap.size w W) => tabs_below hT h)
  have h52 := call52 f
  have F1 := Aside.mk (float_any f)
  have F2 := Aside.mk (float_any (floatW f))
  rw [floatW_idem] at F2
  have I1 := Aside.mk (int_any n)
  have G1 := Aside.mk (flag_any b)
  have MV := Aside.mk (fun W h => show Calls Tryd.prog 48 #[.agg #[.int .u8 3, .int .i64 0, .int .u64 (floatW f : Int), .string ⟨#[]⟩]] W fun e w' => e = .returned (.bool true) ∧ Below W.heap.size W w' from by
    have h := mayV_any ⟨3, 0, floatW f, ⟨#[]⟩⟩ W h
    rw [made_3] at h; exact h)
  have MW := Aside.mk (fun W h => show Calls Tryd.prog 48 #[.agg #[.int .u8 2, .int .i64 n, .int .u64 0, .string ⟨#[]⟩]] W fun e w' => e = .returned (.bool true) ∧ Below W.heap.size W w' from by
    have h := mayV_any ⟨2, n, 0, ⟨#[]⟩⟩ W h
    rw [made_2] at h; exact h)
  have MU := Aside.mk (fun W h => show Calls Tryd.prog 48 #[.agg #[.int .u8 1, .int .i64 (flagN b), .int .u64 0, .string ⟨#[]⟩]] W fun e w' => e = .returned (.bool true) ∧ Below W.heap.size W w' from by
    have h := mayV_any ⟨1, flagN b, 0, ⟨#[]⟩⟩ W h
    rw [made_1] at h; exact h)
  have NV := Aside.mk (fun W h => show Calls Tryd.prog 45 #[.agg #[.int .u8 3, .int .i64 0, .int .u64 (floatW f : Int), .string ⟨#[]⟩]] W fun e w' => e = .returned (.tuple #[.float .f64 (floatW f), .bool true]) ∧ Below W.heap.size W w' from by
    have h := number_any ⟨3, 0, floatW f, ⟨#[]⟩⟩ W h
    rw [numB_3 (made_3 f) rfl] at h; exact h)
  have NW := Aside.mk (fun W h => show Calls Tryd.prog 45 #[.agg #[.int .u8 2, .int .i64 n, .int .u64 0, .string ⟨#[]⟩]] W fun e w' => e = .returned (.tuple #[.float .f64 (floatOfInt .f64 n), .bool true]) ∧ Below W.heap.size W w' from by
    have h := number_any ⟨2, n, 0, ⟨#[]⟩⟩ W h
    rw [numB_2 (made_2 n) rfl] at h; exact h)
  have NU := Aside.mk (fun W h => show Calls Tryd.prog 45 #[.agg #[.int .u8 1, .int .i64 (flagN b), .int .u64 0, .string ⟨#[]⟩]] W fun e w' => e = .returned (.tuple #[.float .f64 0, .bool false]) ∧ Below W.heap.size W w' from by
    have h := number_any ⟨1, flagN b, 0, ⟨#[]⟩⟩ W h
    rw [numB_else (show ¬ (1 : Int) = 3 by decide) (show ¬ (1 : Int) = 2 by decide)] at h; exact h)
  have KN := Aside.mk (fun W h => known3_any W h)
  have TN : Aside (∀ W : World, Three W (((W.alloc (.cells #[.int .u8 3, .int .i64 0, .int .u64 ((floatW f : Nat) : Int), .string ⟨#[]⟩] 56)).alloc (.cells #[.int .u8 2, .int .i64 n, .int .u64 0, .string ⟨#[]⟩] 56)).alloc (.cells #[.int .u8 1, .int .i64 (flagN b), .int .u64 0, .string ⟨#[]⟩] 56)) ⟨3, 0, floatW f, ⟨#[]⟩⟩ ⟨2, n, 0, ⟨#[]⟩⟩ ⟨1, flagN b, 0, ⟨#[]⟩⟩) := Aside.mk (fun W => Three.new W ⟨3, 0, floatW f, ⟨#[]⟩⟩ ⟨2, n, 0, ⟨#[]⟩⟩ ⟨1, flagN b, 0, ⟨#[]⟩⟩)
  have hne : ∀ W : World, (binOp .neq 56 (.agg #[.int .u8 3, .int .i64 0, .int .u64 (floatW f : Int), .string ⟨#[]⟩]) (.agg #[.int .u8 3, .int .i64 0, .int .u64 (floatW f : Int), .string ⟨#[]⟩])).run Tryd.prog W = .ok (.bool false) W := fun W => ne_at (a := ⟨3, 0, floatW f, ⟨#[]⟩⟩) (b := ⟨3, 0, floatW f, ⟨#[]⟩⟩) (by simp) W
  have h47 := call47 (floatW f)
  have HX := Aside.mk (fun h => exact_int (n := n) h)
  have hxx : (FloatKind.f64.format.order f f == some .eq) = false := by
    have h : (Ieee.double.order f f != some .eq) = true := hq
    show (Ieee.double.order f f == some .eq) = false
    cases hh : (Ieee.double.order f f == some .eq) <;> simp_all [bne]
  have hxn : (FloatKind.f64.format.order f f != some .eq) = true := hq
  have hyy : (FloatKind.f64.format.order (floatW f) (floatW f) == some .eq) = false := by
    have h : floatW f = nanW := by unfold floatW; rw [hq]; rfl
    rw [h]; decide +kernel
  obtain ⟨fw, hfw⟩ : ∃ fw : Int, ((floatW f : Nat) : Int) = fw := ⟨_, rfl⟩
  obtain ⟨fb, hfb⟩ : ∃ fb : Nat, floatW f = fb := ⟨_, rfl⟩
  rw [hfb] at hfw
  rw [hfb] at F1 F2 MV NV TN hne h47 hyy
  subst hfw
  have HN := Aside.mk hn
  have HF0 := Aside.mk hf
  clear hT hq hf hn
  obtain ⟨fl, hfl⟩ : ∃ fl, flagN b = fl := ⟨_, rfl⟩
  rw [hfl] at G1 MU NU TN
  clear hfl
  go_enter Tryd.func12, Tryd.ntmps12
  go_wp2_with fail
  (with_reducible refine (F1.out _).mono ?_)
  rintro e w1 ⟨rfl, hb1⟩
  go_wp2_with fail
  (with_reducible refine (I1.out _).mono ?_)
  rintro e w2 ⟨rfl, hb2⟩
  go_wp2_with fail
  (with_reducible refine (G1.out _).mono ?_)
  rintro e w3 ⟨rfl, hb3⟩
  have HB3 := Aside.mk (below_then (below_then hb1 hb2) hb3)
  clear hb1 hb2 hb3
  have T : Aside (Three w3 _ ⟨3, 0, fb, ⟨#[]⟩⟩ ⟨2, n, 0, ⟨#[]⟩⟩ ⟨1, fl, 0, ⟨#[]⟩⟩ ∧ (fb : Int) = fb) := Aside.mk ⟨TN.out w3, rfl⟩
  go_wp2_with fail
  have HTT := Aside.mk (fun W (h : Below w3.heap.size w3 W) => HT.out W (below_then HB3.out h))
  (with_reducible refine (MV.out _ (HTT.out _ (Three.blw T.out.1))).mono ?_)
  rintro e w1 ⟨rfl, hb1⟩
  replace T := Aside.mk (⟨Three.next T.out.1 hb1, rfl⟩ : _ ∧ (fb : Int) = fb)
  clear hb1
  obtain ⟨a0, a1, a2, a3, b0, b1, b2, b3, c0, c1, c2, c3, _⟩ := cellsM_of T.out
  go_wp2_with fail
  (with_reducible refine (MW.out _ (HTT.out _ (Three.blw T.out.1))).mono ?_)
  rintro e w1 ⟨rfl, hb1⟩
  clear a0 a1 a2 a3 b0 b1 b2 b3 c0 c1 c2 c3
  replace T := Aside.mk (⟨Three.next T.out.1 hb1, rfl⟩ : _ ∧ (fb : Int) = fb)
  clear hb1
  obtain ⟨a0, a1, a2, a3, b0, b1, b2, b3, c0, c1, c2, c3, _⟩ := cellsM_of T.out
  go_wp2_with fail
  (with_reducible refine (MU.out _ (HTT.out _ (Three.blw T.out.1))).mono ?_)
  rintro e w1 ⟨rfl, hb1⟩
  clear a0 a1 a2 a3 b0 b1 b2 b3 c0 c1 c2 c3
  replace T := Aside.mk (⟨Three.next T.out.1 hb1, rfl⟩ : _ ∧ (fb : Int) = fb)
  clear hb1
  obtain ⟨a0, a1, a2, a3, b0, b1, b2, b3, c0, c1, c2, c3, _⟩ := cellsM_of T.out
  go_wp2_with fail
  (with_reducible refine (NV.out _ (HTT.out _ (Three.blw T.out.1))).mono ?_)
  rintro e w1 ⟨rfl, hb1⟩
  clear a0 a1 a2 a3 b0 b1 b2 b3 c0 c1 c2 c3
  replace T := Aside.mk (⟨Three.next T.out.1 hb1, rfl⟩ : _ ∧ (fb : Int) = fb)
  clear hb1
  obtain ⟨a0, a1, a2, a3, b0, b1, b2, b3, c0, c1, c2, c3, _⟩ := cellsM_of T.out
  go_wp2_with fail
  (with_reducible refine (NW.out _ (HTT.out _ (Three.blw T.out.1))).mono ?_)
  rintro e w1 ⟨rfl, hb1⟩
  clear a0 a1 a2 a3 b0 b1 b2 b3 c0 c1 c2 c3
  replace T := Aside.mk (⟨Three.next T.out.1 hb1, rfl⟩ : _ ∧ (fb : Int) = fb)
  clear hb1
  obtain ⟨a0, a1, a2, a3, b0, b1, b2, b3, c0, c1, c2, c3, _⟩ := cellsM_of T.out
  go_wp2_with fail
  have hSd := (Three.blw T.out.1).drew
  refine wp_region_noPanic ?_
  refine wp_region_held_drew (S := fun W => W.cell? ⟨w3.heap.size, 0, none⟩ = some (.int .u8 3) ∧ W.cell? ⟨w3.heap.size, 1, none⟩ = some (.int .i64 0) ∧ W.cell? ⟨w3.heap.size, 2, none⟩ = some (.int .u64 (fb : Int)) ∧ W.cell? ⟨w3.heap.size, 3, none⟩ = some (.string ⟨#[]⟩) ∧ W.cell? ⟨w3.heap.size + 1, 0, none⟩ = some (.int .u8 2) ∧ W.cell? ⟨w3.heap.size + 1, 1, none⟩ = some (.int .i64 n) ∧ W.cell? ⟨w3.heap.size + 1, 2, none⟩ = some (.int .u64 0) ∧ W.cell? ⟨w3.heap.size + 1, 3, none⟩ = some (.string ⟨#[]⟩) ∧ W.cell? ⟨w3.heap.size + 2, 0, none⟩ = some (.int .u8 1) ∧ W.cell? ⟨w3.heap.size + 2, 1, none⟩ = some (.int .i64 fl) ∧ W.cell? ⟨w3.heap.size + 2, 2, none⟩ = some (.int .u64 0) ∧ W.cell? ⟨w3.heap.size + 2, 3, none⟩ = some (.string ⟨#[]⟩) ∧ Below w3.heap.size w3 W) (by kernel_rfl) ⟨a0, a1, a2, a3, b0, b1, b2, b3, c0, c1, c2, c3, hSd⟩ (fun hHeld => ?_)
  refine take_at (i := 0) (d := some 63) (v := ?v0) rfl rfl (by kernel_rfl) (by kernel_rfl) (by kernel_rfl) (fun _ _ _ h => h) (Or.inl ⟨by rfl, ?hy0⟩) hHeld ?rest0
  case hy0 => (intro w hSw; (try dsimp only at hSw); go_simp; try with_reducible rfl)
  try simp only [Act.put, List.setIfInBounds_toArray, List.set_cons_zero, List.set_cons_succ]
  refine take_at (i := 1) (d := some 64) (v := ?v1) rfl rfl (by kernel_rfl) (by kernel_rfl) (by kernel_rfl) (fun _ _ _ h => h) (Or.inl ⟨by rfl, ?hy1⟩) hHeld ?rest1
  case hy1 => (intro w hSw; (try dsimp only at hSw); go_simp; try with_reducible rfl)
  try simp only [Act.put, List.setIfInBounds_toArray, List.set_cons_zero, List.set_cons_succ]
  refine take_at (i := 2) (d := some 65) (v := ?v2) rfl rfl (by kernel_rfl) (by kernel_rfl) (by kernel_rfl) (fun _ _ _ h => h) (Or.inl ⟨by rfl, ?hy2⟩) hHeld ?rest2
  case hy2 => (intro w hSw; (try dsimp only at hSw); go_simp; try with_reducible rfl)
  try simp only [Act.put, List.setIfInBounds_toArray, List.set_cons_zero, List.set_cons_succ]
  refine take_at (i := 3) (d := some 66) (v := ?v3) rfl rfl (by kernel_rfl) (by kernel_rfl) (by kernel_rfl) (fun _ _ _ h => h) (Or.inl ⟨by rfl, ?hy3⟩) hHeld ?rest3
  case hy3 => (intro w hSw; (try dsimp only at hSw); go_simp; try with_reducible rfl)
  try simp only [Act.put, List.setIfInBounds_toArray, List.set_cons_zero, List.set_cons_succ]
  refine take_at (i := 4) (d := some 67) (v := ?v4) rfl rfl (by kernel_rfl) (by kernel_rfl) (by kernel_rfl) (fun _ _ _ h => h) (Or.inl ⟨by rfl, ?hy4⟩) hHeld ?rest4
  case hy4 => (intro w hSw; (try dsimp only at hSw); go_simp; try with_reducible rfl)
  try simp only [Act.put, List.setIfInBounds_toArray, List.set_cons_zero, List.set_cons_succ]
  refine take_at (i := 5) (d := some 68) (v := ?v5) rfl rfl (by kernel_rfl) (by kernel_rfl) (by kernel_rfl) (fun _ _ _ h => h) (Or.inl ⟨by rfl, ?hy5⟩) hHeld ?rest5
  case hy5 => (intro w hSw; (try dsimp only at hSw); go_simp; try with_reducible rfl)
  try simp only [Act.put, List.setIfInBounds_toArray, List.set_cons_zero, List.set_cons_succ]
  refine take_at (i := 6) (d := some 69) (v := ?v6) rfl rfl (by kernel_rfl) (by kernel_rfl) (by kernel_rfl) (fun _ _ _ h => h) (Or.inl ⟨by rfl, ?hy6⟩) hHeld ?rest6
  case hy6 => (intro w hSw; (try dsimp only at hSw); go_simp; try with_reducible rfl)
  try simp only [Act.put, List.setIfInBounds_toArray, List.set_cons_zero, List.set_cons_succ]
  refine take_at (i := 7) (d := some 70) (v := ?v7) rfl rfl (by kernel_rfl) (by kernel_rfl) (by kernel_rfl) (fun _ _ _ h => h) (Or.inl ⟨by rfl, ?hy7⟩) hHeld ?rest7
  case hy7 => (intro w hSw; (try dsimp only at hSw); go_simp; try with_reducible rfl)
  try simp only [Act.put, List.setIfInBounds_toArray, List.set_cons_zero, List.set_cons_succ]
  refine take_at (i := 9) (d := some 72) (v := ?v9) rfl rfl (by kernel_rfl) (by kernel_rfl) (by kernel_rfl) (fun _ _ _ h => h) (Or.inl ⟨by rfl, ?hy9⟩) hHeld ?rest9
  case hy9 => (intro w hSw; (try dsimp only at hSw); go_simp; try with_reducible rfl)
  try simp only [Act.put, List.setIfInBounds_toArray, List.set_cons_zero, List.set_cons_succ]
  refine wpAnyH_ready (rs := [8]) (by kernel_rfl) (by simp) ?_
  refine AllReadyH.cons rfl (fun K hK => ?_) AllReadyH.nil
  go_simp
  (with_reducible refine (F2.out _).mono ?_)
  rintro e w' ⟨rfl, hbw⟩
  refine hK.out _ _ (cellsM_next hHeld hbw) (fun hHeld' => ?_)
  clear hK K hHeld hbw
  have hHeld := hHeld'
  clear hHeld'
  try simp only [Act.put, List.setIfInBounds_toArray, List.set_cons_zero, List.set_cons_succ]
  refine take_at (i := 10) (d := some 73) (v := ?v10) rfl rfl (by kernel_rfl) (by kernel_rfl) (by kernel_rfl) (fun _ _ _ h => h) (Or.inl ⟨by rfl, ?hy10⟩) hHeld ?rest10
  case hy10 => (intro w hSw; (try dsimp only at hSw); go_simp; try with_reducible rfl)
  try simp only [Act.put, List.setIfInBounds_toArray, List.set_cons_zero, List.set_cons_succ]
  refine take_at (i := 11) (d := some 74) (v := ?v11) rfl rfl (by kernel_rfl) (by kernel_rfl) (by kernel_rfl) (fun _ _ _ h => h) (Or.inl ⟨by rfl, ?hy11⟩) hHeld ?rest11
  case hy11 => (intro w hSw; (try dsimp only at hSw); go_simp; try with_reducible rfl)
  try simp only [Act.put, List.setIfInBounds_toArray, List.set_cons_zero, List.set_cons_succ]
  refine take_at (i := 12) (d := some 75) (v := ?v12) rfl rfl (by kernel_rfl) (by kernel_rfl) (by kernel_rfl) (fun _ _ _ h => h) (Or.inl ⟨by rfl, ?hy12⟩) hHeld ?rest12
  case hy12 => (intro w hSw; (try dsimp only at hSw); go_simp; try with_reducible rfl)
  try simp only [Act.put, List.setIfInBounds_toArray, List.set_cons_zero, List.set_cons_succ]
  refine take_at (i := 13) (d := some 76) (v := ?v13) rfl rfl (by kernel_rfl) (by kernel_rfl) (by kernel_rfl) (fun _ _ _ h => h) (Or.inl ⟨by rfl, ?hy13⟩) hHeld ?rest13
  case hy13 => (intro w hSw; (try dsimp only at hSw); go_simp; try with_reducible rfl)
  try simp only [Act.put, List.setIfInBounds_toArray, List.set_cons_zero, List.set_cons_succ]
  refine take_at (i := 14) (d := some 77) (v := ?v14) rfl rfl (by kernel_rfl) (by kernel_rfl) (by kernel_rfl) (fun _ _ _ h => h) (Or.inl ⟨by rfl, ?hy14⟩) hHeld ?rest14
  case hy14 => (intro w hSw; (try dsimp only at hSw); go_simp; try with_reducible rfl)
  try simp only [Act.put, List.setIfInBounds_toArray, List.set_cons_zero, List.set_cons_succ]
  refine take_at (i := 15) (d := some 78) (v := ?v15) rfl rfl (by kernel_rfl) (by kernel_rfl) (by kernel_rfl) (fun _ _ _ h => h) (Or.inl ⟨by rfl, ?hy15⟩) hHeld ?rest15
  case hy15 => (intro w hSw; (try dsimp only at hSw); go_simp; try with_reducible rfl)
  try simp only [Act.put, List.setIfInBounds_toArray, List.set_cons_zero, List.set_cons_succ]
  refine take_at (i := 16) (d := some 79) (v := ?v16) rfl rfl (by kernel_rfl) (by kernel_rfl) (by kernel_rfl) (fun _ _ _ h => h) (Or.inl ⟨by rfl, ?hy16⟩) hHeld ?rest16
  case hy16 => (intro w hSw; (try dsimp only at hSw); go_simp; try with_reducible rfl)
  try simp only [Act.put, List.setIfInBounds_toArray, List.set_cons_zero, List.set_cons_succ]
  refine take_at (i := 17) (d := some 80) (v := undef) rfl rfl (by kernel_rfl) (by kernel_rfl) (by kernel_rfl) (fun _ _ _ h => h) (Or.inr ⟨by rfl, rfl⟩) hHeld ?rest17
  try simp only [Act.put, List.setIfInBounds_toArray, List.set_cons_zero, List.set_cons_succ]
  refine take_at (i := 18) (d := some 81) (v := undef) rfl rfl (by kernel_rfl) (by kernel_rfl) (by kernel_rfl) (fun _ _ _ h => h) (Or.inr ⟨by rfl, rfl⟩) hHeld ?rest18
  try simp only [Act.put, List.setIfInBounds_toArray, List.set_cons_zero, List.set_cons_succ]
  refine take_at (i := 19) (d := some 82) (v := undef) rfl rfl (by kernel_rfl) (by kernel_rfl) (by kernel_rfl) (fun _ _ _ h => h) (Or.inr ⟨by rfl, rfl⟩) hHeld ?rest19
  try simp only [Act.put, List.setIfInBounds_toArray, List.set_cons_zero, List.set_cons_succ]
  refine take_at (i := 20) (d := some 83) (v := undef) rfl rfl (by kernel_rfl) (by kernel_rfl) (by kernel_rfl) (fun _ _ _ h => h) (Or.inr ⟨by rfl, rfl⟩) hHeld ?rest20
  try simp only [Act.put, List.setIfInBounds_toArray, List.set_cons_zero, List.set_cons_succ]
  refine take_at (i := 21) (d := some 84) (v := ?v21) rfl rfl (by kernel_rfl) (by kernel_rfl) (by kernel_rfl) (fun _ _ _ h => h) (Or.inl ⟨by rfl, ?hy21⟩) hHeld ?rest21
  case hy21 => (intro w hSw; (try dsimp only at hSw); go_simp; try with_reducible rfl)
  try simp only [Act.put, List.setIfInBounds_toArray, List.set_cons_zero, List.set_cons_succ]
  refine take_at (i := 22) (d := some 85) (v := ?v22) rfl rfl (by kernel_rfl) (by kernel_rfl) (by kernel_rfl) (fun _ _ _ h => h) (Or.inl ⟨by rfl, ?hy22⟩) hHeld ?rest22
  case hy22 => (intro w hSw; (try dsimp only at hSw); go_simp; try with_reducible rfl)
  try simp only [Act.put, List.setIfInBounds_toArray, List.set_cons_zero, List.set_cons_succ]
  refine take_at (i := 23) (d := some 86) (v := ?v23) rfl rfl (by kernel_rfl) (by kernel_rfl) (by kernel_rfl) (fun _ _ _ h => h) (Or.inl ⟨by rfl, ?hy23⟩) hHeld ?rest23
  case hy23 => (intro w hSw; (try dsimp only at hSw); go_simp; try with_reducible rfl)
  try simp only [Act.put, List.setIfInBounds_toArray, List.set_cons_zero, List.set_cons_succ]
  refine take_at (i := 24) (d := some 87) (v := ?v24) rfl rfl (by kernel_rfl) (by kernel_rfl) (by kernel_rfl) (fun _ _ _ h => h) (Or.inl ⟨by rfl, ?hy24⟩) hHeld ?rest24
  case hy24 => (intro w hSw; (try dsimp only at hSw); go_simp; try with_reducible rfl)
  try simp only [Act.put, List.setIfInBounds_toArray, List.set_cons_zero, List.set_cons_succ]
  refine take_at (i := 25) (d := some 88) (v := ?v25) rfl rfl (by kernel_rfl) (by kernel_rfl) (by kernel_rfl) (fun _ _ _ h => h) (Or.inl ⟨by rfl, ?hy25⟩) hHeld ?rest25
  case hy25 => (intro w hSw; (try dsimp only at hSw); go_simp; try with_reducible rfl)
  try simp only [Act.put, List.setIfInBounds_toArray, List.set_cons_zero, List.set_cons_succ]
  refine take_at (i := 26) (d := some 89) (v := ?v26) rfl rfl (by kernel_rfl) (by kernel_rfl) (by kernel_rfl) (fun _ _ _ h => h) (Or.inl ⟨by rfl, ?hy26⟩) hHeld ?rest26
  case hy26 => (intro w hSw; (try dsimp only at hSw); go_simp; try with_reducible rfl)
  try simp only [Act.put, List.setIfInBounds_toArray, List.set_cons_zero, List.set_cons_succ]
  refine take_at (i := 27) (d := some 90) (v := ?v27) rfl rfl (by kernel_rfl) (by kernel_rfl) (by kernel_rfl) (fun _ _ _ h => h) (Or.inl ⟨by rfl, ?hy27⟩) hHeld ?rest27
  case hy27 => (intro w hSw; (try dsimp only at hSw); go_simp; try with_reducible rfl)
  try simp only [Act.put, List.setIfInBounds_toArray, List.set_cons_zero, List.set_cons_succ]
  refine take_at (i := 28) (d := some 91) (v := ?v28) rfl rfl (by kernel_rfl) (by kernel_rfl) (by kernel_rfl) (fun _ _ _ h => h) (Or.inl ⟨by rfl, ?hy28⟩) hHeld ?rest28
  case hy28 => (intro w hSw; (try dsimp only at hSw); go_simp; try with_reducible rfl)
  try simp only [Act.put, List.setIfInBounds_toArray, List.set_cons_zero, List.set_cons_succ]
  refine take_at (i := 29) (d := some 92) (v := ?v29) rfl rfl (by kernel_rfl) (by kernel_rfl) (by kernel_rfl) (fun _ _ _ h => h) (Or.inl ⟨by rfl, ?hy29⟩) hHeld ?rest29
  case hy29 => (intro w hSw; (try dsimp only at hSw); go_simp; try with_reducible rfl)
  try simp only [Act.put, List.setIfInBounds_toArray, List.set_cons_zero, List.set_cons_succ]
  refine take_at (i := 30) (d := some 93) (v := ?v30) rfl rfl (by kernel_rfl) (by kernel_rfl) (by kernel_rfl) (fun _ _ _ h => h) (Or.inl ⟨by rfl, ?hy30⟩) hHeld ?rest30
  case hy30 => (intro w hSw; (try dsimp only at hSw); go_simp; try with_reducible rfl)
  try simp only [Act.put, List.setIfInBounds_toArray, List.set_cons_zero, List.set_cons_succ]
  refine take_at (i := 31) (d := some 94) (v := ?v31) rfl rfl (by kernel_rfl) (by kernel_rfl) (by kernel_rfl) (fun _ _ _ h => h) (Or.inl ⟨by rfl, ?hy31⟩) hHeld ?rest31
  case hy31 => (intro w hSw; (try dsimp only at hSw); go_simp; try with_reducible rfl)
  try simp only [Act.put, List.setIfInBounds_toArray, List.set_cons_zero, List.set_cons_succ]
  refine take_at (i := 32) (d := some 95) (v := ?v32) rfl rfl (by kernel_rfl) (by kernel_rfl) (by kernel_rfl) (fun _ _ _ h => h) (Or.inl ⟨by rfl, ?hy32⟩) hHeld ?rest32
  case hy32 => (intro w hSw; (try dsimp only at hSw); go_simp; try with_reducible rfl)
  try simp only [Act.put, List.setIfInBounds_toArray, List.set_cons_zero, List.set_cons_succ]
  refine wpAnyH_done (by kernel_rfl) ?_ _
  refine NoPanic.normal ?_
  have T : Aside (Three w3 _ ⟨3, 0, fb, ⟨#[]⟩⟩ ⟨2, n, 0, ⟨#[]⟩⟩ ⟨1, fl, 0, ⟨#[]⟩⟩ ∧ (fb : Int) = fb) := Aside.mk ⟨cellsM_three hHeld, rfl⟩
  clear hHeld a0 a1 a2 a3 b0 b1 b2 b3 c0 c1 c2 c3
  obtain ⟨a0, a1, a2, a3, b0, b1, b2, b3, c0, c1, c2, c3, _⟩ := cellsM_of T.out
  have tb1 := HN.out
  by_cases hr1 : (-9007199254740992 : Int) < n
  rotate_left
  · have hr1 : n ≤ (-9007199254740992 : Int) := by omega
    go_wp2_with fail
    (with_reducible refine (NU.out _ (HTT.out _ (Three.blw T.out.1))).mono ?_)
    rintro e w1 ⟨rfl, hb1⟩
    clear a0 a1 a2 a3 b0 b1 b2 b3 c0 c1 c2 c3
    replace T := Aside.mk (⟨Three.next T.out.1 hb1, rfl⟩ : _ ∧ (fb : Int) = fb)
    clear hb1
    obtain ⟨a0, a1, a2, a3, b0, b1, b2, b3, c0, c1, c2, c3, _⟩ := cellsM_of T.out
    go_wp2_with fail
    (with_reducible refine (KN.out _ (HTT.out _ (Three.blw T.out.1))).mono ?_)
    rintro e w1 ⟨rfl, hb1⟩
    clear a0 a1 a2 a3 b0 b1 b2 b3 c0 c1 c2 c3
    replace T := Aside.mk (⟨Three.next T.out.1 hb1, rfl⟩ : _ ∧ (fb : Int) = fb)
    clear hb1
    obtain ⟨a0, a1, a2, a3, b0, b1, b2, b3, c0, c1, c2, c3, _⟩ := cellsM_of T.out
    go_wp2
    go_ret
    exact ⟨rfl, below_then HB3.out (Three.blw T.out.1)⟩
  by_cases hr2 : n < (9007199254740992 : Int)
  rotate_left
  · have hr2 : (9007199254740992 : Int) ≤ n := by omega
    go_wp2_with fail
    (with_reducible refine (NU.out _ (HTT.out _ (Three.blw T.out.1))).mono ?_)
    rintro e w1 ⟨rfl, hb1⟩
    clear a0 a1 a2 a3 b0 b1 b2 b3 c0 c1 c2 c3
    replace T := Aside.mk (⟨Three.next T.out.1 hb1, rfl⟩ : _ ∧ (fb : Int) = fb)
    clear hb1
    obtain ⟨a0, a1, a2, a3, b0, b1, b2, b3, c0, c1, c2, c3, _⟩ := cellsM_of T.out
    go_wp2_with fail
    (with_reducible refine (KN.out _ (HTT.out _ (Three.blw T.out.1))).mono ?_)
    rintro e w1 ⟨rfl, hb1⟩
    clear a0 a1 a2 a3 b0 b1 b2 b3 c0 c1 c2 c3
    replace T := Aside.mk (⟨Three.next T.out.1 hb1, rfl⟩ : _ ∧ (fb : Int) = fb)
    clear hb1
    obtain ⟨a0, a1, a2, a3, b0, b1, b2, b3, c0, c1, c2, c3, _⟩ := cellsM_of T.out
    go_wp2
    go_ret
    exact ⟨rfl, below_then HB3.out (Three.blw T.out.1)⟩
  have hcv : ∀ W : World, (convert 66 2 (.float .f64 (floatOfInt .f64 n))).run Tryd.prog W = .ok (.int .i64 n) W := fun W => run_convert_float_int W 66 2 .f64 .i64 _ n (by kernel_rfl) Tryd.underlying2 (HX.out (by omega))
  go_wp2_with fail
  (with_reducible refine (NU.out _ (HTT.out _ (Three.blw T.out.1))).mono ?_)
  rintro e w1 ⟨rfl, hb1⟩
  clear a0 a1 a2 a3 b0 b1 b2 b3 c0 c1 c2 c3
  replace T := Aside.mk (⟨Three.next T.out.1 hb1, rfl⟩ : _ ∧ (fb : Int) = fb)
  clear hb1
  obtain ⟨a0, a1, a2, a3, b0, b1, b2, b3, c0, c1, c2, c3, _⟩ := cellsM_of T.out
  go_wp2_with fail
  (with_reducible refine (KN.out _ (HTT.out _ (Three.blw T.out.1))).mono ?_)
  rintro e w1 ⟨rfl, hb1⟩
  clear a0 a1 a2 a3 b0 b1 b2 b3 c0 c1 c2 c3
  replace T := Aside.mk (⟨Three.next T.out.1 hb1, rfl⟩ : _ ∧ (fb : Int) = fb)
  clear hb1
  obtain ⟨a0, a1, a2, a3, b0, b1, b2, b3, c0, c1, c2, c3, _⟩ := cellsM_of T.out
  go_wp2
  go_ret
  exact ⟨rfl, below_then HB3.out (Three.blw T.out.1)⟩
theorem valueMade_walk (f : Nat) (n : Int) (b : Bool) (w : World) (hf : f < 18446744073709551616) (hn : (Lit.int .i64 n).wf = true) (hT : Lib.Utf8Tabs 1 2 w) :
    Calls Tryd.prog 12 #[.int .u64 (f : Int), .int .i64 n, .bool b] w fun e w' => e = .returned (.bool true) ∧ Below w.heap.size w w' := by
  cases hq : nanB f
  · exact made_false f n b w hf hn hT hq
  · exact made_true f n b w hf hn hT hq
end Go.Proofs.YtaejlgdmalhhnaaDoor
