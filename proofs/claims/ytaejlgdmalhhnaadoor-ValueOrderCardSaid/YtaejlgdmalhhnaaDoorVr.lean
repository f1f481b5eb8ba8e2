/- Layer 3: ValueOrder, the arms in which all three values may be. -/
import Derived.Test.YtaejlgdmalhhnaaDoorVo
set_option linter.unusedVariables false
set_option linter.unusedSimpArgs false
namespace Go.Proofs.YtaejlgdmalhhnaaDoor
open Go.RowKit
set_option maxRecDepth 100000 in
set_option maxHeartbeats 4000000 in
theorem order_c1 (a b c : Val) (w : World) (fa : a.fits) (fb : b.fits) (fc : c.fits) (hT : Lib.Utf8Tabs 1 2 w) (hbig : over a b c = false) (ha : mayV a = true) (hb : mayV b = true) (hc : mayV c = true) (hx : lessV a b = true) (hy0 : lessV b a = false) (he : decide (a = b) = false) (hz0 : lessV b c = false) :
    Calls Tryd.prog 11 #[a.v, b.v, c.v] w fun e w' => e = .returned (.bool true) ∧ Below w.heap.size w w' := by
  have T := Aside.mk (Three.new w a b c)
  have KN := Aside.mk (fun W (h : Three w W a b c) => known3_any W (tabs_below hT h.2.2.2))
  have MA := Aside.mk (fun W (h : Three w W a b c) => mayV_any a W (tabs_below hT h.2.2.2))
  have MB := Aside.mk (fun W (h : Three w W a b c) => mayV_any b W (tabs_below hT h.2.2.2))
  have MC := Aside.mk (fun W (h : Three w W a b c) => mayV_any c W (tabs_below hT h.2.2.2))
  have LAB := Aside.mk (fun W (h : Three w W a b c) => less_any a b W (tabs_below hT h.2.2.2) fa.1 fb.1)
  have LBA := Aside.mk (fun W (h : Three w W a b c) => less_any b a W (tabs_below hT h.2.2.2) fb.1 fa.1)
  have LBC := Aside.mk (fun W (h : Three w W a b c) => less_any b c W (tabs_below hT h.2.2.2) fb.1 fc.1)
  have LAC := Aside.mk (fun W (h : Three w W a b c) => less_any a c W (tabs_below hT h.2.2.2) fa.1 fc.1)
  have NA := Aside.mk (fun W (h : Three w W a b c) => number_any a W (tabs_below hT h.2.2.2))
  have NB := Aside.mk (fun W (h : Three w W a b c) => number_any b W (tabs_below hT h.2.2.2))
  have HN := Aside.mk (less_number ha hb fa.1 fb.1)
  rw [ha] at MA
  rw [hb] at MB
  rw [hc] at MC
  rw [hx] at LAB HN
  rw [hy0] at LBA
  rw [hz0] at LBC
  clear hy0 hz0
  obtain ⟨xo, hxo⟩ : ∃ xo, (numB a).isSome = xo := ⟨_, rfl⟩
  obtain ⟨yo, hyo⟩ : ∃ yo, (numB b).isSome = yo := ⟨_, rfl⟩
  obtain ⟨xn, hxn⟩ : ∃ xn, (numB a).getD 0 = xn := ⟨_, rfl⟩
  obtain ⟨yn, hyn⟩ : ∃ yn, (numB b).getD 0 = yn := ⟨_, rfl⟩
  rw [hxo, hyo, hxn, hyn] at HN
  rw [hxo, hxn] at NA
  rw [hyo, hyn] at NB
  clear hxo hyo hxn hyn ha hb hc hx hT fa fb fc
  obtain ⟨k, n, f, s⟩ := a
  obtain ⟨l, m, g, t⟩ := b
  obtain ⟨i, o, h, u⟩ := c
  unfold Val.obj at T
  simp only at T HN
  have heq : ∀ W : World, (binOp .eql 56 (.agg #[.int .u8 k, .int .i64 n, .int .u64 (f : Int), .string s]) (.agg #[.int .u8 l, .int .i64 m, .int .u64 (g : Int), .string t])).run Tryd.prog W = .ok (.bool false) W := fun W => eq_at (a := ⟨k, n, f, s⟩) (b := ⟨l, m, g, t⟩) he W
  clear he
  unfold over at hbig
  simp only at hbig
  obtain ⟨z, hz⟩ : ∃ z, IntKind.i64.wrap ((s.size : Int) + (t.size : Int)) = z := ⟨_, rfl⟩
  rw [hz] at hbig
  obtain ⟨y, hy⟩ : ∃ y, IntKind.i64.wrap (z + (u.size : Int)) = y := ⟨_, rfl⟩
  rw [hy] at hbig
  unfold Val.v at MA MB MC LAB LBA LBC LAC NA NB ⊢
  go_enter Tryd.func11, Tryd.ntmps11
  go_wp2_with fail
  (with_reducible refine (MA.out _ T.out).mono ?_)
  rintro e w1 ⟨rfl, hb1⟩
  replace T := Aside.mk (Three.next T.out hb1)
  clear hb1
  obtain ⟨a0, a1, a2, a3, b0, b1, b2, b3, c0, c1, c2, c3, _⟩ := Three.cells T.out
  go_wp2_with fail
  (with_reducible refine (MB.out _ T.out).mono ?_)
  rintro e w1 ⟨rfl, hb1⟩
  clear a0 a1 a2 a3 b0 b1 b2 b3 c0 c1 c2 c3
  replace T := Aside.mk (Three.next T.out hb1)
  clear hb1
  obtain ⟨a0, a1, a2, a3, b0, b1, b2, b3, c0, c1, c2, c3, _⟩ := Three.cells T.out
  go_wp2_with fail
  (with_reducible refine (MC.out _ T.out).mono ?_)
  rintro e w1 ⟨rfl, hb1⟩
  clear a0 a1 a2 a3 b0 b1 b2 b3 c0 c1 c2 c3
  replace T := Aside.mk (Three.next T.out hb1)
  clear hb1
  obtain ⟨a0, a1, a2, a3, b0, b1, b2, b3, c0, c1, c2, c3, _⟩ := Three.cells T.out
  go_wp2_with fail
  clear hz hy hbig
  have hSd := T.out.2.2.2.drew
  refine wp_region_noPanic ?_
  refine wp_region_held_drew (S := fun w' => w'.cell? ⟨w.heap.size, 0, none⟩ = some (.int .u8 k) ∧ w'.cell? ⟨w.heap.size, 1, none⟩ = some (.int .i64 n) ∧ w'.cell? ⟨w.heap.size, 2, none⟩ = some (.int .u64 (f : Int)) ∧ w'.cell? ⟨w.heap.size, 3, none⟩ = some (.string s) ∧ w'.cell? ⟨w.heap.size + 1, 0, none⟩ = some (.int .u8 l) ∧ w'.cell? ⟨w.heap.size + 1, 1, none⟩ = some (.int .i64 m) ∧ w'.cell? ⟨w.heap.size + 1, 2, none⟩ = some (.int .u64 (g : Int)) ∧ w'.cell? ⟨w.heap.size + 1, 3, none⟩ = some (.string t) ∧ w'.cell? ⟨w.heap.size + 2, 0, none⟩ = some (.int .u8 i) ∧ w'.cell? ⟨w.heap.size + 2, 1, none⟩ = some (.int .i64 o) ∧ w'.cell? ⟨w.heap.size + 2, 2, none⟩ = some (.int .u64 (h : Int)) ∧ w'.cell? ⟨w.heap.size + 2, 3, none⟩ = some (.string u) ∧ Below w.heap.size w w') (by kernel_rfl) ⟨a0, a1, a2, a3, b0, b1, b2, b3, c0, c1, c2, c3, hSd⟩ (fun hHeld => ?_)
  refine take_at (i := 0) (d := some 52) (v := ?v0) rfl rfl (by kernel_rfl) (by kernel_rfl) (by kernel_rfl) (fun _ _ _ h => h) (Or.inl ⟨by rfl, ?hy0⟩) hHeld ?rest0
  case hy0 => (intro w hSw; (try dsimp only at hSw); go_simp; try with_reducible rfl)
  try simp only [Act.put, List.setIfInBounds_toArray, List.set_cons_zero, List.set_cons_succ]
  refine take_at (i := 1) (d := some 53) (v := ?v1) rfl rfl (by kernel_rfl) (by kernel_rfl) (by kernel_rfl) (fun _ _ _ h => h) (Or.inl ⟨by rfl, ?hy1⟩) hHeld ?rest1
  case hy1 => (intro w hSw; (try dsimp only at hSw); go_simp; try with_reducible rfl)
  try simp only [Act.put, List.setIfInBounds_toArray, List.set_cons_zero, List.set_cons_succ]
  refine take_at (i := 2) (d := some 54) (v := ?v2) rfl rfl (by kernel_rfl) (by kernel_rfl) (by kernel_rfl) (fun _ _ _ h => h) (Or.inl ⟨by rfl, ?hy2⟩) hHeld ?rest2
  case hy2 => (intro w hSw; (try dsimp only at hSw); go_simp; try with_reducible rfl)
  try simp only [Act.put, List.setIfInBounds_toArray, List.set_cons_zero, List.set_cons_succ]
  refine take_at (i := 3) (d := some 55) (v := ?v3) rfl rfl (by kernel_rfl) (by kernel_rfl) (by kernel_rfl) (fun _ _ _ h => h) (Or.inl ⟨by rfl, ?hy3⟩) hHeld ?rest3
  case hy3 => (intro w hSw; (try dsimp only at hSw); go_simp; try with_reducible rfl)
  try simp only [Act.put, List.setIfInBounds_toArray, List.set_cons_zero, List.set_cons_succ]
  refine take_at (i := 4) (d := some 56) (v := ?v4) rfl rfl (by kernel_rfl) (by kernel_rfl) (by kernel_rfl) (fun _ _ _ h => h) (Or.inl ⟨by rfl, ?hy4⟩) hHeld ?rest4
  case hy4 => (intro w hSw; (try dsimp only at hSw); go_simp; try with_reducible rfl)
  try simp only [Act.put, List.setIfInBounds_toArray, List.set_cons_zero, List.set_cons_succ]
  refine wpAnyH_ready (rs := [5]) (by kernel_rfl) (by simp) ?_
  refine AllReadyH.cons rfl (fun K hK => ?_) AllReadyH.nil
  go_simp
  (with_reducible refine (LAB.out _ (Three.of hHeld)).mono ?_)
  rintro e w' ⟨rfl, hbw⟩
  refine hK.out _ _ (cells3_next hHeld hbw) (fun hHeld' => ?_)
  clear hK K hHeld hbw
  have hHeld := hHeld'
  clear hHeld'
  try simp only [Act.put, List.setIfInBounds_toArray, List.set_cons_zero, List.set_cons_succ]
  refine take_at (i := 6) (d := some 58) (v := ?v6) rfl rfl (by kernel_rfl) (by kernel_rfl) (by kernel_rfl) (fun _ _ _ h => h) (Or.inl ⟨by rfl, ?hy6⟩) hHeld ?rest6
  case hy6 => (intro w hSw; (try dsimp only at hSw); go_simp; try with_reducible rfl)
  try simp only [Act.put, List.setIfInBounds_toArray, List.set_cons_zero, List.set_cons_succ]
  refine take_at (i := 7) (d := some 59) (v := ?v7) rfl rfl (by kernel_rfl) (by kernel_rfl) (by kernel_rfl) (fun _ _ _ h => h) (Or.inl ⟨by rfl, ?hy7⟩) hHeld ?rest7
  case hy7 => (intro w hSw; (try dsimp only at hSw); go_simp; try with_reducible rfl)
  try simp only [Act.put, List.setIfInBounds_toArray, List.set_cons_zero, List.set_cons_succ]
  refine take_at (i := 8) (d := some 60) (v := undef) rfl rfl (by kernel_rfl) (by kernel_rfl) (by kernel_rfl) (fun _ _ _ h => h) (Or.inr ⟨by rfl, rfl⟩) hHeld ?rest8
  try simp only [Act.put, List.setIfInBounds_toArray, List.set_cons_zero, List.set_cons_succ]
  refine take_at (i := 9) (d := some 61) (v := undef) rfl rfl (by kernel_rfl) (by kernel_rfl) (by kernel_rfl) (fun _ _ _ h => h) (Or.inr ⟨by rfl, rfl⟩) hHeld ?rest9
  try simp only [Act.put, List.setIfInBounds_toArray, List.set_cons_zero, List.set_cons_succ]
  refine take_at (i := 10) (d := some 62) (v := undef) rfl rfl (by kernel_rfl) (by kernel_rfl) (by kernel_rfl) (fun _ _ _ h => h) (Or.inr ⟨by rfl, rfl⟩) hHeld ?rest10
  try simp only [Act.put, List.setIfInBounds_toArray, List.set_cons_zero, List.set_cons_succ]
  refine take_at (i := 11) (d := some 63) (v := undef) rfl rfl (by kernel_rfl) (by kernel_rfl) (by kernel_rfl) (fun _ _ _ h => h) (Or.inr ⟨by rfl, rfl⟩) hHeld ?rest11
  try simp only [Act.put, List.setIfInBounds_toArray, List.set_cons_zero, List.set_cons_succ]
  refine take_at (i := 12) (d := some 64) (v := ?v12) rfl rfl (by kernel_rfl) (by kernel_rfl) (by kernel_rfl) (fun _ _ _ h => h) (Or.inl ⟨by rfl, ?hy12⟩) hHeld ?rest12
  case hy12 => (intro w hSw; (try dsimp only at hSw); go_simp; try with_reducible rfl)
  try simp only [Act.put, List.setIfInBounds_toArray, List.set_cons_zero, List.set_cons_succ]
  refine take_at (i := 13) (d := some 65) (v := ?v13) rfl rfl (by kernel_rfl) (by kernel_rfl) (by kernel_rfl) (fun _ _ _ h => h) (Or.inl ⟨by rfl, ?hy13⟩) hHeld ?rest13
  case hy13 => (intro w hSw; (try dsimp only at hSw); go_simp; try with_reducible rfl)
  try simp only [Act.put, List.setIfInBounds_toArray, List.set_cons_zero, List.set_cons_succ]
  refine take_at (i := 14) (d := some 66) (v := ?v14) rfl rfl (by kernel_rfl) (by kernel_rfl) (by kernel_rfl) (fun _ _ _ h => h) (Or.inl ⟨by rfl, ?hy14⟩) hHeld ?rest14
  case hy14 => (intro w hSw; (try dsimp only at hSw); go_simp; try with_reducible rfl)
  try simp only [Act.put, List.setIfInBounds_toArray, List.set_cons_zero, List.set_cons_succ]
  refine take_at (i := 15) (d := some 67) (v := ?v15) rfl rfl (by kernel_rfl) (by kernel_rfl) (by kernel_rfl) (fun _ _ _ h => h) (Or.inl ⟨by rfl, ?hy15⟩) hHeld ?rest15
  case hy15 => (intro w hSw; (try dsimp only at hSw); go_simp; try with_reducible rfl)
  try simp only [Act.put, List.setIfInBounds_toArray, List.set_cons_zero, List.set_cons_succ]
  refine take_at (i := 16) (d := some 68) (v := ?v16) rfl rfl (by kernel_rfl) (by kernel_rfl) (by kernel_rfl) (fun _ _ _ h => h) (Or.inl ⟨by rfl, ?hy16⟩) hHeld ?rest16
  case hy16 => (intro w hSw; (try dsimp only at hSw); go_simp; try with_reducible rfl)
  try simp only [Act.put, List.setIfInBounds_toArray, List.set_cons_zero, List.set_cons_succ]
  refine wpAnyH_ready (rs := [17]) (by kernel_rfl) (by simp) ?_
  refine AllReadyH.cons rfl (fun K hK => ?_) AllReadyH.nil
  go_simp
  (with_reducible refine (LAB.out _ (Three.of hHeld)).mono ?_)
  rintro e w' ⟨rfl, hbw⟩
  refine hK.out _ _ (cells3_next hHeld hbw) (fun hHeld' => ?_)
  clear hK K hHeld hbw
  have hHeld := hHeld'
  clear hHeld'
  try simp only [Act.put, List.setIfInBounds_toArray, List.set_cons_zero, List.set_cons_succ]
  refine take_at (i := 18) (d := some 70) (v := ?v18) rfl rfl (by kernel_rfl) (by kernel_rfl) (by kernel_rfl) (fun _ _ _ h => h) (Or.inl ⟨by rfl, ?hy18⟩) hHeld ?rest18
  case hy18 => (intro w hSw; (try dsimp only at hSw); go_simp; try with_reducible rfl)
  try simp only [Act.put, List.setIfInBounds_toArray, List.set_cons_zero, List.set_cons_succ]
  refine take_at (i := 19) (d := some 71) (v := ?v19) rfl rfl (by kernel_rfl) (by kernel_rfl) (by kernel_rfl) (fun _ _ _ h => h) (Or.inl ⟨by rfl, ?hy19⟩) hHeld ?rest19
  case hy19 => (intro w hSw; (try dsimp only at hSw); go_simp; try with_reducible rfl)
  try simp only [Act.put, List.setIfInBounds_toArray, List.set_cons_zero, List.set_cons_succ]
  refine take_at (i := 20) (d := some 72) (v := ?v20) rfl rfl (by kernel_rfl) (by kernel_rfl) (by kernel_rfl) (fun _ _ _ h => h) (Or.inl ⟨by rfl, ?hy20⟩) hHeld ?rest20
  case hy20 => (intro w hSw; (try dsimp only at hSw); go_simp; try with_reducible rfl)
  try simp only [Act.put, List.setIfInBounds_toArray, List.set_cons_zero, List.set_cons_succ]
  refine wpAnyH_ready (rs := [21]) (by kernel_rfl) (by simp) ?_
  refine AllReadyH.cons rfl (fun K hK => ?_) AllReadyH.nil
  go_simp
  (with_reducible refine (LBA.out _ (Three.of hHeld)).mono ?_)
  rintro e w' ⟨rfl, hbw⟩
  refine hK.out _ _ (cells3_next hHeld hbw) (fun hHeld' => ?_)
  clear hK K hHeld hbw
  have hHeld := hHeld'
  clear hHeld'
  try simp only [Act.put, List.setIfInBounds_toArray, List.set_cons_zero, List.set_cons_succ]
  refine take_at (i := 22) (d := some 74) (v := ?v22) rfl rfl (by kernel_rfl) (by kernel_rfl) (by kernel_rfl) (fun _ _ _ h => h) (Or.inl ⟨by rfl, ?hy22⟩) hHeld ?rest22
  case hy22 => (intro w hSw; (try dsimp only at hSw); go_simp; try with_reducible rfl)
  try simp only [Act.put, List.setIfInBounds_toArray, List.set_cons_zero, List.set_cons_succ]
  refine take_at (i := 23) (d := some 75) (v := ?v23) rfl rfl (by kernel_rfl) (by kernel_rfl) (by kernel_rfl) (fun _ _ _ h => h) (Or.inl ⟨by rfl, ?hy23⟩) hHeld ?rest23
  case hy23 => (intro w hSw; (try dsimp only at hSw); go_simp; try with_reducible rfl)
  try simp only [Act.put, List.setIfInBounds_toArray, List.set_cons_zero, List.set_cons_succ]
  refine take_at (i := 24) (d := some 76) (v := ?v24) rfl rfl (by kernel_rfl) (by kernel_rfl) (by kernel_rfl) (fun _ _ _ h => h) (Or.inl ⟨by rfl, ?hy24⟩) hHeld ?rest24
  case hy24 => (intro w hSw; (try dsimp only at hSw); go_simp; try with_reducible rfl)
  try simp only [Act.put, List.setIfInBounds_toArray, List.set_cons_zero, List.set_cons_succ]
  refine take_at (i := 25) (d := some 77) (v := ?v25) rfl rfl (by kernel_rfl) (by kernel_rfl) (by kernel_rfl) (fun _ _ _ h => h) (Or.inl ⟨by rfl, ?hy25⟩) hHeld ?rest25
  case hy25 => (intro w hSw; (try dsimp only at hSw); go_simp; try with_reducible rfl)
  try simp only [Act.put, List.setIfInBounds_toArray, List.set_cons_zero, List.set_cons_succ]
  refine take_at (i := 26) (d := some 78) (v := ?v26) rfl rfl (by kernel_rfl) (by kernel_rfl) (by kernel_rfl) (fun _ _ _ h => h) (Or.inl ⟨by rfl, ?hy26⟩) hHeld ?rest26
  case hy26 => (intro w hSw; (try dsimp only at hSw); go_simp; try with_reducible rfl)
  try simp only [Act.put, List.setIfInBounds_toArray, List.set_cons_zero, List.set_cons_succ]
  refine wpAnyH_ready (rs := [27]) (by kernel_rfl) (by simp) ?_
  refine AllReadyH.cons rfl (fun K hK => ?_) AllReadyH.nil
  go_simp
  (with_reducible refine (LAB.out _ (Three.of hHeld)).mono ?_)
  rintro e w' ⟨rfl, hbw⟩
  refine hK.out _ _ (cells3_next hHeld hbw) (fun hHeld' => ?_)
  clear hK K hHeld hbw
  have hHeld := hHeld'
  clear hHeld'
  try simp only [Act.put, List.setIfInBounds_toArray, List.set_cons_zero, List.set_cons_succ]
  refine take_at (i := 28) (d := some 80) (v := ?v28) rfl rfl (by kernel_rfl) (by kernel_rfl) (by kernel_rfl) (fun _ _ _ h => h) (Or.inl ⟨by rfl, ?hy28⟩) hHeld ?rest28
  case hy28 => (intro w hSw; (try dsimp only at hSw); go_simp; try with_reducible rfl)
  try simp only [Act.put, List.setIfInBounds_toArray, List.set_cons_zero, List.set_cons_succ]
  refine take_at (i := 29) (d := some 81) (v := ?v29) rfl rfl (by kernel_rfl) (by kernel_rfl) (by kernel_rfl) (fun _ _ _ h => h) (Or.inl ⟨by rfl, ?hy29⟩) hHeld ?rest29
  case hy29 => (intro w hSw; (try dsimp only at hSw); go_simp; try with_reducible rfl)
  try simp only [Act.put, List.setIfInBounds_toArray, List.set_cons_zero, List.set_cons_succ]
  refine take_at (i := 30) (d := some 82) (v := ?v30) rfl rfl (by kernel_rfl) (by kernel_rfl) (by kernel_rfl) (fun _ _ _ h => h) (Or.inl ⟨by rfl, ?hy30⟩) hHeld ?rest30
  case hy30 => (intro w hSw; (try dsimp only at hSw); go_simp; try with_reducible rfl)
  try simp only [Act.put, List.setIfInBounds_toArray, List.set_cons_zero, List.set_cons_succ]
  refine wpAnyH_ready (rs := [31]) (by kernel_rfl) (by simp) ?_
  refine AllReadyH.cons rfl (fun K hK => ?_) AllReadyH.nil
  go_simp
  (with_reducible refine (LBC.out _ (Three.of hHeld)).mono ?_)
  rintro e w' ⟨rfl, hbw⟩
  refine hK.out _ _ (cells3_next hHeld hbw) (fun hHeld' => ?_)
  clear hK K hHeld hbw
  have hHeld := hHeld'
  clear hHeld'
  try simp only [Act.put, List.setIfInBounds_toArray, List.set_cons_zero, List.set_cons_succ]
  refine take_at (i := 32) (d := some 84) (v := ?v32) rfl rfl (by kernel_rfl) (by kernel_rfl) (by kernel_rfl) (fun _ _ _ h => h) (Or.inl ⟨by rfl, ?hy32⟩) hHeld ?rest32
  case hy32 => (intro w hSw; (try dsimp only at hSw); go_simp; try with_reducible rfl)
  try simp only [Act.put, List.setIfInBounds_toArray, List.set_cons_zero, List.set_cons_succ]
  refine take_at (i := 33) (d := some 85) (v := ?v33) rfl rfl (by kernel_rfl) (by kernel_rfl) (by kernel_rfl) (fun _ _ _ h => h) (Or.inl ⟨by rfl, ?hy33⟩) hHeld ?rest33
  case hy33 => (intro w hSw; (try dsimp only at hSw); go_simp; try with_reducible rfl)
  try simp only [Act.put, List.setIfInBounds_toArray, List.set_cons_zero, List.set_cons_succ]
  refine take_at (i := 34) (d := some 86) (v := undef) rfl rfl (by kernel_rfl) (by kernel_rfl) (by kernel_rfl) (fun _ _ _ h => h) (Or.inr ⟨by rfl, rfl⟩) hHeld ?rest34
  try simp only [Act.put, List.setIfInBounds_toArray, List.set_cons_zero, List.set_cons_succ]
  refine take_at (i := 35) (d := some 87) (v := undef) rfl rfl (by kernel_rfl) (by kernel_rfl) (by kernel_rfl) (fun _ _ _ h => h) (Or.inr ⟨by rfl, rfl⟩) hHeld ?rest35
  try simp only [Act.put, List.setIfInBounds_toArray, List.set_cons_zero, List.set_cons_succ]
  refine take_at (i := 36) (d := some 88) (v := undef) rfl rfl (by kernel_rfl) (by kernel_rfl) (by kernel_rfl) (fun _ _ _ h => h) (Or.inr ⟨by rfl, rfl⟩) hHeld ?rest36
  try simp only [Act.put, List.setIfInBounds_toArray, List.set_cons_zero, List.set_cons_succ]
  refine take_at (i := 37) (d := some 89) (v := undef) rfl rfl (by kernel_rfl) (by kernel_rfl) (by kernel_rfl) (fun _ _ _ h => h) (Or.inr ⟨by rfl, rfl⟩) hHeld ?rest37
  try simp only [Act.put, List.setIfInBounds_toArray, List.set_cons_zero, List.set_cons_succ]
  refine take_at (i := 38) (d := some 90) (v := ?v38) rfl rfl (by kernel_rfl) (by kernel_rfl) (by kernel_rfl) (fun _ _ _ h => h) (Or.inl ⟨by rfl, ?hy38⟩) hHeld ?rest38
  case hy38 => (intro w hSw; (try dsimp only at hSw); go_simp; try with_reducible rfl)
  try simp only [Act.put, List.setIfInBounds_toArray, List.set_cons_zero, List.set_cons_succ]
  refine take_at (i := 39) (d := some 91) (v := ?v39) rfl rfl (by kernel_rfl) (by kernel_rfl) (by kernel_rfl) (fun _ _ _ h => h) (Or.inl ⟨by rfl, ?hy39⟩) hHeld ?rest39
  case hy39 => (intro w hSw; (try dsimp only at hSw); go_simp; try with_reducible rfl)
  try simp only [Act.put, List.setIfInBounds_toArray, List.set_cons_zero, List.set_cons_succ]
  refine wpAnyH_done (by kernel_rfl) ?_ _
  refine NoPanic.normal ?_
  have T : Aside (Three w _ ⟨k, n, f, s⟩ ⟨l, m, g, t⟩ ⟨i, o, h, u⟩) := Aside.mk (Three.of hHeld)
  clear hHeld a0 a1 a2 a3 b0 b1 b2 b3 c0 c1 c2 c3
  obtain ⟨a0, a1, a2, a3, b0, b1, b2, b3, c0, c1, c2, c3, _⟩ := Three.cells T.out
  go_wp2_with fail
  (with_reducible refine (NA.out _ T.out).mono ?_)
  rintro e w1 ⟨rfl, hb1⟩
  clear a0 a1 a2 a3 b0 b1 b2 b3 c0 c1 c2 c3
  replace T := Aside.mk (Three.next T.out hb1)
  clear hb1
  obtain ⟨a0, a1, a2, a3, b0, b1, b2, b3, c0, c1, c2, c3, _⟩ := Three.cells T.out
  go_wp2_with fail
  (with_reducible refine (NB.out _ T.out).mono ?_)
  rintro e w1 ⟨rfl, hb1⟩
  clear a0 a1 a2 a3 b0 b1 b2 b3 c0 c1 c2 c3
  replace T := Aside.mk (Three.next T.out hb1)
  clear hb1
  obtain ⟨a0, a1, a2, a3, b0, b1, b2, b3, c0, c1, c2, c3, _⟩ := Three.cells T.out
  cases xo
  · go_wp2_with fail
    (with_reducible refine (KN.out _ T.out).mono ?_)
    rintro e w1 ⟨rfl, hb1⟩
    clear a0 a1 a2 a3 b0 b1 b2 b3 c0 c1 c2 c3
    replace T := Aside.mk (Three.next T.out hb1)
    clear hb1
    obtain ⟨a0, a1, a2, a3, b0, b1, b2, b3, c0, c1, c2, c3, _⟩ := Three.cells T.out
    go_wp2
    go_ret
    exact ⟨rfl, by assumption⟩
  cases yo
  · go_wp2_with fail
    (with_reducible refine (KN.out _ T.out).mono ?_)
    rintro e w1 ⟨rfl, hb1⟩
    clear a0 a1 a2 a3 b0 b1 b2 b3 c0 c1 c2 c3
    replace T := Aside.mk (Three.next T.out hb1)
    clear hb1
    obtain ⟨a0, a1, a2, a3, b0, b1, b2, b3, c0, c1, c2, c3, _⟩ := Three.cells T.out
    go_wp2
    go_ret
    exact ⟨rfl, by assumption⟩
  by_cases hkl : k = l
  rotate_left
  · have e1 : (k == l) = false := beq_eq_false_iff_ne.2 hkl
    go_wp2_with fail
    (with_reducible refine (KN.out _ T.out).mono ?_)
    rintro e w1 ⟨rfl, hb1⟩
    clear a0 a1 a2 a3 b0 b1 b2 b3 c0 c1 c2 c3
    replace T := Aside.mk (Three.next T.out hb1)
    clear hb1
    obtain ⟨a0, a1, a2, a3, b0, b1, b2, b3, c0, c1, c2, c3, _⟩ := Three.cells T.out
    go_wp2
    go_ret
    exact ⟨rfl, by assumption⟩
  by_cases ho : (FloatKind.f64.format.order xn yn == some .lt) = true
  · first
      | exact absurd (HN.out rfl rfl hkl ho) (by decide)
      | (subst hkl
         go_wp2_with fail
         (with_reducible refine (LAB.out _ T.out).mono ?_)
         rintro e w1 ⟨rfl, hb1⟩
         clear a0 a1 a2 a3 b0 b1 b2 b3 c0 c1 c2 c3
         replace T := Aside.mk (Three.next T.out hb1)
         clear hb1
         obtain ⟨a0, a1, a2, a3, b0, b1, b2, b3, c0, c1, c2, c3, _⟩ := Three.cells T.out
         go_wp2_with fail
         (with_reducible refine (KN.out _ T.out).mono ?_)
         rintro e w1 ⟨rfl, hb1⟩
         clear a0 a1 a2 a3 b0 b1 b2 b3 c0 c1 c2 c3
         replace T := Aside.mk (Three.next T.out hb1)
         clear hb1
         obtain ⟨a0, a1, a2, a3, b0, b1, b2, b3, c0, c1, c2, c3, _⟩ := Three.cells T.out
         go_wp2
         go_ret
         exact ⟨rfl, by assumption⟩)
  · have ho : (FloatKind.f64.format.order xn yn == some .lt) = false := by simpa using ho
    subst hkl
    go_wp2_with fail
    (with_reducible refine (KN.out _ T.out).mono ?_)
    rintro e w1 ⟨rfl, hb1⟩
    clear a0 a1 a2 a3 b0 b1 b2 b3 c0 c1 c2 c3
    replace T := Aside.mk (Three.next T.out hb1)
    clear hb1
    obtain ⟨a0, a1, a2, a3, b0, b1, b2, b3, c0, c1, c2, c3, _⟩ := Three.cells T.out
    go_wp2
    go_ret
    exact ⟨rfl, by assumption⟩
set_option maxRecDepth 100000 in
set_option maxHeartbeats 4000000 in
theorem order_c2 (a b c : Val) (w : World) (fa : a.fits) (fb : b.fits) (fc : c.fits) (hT : Lib.Utf8Tabs 1 2 w) (hbig : over a b c = false) (ha : mayV a = true) (hb : mayV b = true) (hc : mayV c = true) (hx : lessV a b = true) (hy0 : lessV b a = false) (he : decide (a = b) = false) (hz0 : lessV b c = true) (hu0 : lessV a c = true) :
    Calls Tryd.prog 11 #[a.v, b.v, c.v] w fun e w' => e = .returned (.bool true) ∧ Below w.heap.size w w' := by
  have T := Aside.mk (Three.new w a b c)
  have KN := Aside.mk (fun W (h : Three w W a b c) => known3_any W (tabs_below hT h.2.2.2))
  have MA := Aside.mk (fun W (h : Three w W a b c) => mayV_any a W (tabs_below hT h.2.2.2))
  have MB := Aside.mk (fun W (h : Three w W a b c) => mayV_any b W (tabs_below hT h.2.2.2))
  have MC := Aside.mk (fun W (h : Three w W a b c) => mayV_any c W (tabs_below hT h.2.2.2))
  have LAB := Aside.mk (fun W (h : Three w W a b c) => less_any a b W (tabs_below hT h.2.2.2) fa.1 fb.1)
  have LBA := Aside.mk (fun W (h : Three w W a b c) => less_any b a W (tabs_below hT h.2.2.2) fb.1 fa.1)
  have LBC := Aside.mk (fun W (h : Three w W a b c) => less_any b c W (tabs_below hT h.2.2.2) fb.1 fc.1)
  have LAC := Aside.mk (fun W (h : Three w W a b c) => less_any a c W (tabs_below hT h.2.2.2) fa.1 fc.1)
  have NA := Aside.mk (fun W (h : Three w W a b c) => number_any a W (tabs_below hT h.2.2.2))
  have NB := Aside.mk (fun W (h : Three w W a b c) => number_any b W (tabs_below hT h.2.2.2))
  have HN := Aside.mk (less_number ha hb fa.1 fb.1)
  rw [ha] at MA
  rw [hb] at MB
  rw [hc] at MC
  rw [hx] at LAB HN
  rw [hy0] at LBA
  rw [hz0] at LBC
  rw [hu0] at LAC
  clear hy0 hz0 hu0
  obtain ⟨xo, hxo⟩ : ∃ xo, (numB a).isSome = xo := ⟨_, rfl⟩
  obtain ⟨yo, hyo⟩ : ∃ yo, (numB b).isSome = yo := ⟨_, rfl⟩
  obtain ⟨xn, hxn⟩ : ∃ xn, (numB a).getD 0 = xn := ⟨_, rfl⟩
  obtain ⟨yn, hyn⟩ : ∃ yn, (numB b).getD 0 = yn := ⟨_, rfl⟩
  rw [hxo, hyo, hxn, hyn] at HN
  rw [hxo, hxn] at NA
  rw [hyo, hyn] at NB
  clear hxo hyo hxn hyn ha hb hc hx hT fa fb fc
  obtain ⟨k, n, f, s⟩ := a
  obtain ⟨l, m, g, t⟩ := b
  obtain ⟨i, o, h, u⟩ := c
  unfold Val.obj at T
  simp only at T HN
  have heq : ∀ W : World, (binOp .eql 56 (.agg #[.int .u8 k, .int .i64 n, .int .u64 (f : Int), .string s]) (.agg #[.int .u8 l, .int .i64 m, .int .u64 (g : Int), .string t])).run Tryd.prog W = .ok (.bool false) W := fun W => eq_at (a := ⟨k, n, f, s⟩) (b := ⟨l, m, g, t⟩) he W
  clear he
  unfold over at hbig
  simp only at hbig
  obtain ⟨z, hz⟩ : ∃ z, IntKind.i64.wrap ((s.size : Int) + (t.size : Int)) = z := ⟨_, rfl⟩
  rw [hz] at hbig
  obtain ⟨y, hy⟩ : ∃ y, IntKind.i64.wrap (z + (u.size : Int)) = y := ⟨_, rfl⟩
  rw [hy] at hbig
  unfold Val.v at MA MB MC LAB LBA LBC LAC NA NB ⊢
  go_enter Tryd.func11, Tryd.ntmps11
  go_wp2_with fail
  (with_reducible refine (MA.out _ T.out).mono ?_)
  rintro e w1 ⟨rfl, hb1⟩
  replace T := Aside.mk (Three.next T.out hb1)
  clear hb1
  obtain ⟨a0, a1, a2, a3, b0, b1, b2, b3, c0, c1, c2, c3, _⟩ := Three.cells T.out
  go_wp2_with fail
  (with_reducible refine (MB.out _ T.out).mono ?_)
  rintro e w1 ⟨rfl, hb1⟩
  clear a0 a1 a2 a3 b0 b1 b2 b3 c0 c1 c2 c3
  replace T := Aside.mk (Three.next T.out hb1)
  clear hb1
  obtain ⟨a0, a1, a2, a3, b0, b1, b2, b3, c0, c1, c2, c3, _⟩ := Three.cells T.out
  go_wp2_with fail
  (with_reducible refine (MC.out _ T.out).mono ?_)
  rintro e w1 ⟨rfl, hb1⟩
  clear a0 a1 a2 a3 b0 b1 b2 b3 c0 c1 c2 c3
  replace T := Aside.mk (Three.next T.out hb1)
  clear hb1
  obtain ⟨a0, a1, a2, a3, b0, b1, b2, b3, c0, c1, c2, c3, _⟩ := Three.cells T.out
  go_wp2_with fail
  clear hz hy hbig
  have hSd := T.out.2.2.2.drew
  refine wp_region_noPanic ?_
  refine wp_region_held_drew (S := fun w' => w'.cell? ⟨w.heap.size, 0, none⟩ = some (.int .u8 k) ∧ w'.cell? ⟨w.heap.size, 1, none⟩ = some (.int .i64 n) ∧ w'.cell? ⟨w.heap.size, 2, none⟩ = some (.int .u64 (f : Int)) ∧ w'.cell? ⟨w.heap.size, 3, none⟩ = some (.string s) ∧ w'.cell? ⟨w.heap.size + 1, 0, none⟩ = some (.int .u8 l) ∧ w'.cell? ⟨w.heap.size + 1, 1, none⟩ = some (.int .i64 m) ∧ w'.cell? ⟨w.heap.size + 1, 2, none⟩ = some (.int .u64 (g : Int)) ∧ w'.cell? ⟨w.heap.size + 1, 3, none⟩ = some (.string t) ∧ w'.cell? ⟨w.heap.size + 2, 0, none⟩ = some (.int .u8 i) ∧ w'.cell? ⟨w.heap.size + 2, 1, none⟩ = some (.int .i64 o) ∧ w'.cell? ⟨w.heap.size + 2, 2, none⟩ = some (.int .u64 (h : Int)) ∧ w'.cell? ⟨w.heap.size + 2, 3, none⟩ = some (.string u) ∧ Below w.heap.size w w') (by kernel_rfl) ⟨a0, a1, a2, a3, b0, b1, b2, b3, c0, c1, c2, c3, hSd⟩ (fun hHeld => ?_)
  refine take_at (i := 0) (d := some 52) (v := ?v0) rfl rfl (by kernel_rfl) (by kernel_rfl) (by kernel_rfl) (fun _ _ _ h => h) (Or.inl ⟨by rfl, ?hy0⟩) hHeld ?rest0
  case hy0 => (intro w hSw; (try dsimp only at hSw); go_simp; try with_reducible rfl)
  try simp only [Act.put, List.setIfInBounds_toArray, List.set_cons_zero, List.set_cons_succ]
  refine take_at (i := 1) (d := some 53) (v := ?v1) rfl rfl (by kernel_rfl) (by kernel_rfl) (by kernel_rfl) (fun _ _ _ h => h) (Or.inl ⟨by rfl, ?hy1⟩) hHeld ?rest1
  case hy1 => (intro w hSw; (try dsimp only at hSw); go_simp; try with_reducible rfl)
  try simp only [Act.put, List.setIfInBounds_toArray, List.set_cons_zero, List.set_cons_succ]
  refine take_at (i := 2) (d := some 54) (v := ?v2) rfl rfl (by kernel_rfl) (by kernel_rfl) (by kernel_rfl) (fun _ _ _ h => h) (Or.inl ⟨by rfl, ?hy2⟩) hHeld ?rest2
  case hy2 => (intro w hSw; (try dsimp only at hSw); go_simp; try with_reducible rfl)
  try simp only [Act.put, List.setIfInBounds_toArray, List.set_cons_zero, List.set_cons_succ]
  refine take_at (i := 3) (d := some 55) (v := ?v3) rfl rfl (by kernel_rfl) (by kernel_rfl) (by kernel_rfl) (fun _ _ _ h => h) (Or.inl ⟨by rfl, ?hy3⟩) hHeld ?rest3
  case hy3 => (intro w hSw; (try dsimp only at hSw); go_simp; try with_reducible rfl)
  try simp only [Act.put, List.setIfInBounds_toArray, List.set_cons_zero, List.set_cons_succ]
  refine take_at (i := 4) (d := some 56) (v := ?v4) rfl rfl (by kernel_rfl) (by kernel_rfl) (by kernel_rfl) (fun _ _ _ h => h) (Or.inl ⟨by rfl, ?hy4⟩) hHeld ?rest4
  case hy4 => (intro w hSw; (try dsimp only at hSw); go_simp; try with_reducible rfl)
  try simp only [Act.put, List.setIfInBounds_toArray, List.set_cons_zero, List.set_cons_succ]
  refine wpAnyH_ready (rs := [5]) (by kernel_rfl) (by simp) ?_
  refine AllReadyH.cons rfl (fun K hK => ?_) AllReadyH.nil
  go_simp
  (with_reducible refine (LAB.out _ (Three.of hHeld)).mono ?_)
  rintro e w' ⟨rfl, hbw⟩
  refine hK.out _ _ (cells3_next hHeld hbw) (fun hHeld' => ?_)
  clear hK K hHeld hbw
  have hHeld := hHeld'
  clear hHeld'
  try simp only [Act.put, List.setIfInBounds_toArray, List.set_cons_zero, List.set_cons_succ]
  refine take_at (i := 6) (d := some 58) (v := ?v6) rfl rfl (by kernel_rfl) (by kernel_rfl) (by kernel_rfl) (fun _ _ _ h => h) (Or.inl ⟨by rfl, ?hy6⟩) hHeld ?rest6
  case hy6 => (intro w hSw; (try dsimp only at hSw); go_simp; try with_reducible rfl)
  try simp only [Act.put, List.setIfInBounds_toArray, List.set_cons_zero, List.set_cons_succ]
  refine take_at (i := 7) (d := some 59) (v := ?v7) rfl rfl (by kernel_rfl) (by kernel_rfl) (by kernel_rfl) (fun _ _ _ h => h) (Or.inl ⟨by rfl, ?hy7⟩) hHeld ?rest7
  case hy7 => (intro w hSw; (try dsimp only at hSw); go_simp; try with_reducible rfl)
  try simp only [Act.put, List.setIfInBounds_toArray, List.set_cons_zero, List.set_cons_succ]
  refine take_at (i := 8) (d := some 60) (v := undef) rfl rfl (by kernel_rfl) (by kernel_rfl) (by kernel_rfl) (fun _ _ _ h => h) (Or.inr ⟨by rfl, rfl⟩) hHeld ?rest8
  try simp only [Act.put, List.setIfInBounds_toArray, List.set_cons_zero, List.set_cons_succ]
  refine take_at (i := 9) (d := some 61) (v := undef) rfl rfl (by kernel_rfl) (by kernel_rfl) (by kernel_rfl) (fun _ _ _ h => h) (Or.inr ⟨by rfl, rfl⟩) hHeld ?rest9
  try simp only [Act.put, List.setIfInBounds_toArray, List.set_cons_zero, List.set_cons_succ]
  refine take_at (i := 10) (d := some 62) (v := undef) rfl rfl (by kernel_rfl) (by kernel_rfl) (by kernel_rfl) (fun _ _ _ h => h) (Or.inr ⟨by rfl, rfl⟩) hHeld ?rest10
  try simp only [Act.put, List.setIfInBounds_toArray, List.set_cons_zero, List.set_cons_succ]
  refine take_at (i := 11) (d := some 63) (v := undef) rfl rfl (by kernel_rfl) (by kernel_rfl) (by kernel_rfl) (fun _ _ _ h => h) (Or.inr ⟨by rfl, rfl⟩) hHeld ?rest11
  try simp only [Act.put, List.setIfInBounds_toArray, List.set_cons_zero, List.set_cons_succ]
  refine take_at (i := 12) (d := some 64) (v := ?v12) rfl rfl (by kernel_rfl) (by kernel_rfl) (by kernel_rfl) (fun _ _ _ h => h) (Or.inl ⟨by rfl, ?hy12⟩) hHeld ?rest12
  case hy12 => (intro w hSw; (try dsimp only at hSw); go_simp; try with_reducible rfl)
  try simp only [Act.put, List.setIfInBounds_toArray, List.set_cons_zero, List.set_cons_succ]
  refine take_at (i := 13) (d := some 65) (v := ?v13) rfl rfl (by kernel_rfl) (by kernel_rfl) (by kernel_rfl) (fun _ _ _ h => h) (Or.inl ⟨by rfl, ?hy13⟩) hHeld ?rest13
  case hy13 => (intro w hSw; (try dsimp only at hSw); go_simp; try with_reducible rfl)
  try simp only [Act.put, List.setIfInBounds_toArray, List.set_cons_zero, List.set_cons_succ]
  refine take_at (i := 14) (d := some 66) (v := ?v14) rfl rfl (by kernel_rfl) (by kernel_rfl) (by kernel_rfl) (fun _ _ _ h => h) (Or.inl ⟨by rfl, ?hy14⟩) hHeld ?rest14
  case hy14 => (intro w hSw; (try dsimp only at hSw); go_simp; try with_reducible rfl)
  try simp only [Act.put, List.setIfInBounds_toArray, List.set_cons_zero, List.set_cons_succ]
  refine take_at (i := 15) (d := some 67) (v := ?v15) rfl rfl (by kernel_rfl) (by kernel_rfl) (by kernel_rfl) (fun _ _ _ h => h) (Or.inl ⟨by rfl, ?hy15⟩) hHeld ?rest15
  case hy15 => (intro w hSw; (try dsimp only at hSw); go_simp; try with_reducible rfl)
  try simp only [Act.put, List.setIfInBounds_toArray, List.set_cons_zero, List.set_cons_succ]
  refine take_at (i := 16) (d := some 68) (v := ?v16) rfl rfl (by kernel_rfl) (by kernel_rfl) (by kernel_rfl) (fun _ _ _ h => h) (Or.inl ⟨by rfl, ?hy16⟩) hHeld ?rest16
  case hy16 => (intro w hSw; (try dsimp only at hSw); go_simp; try with_reducible rfl)
  try simp only [Act.put, List.setIfInBounds_toArray, List.set_cons_zero, List.set_cons_succ]
  refine wpAnyH_ready (rs := [17]) (by kernel_rfl) (by simp) ?_
  refine AllReadyH.cons rfl (fun K hK => ?_) AllReadyH.nil
  go_simp
  (with_reducible refine (LAB.out _ (Three.of hHeld)).mono ?_)
  rintro e w' ⟨rfl, hbw⟩
  refine hK.out _ _ (cells3_next hHeld hbw) (fun hHeld' => ?_)
  clear hK K hHeld hbw
  have hHeld := hHeld'
  clear hHeld'
  try simp only [Act.put, List.setIfInBounds_toArray, List.set_cons_zero, List.set_cons_succ]
  refine take_at (i := 18) (d := some 70) (v := ?v18) rfl rfl (by kernel_rfl) (by kernel_rfl) (by kernel_rfl) (fun _ _ _ h => h) (Or.inl ⟨by rfl, ?hy18⟩) hHeld ?rest18
  case hy18 => (intro w hSw; (try dsimp only at hSw); go_simp; try with_reducible rfl)
  try simp only [Act.put, List.setIfInBounds_toArray, List.set_cons_zero, List.set_cons_succ]
  refine take_at (i := 19) (d := some 71) (v := ?v19) rfl rfl (by kernel_rfl) (by kernel_rfl) (by kernel_rfl) (fun _ _ _ h => h) (Or.inl ⟨by rfl, ?hy19⟩) hHeld ?rest19
  case hy19 => (intro w hSw; (try dsimp only at hSw); go_simp; try with_reducible rfl)
  try simp only [Act.put, List.setIfInBounds_toArray, List.set_cons_zero, List.set_cons_succ]
  refine take_at (i := 20) (d := some 72) (v := ?v20) rfl rfl (by kernel_rfl) (by kernel_rfl) (by kernel_rfl) (fun _ _ _ h => h) (Or.inl ⟨by rfl, ?hy20⟩) hHeld ?rest20
  case hy20 => (intro w hSw; (try dsimp only at hSw); go_simp; try with_reducible rfl)
  try simp only [Act.put, List.setIfInBounds_toArray, List.set_cons_zero, List.set_cons_succ]
  refine wpAnyH_ready (rs := [21]) (by kernel_rfl) (by simp) ?_
  refine AllReadyH.cons rfl (fun K hK => ?_) AllReadyH.nil
  go_simp
  (with_reducible refine (LBA.out _ (Three.of hHeld)).mono ?_)
  rintro e w' ⟨rfl, hbw⟩
  refine hK.out _ _ (cells3_next hHeld hbw) (fun hHeld' => ?_)
  clear hK K hHeld hbw
  have hHeld := hHeld'
  clear hHeld'
  try simp only [Act.put, List.setIfInBounds_toArray, List.set_cons_zero, List.set_cons_succ]
  refine take_at (i := 22) (d := some 74) (v := ?v22) rfl rfl (by kernel_rfl) (by kernel_rfl) (by kernel_rfl) (fun _ _ _ h => h) (Or.inl ⟨by rfl, ?hy22⟩) hHeld ?rest22
  case hy22 => (intro w hSw; (try dsimp only at hSw); go_simp; try with_reducible rfl)
  try simp only [Act.put, List.setIfInBounds_toArray, List.set_cons_zero, List.set_cons_succ]
  refine take_at (i := 23) (d := some 75) (v := ?v23) rfl rfl (by kernel_rfl) (by kernel_rfl) (by kernel_rfl) (fun _ _ _ h => h) (Or.inl ⟨by rfl, ?hy23⟩) hHeld ?rest23
  case hy23 => (intro w hSw; (try dsimp only at hSw); go_simp; try with_reducible rfl)
  try simp only [Act.put, List.setIfInBounds_toArray, List.set_cons_zero, List.set_cons_succ]
  refine take_at (i := 24) (d := some 76) (v := ?v24) rfl rfl (by kernel_rfl) (by kernel_rfl) (by kernel_rfl) (fun _ _ _ h => h) (Or.inl ⟨by rfl, ?hy24⟩) hHeld ?rest24
  case hy24 => (intro w hSw; (try dsimp only at hSw); go_simp; try with_reducible rfl)
  try simp only [Act.put, List.setIfInBounds_toArray, List.set_cons_zero, List.set_cons_succ]
  refine take_at (i := 25) (d := some 77) (v := ?v25) rfl rfl (by kernel_rfl) (by kernel_rfl) (by kernel_rfl) (fun _ _ _ h => h) (Or.inl ⟨by rfl, ?hy25⟩) hHeld ?rest25
  case hy25 => (intro w hSw; (try dsimp only at hSw); go_simp; try with_reducible rfl)
  try simp only [Act.put, List.setIfInBounds_toArray, List.set_cons_zero, List.set_cons_succ]
  refine take_at (i := 26) (d := some 78) (v := ?v26) rfl rfl (by kernel_rfl) (by kernel_rfl) (by kernel_rfl) (fun _ _ _ h => h) (Or.inl ⟨by rfl, ?hy26⟩) hHeld ?rest26
  case hy26 => (intro w hSw; (try dsimp only at hSw); go_simp; try with_reducible rfl)
  try simp only [Act.put, List.setIfInBounds_toArray, List.set_cons_zero, List.set_cons_succ]
  refine wpAnyH_ready (rs := [27]) (by kernel_rfl) (by simp) ?_
  refine AllReadyH.cons rfl (fun K hK => ?_) AllReadyH.nil
  go_simp
  (with_reducible refine (LAB.out _ (Three.of hHeld)).mono ?_)
  rintro e w' ⟨rfl, hbw⟩
  refine hK.out _ _ (cells3_next hHeld hbw) (fun hHeld' => ?_)
  clear hK K hHeld hbw
  have hHeld := hHeld'
  clear hHeld'
  try simp only [Act.put, List.setIfInBounds_toArray, List.set_cons_zero, List.set_cons_succ]
  refine take_at (i := 28) (d := some 80) (v := ?v28) rfl rfl (by kernel_rfl) (by kernel_rfl) (by kernel_rfl) (fun _ _ _ h => h) (Or.inl ⟨by rfl, ?hy28⟩) hHeld ?rest28
  case hy28 => (intro w hSw; (try dsimp only at hSw); go_simp; try with_reducible rfl)
  try simp only [Act.put, List.setIfInBounds_toArray, List.set_cons_zero, List.set_cons_succ]
  refine take_at (i := 29) (d := some 81) (v := ?v29) rfl rfl (by kernel_rfl) (by kernel_rfl) (by kernel_rfl) (fun _ _ _ h => h) (Or.inl ⟨by rfl, ?hy29⟩) hHeld ?rest29
  case hy29 => (intro w hSw; (try dsimp only at hSw); go_simp; try with_reducible rfl)
  try simp only [Act.put, List.setIfInBounds_toArray, List.set_cons_zero, List.set_cons_succ]
  refine take_at (i := 30) (d := some 82) (v := ?v30) rfl rfl (by kernel_rfl) (by kernel_rfl) (by kernel_rfl) (fun _ _ _ h => h) (Or.inl ⟨by rfl, ?hy30⟩) hHeld ?rest30
  case hy30 => (intro w hSw; (try dsimp only at hSw); go_simp; try with_reducible rfl)
  try simp only [Act.put, List.setIfInBounds_toArray, List.set_cons_zero, List.set_cons_succ]
  refine wpAnyH_ready (rs := [31]) (by kernel_rfl) (by simp) ?_
  refine AllReadyH.cons rfl (fun K hK => ?_) AllReadyH.nil
  go_simp
  (with_reducible refine (LBC.out _ (Three.of hHeld)).mono ?_)
  rintro e w' ⟨rfl, hbw⟩
  refine hK.out _ _ (cells3_next hHeld hbw) (fun hHeld' => ?_)
  clear hK K hHeld hbw
  have hHeld := hHeld'
  clear hHeld'
  try simp only [Act.put, List.setIfInBounds_toArray, List.set_cons_zero, List.set_cons_succ]
  refine take_at (i := 32) (d := some 84) (v := ?v32) rfl rfl (by kernel_rfl) (by kernel_rfl) (by kernel_rfl) (fun _ _ _ h => h) (Or.inl ⟨by rfl, ?hy32⟩) hHeld ?rest32
  case hy32 => (intro w hSw; (try dsimp only at hSw); go_simp; try with_reducible rfl)
  try simp only [Act.put, List.setIfInBounds_toArray, List.set_cons_zero, List.set_cons_succ]
  refine take_at (i := 33) (d := some 85) (v := ?v33) rfl rfl (by kernel_rfl) (by kernel_rfl) (by kernel_rfl) (fun _ _ _ h => h) (Or.inl ⟨by rfl, ?hy33⟩) hHeld ?rest33
  case hy33 => (intro w hSw; (try dsimp only at hSw); go_simp; try with_reducible rfl)
  try simp only [Act.put, List.setIfInBounds_toArray, List.set_cons_zero, List.set_cons_succ]
  refine take_at (i := 34) (d := some 86) (v := ?v34) rfl rfl (by kernel_rfl) (by kernel_rfl) (by kernel_rfl) (fun _ _ _ h => h) (Or.inl ⟨by rfl, ?hy34⟩) hHeld ?rest34
  case hy34 => (intro w hSw; (try dsimp only at hSw); go_simp; try with_reducible rfl)
  try simp only [Act.put, List.setIfInBounds_toArray, List.set_cons_zero, List.set_cons_succ]
  refine take_at (i := 35) (d := some 87) (v := ?v35) rfl rfl (by kernel_rfl) (by kernel_rfl) (by kernel_rfl) (fun _ _ _ h => h) (Or.inl ⟨by rfl, ?hy35⟩) hHeld ?rest35
  case hy35 => (intro w hSw; (try dsimp only at hSw); go_simp; try with_reducible rfl)
  try simp only [Act.put, List.setIfInBounds_toArray, List.set_cons_zero, List.set_cons_succ]
  refine wpAnyH_ready (rs := [36]) (by kernel_rfl) (by simp) ?_
  refine AllReadyH.cons rfl (fun K hK => ?_) AllReadyH.nil
  go_simp
  (with_reducible refine (LAC.out _ (Three.of hHeld)).mono ?_)
  rintro e w' ⟨rfl, hbw⟩
  refine hK.out _ _ (cells3_next hHeld hbw) (fun hHeld' => ?_)
  clear hK K hHeld hbw
  have hHeld := hHeld'
  clear hHeld'
  try simp only [Act.put, List.setIfInBounds_toArray, List.set_cons_zero, List.set_cons_succ]
  refine take_at (i := 37) (d := some 89) (v := ?v37) rfl rfl (by kernel_rfl) (by kernel_rfl) (by kernel_rfl) (fun _ _ _ h => h) (Or.inl ⟨by rfl, ?hy37⟩) hHeld ?rest37
  case hy37 => (intro w hSw; (try dsimp only at hSw); go_simp; try with_reducible rfl)
  try simp only [Act.put, List.setIfInBounds_toArray, List.set_cons_zero, List.set_cons_succ]
  refine take_at (i := 38) (d := some 90) (v := ?v38) rfl rfl (by kernel_rfl) (by kernel_rfl) (by kernel_rfl) (fun _ _ _ h => h) (Or.inl ⟨by rfl, ?hy38⟩) hHeld ?rest38
  case hy38 => (intro w hSw; (try dsimp only at hSw); go_simp; try with_reducible rfl)
  try simp only [Act.put, List.setIfInBounds_toArray, List.set_cons_zero, List.set_cons_succ]
  refine take_at (i := 39) (d := some 91) (v := ?v39) rfl rfl (by kernel_rfl) (by kernel_rfl) (by kernel_rfl) (fun _ _ _ h => h) (Or.inl ⟨by rfl, ?hy39⟩) hHeld ?rest39
  case hy39 => (intro w hSw; (try dsimp only at hSw); go_simp; try with_reducible rfl)
  try simp only [Act.put, List.setIfInBounds_toArray, List.set_cons_zero, List.set_cons_succ]
  refine wpAnyH_done (by kernel_rfl) ?_ _
  refine NoPanic.normal ?_
  have T : Aside (Three w _ ⟨k, n, f, s⟩ ⟨l, m, g, t⟩ ⟨i, o, h, u⟩) := Aside.mk (Three.of hHeld)
  clear hHeld a0 a1 a2 a3 b0 b1 b2 b3 c0 c1 c2 c3
  obtain ⟨a0, a1, a2, a3, b0, b1, b2, b3, c0, c1, c2, c3, _⟩ := Three.cells T.out
  go_wp2_with fail
  (with_reducible refine (NA.out _ T.out).mono ?_)
  rintro e w1 ⟨rfl, hb1⟩
  clear a0 a1 a2 a3 b0 b1 b2 b3 c0 c1 c2 c3
  replace T := Aside.mk (Three.next T.out hb1)
  clear hb1
  obtain ⟨a0, a1, a2, a3, b0, b1, b2, b3, c0, c1, c2, c3, _⟩ := Three.cells T.out
  go_wp2_with fail
  (with_reducible refine (NB.out _ T.out).mono ?_)
  rintro e w1 ⟨rfl, hb1⟩
  clear a0 a1 a2 a3 b0 b1 b2 b3 c0 c1 c2 c3
  replace T := Aside.mk (Three.next T.out hb1)
  clear hb1
  obtain ⟨a0, a1, a2, a3, b0, b1, b2, b3, c0, c1, c2, c3, _⟩ := Three.cells T.out
  cases xo
  · go_wp2_with fail
    (with_reducible refine (KN.out _ T.out).mono ?_)
    rintro e w1 ⟨rfl, hb1⟩
    clear a0 a1 a2 a3 b0 b1 b2 b3 c0 c1 c2 c3
    replace T := Aside.mk (Three.next T.out hb1)
    clear hb1
    obtain ⟨a0, a1, a2, a3, b0, b1, b2, b3, c0, c1, c2, c3, _⟩ := Three.cells T.out
    go_wp2
    go_ret
    exact ⟨rfl, by assumption⟩
  cases yo
  · go_wp2_with fail
    (with_reducible refine (KN.out _ T.out).mono ?_)
    rintro e w1 ⟨rfl, hb1⟩
    clear a0 a1 a2 a3 b0 b1 b2 b3 c0 c1 c2 c3
    replace T := Aside.mk (Three.next T.out hb1)
    clear hb1
    obtain ⟨a0, a1, a2, a3, b0, b1, b2, b3, c0, c1, c2, c3, _⟩ := Three.cells T.out
    go_wp2
    go_ret
    exact ⟨rfl, by assumption⟩
  by_cases hkl : k = l
  rotate_left
  · have e1 : (k == l) = false := beq_eq_false_iff_ne.2 hkl
    go_wp2_with fail
    (with_reducible refine (KN.out _ T.out).mono ?_)
    rintro e w1 ⟨rfl, hb1⟩
    clear a0 a1 a2 a3 b0 b1 b2 b3 c0 c1 c2 c3
    replace T := Aside.mk (Three.next T.out hb1)
    clear hb1
    obtain ⟨a0, a1, a2, a3, b0, b1, b2, b3, c0, c1, c2, c3, _⟩ := Three.cells T.out
    go_wp2
    go_ret
    exact ⟨rfl, by assumption⟩
  by_cases ho : (FloatKind.f64.format.order xn yn == some .lt) = true
  · first
      | exact absurd (HN.out rfl rfl hkl ho) (by decide)
      | (subst hkl
         go_wp2_with fail
         (with_reducible refine (LAB.out _ T.out).mono ?_)
         rintro e w1 ⟨rfl, hb1⟩
         clear a0 a1 a2 a3 b0 b1 b2 b3 c0 c1 c2 c3
         replace T := Aside.mk (Three.next T.out hb1)
         clear hb1
         obtain ⟨a0, a1, a2, a3, b0, b1, b2, b3, c0, c1, c2, c3, _⟩ := Three.cells T.out
         go_wp2_with fail
         (with_reducible refine (KN.out _ T.out).mono ?_)
         rintro e w1 ⟨rfl, hb1⟩
         clear a0 a1 a2 a3 b0 b1 b2 b3 c0 c1 c2 c3
         replace T := Aside.mk (Three.next T.out hb1)
         clear hb1
         obtain ⟨a0, a1, a2, a3, b0, b1, b2, b3, c0, c1, c2, c3, _⟩ := Three.cells T.out
         go_wp2
         go_ret
         exact ⟨rfl, by assumption⟩)
  · have ho : (FloatKind.f64.format.order xn yn == some .lt) = false := by simpa using ho
    subst hkl
    go_wp2_with fail
    (with_reducible refine (KN.out _ T.out).mono ?_)
    rintro e w1 ⟨rfl, hb1⟩
    clear a0 a1 a2 a3 b0 b1 b2 b3 c0 c1 c2 c3
    replace T := Aside.mk (Three.next T.out hb1)
    clear hb1
    obtain ⟨a0, a1, a2, a3, b0, b1, b2, b3, c0, c1, c2, c3, _⟩ := Three.cells T.out
    go_wp2
    go_ret
    exact ⟨rfl, by assumption⟩
set_option maxRecDepth 100000 in
set_option maxHeartbeats 4000000 in
theorem order_c3 (a b c : Val) (w : World) (fa : a.fits) (fb : b.fits) (fc : c.fits) (hT : Lib.Utf8Tabs 1 2 w) (hbig : over a b c = false) (ha : mayV a = true) (hb : mayV b = true) (hc : mayV c = true) (hx : lessV a b = false) (hy0 : lessV b a = true) (he : decide (a = b) = false) :
    Calls Tryd.prog 11 #[a.v, b.v, c.v] w fun e w' => e = .returned (.bool true) ∧ Below w.heap.size w w' := by
  have T := Aside.mk (Three.new w a b c)
  have KN := Aside.mk (fun W (h : Three w W a b c) => known3_any W (tabs_below hT h.2.2.2))
  have MA := Aside.mk (fun W (h : Three w W a b c) => mayV_any a W (tabs_below hT h.2.2.2))
  have MB := Aside.mk (fun W (h : Three w W a b c) => mayV_any b W (tabs_below hT h.2.2.2))
  have MC := Aside.mk (fun W (h : Three w W a b c) => mayV_any c W (tabs_below hT h.2.2.2))
  have LAB := Aside.mk (fun W (h : Three w W a b c) => less_any a b W (tabs_below hT h.2.2.2) fa.1 fb.1)
  have LBA := Aside.mk (fun W (h : Three w W a b c) => less_any b a W (tabs_below hT h.2.2.2) fb.1 fa.1)
  have LBC := Aside.mk (fun W (h : Three w W a b c) => less_any b c W (tabs_below hT h.2.2.2) fb.1 fc.1)
  have LAC := Aside.mk (fun W (h : Three w W a b c) => less_any a c W (tabs_below hT h.2.2.2) fa.1 fc.1)
  have NA := Aside.mk (fun W (h : Three w W a b c) => number_any a W (tabs_below hT h.2.2.2))
  have NB := Aside.mk (fun W (h : Three w W a b c) => number_any b W (tabs_below hT h.2.2.2))
  have HN := Aside.mk (less_number ha hb fa.1 fb.1)
  rw [ha] at MA
  rw [hb] at MB
  rw [hc] at MC
  rw [hx] at LAB HN
  rw [hy0] at LBA
  clear hy0
  obtain ⟨xo, hxo⟩ : ∃ xo, (numB a).isSome = xo := ⟨_, rfl⟩
  obtain ⟨yo, hyo⟩ : ∃ yo, (numB b).isSome = yo := ⟨_, rfl⟩
  obtain ⟨xn, hxn⟩ : ∃ xn, (numB a).getD 0 = xn := ⟨_, rfl⟩
  obtain ⟨yn, hyn⟩ : ∃ yn, (numB b).getD 0 = yn := ⟨_, rfl⟩
  rw [hxo, hyo, hxn, hyn] at HN
  rw [hxo, hxn] at NA
  rw [hyo, hyn] at NB
  clear hxo hyo hxn hyn ha hb hc hx hT fa fb fc
  obtain ⟨k, n, f, s⟩ := a
  obtain ⟨l, m, g, t⟩ := b
  obtain ⟨i, o, h, u⟩ := c
  unfold Val.obj at T
  simp only at T HN
  have heq : ∀ W : World, (binOp .eql 56 (.agg #[.int .u8 k, .int .i64 n, .int .u64 (f : Int), .string s]) (.agg #[.int .u8 l, .int .i64 m, .int .u64 (g : Int), .string t])).run Tryd.prog W = .ok (.bool false) W := fun W => eq_at (a := ⟨k, n, f, s⟩) (b := ⟨l, m, g, t⟩) he W
  clear he
  unfold over at hbig
  simp only at hbig
  obtain ⟨z, hz⟩ : ∃ z, IntKind.i64.wrap ((s.size : Int) + (t.size : Int)) = z := ⟨_, rfl⟩
  rw [hz] at hbig
  obtain ⟨y, hy⟩ : ∃ y, IntKind.i64.wrap (z + (u.size : Int)) = y := ⟨_, rfl⟩
  rw [hy] at hbig
  unfold Val.v at MA MB MC LAB LBA LBC LAC NA NB ⊢
  go_enter Tryd.func11, Tryd.ntmps11
  go_wp2_with fail
  (with_reducible refine (MA.out _ T.out).mono ?_)
  rintro e w1 ⟨rfl, hb1⟩
  replace T := Aside.mk (Three.next T.out hb1)
  clear hb1
  obtain ⟨a0, a1, a2, a3, b0, b1, b2, b3, c0, c1, c2, c3, _⟩ := Three.cells T.out
  go_wp2_with fail
  (with_reducible refine (MB.out _ T.out).mono ?_)
  rintro e w1 ⟨rfl, hb1⟩
  clear a0 a1 a2 a3 b0 b1 b2 b3 c0 c1 c2 c3
  replace T := Aside.mk (Three.next T.out hb1)
  clear hb1
  obtain ⟨a0, a1, a2, a3, b0, b1, b2, b3, c0, c1, c2, c3, _⟩ := Three.cells T.out
  go_wp2_with fail
  (with_reducible refine (MC.out _ T.out).mono ?_)
  rintro e w1 ⟨rfl, hb1⟩
  clear a0 a1 a2 a3 b0 b1 b2 b3 c0 c1 c2 c3
  replace T := Aside.mk (Three.next T.out hb1)
  clear hb1
  obtain ⟨a0, a1, a2, a3, b0, b1, b2, b3, c0, c1, c2, c3, _⟩ := Three.cells T.out
  go_wp2_with fail
  clear hz hy hbig
  have hSd := T.out.2.2.2.drew
  refine wp_region_noPanic ?_
  refine wp_region_held_drew (S := fun w' => w'.cell? ⟨w.heap.size, 0, none⟩ = some (.int .u8 k) ∧ w'.cell? ⟨w.heap.size, 1, none⟩ = some (.int .i64 n) ∧ w'.cell? ⟨w.heap.size, 2, none⟩ = some (.int .u64 (f : Int)) ∧ w'.cell? ⟨w.heap.size, 3, none⟩ = some (.string s) ∧ w'.cell? ⟨w.heap.size + 1, 0, none⟩ = some (.int .u8 l) ∧ w'.cell? ⟨w.heap.size + 1, 1, none⟩ = some (.int .i64 m) ∧ w'.cell? ⟨w.heap.size + 1, 2, none⟩ = some (.int .u64 (g : Int)) ∧ w'.cell? ⟨w.heap.size + 1, 3, none⟩ = some (.string t) ∧ w'.cell? ⟨w.heap.size + 2, 0, none⟩ = some (.int .u8 i) ∧ w'.cell? ⟨w.heap.size + 2, 1, none⟩ = some (.int .i64 o) ∧ w'.cell? ⟨w.heap.size + 2, 2, none⟩ = some (.int .u64 (h : Int)) ∧ w'.cell? ⟨w.heap.size + 2, 3, none⟩ = some (.string u) ∧ Below w.heap.size w w') (by kernel_rfl) ⟨a0, a1, a2, a3, b0, b1, b2, b3, c0, c1, c2, c3, hSd⟩ (fun hHeld => ?_)
  refine take_at (i := 0) (d := some 52) (v := ?v0) rfl rfl (by kernel_rfl) (by kernel_rfl) (by kernel_rfl) (fun _ _ _ h => h) (Or.inl ⟨by rfl, ?hy0⟩) hHeld ?rest0
  case hy0 => (intro w hSw; (try dsimp only at hSw); go_simp; try with_reducible rfl)
  try simp only [Act.put, List.setIfInBounds_toArray, List.set_cons_zero, List.set_cons_succ]
  refine take_at (i := 1) (d := some 53) (v := ?v1) rfl rfl (by kernel_rfl) (by kernel_rfl) (by kernel_rfl) (fun _ _ _ h => h) (Or.inl ⟨by rfl, ?hy1⟩) hHeld ?rest1
  case hy1 => (intro w hSw; (try dsimp only at hSw); go_simp; try with_reducible rfl)
  try simp only [Act.put, List.setIfInBounds_toArray, List.set_cons_zero, List.set_cons_succ]
  refine take_at (i := 2) (d := some 54) (v := ?v2) rfl rfl (by kernel_rfl) (by kernel_rfl) (by kernel_rfl) (fun _ _ _ h => h) (Or.inl ⟨by rfl, ?hy2⟩) hHeld ?rest2
  case hy2 => (intro w hSw; (try dsimp only at hSw); go_simp; try with_reducible rfl)
  try simp only [Act.put, List.setIfInBounds_toArray, List.set_cons_zero, List.set_cons_succ]
  refine take_at (i := 3) (d := some 55) (v := ?v3) rfl rfl (by kernel_rfl) (by kernel_rfl) (by kernel_rfl) (fun _ _ _ h => h) (Or.inl ⟨by rfl, ?hy3⟩) hHeld ?rest3
  case hy3 => (intro w hSw; (try dsimp only at hSw); go_simp; try with_reducible rfl)
  try simp only [Act.put, List.setIfInBounds_toArray, List.set_cons_zero, List.set_cons_succ]
  refine take_at (i := 4) (d := some 56) (v := ?v4) rfl rfl (by kernel_rfl) (by kernel_rfl) (by kernel_rfl) (fun _ _ _ h => h) (Or.inl ⟨by rfl, ?hy4⟩) hHeld ?rest4
  case hy4 => (intro w hSw; (try dsimp only at hSw); go_simp; try with_reducible rfl)
  try simp only [Act.put, List.setIfInBounds_toArray, List.set_cons_zero, List.set_cons_succ]
  refine wpAnyH_ready (rs := [5]) (by kernel_rfl) (by simp) ?_
  refine AllReadyH.cons rfl (fun K hK => ?_) AllReadyH.nil
  go_simp
  (with_reducible refine (LAB.out _ (Three.of hHeld)).mono ?_)
  rintro e w' ⟨rfl, hbw⟩
  refine hK.out _ _ (cells3_next hHeld hbw) (fun hHeld' => ?_)
  clear hK K hHeld hbw
  have hHeld := hHeld'
  clear hHeld'
  try simp only [Act.put, List.setIfInBounds_toArray, List.set_cons_zero, List.set_cons_succ]
  refine take_at (i := 6) (d := some 58) (v := ?v6) rfl rfl (by kernel_rfl) (by kernel_rfl) (by kernel_rfl) (fun _ _ _ h => h) (Or.inl ⟨by rfl, ?hy6⟩) hHeld ?rest6
  case hy6 => (intro w hSw; (try dsimp only at hSw); go_simp; try with_reducible rfl)
  try simp only [Act.put, List.setIfInBounds_toArray, List.set_cons_zero, List.set_cons_succ]
  refine take_at (i := 7) (d := some 59) (v := ?v7) rfl rfl (by kernel_rfl) (by kernel_rfl) (by kernel_rfl) (fun _ _ _ h => h) (Or.inl ⟨by rfl, ?hy7⟩) hHeld ?rest7
  case hy7 => (intro w hSw; (try dsimp only at hSw); go_simp; try with_reducible rfl)
  try simp only [Act.put, List.setIfInBounds_toArray, List.set_cons_zero, List.set_cons_succ]
  refine take_at (i := 8) (d := some 60) (v := ?v8) rfl rfl (by kernel_rfl) (by kernel_rfl) (by kernel_rfl) (fun _ _ _ h => h) (Or.inl ⟨by rfl, ?hy8⟩) hHeld ?rest8
  case hy8 => (intro w hSw; (try dsimp only at hSw); go_simp; try with_reducible rfl)
  try simp only [Act.put, List.setIfInBounds_toArray, List.set_cons_zero, List.set_cons_succ]
  refine take_at (i := 9) (d := some 61) (v := ?v9) rfl rfl (by kernel_rfl) (by kernel_rfl) (by kernel_rfl) (fun _ _ _ h => h) (Or.inl ⟨by rfl, ?hy9⟩) hHeld ?rest9
  case hy9 => (intro w hSw; (try dsimp only at hSw); go_simp; try with_reducible rfl)
  try simp only [Act.put, List.setIfInBounds_toArray, List.set_cons_zero, List.set_cons_succ]
  refine wpAnyH_ready (rs := [10]) (by kernel_rfl) (by simp) ?_
  refine AllReadyH.cons rfl (fun K hK => ?_) AllReadyH.nil
  go_simp
  (with_reducible refine (LBA.out _ (Three.of hHeld)).mono ?_)
  rintro e w' ⟨rfl, hbw⟩
  refine hK.out _ _ (cells3_next hHeld hbw) (fun hHeld' => ?_)
  clear hK K hHeld hbw
  have hHeld := hHeld'
  clear hHeld'
  try simp only [Act.put, List.setIfInBounds_toArray, List.set_cons_zero, List.set_cons_succ]
  refine take_at (i := 11) (d := some 63) (v := ?v11) rfl rfl (by kernel_rfl) (by kernel_rfl) (by kernel_rfl) (fun _ _ _ h => h) (Or.inl ⟨by rfl, ?hy11⟩) hHeld ?rest11
  case hy11 => (intro w hSw; (try dsimp only at hSw); go_simp; try with_reducible rfl)
  try simp only [Act.put, List.setIfInBounds_toArray, List.set_cons_zero, List.set_cons_succ]
  refine take_at (i := 12) (d := some 64) (v := ?v12) rfl rfl (by kernel_rfl) (by kernel_rfl) (by kernel_rfl) (fun _ _ _ h => h) (Or.inl ⟨by rfl, ?hy12⟩) hHeld ?rest12
  case hy12 => (intro w hSw; (try dsimp only at hSw); go_simp; try with_reducible rfl)
  try simp only [Act.put, List.setIfInBounds_toArray, List.set_cons_zero, List.set_cons_succ]
  refine take_at (i := 13) (d := some 65) (v := ?v13) rfl rfl (by kernel_rfl) (by kernel_rfl) (by kernel_rfl) (fun _ _ _ h => h) (Or.inl ⟨by rfl, ?hy13⟩) hHeld ?rest13
  case hy13 => (intro w hSw; (try dsimp only at hSw); go_simp; try with_reducible rfl)
  try simp only [Act.put, List.setIfInBounds_toArray, List.set_cons_zero, List.set_cons_succ]
  refine take_at (i := 14) (d := some 66) (v := ?v14) rfl rfl (by kernel_rfl) (by kernel_rfl) (by kernel_rfl) (fun _ _ _ h => h) (Or.inl ⟨by rfl, ?hy14⟩) hHeld ?rest14
  case hy14 => (intro w hSw; (try dsimp only at hSw); go_simp; try with_reducible rfl)
  try simp only [Act.put, List.setIfInBounds_toArray, List.set_cons_zero, List.set_cons_succ]
  refine take_at (i := 15) (d := some 67) (v := ?v15) rfl rfl (by kernel_rfl) (by kernel_rfl) (by kernel_rfl) (fun _ _ _ h => h) (Or.inl ⟨by rfl, ?hy15⟩) hHeld ?rest15
  case hy15 => (intro w hSw; (try dsimp only at hSw); go_simp; try with_reducible rfl)
  try simp only [Act.put, List.setIfInBounds_toArray, List.set_cons_zero, List.set_cons_succ]
  refine take_at (i := 16) (d := some 68) (v := ?v16) rfl rfl (by kernel_rfl) (by kernel_rfl) (by kernel_rfl) (fun _ _ _ h => h) (Or.inl ⟨by rfl, ?hy16⟩) hHeld ?rest16
  case hy16 => (intro w hSw; (try dsimp only at hSw); go_simp; try with_reducible rfl)
  try simp only [Act.put, List.setIfInBounds_toArray, List.set_cons_zero, List.set_cons_succ]
  refine wpAnyH_ready (rs := [17]) (by kernel_rfl) (by simp) ?_
  refine AllReadyH.cons rfl (fun K hK => ?_) AllReadyH.nil
  go_simp
  (with_reducible refine (LAB.out _ (Three.of hHeld)).mono ?_)
  rintro e w' ⟨rfl, hbw⟩
  refine hK.out _ _ (cells3_next hHeld hbw) (fun hHeld' => ?_)
  clear hK K hHeld hbw
  have hHeld := hHeld'
  clear hHeld'
  try simp only [Act.put, List.setIfInBounds_toArray, List.set_cons_zero, List.set_cons_succ]
  refine take_at (i := 18) (d := some 70) (v := ?v18) rfl rfl (by kernel_rfl) (by kernel_rfl) (by kernel_rfl) (fun _ _ _ h => h) (Or.inl ⟨by rfl, ?hy18⟩) hHeld ?rest18
  case hy18 => (intro w hSw; (try dsimp only at hSw); go_simp; try with_reducible rfl)
  try simp only [Act.put, List.setIfInBounds_toArray, List.set_cons_zero, List.set_cons_succ]
  refine take_at (i := 19) (d := some 71) (v := undef) rfl rfl (by kernel_rfl) (by kernel_rfl) (by kernel_rfl) (fun _ _ _ h => h) (Or.inr ⟨by rfl, rfl⟩) hHeld ?rest19
  try simp only [Act.put, List.setIfInBounds_toArray, List.set_cons_zero, List.set_cons_succ]
  refine take_at (i := 20) (d := some 72) (v := undef) rfl rfl (by kernel_rfl) (by kernel_rfl) (by kernel_rfl) (fun _ _ _ h => h) (Or.inr ⟨by rfl, rfl⟩) hHeld ?rest20
  try simp only [Act.put, List.setIfInBounds_toArray, List.set_cons_zero, List.set_cons_succ]
  refine take_at (i := 21) (d := some 73) (v := undef) rfl rfl (by kernel_rfl) (by kernel_rfl) (by kernel_rfl) (fun _ _ _ h => h) (Or.inr ⟨by rfl, rfl⟩) hHeld ?rest21
  try simp only [Act.put, List.setIfInBounds_toArray, List.set_cons_zero, List.set_cons_succ]
  refine take_at (i := 22) (d := some 74) (v := ?v22) rfl rfl (by kernel_rfl) (by kernel_rfl) (by kernel_rfl) (fun _ _ _ h => h) (Or.inl ⟨by rfl, ?hy22⟩) hHeld ?rest22
  case hy22 => (intro w hSw; (try dsimp only at hSw); go_simp; try with_reducible rfl)
  try simp only [Act.put, List.setIfInBounds_toArray, List.set_cons_zero, List.set_cons_succ]
  refine take_at (i := 23) (d := some 75) (v := ?v23) rfl rfl (by kernel_rfl) (by kernel_rfl) (by kernel_rfl) (fun _ _ _ h => h) (Or.inl ⟨by rfl, ?hy23⟩) hHeld ?rest23
  case hy23 => (intro w hSw; (try dsimp only at hSw); go_simp; try with_reducible rfl)
  try simp only [Act.put, List.setIfInBounds_toArray, List.set_cons_zero, List.set_cons_succ]
  refine take_at (i := 24) (d := some 76) (v := ?v24) rfl rfl (by kernel_rfl) (by kernel_rfl) (by kernel_rfl) (fun _ _ _ h => h) (Or.inl ⟨by rfl, ?hy24⟩) hHeld ?rest24
  case hy24 => (intro w hSw; (try dsimp only at hSw); go_simp; try with_reducible rfl)
  try simp only [Act.put, List.setIfInBounds_toArray, List.set_cons_zero, List.set_cons_succ]
  refine take_at (i := 25) (d := some 77) (v := ?v25) rfl rfl (by kernel_rfl) (by kernel_rfl) (by kernel_rfl) (fun _ _ _ h => h) (Or.inl ⟨by rfl, ?hy25⟩) hHeld ?rest25
  case hy25 => (intro w hSw; (try dsimp only at hSw); go_simp; try with_reducible rfl)
  try simp only [Act.put, List.setIfInBounds_toArray, List.set_cons_zero, List.set_cons_succ]
  refine take_at (i := 26) (d := some 78) (v := ?v26) rfl rfl (by kernel_rfl) (by kernel_rfl) (by kernel_rfl) (fun _ _ _ h => h) (Or.inl ⟨by rfl, ?hy26⟩) hHeld ?rest26
  case hy26 => (intro w hSw; (try dsimp only at hSw); go_simp; try with_reducible rfl)
  try simp only [Act.put, List.setIfInBounds_toArray, List.set_cons_zero, List.set_cons_succ]
  refine wpAnyH_ready (rs := [27]) (by kernel_rfl) (by simp) ?_
  refine AllReadyH.cons rfl (fun K hK => ?_) AllReadyH.nil
  go_simp
  (with_reducible refine (LAB.out _ (Three.of hHeld)).mono ?_)
  rintro e w' ⟨rfl, hbw⟩
  refine hK.out _ _ (cells3_next hHeld hbw) (fun hHeld' => ?_)
  clear hK K hHeld hbw
  have hHeld := hHeld'
  clear hHeld'
  try simp only [Act.put, List.setIfInBounds_toArray, List.set_cons_zero, List.set_cons_succ]
  refine take_at (i := 28) (d := some 80) (v := ?v28) rfl rfl (by kernel_rfl) (by kernel_rfl) (by kernel_rfl) (fun _ _ _ h => h) (Or.inl ⟨by rfl, ?hy28⟩) hHeld ?rest28
  case hy28 => (intro w hSw; (try dsimp only at hSw); go_simp; try with_reducible rfl)
  try simp only [Act.put, List.setIfInBounds_toArray, List.set_cons_zero, List.set_cons_succ]
  refine take_at (i := 29) (d := some 81) (v := undef) rfl rfl (by kernel_rfl) (by kernel_rfl) (by kernel_rfl) (fun _ _ _ h => h) (Or.inr ⟨by rfl, rfl⟩) hHeld ?rest29
  try simp only [Act.put, List.setIfInBounds_toArray, List.set_cons_zero, List.set_cons_succ]
  refine take_at (i := 30) (d := some 82) (v := undef) rfl rfl (by kernel_rfl) (by kernel_rfl) (by kernel_rfl) (fun _ _ _ h => h) (Or.inr ⟨by rfl, rfl⟩) hHeld ?rest30
  try simp only [Act.put, List.setIfInBounds_toArray, List.set_cons_zero, List.set_cons_succ]
  refine take_at (i := 31) (d := some 83) (v := undef) rfl rfl (by kernel_rfl) (by kernel_rfl) (by kernel_rfl) (fun _ _ _ h => h) (Or.inr ⟨by rfl, rfl⟩) hHeld ?rest31
  try simp only [Act.put, List.setIfInBounds_toArray, List.set_cons_zero, List.set_cons_succ]
  refine take_at (i := 32) (d := some 84) (v := ?v32) rfl rfl (by kernel_rfl) (by kernel_rfl) (by kernel_rfl) (fun _ _ _ h => h) (Or.inl ⟨by rfl, ?hy32⟩) hHeld ?rest32
  case hy32 => (intro w hSw; (try dsimp only at hSw); go_simp; try with_reducible rfl)
  try simp only [Act.put, List.setIfInBounds_toArray, List.set_cons_zero, List.set_cons_succ]
  refine take_at (i := 33) (d := some 85) (v := ?v33) rfl rfl (by kernel_rfl) (by kernel_rfl) (by kernel_rfl) (fun _ _ _ h => h) (Or.inl ⟨by rfl, ?hy33⟩) hHeld ?rest33
  case hy33 => (intro w hSw; (try dsimp only at hSw); go_simp; try with_reducible rfl)
  try simp only [Act.put, List.setIfInBounds_toArray, List.set_cons_zero, List.set_cons_succ]
  refine take_at (i := 34) (d := some 86) (v := undef) rfl rfl (by kernel_rfl) (by kernel_rfl) (by kernel_rfl) (fun _ _ _ h => h) (Or.inr ⟨by rfl, rfl⟩) hHeld ?rest34
  try simp only [Act.put, List.setIfInBounds_toArray, List.set_cons_zero, List.set_cons_succ]
  refine take_at (i := 35) (d := some 87) (v := undef) rfl rfl (by kernel_rfl) (by kernel_rfl) (by kernel_rfl) (fun _ _ _ h => h) (Or.inr ⟨by rfl, rfl⟩) hHeld ?rest35
  try simp only [Act.put, List.setIfInBounds_toArray, List.set_cons_zero, List.set_cons_succ]
  refine take_at (i := 36) (d := some 88) (v := undef) rfl rfl (by kernel_rfl) (by kernel_rfl) (by kernel_rfl) (fun _ _ _ h => h) (Or.inr ⟨by rfl, rfl⟩) hHeld ?rest36
  try simp only [Act.put, List.setIfInBounds_toArray, List.set_cons_zero, List.set_cons_succ]
  refine take_at (i := 37) (d := some 89) (v := undef) rfl rfl (by kernel_rfl) (by kernel_rfl) (by kernel_rfl) (fun _ _ _ h => h) (Or.inr ⟨by rfl, rfl⟩) hHeld ?rest37
  try simp only [Act.put, List.setIfInBounds_toArray, List.set_cons_zero, List.set_cons_succ]
  refine take_at (i := 38) (d := some 90) (v := ?v38) rfl rfl (by kernel_rfl) (by kernel_rfl) (by kernel_rfl) (fun _ _ _ h => h) (Or.inl ⟨by rfl, ?hy38⟩) hHeld ?rest38
  case hy38 => (intro w hSw; (try dsimp only at hSw); go_simp; try with_reducible rfl)
  try simp only [Act.put, List.setIfInBounds_toArray, List.set_cons_zero, List.set_cons_succ]
  refine take_at (i := 39) (d := some 91) (v := ?v39) rfl rfl (by kernel_rfl) (by kernel_rfl) (by kernel_rfl) (fun _ _ _ h => h) (Or.inl ⟨by rfl, ?hy39⟩) hHeld ?rest39
  case hy39 => (intro w hSw; (try dsimp only at hSw); go_simp; try with_reducible rfl)
  try simp only [Act.put, List.setIfInBounds_toArray, List.set_cons_zero, List.set_cons_succ]
  refine wpAnyH_done (by kernel_rfl) ?_ _
  refine NoPanic.normal ?_
  have T : Aside (Three w _ ⟨k, n, f, s⟩ ⟨l, m, g, t⟩ ⟨i, o, h, u⟩) := Aside.mk (Three.of hHeld)
  clear hHeld a0 a1 a2 a3 b0 b1 b2 b3 c0 c1 c2 c3
  obtain ⟨a0, a1, a2, a3, b0, b1, b2, b3, c0, c1, c2, c3, _⟩ := Three.cells T.out
  go_wp2_with fail
  (with_reducible refine (NA.out _ T.out).mono ?_)
  rintro e w1 ⟨rfl, hb1⟩
  clear a0 a1 a2 a3 b0 b1 b2 b3 c0 c1 c2 c3
  replace T := Aside.mk (Three.next T.out hb1)
  clear hb1
  obtain ⟨a0, a1, a2, a3, b0, b1, b2, b3, c0, c1, c2, c3, _⟩ := Three.cells T.out
  go_wp2_with fail
  (with_reducible refine (NB.out _ T.out).mono ?_)
  rintro e w1 ⟨rfl, hb1⟩
  clear a0 a1 a2 a3 b0 b1 b2 b3 c0 c1 c2 c3
  replace T := Aside.mk (Three.next T.out hb1)
  clear hb1
  obtain ⟨a0, a1, a2, a3, b0, b1, b2, b3, c0, c1, c2, c3, _⟩ := Three.cells T.out
  cases xo
  · go_wp2_with fail
    (with_reducible refine (KN.out _ T.out).mono ?_)
    rintro e w1 ⟨rfl, hb1⟩
    clear a0 a1 a2 a3 b0 b1 b2 b3 c0 c1 c2 c3
    replace T := Aside.mk (Three.next T.out hb1)
    clear hb1
    obtain ⟨a0, a1, a2, a3, b0, b1, b2, b3, c0, c1, c2, c3, _⟩ := Three.cells T.out
    go_wp2
    go_ret
    exact ⟨rfl, by assumption⟩
  cases yo
  · go_wp2_with fail
    (with_reducible refine (KN.out _ T.out).mono ?_)
    rintro e w1 ⟨rfl, hb1⟩
    clear a0 a1 a2 a3 b0 b1 b2 b3 c0 c1 c2 c3
    replace T := Aside.mk (Three.next T.out hb1)
    clear hb1
    obtain ⟨a0, a1, a2, a3, b0, b1, b2, b3, c0, c1, c2, c3, _⟩ := Three.cells T.out
    go_wp2
    go_ret
    exact ⟨rfl, by assumption⟩
  by_cases hkl : k = l
  rotate_left
  · have e1 : (k == l) = false := beq_eq_false_iff_ne.2 hkl
    go_wp2_with fail
    (with_reducible refine (KN.out _ T.out).mono ?_)
    rintro e w1 ⟨rfl, hb1⟩
    clear a0 a1 a2 a3 b0 b1 b2 b3 c0 c1 c2 c3
    replace T := Aside.mk (Three.next T.out hb1)
    clear hb1
    obtain ⟨a0, a1, a2, a3, b0, b1, b2, b3, c0, c1, c2, c3, _⟩ := Three.cells T.out
    go_wp2
    go_ret
    exact ⟨rfl, by assumption⟩
  by_cases ho : (FloatKind.f64.format.order xn yn == some .lt) = true
  · first
      | exact absurd (HN.out rfl rfl hkl ho) (by decide)
      | (subst hkl
         go_wp2_with fail
         (with_reducible refine (LAB.out _ T.out).mono ?_)
         rintro e w1 ⟨rfl, hb1⟩
         clear a0 a1 a2 a3 b0 b1 b2 b3 c0 c1 c2 c3
         replace T := Aside.mk (Three.next T.out hb1)
         clear hb1
         obtain ⟨a0, a1, a2, a3, b0, b1, b2, b3, c0, c1, c2, c3, _⟩ := Three.cells T.out
         go_wp2_with fail
         (with_reducible refine (KN.out _ T.out).mono ?_)
         rintro e w1 ⟨rfl, hb1⟩
         clear a0 a1 a2 a3 b0 b1 b2 b3 c0 c1 c2 c3
         replace T := Aside.mk (Three.next T.out hb1)
         clear hb1
         obtain ⟨a0, a1, a2, a3, b0, b1, b2, b3, c0, c1, c2, c3, _⟩ := Three.cells T.out
         go_wp2
         go_ret
         exact ⟨rfl, by assumption⟩)
  · have ho : (FloatKind.f64.format.order xn yn == some .lt) = false := by simpa using ho
    subst hkl
    go_wp2_with fail
    (with_reducible refine (KN.out _ T.out).mono ?_)
    rintro e w1 ⟨rfl, hb1⟩
    clear a0 a1 a2 a3 b0 b1 b2 b3 c0 c1 c2 c3
    replace T := Aside.mk (Three.next T.out hb1)
    clear hb1
    obtain ⟨a0, a1, a2, a3, b0, b1, b2, b3, c0, c1, c2, c3, _⟩ := Three.cells T.out
    go_wp2
    go_ret
    exact ⟨rfl, by assumption⟩
set_option maxRecDepth 100000 in
set_option maxHeartbeats 4000000 in
theorem order_c4 (a b c : Val) (w : World) (fa : a.fits) (fb : b.fits) (fc : c.fits) (hT : Lib.Utf8Tabs 1 2 w) (hbig : over a b c = false) (ha : mayV a = true) (hb : mayV b = true) (hc : mayV c = true) (hx : lessV a b = false) (hy0 : lessV b a = false) (he : decide (a = b) = true) :
    Calls Tryd.prog 11 #[a.v, b.v, c.v] w fun e w' => e = .returned (.bool true) ∧ Below w.heap.size w w' := by
  have T := Aside.mk (Three.new w a b c)
  have KN := Aside.mk (fun W (h : Three w W a b c) => known3_any W (tabs_below hT h.2.2.2))
  have MA := Aside.mk (fun W (h : Three w W a b c) => mayV_any a W (tabs_below hT h.2.2.2))
  have MB := Aside.mk (fun W (h : Three w W a b c) => mayV_any b W (tabs_below hT h.2.2.2))
  have MC := Aside.mk (fun W (h : Three w W a b c) => mayV_any c W (tabs_below hT h.2.2.2))
  have LAB := Aside.mk (fun W (h : Three w W a b c) => less_any a b W (tabs_below hT h.2.2.2) fa.1 fb.1)
  have LBA := Aside.mk (fun W (h : Three w W a b c) => less_any b a W (tabs_below hT h.2.2.2) fb.1 fa.1)
  have LBC := Aside.mk (fun W (h : Three w W a b c) => less_any b c W (tabs_below hT h.2.2.2) fb.1 fc.1)
  have LAC := Aside.mk (fun W (h : Three w W a b c) => less_any a c W (tabs_below hT h.2.2.2) fa.1 fc.1)
  have NA := Aside.mk (fun W (h : Three w W a b c) => number_any a W (tabs_below hT h.2.2.2))
  have NB := Aside.mk (fun W (h : Three w W a b c) => number_any b W (tabs_below hT h.2.2.2))
  have HN := Aside.mk (less_number ha hb fa.1 fb.1)
  rw [ha] at MA
  rw [hb] at MB
  rw [hc] at MC
  rw [hx] at LAB HN
  rw [hy0] at LBA
  clear hy0
  obtain ⟨xo, hxo⟩ : ∃ xo, (numB a).isSome = xo := ⟨_, rfl⟩
  obtain ⟨yo, hyo⟩ : ∃ yo, (numB b).isSome = yo := ⟨_, rfl⟩
  obtain ⟨xn, hxn⟩ : ∃ xn, (numB a).getD 0 = xn := ⟨_, rfl⟩
  obtain ⟨yn, hyn⟩ : ∃ yn, (numB b).getD 0 = yn := ⟨_, rfl⟩
  rw [hxo, hyo, hxn, hyn] at HN
  rw [hxo, hxn] at NA
  rw [hyo, hyn] at NB
  clear hxo hyo hxn hyn ha hb hc hx hT fa fb fc
  obtain ⟨k, n, f, s⟩ := a
  obtain ⟨l, m, g, t⟩ := b
  obtain ⟨i, o, h, u⟩ := c
  unfold Val.obj at T
  simp only at T HN
  have heq : ∀ W : World, (binOp .eql 56 (.agg #[.int .u8 k, .int .i64 n, .int .u64 (f : Int), .string s]) (.agg #[.int .u8 l, .int .i64 m, .int .u64 (g : Int), .string t])).run Tryd.prog W = .ok (.bool true) W := fun W => eq_at (a := ⟨k, n, f, s⟩) (b := ⟨l, m, g, t⟩) he W
  clear he
  unfold over at hbig
  simp only at hbig
  obtain ⟨z, hz⟩ : ∃ z, IntKind.i64.wrap ((s.size : Int) + (t.size : Int)) = z := ⟨_, rfl⟩
  rw [hz] at hbig
  obtain ⟨y, hy⟩ : ∃ y, IntKind.i64.wrap (z + (u.size : Int)) = y := ⟨_, rfl⟩
  rw [hy] at hbig
  unfold Val.v at MA MB MC LAB LBA LBC LAC NA NB ⊢
  go_enter Tryd.func11, Tryd.ntmps11
  go_wp2_with fail
  (with_reducible refine (MA.out _ T.out).mono ?_)
  rintro e w1 ⟨rfl, hb1⟩
  replace T := Aside.mk (Three.next T.out hb1)
  clear hb1
  obtain ⟨a0, a1, a2, a3, b0, b1, b2, b3, c0, c1, c2, c3, _⟩ := Three.cells T.out
  go_wp2_with fail
  (with_reducible refine (MB.out _ T.out).mono ?_)
  rintro e w1 ⟨rfl, hb1⟩
  clear a0 a1 a2 a3 b0 b1 b2 b3 c0 c1 c2 c3
  replace T := Aside.mk (Three.next T.out hb1)
  clear hb1
  obtain ⟨a0, a1, a2, a3, b0, b1, b2, b3, c0, c1, c2, c3, _⟩ := Three.cells T.out
  go_wp2_with fail
  (with_reducible refine (MC.out _ T.out).mono ?_)
  rintro e w1 ⟨rfl, hb1⟩
  clear a0 a1 a2 a3 b0 b1 b2 b3 c0 c1 c2 c3
  replace T := Aside.mk (Three.next T.out hb1)
  clear hb1
  obtain ⟨a0, a1, a2, a3, b0, b1, b2, b3, c0, c1, c2, c3, _⟩ := Three.cells T.out
  go_wp2_with fail
  clear hz hy hbig
  have hSd := T.out.2.2.2.drew
  refine wp_region_noPanic ?_
  refine wp_region_held_drew (S := fun w' => w'.cell? ⟨w.heap.size, 0, none⟩ = some (.int .u8 k) ∧ w'.cell? ⟨w.heap.size, 1, none⟩ = some (.int .i64 n) ∧ w'.cell? ⟨w.heap.size, 2, none⟩ = some (.int .u64 (f : Int)) ∧ w'.cell? ⟨w.heap.size, 3, none⟩ = some (.string s) ∧ w'.cell? ⟨w.heap.size + 1, 0, none⟩ = some (.int .u8 l) ∧ w'.cell? ⟨w.heap.size + 1, 1, none⟩ = some (.int .i64 m) ∧ w'.cell? ⟨w.heap.size + 1, 2, none⟩ = some (.int .u64 (g : Int)) ∧ w'.cell? ⟨w.heap.size + 1, 3, none⟩ = some (.string t) ∧ w'.cell? ⟨w.heap.size + 2, 0, none⟩ = some (.int .u8 i) ∧ w'.cell? ⟨w.heap.size + 2, 1, none⟩ = some (.int .i64 o) ∧ w'.cell? ⟨w.heap.size + 2, 2, none⟩ = some (.int .u64 (h : Int)) ∧ w'.cell? ⟨w.heap.size + 2, 3, none⟩ = some (.string u) ∧ Below w.heap.size w w') (by kernel_rfl) ⟨a0, a1, a2, a3, b0, b1, b2, b3, c0, c1, c2, c3, hSd⟩ (fun hHeld => ?_)
  refine take_at (i := 0) (d := some 52) (v := ?v0) rfl rfl (by kernel_rfl) (by kernel_rfl) (by kernel_rfl) (fun _ _ _ h => h) (Or.inl ⟨by rfl, ?hy0⟩) hHeld ?rest0
  case hy0 => (intro w hSw; (try dsimp only at hSw); go_simp; try with_reducible rfl)
  try simp only [Act.put, List.setIfInBounds_toArray, List.set_cons_zero, List.set_cons_succ]
  refine take_at (i := 1) (d := some 53) (v := ?v1) rfl rfl (by kernel_rfl) (by kernel_rfl) (by kernel_rfl) (fun _ _ _ h => h) (Or.inl ⟨by rfl, ?hy1⟩) hHeld ?rest1
  case hy1 => (intro w hSw; (try dsimp only at hSw); go_simp; try with_reducible rfl)
  try simp only [Act.put, List.setIfInBounds_toArray, List.set_cons_zero, List.set_cons_succ]
  refine take_at (i := 2) (d := some 54) (v := ?v2) rfl rfl (by kernel_rfl) (by kernel_rfl) (by kernel_rfl) (fun _ _ _ h => h) (Or.inl ⟨by rfl, ?hy2⟩) hHeld ?rest2
  case hy2 => (intro w hSw; (try dsimp only at hSw); go_simp; try with_reducible rfl)
  try simp only [Act.put, List.setIfInBounds_toArray, List.set_cons_zero, List.set_cons_succ]
  refine take_at (i := 3) (d := some 55) (v := ?v3) rfl rfl (by kernel_rfl) (by kernel_rfl) (by kernel_rfl) (fun _ _ _ h => h) (Or.inl ⟨by rfl, ?hy3⟩) hHeld ?rest3
  case hy3 => (intro w hSw; (try dsimp only at hSw); go_simp; try with_reducible rfl)
  try simp only [Act.put, List.setIfInBounds_toArray, List.set_cons_zero, List.set_cons_succ]
  refine take_at (i := 4) (d := some 56) (v := ?v4) rfl rfl (by kernel_rfl) (by kernel_rfl) (by kernel_rfl) (fun _ _ _ h => h) (Or.inl ⟨by rfl, ?hy4⟩) hHeld ?rest4
  case hy4 => (intro w hSw; (try dsimp only at hSw); go_simp; try with_reducible rfl)
  try simp only [Act.put, List.setIfInBounds_toArray, List.set_cons_zero, List.set_cons_succ]
  refine wpAnyH_ready (rs := [5]) (by kernel_rfl) (by simp) ?_
  refine AllReadyH.cons rfl (fun K hK => ?_) AllReadyH.nil
  go_simp
  (with_reducible refine (LAB.out _ (Three.of hHeld)).mono ?_)
  rintro e w' ⟨rfl, hbw⟩
  refine hK.out _ _ (cells3_next hHeld hbw) (fun hHeld' => ?_)
  clear hK K hHeld hbw
  have hHeld := hHeld'
  clear hHeld'
  try simp only [Act.put, List.setIfInBounds_toArray, List.set_cons_zero, List.set_cons_succ]
  refine take_at (i := 6) (d := some 58) (v := ?v6) rfl rfl (by kernel_rfl) (by kernel_rfl) (by kernel_rfl) (fun _ _ _ h => h) (Or.inl ⟨by rfl, ?hy6⟩) hHeld ?rest6
  case hy6 => (intro w hSw; (try dsimp only at hSw); go_simp; try with_reducible rfl)
  try simp only [Act.put, List.setIfInBounds_toArray, List.set_cons_zero, List.set_cons_succ]
  refine take_at (i := 7) (d := some 59) (v := ?v7) rfl rfl (by kernel_rfl) (by kernel_rfl) (by kernel_rfl) (fun _ _ _ h => h) (Or.inl ⟨by rfl, ?hy7⟩) hHeld ?rest7
  case hy7 => (intro w hSw; (try dsimp only at hSw); go_simp; try with_reducible rfl)
  try simp only [Act.put, List.setIfInBounds_toArray, List.set_cons_zero, List.set_cons_succ]
  refine take_at (i := 8) (d := some 60) (v := ?v8) rfl rfl (by kernel_rfl) (by kernel_rfl) (by kernel_rfl) (fun _ _ _ h => h) (Or.inl ⟨by rfl, ?hy8⟩) hHeld ?rest8
  case hy8 => (intro w hSw; (try dsimp only at hSw); go_simp; try with_reducible rfl)
  try simp only [Act.put, List.setIfInBounds_toArray, List.set_cons_zero, List.set_cons_succ]
  refine take_at (i := 9) (d := some 61) (v := ?v9) rfl rfl (by kernel_rfl) (by kernel_rfl) (by kernel_rfl) (fun _ _ _ h => h) (Or.inl ⟨by rfl, ?hy9⟩) hHeld ?rest9
  case hy9 => (intro w hSw; (try dsimp only at hSw); go_simp; try with_reducible rfl)
  try simp only [Act.put, List.setIfInBounds_toArray, List.set_cons_zero, List.set_cons_succ]
  refine wpAnyH_ready (rs := [10]) (by kernel_rfl) (by simp) ?_
  refine AllReadyH.cons rfl (fun K hK => ?_) AllReadyH.nil
  go_simp
  (with_reducible refine (LBA.out _ (Three.of hHeld)).mono ?_)
  rintro e w' ⟨rfl, hbw⟩
  refine hK.out _ _ (cells3_next hHeld hbw) (fun hHeld' => ?_)
  clear hK K hHeld hbw
  have hHeld := hHeld'
  clear hHeld'
  try simp only [Act.put, List.setIfInBounds_toArray, List.set_cons_zero, List.set_cons_succ]
  refine take_at (i := 11) (d := some 63) (v := ?v11) rfl rfl (by kernel_rfl) (by kernel_rfl) (by kernel_rfl) (fun _ _ _ h => h) (Or.inl ⟨by rfl, ?hy11⟩) hHeld ?rest11
  case hy11 => (intro w hSw; (try dsimp only at hSw); go_simp; try with_reducible rfl)
  try simp only [Act.put, List.setIfInBounds_toArray, List.set_cons_zero, List.set_cons_succ]
  refine take_at (i := 12) (d := some 64) (v := ?v12) rfl rfl (by kernel_rfl) (by kernel_rfl) (by kernel_rfl) (fun _ _ _ h => h) (Or.inl ⟨by rfl, ?hy12⟩) hHeld ?rest12
  case hy12 => (intro w hSw; (try dsimp only at hSw); go_simp; try with_reducible rfl)
  try simp only [Act.put, List.setIfInBounds_toArray, List.set_cons_zero, List.set_cons_succ]
  refine take_at (i := 13) (d := some 65) (v := ?v13) rfl rfl (by kernel_rfl) (by kernel_rfl) (by kernel_rfl) (fun _ _ _ h => h) (Or.inl ⟨by rfl, ?hy13⟩) hHeld ?rest13
  case hy13 => (intro w hSw; (try dsimp only at hSw); go_simp; try with_reducible rfl)
  try simp only [Act.put, List.setIfInBounds_toArray, List.set_cons_zero, List.set_cons_succ]
  refine take_at (i := 14) (d := some 66) (v := ?v14) rfl rfl (by kernel_rfl) (by kernel_rfl) (by kernel_rfl) (fun _ _ _ h => h) (Or.inl ⟨by rfl, ?hy14⟩) hHeld ?rest14
  case hy14 => (intro w hSw; (try dsimp only at hSw); go_simp; try with_reducible rfl)
  try simp only [Act.put, List.setIfInBounds_toArray, List.set_cons_zero, List.set_cons_succ]
  refine take_at (i := 15) (d := some 67) (v := ?v15) rfl rfl (by kernel_rfl) (by kernel_rfl) (by kernel_rfl) (fun _ _ _ h => h) (Or.inl ⟨by rfl, ?hy15⟩) hHeld ?rest15
  case hy15 => (intro w hSw; (try dsimp only at hSw); go_simp; try with_reducible rfl)
  try simp only [Act.put, List.setIfInBounds_toArray, List.set_cons_zero, List.set_cons_succ]
  refine take_at (i := 16) (d := some 68) (v := ?v16) rfl rfl (by kernel_rfl) (by kernel_rfl) (by kernel_rfl) (fun _ _ _ h => h) (Or.inl ⟨by rfl, ?hy16⟩) hHeld ?rest16
  case hy16 => (intro w hSw; (try dsimp only at hSw); go_simp; try with_reducible rfl)
  try simp only [Act.put, List.setIfInBounds_toArray, List.set_cons_zero, List.set_cons_succ]
  refine wpAnyH_ready (rs := [17]) (by kernel_rfl) (by simp) ?_
  refine AllReadyH.cons rfl (fun K hK => ?_) AllReadyH.nil
  go_simp
  (with_reducible refine (LAB.out _ (Three.of hHeld)).mono ?_)
  rintro e w' ⟨rfl, hbw⟩
  refine hK.out _ _ (cells3_next hHeld hbw) (fun hHeld' => ?_)
  clear hK K hHeld hbw
  have hHeld := hHeld'
  clear hHeld'
  try simp only [Act.put, List.setIfInBounds_toArray, List.set_cons_zero, List.set_cons_succ]
  refine take_at (i := 18) (d := some 70) (v := ?v18) rfl rfl (by kernel_rfl) (by kernel_rfl) (by kernel_rfl) (fun _ _ _ h => h) (Or.inl ⟨by rfl, ?hy18⟩) hHeld ?rest18
  case hy18 => (intro w hSw; (try dsimp only at hSw); go_simp; try with_reducible rfl)
  try simp only [Act.put, List.setIfInBounds_toArray, List.set_cons_zero, List.set_cons_succ]
  refine take_at (i := 19) (d := some 71) (v := undef) rfl rfl (by kernel_rfl) (by kernel_rfl) (by kernel_rfl) (fun _ _ _ h => h) (Or.inr ⟨by rfl, rfl⟩) hHeld ?rest19
  try simp only [Act.put, List.setIfInBounds_toArray, List.set_cons_zero, List.set_cons_succ]
  refine take_at (i := 20) (d := some 72) (v := undef) rfl rfl (by kernel_rfl) (by kernel_rfl) (by kernel_rfl) (fun _ _ _ h => h) (Or.inr ⟨by rfl, rfl⟩) hHeld ?rest20
  try simp only [Act.put, List.setIfInBounds_toArray, List.set_cons_zero, List.set_cons_succ]
  refine take_at (i := 21) (d := some 73) (v := undef) rfl rfl (by kernel_rfl) (by kernel_rfl) (by kernel_rfl) (fun _ _ _ h => h) (Or.inr ⟨by rfl, rfl⟩) hHeld ?rest21
  try simp only [Act.put, List.setIfInBounds_toArray, List.set_cons_zero, List.set_cons_succ]
  refine take_at (i := 22) (d := some 74) (v := ?v22) rfl rfl (by kernel_rfl) (by kernel_rfl) (by kernel_rfl) (fun _ _ _ h => h) (Or.inl ⟨by rfl, ?hy22⟩) hHeld ?rest22
  case hy22 => (intro w hSw; (try dsimp only at hSw); go_simp; try with_reducible rfl)
  try simp only [Act.put, List.setIfInBounds_toArray, List.set_cons_zero, List.set_cons_succ]
  refine take_at (i := 23) (d := some 75) (v := ?v23) rfl rfl (by kernel_rfl) (by kernel_rfl) (by kernel_rfl) (fun _ _ _ h => h) (Or.inl ⟨by rfl, ?hy23⟩) hHeld ?rest23
  case hy23 => (intro w hSw; (try dsimp only at hSw); go_simp; try with_reducible rfl)
  try simp only [Act.put, List.setIfInBounds_toArray, List.set_cons_zero, List.set_cons_succ]
  refine take_at (i := 24) (d := some 76) (v := ?v24) rfl rfl (by kernel_rfl) (by kernel_rfl) (by kernel_rfl) (fun _ _ _ h => h) (Or.inl ⟨by rfl, ?hy24⟩) hHeld ?rest24
  case hy24 => (intro w hSw; (try dsimp only at hSw); go_simp; try with_reducible rfl)
  try simp only [Act.put, List.setIfInBounds_toArray, List.set_cons_zero, List.set_cons_succ]
  refine take_at (i := 25) (d := some 77) (v := ?v25) rfl rfl (by kernel_rfl) (by kernel_rfl) (by kernel_rfl) (fun _ _ _ h => h) (Or.inl ⟨by rfl, ?hy25⟩) hHeld ?rest25
  case hy25 => (intro w hSw; (try dsimp only at hSw); go_simp; try with_reducible rfl)
  try simp only [Act.put, List.setIfInBounds_toArray, List.set_cons_zero, List.set_cons_succ]
  refine take_at (i := 26) (d := some 78) (v := ?v26) rfl rfl (by kernel_rfl) (by kernel_rfl) (by kernel_rfl) (fun _ _ _ h => h) (Or.inl ⟨by rfl, ?hy26⟩) hHeld ?rest26
  case hy26 => (intro w hSw; (try dsimp only at hSw); go_simp; try with_reducible rfl)
  try simp only [Act.put, List.setIfInBounds_toArray, List.set_cons_zero, List.set_cons_succ]
  refine wpAnyH_ready (rs := [27]) (by kernel_rfl) (by simp) ?_
  refine AllReadyH.cons rfl (fun K hK => ?_) AllReadyH.nil
  go_simp
  (with_reducible refine (LAB.out _ (Three.of hHeld)).mono ?_)
  rintro e w' ⟨rfl, hbw⟩
  refine hK.out _ _ (cells3_next hHeld hbw) (fun hHeld' => ?_)
  clear hK K hHeld hbw
  have hHeld := hHeld'
  clear hHeld'
  try simp only [Act.put, List.setIfInBounds_toArray, List.set_cons_zero, List.set_cons_succ]
  refine take_at (i := 28) (d := some 80) (v := ?v28) rfl rfl (by kernel_rfl) (by kernel_rfl) (by kernel_rfl) (fun _ _ _ h => h) (Or.inl ⟨by rfl, ?hy28⟩) hHeld ?rest28
  case hy28 => (intro w hSw; (try dsimp only at hSw); go_simp; try with_reducible rfl)
  try simp only [Act.put, List.setIfInBounds_toArray, List.set_cons_zero, List.set_cons_succ]
  refine take_at (i := 29) (d := some 81) (v := undef) rfl rfl (by kernel_rfl) (by kernel_rfl) (by kernel_rfl) (fun _ _ _ h => h) (Or.inr ⟨by rfl, rfl⟩) hHeld ?rest29
  try simp only [Act.put, List.setIfInBounds_toArray, List.set_cons_zero, List.set_cons_succ]
  refine take_at (i := 30) (d := some 82) (v := undef) rfl rfl (by kernel_rfl) (by kernel_rfl) (by kernel_rfl) (fun _ _ _ h => h) (Or.inr ⟨by rfl, rfl⟩) hHeld ?rest30
  try simp only [Act.put, List.setIfInBounds_toArray, List.set_cons_zero, List.set_cons_succ]
  refine take_at (i := 31) (d := some 83) (v := undef) rfl rfl (by kernel_rfl) (by kernel_rfl) (by kernel_rfl) (fun _ _ _ h => h) (Or.inr ⟨by rfl, rfl⟩) hHeld ?rest31
  try simp only [Act.put, List.setIfInBounds_toArray, List.set_cons_zero, List.set_cons_succ]
  refine take_at (i := 32) (d := some 84) (v := ?v32) rfl rfl (by kernel_rfl) (by kernel_rfl) (by kernel_rfl) (fun _ _ _ h => h) (Or.inl ⟨by rfl, ?hy32⟩) hHeld ?rest32
  case hy32 => (intro w hSw; (try dsimp only at hSw); go_simp; try with_reducible rfl)
  try simp only [Act.put, List.setIfInBounds_toArray, List.set_cons_zero, List.set_cons_succ]
  refine take_at (i := 33) (d := some 85) (v := ?v33) rfl rfl (by kernel_rfl) (by kernel_rfl) (by kernel_rfl) (fun _ _ _ h => h) (Or.inl ⟨by rfl, ?hy33⟩) hHeld ?rest33
  case hy33 => (intro w hSw; (try dsimp only at hSw); go_simp; try with_reducible rfl)
  try simp only [Act.put, List.setIfInBounds_toArray, List.set_cons_zero, List.set_cons_succ]
  refine take_at (i := 34) (d := some 86) (v := undef) rfl rfl (by kernel_rfl) (by kernel_rfl) (by kernel_rfl) (fun _ _ _ h => h) (Or.inr ⟨by rfl, rfl⟩) hHeld ?rest34
  try simp only [Act.put, List.setIfInBounds_toArray, List.set_cons_zero, List.set_cons_succ]
  refine take_at (i := 35) (d := some 87) (v := undef) rfl rfl (by kernel_rfl) (by kernel_rfl) (by kernel_rfl) (fun _ _ _ h => h) (Or.inr ⟨by rfl, rfl⟩) hHeld ?rest35
  try simp only [Act.put, List.setIfInBounds_toArray, List.set_cons_zero, List.set_cons_succ]
  refine take_at (i := 36) (d := some 88) (v := undef) rfl rfl (by kernel_rfl) (by kernel_rfl) (by kernel_rfl) (fun _ _ _ h => h) (Or.inr ⟨by rfl, rfl⟩) hHeld ?rest36
  try simp only [Act.put, List.setIfInBounds_toArray, List.set_cons_zero, List.set_cons_succ]
  refine take_at (i := 37) (d := some 89) (v := undef) rfl rfl (by kernel_rfl) (by kernel_rfl) (by kernel_rfl) (fun _ _ _ h => h) (Or.inr ⟨by rfl, rfl⟩) hHeld ?rest37
  try simp only [Act.put, List.setIfInBounds_toArray, List.set_cons_zero, List.set_cons_succ]
  refine take_at (i := 38) (d := some 90) (v := ?v38) rfl rfl (by kernel_rfl) (by kernel_rfl) (by kernel_rfl) (fun _ _ _ h => h) (Or.inl ⟨by rfl, ?hy38⟩) hHeld ?rest38
  case hy38 => (intro w hSw; (try dsimp only at hSw); go_simp; try with_reducible rfl)
  try simp only [Act.put, List.setIfInBounds_toArray, List.set_cons_zero, List.set_cons_succ]
  refine take_at (i := 39) (d := some 91) (v := ?v39) rfl rfl (by kernel_rfl) (by kernel_rfl) (by kernel_rfl) (fun _ _ _ h => h) (Or.inl ⟨by rfl, ?hy39⟩) hHeld ?rest39
  case hy39 => (intro w hSw; (try dsimp only at hSw); go_simp; try with_reducible rfl)
  try simp only [Act.put, List.setIfInBounds_toArray, List.set_cons_zero, List.set_cons_succ]
  refine wpAnyH_done (by kernel_rfl) ?_ _
  refine NoPanic.normal ?_
  have T : Aside (Three w _ ⟨k, n, f, s⟩ ⟨l, m, g, t⟩ ⟨i, o, h, u⟩) := Aside.mk (Three.of hHeld)
  clear hHeld a0 a1 a2 a3 b0 b1 b2 b3 c0 c1 c2 c3
  obtain ⟨a0, a1, a2, a3, b0, b1, b2, b3, c0, c1, c2, c3, _⟩ := Three.cells T.out
  go_wp2_with fail
  (with_reducible refine (NA.out _ T.out).mono ?_)
  rintro e w1 ⟨rfl, hb1⟩
  clear a0 a1 a2 a3 b0 b1 b2 b3 c0 c1 c2 c3
  replace T := Aside.mk (Three.next T.out hb1)
  clear hb1
  obtain ⟨a0, a1, a2, a3, b0, b1, b2, b3, c0, c1, c2, c3, _⟩ := Three.cells T.out
  go_wp2_with fail
  (with_reducible refine (NB.out _ T.out).mono ?_)
  rintro e w1 ⟨rfl, hb1⟩
  clear a0 a1 a2 a3 b0 b1 b2 b3 c0 c1 c2 c3
  replace T := Aside.mk (Three.next T.out hb1)
  clear hb1
  obtain ⟨a0, a1, a2, a3, b0, b1, b2, b3, c0, c1, c2, c3, _⟩ := Three.cells T.out
  cases xo
  · go_wp2_with fail
    (with_reducible refine (KN.out _ T.out).mono ?_)
    rintro e w1 ⟨rfl, hb1⟩
    clear a0 a1 a2 a3 b0 b1 b2 b3 c0 c1 c2 c3
    replace T := Aside.mk (Three.next T.out hb1)
    clear hb1
    obtain ⟨a0, a1, a2, a3, b0, b1, b2, b3, c0, c1, c2, c3, _⟩ := Three.cells T.out
    go_wp2
    go_ret
    exact ⟨rfl, by assumption⟩
  cases yo
  · go_wp2_with fail
    (with_reducible refine (KN.out _ T.out).mono ?_)
    rintro e w1 ⟨rfl, hb1⟩
    clear a0 a1 a2 a3 b0 b1 b2 b3 c0 c1 c2 c3
    replace T := Aside.mk (Three.next T.out hb1)
    clear hb1
    obtain ⟨a0, a1, a2, a3, b0, b1, b2, b3, c0, c1, c2, c3, _⟩ := Three.cells T.out
    go_wp2
    go_ret
    exact ⟨rfl, by assumption⟩
  by_cases hkl : k = l
  rotate_left
  · have e1 : (k == l) = false := beq_eq_false_iff_ne.2 hkl
    go_wp2_with fail
    (with_reducible refine (KN.out _ T.out).mono ?_)
    rintro e w1 ⟨rfl, hb1⟩
    clear a0 a1 a2 a3 b0 b1 b2 b3 c0 c1 c2 c3
    replace T := Aside.mk (Three.next T.out hb1)
    clear hb1
    obtain ⟨a0, a1, a2, a3, b0, b1, b2, b3, c0, c1, c2, c3, _⟩ := Three.cells T.out
    go_wp2
    go_ret
    exact ⟨rfl, by assumption⟩
  by_cases ho : (FloatKind.f64.format.order xn yn == some .lt) = true
  · first
      | exact absurd (HN.out rfl rfl hkl ho) (by decide)
      | (subst hkl
         go_wp2_with fail
         (with_reducible refine (LAB.out _ T.out).mono ?_)
         rintro e w1 ⟨rfl, hb1⟩
         clear a0 a1 a2 a3 b0 b1 b2 b3 c0 c1 c2 c3
         replace T := Aside.mk (Three.next T.out hb1)
         clear hb1
         obtain ⟨a0, a1, a2, a3, b0, b1, b2, b3, c0, c1, c2, c3, _⟩ := Three.cells T.out
         go_wp2_with fail
         (with_reducible refine (KN.out _ T.out).mono ?_)
         rintro e w1 ⟨rfl, hb1⟩
         clear a0 a1 a2 a3 b0 b1 b2 b3 c0 c1 c2 c3
         replace T := Aside.mk (Three.next T.out hb1)
         clear hb1
         obtain ⟨a0, a1, a2, a3, b0, b1, b2, b3, c0, c1, c2, c3, _⟩ := Three.cells T.out
         go_wp2
         go_ret
         exact ⟨rfl, by assumption⟩)
  · have ho : (FloatKind.f64.format.order xn yn == some .lt) = false := by simpa using ho
    subst hkl
    go_wp2_with fail
    (with_reducible refine (KN.out _ T.out).mono ?_)
    rintro e w1 ⟨rfl, hb1⟩
    clear a0 a1 a2 a3 b0 b1 b2 b3 c0 c1 c2 c3
    replace T := Aside.mk (Three.next T.out hb1)
    clear hb1
    obtain ⟨a0, a1, a2, a3, b0, b1, b2, b3, c0, c1, c2, c3, _⟩ := Three.cells T.out
    go_wp2
    go_ret
    exact ⟨rfl, by assumption⟩
theorem valueOrder_walk (a b c : Val) (w : World) (fa : a.fits) (fb : b.fits) (fc : c.fits) (hT : Lib.Utf8Tabs 1 2 w) :
    Calls Tryd.prog 11 #[a.v, b.v, c.v] w fun e w' => e = .returned (.bool true) ∧ Below w.heap.size w w' := by
  cases hbig : over a b c
  rotate_left
  · exact order_big a b c w fa fb fc hT hbig
  cases ha : mayV a
  · exact order_b1 a b c w fa fb fc hT hbig ha
  cases hb : mayV b
  · exact order_b2 a b c w fa fb fc hT hbig ha hb
  cases hc : mayV c
  · exact order_b3 a b c w fa fb fc hT hbig ha hb hc
  have kab := lessV_K ha hb fa.1 fb.1
  have kba := lessV_K hb ha fb.1 fa.1
  have kbc := lessV_K hb hc fb.1 fc.1
  have kac := lessV_K ha hc fa.1 fc.1
  rcases lessK_tri ha hb fa.1 fb.1 with ⟨h1, h2, h3⟩ | ⟨h1, h2, h3⟩ | ⟨h1, h2, h3⟩
  · cases hz : lessV b c
    · exact order_c1 a b c w fa fb fc hT hbig ha hb hc (kab.trans h1) (kba.trans h2) (decide_eq_false h3) hz
    · exact order_c2 a b c w fa fb fc hT hbig ha hb hc (kab.trans h1) (kba.trans h2) (decide_eq_false h3) hz (kac.trans (lessK_trans h1 (kbc.symm.trans hz)))
  · exact order_c3 a b c w fa fb fc hT hbig ha hb hc (kab.trans h1) (kba.trans h2) (decide_eq_false h3)
  · exact order_c4 a b c w fa fb fc hT hbig ha hb hc (kab.trans h1) (kba.trans h2) (decide_eq_true h3)
end Go.Proofs.YtaejlgdmalhhnaaDoor
