/- Layer 4: SchemaNone. -/
import Derived.Test.YtaejlgdmalhhnaaDoorSk
set_option linter.unusedVariables false
set_option linter.unusedSimpArgs false
namespace Go.Proofs.YtaejlgdmalhhnaaDoor
open Go.RowKit Go.Maps

theorem none_find {lo hi : Nat} {v : Value} (id : Int) (w : World) (hS : Sch lo hi w v [] []) (hw : (Lit.int .i64 id).wf = true) :
    Calls Tryd.prog 62 #[v, .int .i64 id] w fun e w' => e = .returned (.tuple #[.agg #[.int .i64 0, .bool false, .int .u8 0, .bool false, .bool false, .int .i64 0], .bool false]) ∧ Below w.heap.size w w' := find_any id w hS hw
theorem none_keys {lo hi : Nat} {v : Value} (w : World) (hS : Sch lo hi w v [] []) :
    Calls Tryd.prog 65 #[v] w fun e w' => (∃ A c, e = .returned (.slice A 0 c)) ∧ Below w.heap.size w w' := by
  refine (keys_any w hS (by simp)).mono ?_
  rintro e w' ⟨u, rfl, ho, hb⟩
  obtain ⟨A, c, rfl, _⟩ := own_form ho
  exact ⟨⟨A, c, rfl⟩, hb⟩
theorem none_group {lo hi : Nat} {v : Value} (id : Int) (w : World) (hS : Sch lo hi w v [] []) (hw : (Lit.int .i64 id).wf = true) :
    Calls Tryd.prog 67 #[v, .int .i64 id] w fun e w' => (∃ A c, e = .returned (.slice A 0 c)) ∧ Below w.heap.size w w' := by
  refine (group_any id w hS hw (by simp)).mono ?_
  rintro e w' ⟨u, rfl, ho, hb⟩
  obtain ⟨A, c, rfl, _⟩ := own_form ho
  exact ⟨⟨A, c, rfl⟩, hb⟩
def NoneW (w : World) (a : Val) : World := (((w.alloc a.obj).alloc (.cells #[.slice none 0 0, .map none] 109)).alloc (.cells #[.pointer none, .pointer (some ⟨w.heap.size + 1, 0, none⟩)] 37))
theorem box_at (w : World) (o : Obj) (n : Nat) (h : n = w.heap.size) : (w.alloc o).heap[n]? = some o := by subst h; exact heap_alloc_new w o
theorem cell_at {w : World} {b i : Nat} {cs : Array Value} {t : TypeId} {v : Value} (h : w.heap[b]? = some (.cells cs t)) (hi : cs[i]? = some v) : w.cell? ⟨b, i, none⟩ = some v := by unfold World.cell?; simp only [h]; exact hi
theorem below_heap {w w1 : World} {b : Nat} {o : Obj} (hb : Below w.heap.size w w1) (h : w.heap[b]? = some o) : w1.heap[b]? = some o := (hb.block b (Array.getElem?_eq_some_iff.1 h).1).trans h
theorem noneW_z (w : World) (a : Val) : (NoneW w a).heap[w.heap.size + 1]? = some (.cells #[.slice none 0 0, .map none] 109) :=
  below_heap (below_alloc (below_refl _) _) (box_at (w.alloc a.obj) _ _ (by simp))
theorem noneW_l (w : World) (a : Val) : (NoneW w a).heap[w.heap.size + 2]? = some (.cells #[.pointer none, .pointer (some ⟨w.heap.size + 1, 0, none⟩)] 37) :=
  box_at _ _ _ (by simp)
theorem noneW_below (w : World) (a : Val) : Below w.heap.size w (NoneW w a) := below_alloc (below_alloc (below_alloc (below_refl _) _) _) _
theorem noneW_sch (w : World) (a : Val) : Sch (w.heap.size + 1) (w.heap.size + 2) (NoneW w a) (.pointer (some ⟨w.heap.size + 1, 0, none⟩)) [] [] :=
  .inr ⟨_, none, 0, .map none, rfl, ⟨Nat.le_refl _, by omega, by simp [NoneW], cell_at (noneW_z w a) rfl, cell_at (noneW_z w a) rfl, .inl ⟨rfl, rfl⟩, ⟨fun _ => rfl, fun a h => (by cases h)⟩, fun a h => (by cases h), fun _ => ⟨rfl, rfl⟩, Nat.le_refl _⟩⟩
theorem noneW_box (w : World) (a : Val) : Box (NoneW w a) w.heap.size a :=
  (Box.new w a).below (below_alloc (below_alloc (below_refl _) _) _)
set_option maxRecDepth 100000 in
set_option maxHeartbeats 2000000 in
theorem schemaNone_walk (id : Int) (a : Val) (w : World) (hw : (Lit.int .i64 id).wf = true) (fa : a.fits) (hT : Lib.Utf8Tabs 1 2 w) :
    Calls Tryd.prog 15 #[.int .i64 id, a.v] w fun e w' => e = .returned (.bool true) ∧ Below w.heap.size w w' := by
  have HK := Aside.mk known4_any
  have HT := Aside.mk (fun W (h : Below (NoneW w a).heap.size (NoneW w a) W) => tabs_below (tabs_below hT (noneW_below w a)) h)
  have HW := Aside.mk hw
  have HB0 := Aside.mk (noneW_below w a)
  have HX := Aside.mk (noneW_box w a)
  have HS1 := Aside.mk (noneW_sch w a)
  have HS0 := Aside.mk (show Sch 0 0 (NoneW w a) (.pointer none) [] [] from .inl ⟨rfl, rfl, rfl⟩)
  have HL := Aside.mk (noneW_l w a)
  clear hw fa hT
  obtain ⟨W0, hW0⟩ : ∃ W0, NoneW w a = W0 := ⟨_, rfl⟩
  rw [hW0] at HT HB0 HX HS1 HS0 HL
  have HW0 := Aside.mk hW0
  have FT := Aside.mk (fun (W : World) (v : Value) (lo hi : Nat) (h : Sch lo hi W v [] []) (hT : Lib.Utf8Tabs 1 2 W) => show Calls Tryd.prog 61 #[v, .int .i64 id, a.v] W fun e w' => e = .returned (.bool false) ∧ Below W.heap.size W w' from fits_any id a W h HW.out hT)
  obtain ⟨k, n, f, s⟩ := a
  unfold NoneW Val.obj at hW0
  unfold Val.v at FT ⊢
  simp only at hW0
  go_enter Tryd.func15, Tryd.ntmps15
  go_wp2
  try rw [hW0]
  clear hW0
  go_loopw [14] (fun i wr => (i = .int .i64 0 ∨ i = .int .i64 1 ∨ i = .int .i64 2) ∧ Aside (Below W0.heap.size W0 wr)) (fun i _ => (2 - intOf i).toNat)
  case atStart => exact ⟨.inl rfl, ⟨below_refl _⟩⟩
  case round =>
    obtain ⟨rfl | rfl | rfl, HN⟩ := hrel
    · have HSx := HS0
      have l0 := cell_at (i := 0) (below_heap HN.out HL.out) rfl
      go_wp2_with fail
      (with_reducible refine (none_find id _ (HSx.out.below HN.out) HW.out).mono ?_)
      rintro e w1 ⟨rfl, hb1⟩
      have B1 := Aside.mk (below_alloc (below_then HN.out hb1) (.cells #[.int .i64 0, .bool false, .int .u8 0, .bool false, .bool false, .int .i64 0] 97))
      clear hb1 l0
      have HLen := Aside.mk (show Calls Tryd.prog 63 #[.pointer none] (w1.alloc (.cells #[.int .i64 0, .bool false, .int .u8 0, .bool false, .bool false, .int .i64 0] 97)) fun e w' => e = .returned (.int .i64 0) ∧ w' = (w1.alloc (.cells #[.int .i64 0, .bool false, .int .u8 0, .bool false, .bool false, .int .i64 0] 97)) from len_any _ (HSx.out.below B1.out))
      go_wp2_with fail
      (with_reducible refine HLen.out.mono ?_)
      rintro e w2 ⟨rfl, rfl⟩
      go_wp2_with fail
      (with_reducible refine (none_keys _ (HSx.out.below B1.out)).mono ?_)
      rintro e w3 ⟨⟨A3, c3, rfl⟩, hb3⟩
      have B3 := Aside.mk (below_then B1.out hb3)
      clear hb3
      go_wp2_with fail
      (with_reducible refine (none_group id _ (HSx.out.below B3.out) HW.out).mono ?_)
      rintro e w4 ⟨⟨A4, c4, rfl⟩, hb4⟩
      have B4 := Aside.mk (below_then B3.out hb4)
      obtain ⟨b0, b1, b2, b3⟩ := HX.out.below B4.out
      clear hb4
      go_wp2_with fail
      (with_reducible refine (FT.out _ _ _ _ (HSx.out.below B4.out) (HT.out _ B4.out)).mono ?_)
      rintro e w5 ⟨rfl, hb5⟩
      have B5 := Aside.mk (below_then B4.out hb5)
      clear hb5 b0 b1 b2 b3
      go_wp2
      go_roundw
      case rel => exact ⟨.inr (.inl rfl), B5⟩
      case measure => simp [intOf]
    · have HSx := HS1
      have l0 := cell_at (i := 1) (below_heap HN.out HL.out) rfl
      go_wp2_with fail
      (with_reducible refine (none_find id _ (HSx.out.below HN.out) HW.out).mono ?_)
      rintro e w1 ⟨rfl, hb1⟩
      have B1 := Aside.mk (below_alloc (below_then HN.out hb1) (.cells #[.int .i64 0, .bool false, .int .u8 0, .bool false, .bool false, .int .i64 0] 97))
      clear hb1 l0
      have HLen := Aside.mk (show Calls Tryd.prog 63 #[.pointer (some ⟨w.heap.size + 1, 0, none⟩)] (w1.alloc (.cells #[.int .i64 0, .bool false, .int .u8 0, .bool false, .bool false, .int .i64 0] 97)) fun e w' => e = .returned (.int .i64 0) ∧ w' = (w1.alloc (.cells #[.int .i64 0, .bool false, .int .u8 0, .bool false, .bool false, .int .i64 0] 97)) from len_any _ (HSx.out.below B1.out))
      go_wp2_with fail
      (with_reducible refine HLen.out.mono ?_)
      rintro e w2 ⟨rfl, rfl⟩
      go_wp2_with fail
      (with_reducible refine (none_keys _ (HSx.out.below B1.out)).mono ?_)
      rintro e w3 ⟨⟨A3, c3, rfl⟩, hb3⟩
      have B3 := Aside.mk (below_then B1.out hb3)
      clear hb3
      go_wp2_with fail
      (with_reducible refine (none_group id _ (HSx.out.below B3.out) HW.out).mono ?_)
      rintro e w4 ⟨⟨A4, c4, rfl⟩, hb4⟩
      have B4 := Aside.mk (below_then B3.out hb4)
      obtain ⟨b0, b1, b2, b3⟩ := HX.out.below B4.out
      clear hb4
      go_wp2_with fail
      (with_reducible refine (FT.out _ _ _ _ (HSx.out.below B4.out) (HT.out _ B4.out)).mono ?_)
      rintro e w5 ⟨rfl, hb5⟩
      have B5 := Aside.mk (below_then B4.out hb5)
      clear hb5 b0 b1 b2 b3
      go_wp2
      go_roundw
      case rel => exact ⟨.inr (.inr rfl), B5⟩
      case measure => simp [intOf]
    · go_wp2_with fail
      (with_reducible refine (HK.out _).mono ?_)
      rintro e w2 ⟨rfl, hb2⟩
      have HB := Aside.mk (below_then (below_then HB0.out HN.out) hb2)
      clear hb2
      go_wp2
      go_ret
      exact ⟨rfl, HB.out⟩
end Go.Proofs.YtaejlgdmalhhnaaDoor
