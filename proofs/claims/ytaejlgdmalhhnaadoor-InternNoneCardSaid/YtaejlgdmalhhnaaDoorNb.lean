/- InternNone's walk. -/
import Derived.Test.YtaejlgdmalhhnaaDoorNa
import Derived.RangeFuncNested
import Derived.RangeFuncLeaves
import Derived.Shelf.Abstract
import Derived.LoopN
set_option linter.unusedVariables false
set_option linter.unusedSimpArgs false
namespace Go.Proofs.YtaejlgdmalhhnaaDoor
open Go.RowKit Go.Maps Go.Shelf

/-- The iterator over no ids runs no round. -/
theorem seq_none (l Bs : Nat) (w : World) (hc : w.cell? ⟨Bs, 0, none⟩ = some (.slice none 0 0)) :
    Calls Tryd.prog 95 #[.func (.yield l) #[] #[], .pointer (some ⟨Bs, 0, none⟩)] w fun e w' => e = .returned (.tuple #[]) ∧ w' = w := by
  go_enter Tryd.func95, Tryd.ntmps95
  go_wp2_with fail
  go_loopw [7] (fun i wr => i = .int .i64 0 ∧ wr = w) (fun _ _ => 0)
  case atStart => exact ⟨rfl, rfl⟩
  case round =>
    obtain ⟨rfl, rfl⟩ := hrel
    go_wp2
    go_end0
    exact ⟨rfl, rfl⟩
theorem stops_none (n Bs : Nat) (w : World) (hB : Bs < w.heap.size) (hc : w.cell? ⟨Bs, 0, none⟩ = some (.slice none 0 0)) :
    SeqStopsK Fence.wide n Tryd.prog 95 #[.pointer (some ⟨Bs, 0, none⟩)] (fun x : Empty => #[Value.int .i64 0]) (Below w.heap.size) (fun ys => ys = []) (fun _ => False) 0 w := fun l J Jx W hW _ _ hY h0 => by
  have h := seq_none l Bs W ((hW.cell (p := ⟨Bs, 0, none⟩) hB).trans hc)
  refine (callsIn_wide.2 (h.mono ?_))
  rintro e W' ⟨rfl, rfl⟩
  exact ⟨⟨_, rfl⟩, .inl ⟨[], rfl, h0⟩⟩
set_option maxRecDepth 100000 in
set_option maxHeartbeats 4000000 in
theorem none_known (id : Int) (A : Option Addr) (n c : Nat) (w : World) (hn : n ≤ 9223372036854775807) (h70 : 70 < n) (hT : Lib.Utf8Tabs 1 2 w) :
    Calls Tryd.prog 9 #[.int .i64 id, .slice A n c] w fun e w' => e = .returned (.bool true) ∧ Below w.heap.size w w' := by
  have HK := Aside.mk (fun W (h : Below w.heap.size w W) => known7_any W (tabs_below hT h))
  have g1 : (n : Int) ≤ 9223372036854775807 := by omega
  have g2 : (70 : Int) < (n : Int) := by omega
  have HB0 := Aside.mk (below_alloc (below_refl w) (.cells #[.bool false] 4))
  have HC0 := Aside.mk (show (w.alloc (.cells #[.bool false] 4)).heap[w.heap.size]? = some (.cells #[.bool false] 4) from heap_alloc_new w _)
  clear hn h70 hT
  refine (callsIn_wide (n := 3)).1 (callsIn_of_wp_marks Tryd.func9 rfl trivial (wpIn_wide.2 ?_))
  simp only [Tryd.ntmps9, List.size_toArray, List.length_cons, List.length_nil, Nat.reduceAdd, Nat.reduceSub, Array.replicate_succ, Array.replicate_zero, List.push_toArray, List.append_toArray, List.nil_append, List.cons_append]
  obtain ⟨Q, hQ⟩ : ∃ Q, bodyPostM Fence.wide 3 Tryd.prog Tryd.f9 (fun e w' => e = .returned (.bool true) ∧ Below w.heap.size w w') = Q := ⟨_, rfl⟩
  rw [hQ]
  have HQ := Aside.mk hQ
  clear hQ
  go_wp2_with fail
  (with_reducible refine (HK.out _ HB0.out).mono ?_)
  rintro e w1 ⟨rfl, hb1⟩
  have HH := Aside.mk (below_heap hb1 HC0.out)
  have HB1 := Aside.mk (below_then HB0.out hb1)
  have z := frozen_of_row w1 w.heap.size 0 _ 4 HH.out
  have c0 : w1.cell? ⟨w.heap.size, 0, none⟩ = some (.bool false) := cell_at HH.out rfl
  clear hb1
  go_wp2
  rw [← HQ.out]
  refine ⟨.bool true, ?_, rfl, HB1.out.setCell (p := ⟨w.heap.size, 0, none⟩) (Nat.le_refl _) _⟩
  have hc5 := World.cell?_setCell_same' w1 ⟨w.heap.size, 0, none⟩ (.bool true) (by rw [c0]; rfl)
  simp [results, Tryd.f9, go_sem, hc5]
/-! two rounds -/
theorem cell_in {w : World} {b : Nat} {cs : Array Value} {t : TypeId} (o2 o3 : Obj) (i : Nat) (v : Value) (hb : b < w.heap.size) (h : w.heap[b]? = some (.cells cs t)) (hi : cs[i]? = some v) : ((w.alloc o2).alloc o3).cell? ⟨b, i, none⟩ = some v :=
  cell_below (below_alloc (below_alloc (below_refl w) o2) o3) (cell_at h hi)
theorem known_below {W w' : World} {D : Nat} (h : W.heap[D]? = some (.deferred (some []))) (hb : Below W.heap.size W w') : w'.heap[D]? = some (.deferred (some [])) := below_heap hb h
set_option maxRecDepth 100000 in
set_option maxHeartbeats 8000000 in
theorem none_in (id : Int) (A : Option Addr) (n c : Nat) (w : World) (h70 : n ≤ 70) (hT : Lib.Utf8Tabs 1 2 w) :
    Calls Tryd.prog 9 #[.int .i64 id, .slice A n c] w fun e w' => e = .returned (.bool true) ∧ Below w.heap.size w w' := by
  have HK := Aside.mk (fun W (h : Below w.heap.size w W) => known7_any W (tabs_below hT h))
  have g2 : (n : Int) ≤ 70 := by omega
  have q86 : ∀ (W : World) (b : Nat), (binOp .eql 86 (.func (.func 95) #[] #[.pointer (some ⟨b, 0, none⟩)]) .nilFunc).run Tryd.prog W = .ok (.bool false) W := fun W b => by kernel_rfl
  have HB3 := Aside.mk (show Below w.heap.size w (((w.alloc (.cells #[.bool false] 4)).alloc (.cells #[.pointer none, .slice none 0 0, .slice none 0 0, .map none, .int .i64 0] 81)).alloc (.cells #[.pointer none, .pointer (some ⟨w.heap.size + 1, 0, none⟩)] 41)) from below_alloc (below_alloc (below_alloc (below_refl w) _) _) _)
  have HR3 := Aside.mk (show (((w.alloc (.cells #[.bool false] 4)).alloc (.cells #[.pointer none, .slice none 0 0, .slice none 0 0, .map none, .int .i64 0] 81)).alloc (.cells #[.pointer none, .pointer (some ⟨w.heap.size + 1, 0, none⟩)] 41)).heap[w.heap.size]? = some (.cells #[.bool false] 4) from below_heap (below_alloc (below_alloc (below_refl _) _) _) (heap_alloc_new w _))
  have hz : ((w.alloc (.cells #[.bool false] 4)).alloc (.cells #[.pointer none, .slice none 0 0, .slice none 0 0, .map none, .int .i64 0] 81)).heap[w.heap.size + 1]? = some (.cells #[.pointer none, .slice none 0 0, .slice none 0 0, .map none, .int .i64 0] 81) := by
    have h := heap_alloc_new (w.alloc (.cells #[.bool false] 4)) (.cells #[.pointer none, .slice none 0 0, .slice none 0 0, .map none, .int .i64 0] 81)
    rw [World.size_alloc] at h
    exact h
  have hs : (((w.alloc (.cells #[.bool false] 4)).alloc (.cells #[.pointer none, .slice none 0 0, .slice none 0 0, .map none, .int .i64 0] 81)).alloc (.cells #[.pointer none, .pointer (some ⟨w.heap.size + 1, 0, none⟩)] 41)).heap[w.heap.size + 2]? = some (.cells #[.pointer none, .pointer (some ⟨w.heap.size + 1, 0, none⟩)] 41) := by
    have h := heap_alloc_new ((w.alloc (.cells #[.bool false] 4)).alloc (.cells #[.pointer none, .slice none 0 0, .slice none 0 0, .map none, .int .i64 0] 81)) (.cells #[.pointer none, .pointer (some ⟨w.heap.size + 1, 0, none⟩)] 41)
    rw [World.size_alloc, World.size_alloc] at h
    exact h
  have HN2 := Aside.mk (show NoTab (((w.alloc (.cells #[.bool false] 4)).alloc (.cells #[.pointer none, .slice none 0 0, .slice none 0 0, .map none, .int .i64 0] 81)).alloc (.cells #[.pointer none, .pointer (some ⟨w.heap.size + 1, 0, none⟩)] 41)) (.pointer (some ⟨w.heap.size + 1, 0, none⟩)) from .inr ⟨_, rfl, cell_below (below_alloc (below_refl _) _) (cell_at hz rfl)⟩)
  have HN1 := Aside.mk (show NoTab (((w.alloc (.cells #[.bool false] 4)).alloc (.cells #[.pointer none, .slice none 0 0, .slice none 0 0, .map none, .int .i64 0] 81)).alloc (.cells #[.pointer none, .pointer (some ⟨w.heap.size + 1, 0, none⟩)] 41)) (.pointer none) from .inl rfl)
  have HS1 := Aside.mk (show (((w.alloc (.cells #[.bool false] 4)).alloc (.cells #[.pointer none, .slice none 0 0, .slice none 0 0, .map none, .int .i64 0] 81)).alloc (.cells #[.pointer none, .pointer (some ⟨w.heap.size + 1, 0, none⟩)] 41)).cell? ⟨w.heap.size + 2, 0, none⟩ = some (.pointer none) from cell_at hs rfl)
  have HS2 := Aside.mk (show (((w.alloc (.cells #[.bool false] 4)).alloc (.cells #[.pointer none, .slice none 0 0, .slice none 0 0, .map none, .int .i64 0] 81)).alloc (.cells #[.pointer none, .pointer (some ⟨w.heap.size + 1, 0, none⟩)] 41)).cell? ⟨w.heap.size + 2, 1, none⟩ = some (.pointer (some ⟨w.heap.size + 1, 0, none⟩)) from cell_at hs rfl)
  clear h70 hT hz hs
  refine (callsIn_wide (n := 3)).1 (callsIn_of_wp_marks Tryd.func9 rfl trivial (wpIn_wide.2 ?_))
  simp only [Tryd.ntmps9, List.size_toArray, List.length_cons, List.length_nil, Nat.reduceAdd, Nat.reduceSub, Array.replicate_succ, Array.replicate_zero, List.push_toArray, List.append_toArray, List.nil_append, List.cons_append]
  obtain ⟨Q, hQ⟩ : ∃ Q, bodyPostM Fence.wide 3 Tryd.prog Tryd.f9 (fun e w' => e = .returned (.bool true) ∧ Below w.heap.size w w') = Q := ⟨_, rfl⟩
  rw [hQ]
  have HQ := Aside.mk hQ
  clear hQ
  go_wp2_with fail
  generalize ((w.alloc (.cells #[.bool false] 4)).alloc (.cells #[.pointer none, .slice none 0 0, .slice none 0 0, .map none, .int .i64 0] 81)).alloc (.cells #[.pointer none, .pointer (some ⟨w.heap.size + 1, 0, none⟩)] 41) = w3 at HB3 HR3 HN1 HN2 HS1 HS2 ⊢
  have B0 := Aside.mk (below_refl w3)
  refine wp_loop_rounds 3 ?_
  rw [rounds_succ]
  have cs := cell_below B0.out HS1.out
  go_wp2_with fail
  (with_reducible refine (add_no A n c (HN1.out.below B0.out)).mono ?_)
  rintro e w1a ⟨rfl, hb⟩
  have B1 := Aside.mk (below_then B0.out hb)
  clear hb
  go_wp2_with fail
  (with_reducible refine (set_no id (HN1.out.below B1.out)).mono ?_)
  rintro e w1b ⟨rfl, hb⟩
  have B2 := Aside.mk (below_then B1.out hb)
  clear hb
  go_wp2_with fail
  (with_reducible refine (all_no (HN1.out.below B2.out)).mono ?_)
  rintro e w1c ⟨rfl, rfl⟩
  have B3 := Aside.mk (below_alloc B2.out (.cells #[.slice none 0 0] 45))
  have HI1 := Aside.mk (show (w1b.alloc (.cells #[.slice none 0 0] 45)).cell? ⟨w1b.heap.size, 0, none⟩ = some (.slice none 0 0) from cell_at (heap_alloc_new w1b _) rfl)
  have HIs1 := Aside.mk (show w1b.heap.size < (w1b.alloc (.cells #[.slice none 0 0] 45)).heap.size by simp)
  clear cs
  go_wp2_with fail
  generalize w1b.alloc (.cells #[.slice none 0 0] 45) = w1c at B3 HI1 HIs1 ⊢
  refine (wpIn_wide (n := 3)).1 ?_
  refine wpIn_rangeFunc_ownF (F := Fence.wide) (n := 3) rfl (by omega) (gf := 95) (lb := #[.pointer (some ⟨w1b.heap.size, 0, none⟩)]) rfl trivial (enters_of Tryd.func95 (by kernel_rfl) rfl) (stops_none 2 w1b.heap.size w1c HIs1.out HI1.out) belowK_t (belowK_b (Nat.le_refl _)) (Below.refl _ _) (fun x => x.elim) (fun _ W' => Below w1c.heap.size w1c W') (fun _ _ _ => False) (ownFrom_below (Nat.le_refl _) (Nat.le_refl _)) (fun _ _ _ _ _ hs _ _ => hs) (Below.refl _ _) (fun x => x.elim) ?assign1 ?body1 ?done1 ?stop1
  case assign1 => exact fun l x => x.elim
  case body1 => exact fun l pre x => x.elim
  case stop1 => exact fun D c pre W _ h _ _ => h.elim
  case done1 =>
    rintro D1 ys w1d hD1 rfl hI hK1
    have B4 := Aside.mk (below_then B3.out hI)
    have HD1 := Aside.mk hK1
    have HDs1 := Aside.mk (show w3.heap.size ≤ D1 from Nat.le_trans B3.out.size hD1)
    clear hI hK1 hD1
    go_wp2_with fail
    (with_reducible refine (hold_no id (HN1.out.below B4.out)).mono ?_)
    rintro e w1e ⟨rfl, hb⟩
    have B5 := Aside.mk (below_then B4.out hb)
    have HD1 := Aside.mk (below_heap hb HD1.out)
    clear hb
    go_wp2_with fail
    (with_reducible refine (free_no id (HN1.out.below B5.out)).mono ?_)
    rintro e w1f ⟨rfl, hb⟩
    have B6 := Aside.mk (below_then B5.out hb)
    have HD1 := Aside.mk (below_heap hb HD1.out)
    clear hb
    go_wp2_with fail
    (with_reducible refine (held_no id (HN1.out.below B6.out)).mono ?_)
    rintro e w1g ⟨rfl, hb⟩
    have B7 := Aside.mk (below_then B6.out hb)
    have HD1 := Aside.mk (below_heap hb HD1.out)
    clear hb
    go_wp2_with fail
    (with_reducible refine (len_no (HN1.out.below B7.out)).mono ?_)
    rintro e w1h ⟨rfl, hb⟩
    have B8 := Aside.mk (below_then B7.out hb)
    have HD1 := Aside.mk (below_heap hb HD1.out)
    clear hb
    go_wp2_with fail
    rw [rounds_succ]
    have cs := cell_below B8.out HS2.out
    go_wp2_with fail
    (with_reducible refine (add_no A n c (HN2.out.below B8.out)).mono ?_)
    rintro e w2a ⟨rfl, hb⟩
    have B9 := Aside.mk (below_then B8.out hb)
    have HD1 := Aside.mk (below_heap hb HD1.out)
    clear hb
    go_wp2_with fail
    (with_reducible refine (set_no id (HN2.out.below B9.out)).mono ?_)
    rintro e w2b ⟨rfl, hb⟩
    have B10 := Aside.mk (below_then B9.out hb)
    have HD1 := Aside.mk (below_heap hb HD1.out)
    clear hb
    go_wp2_with fail
    (with_reducible refine (all_no (HN2.out.below B10.out)).mono ?_)
    rintro e w2c ⟨rfl, rfl⟩
    have B11 := Aside.mk (below_alloc B10.out (.cells #[.slice none 0 0] 45))
    have HI2 := Aside.mk (show (w2b.alloc (.cells #[.slice none 0 0] 45)).cell? ⟨w2b.heap.size, 0, none⟩ = some (.slice none 0 0) from cell_at (heap_alloc_new w2b _) rfl)
    have HIs2 := Aside.mk (show w2b.heap.size < (w2b.alloc (.cells #[.slice none 0 0] 45)).heap.size by simp)
    clear cs
    have HD1 := Aside.mk (below_heap (below_alloc (below_refl _) (.cells #[.slice none 0 0] 45)) HD1.out)
    go_wp2_with fail
    generalize w2b.alloc (.cells #[.slice none 0 0] 45) = w2c at B11 HI2 HIs2 HD1 ⊢
    refine (wpIn_wide (n := 3)).1 ?_
    refine wpIn_rangeFunc_ownF (F := Fence.wide) (n := 3) rfl (by omega) (gf := 95) (lb := #[.pointer (some ⟨w2b.heap.size, 0, none⟩)]) rfl trivial (enters_of Tryd.func95 (by kernel_rfl) rfl) (stops_none 2 w2b.heap.size w2c HIs2.out HI2.out) belowK_t (belowK_b (Nat.le_refl _)) (Below.refl _ _) (fun x => x.elim) (fun _ W' => Below w2c.heap.size w2c W') (fun _ _ _ => False) (ownFrom_below (Nat.le_refl _) (Nat.le_refl _)) (fun _ _ _ _ _ hs _ _ => hs) (Below.refl _ _) (fun x => x.elim) ?assign2 ?body2 ?done2 ?stop2
    case assign2 => exact fun l x => x.elim
    case body2 => exact fun l pre x => x.elim
    case stop2 => exact fun D c pre W _ h _ _ => h.elim
    case done2 =>
      rintro D2 ys w2d hD2 rfl hI hK2
      have B12 := Aside.mk (below_then B11.out hI)
      have HD2 := Aside.mk hK2
      have HDs2 := Aside.mk (show w3.heap.size ≤ D2 from Nat.le_trans B11.out.size hD2)
      have HDd := Aside.mk (show D1 ≠ D2 from fun e => by have := (Array.getElem?_eq_some_iff.1 HD1.out).1; omega)
      have HD1 := Aside.mk (below_heap hI HD1.out)
      clear hI hK2 hD2
      go_wp2_with fail
      (with_reducible refine (hold_no id (HN2.out.below B12.out)).mono ?_)
      rintro e w2e ⟨rfl, hb⟩
      have B13 := Aside.mk (below_then B12.out hb)
      have HD1 := Aside.mk (below_heap hb HD1.out)
      have HD2 := Aside.mk (below_heap hb HD2.out)
      clear hb
      go_wp2_with fail
      (with_reducible refine (free_no id (HN2.out.below B13.out)).mono ?_)
      rintro e w2f ⟨rfl, hb⟩
      have B14 := Aside.mk (below_then B13.out hb)
      have HD1 := Aside.mk (below_heap hb HD1.out)
      have HD2 := Aside.mk (below_heap hb HD2.out)
      clear hb
      go_wp2_with fail
      (with_reducible refine (held_no id (HN2.out.below B14.out)).mono ?_)
      rintro e w2g ⟨rfl, hb⟩
      have B15 := Aside.mk (below_then B14.out hb)
      have HD1 := Aside.mk (below_heap hb HD1.out)
      have HD2 := Aside.mk (below_heap hb HD2.out)
      clear hb
      go_wp2_with fail
      (with_reducible refine (len_no (HN2.out.below B15.out)).mono ?_)
      rintro e w2h ⟨rfl, hb⟩
      have B16 := Aside.mk (below_then B15.out hb)
      have HD1 := Aside.mk (below_heap hb HD1.out)
      have HD2 := Aside.mk (below_heap hb HD2.out)
      clear hb
      go_wp2_with fail
      rw [rounds_succ]
      go_wp2_with fail
      have BW := Aside.mk (below_then HB3.out B16.out)
      (with_reducible refine (HK.out _ BW.out).mono ?_)
      rintro e w5 ⟨rfl, hb⟩
      have BX := Aside.mk (below_then BW.out hb)
      have HRr := Aside.mk (below_heap (below_then B16.out hb) HR3.out)
      have HD1 := Aside.mk (below_heap hb HD1.out)
      have HD2 := Aside.mk (below_heap hb HD2.out)
      clear hb
      have z := frozen_of_row w5 w.heap.size 0 _ 4 HRr.out
      have c0 : w5.cell? ⟨w.heap.size, 0, none⟩ = some (.bool false) := cell_at HRr.out rfl
      go_wp2
      rw [← HQ.out]
      have hK2 := (KeepsOthers.setCell w5 ⟨w.heap.size, 0, none⟩ (.bool true)).same D2 _ HD2.out rfl
      have hK1 := (KeepsOthers.setCell w5 ⟨w.heap.size, 0, none⟩ (.bool true)).same D1 _ HD1.out rfl
      have hK1' := (World.putObj_heap_other (o := .deferred none) HDd.out).trans hK1
      have l2 : w.heap.size ≤ D2 := Nat.le_trans HB3.out.size HDs2.out
      have l1 : w.heap.size ≤ D1 := Nat.le_trans HB3.out.size HDs1.out
      have hc5 := cell_kept (cell_kept (World.cell?_setCell_same' w5 ⟨w.heap.size, 0, none⟩ (.bool true) (by rw [c0]; rfl)) (grownBy_putObj' _ D2 (.deferred none)) (fun r e => by cases e; exact ⟨_, hK2, rfl⟩)) (grownBy_putObj' _ D1 (.deferred none)) (fun r e => by cases e; exact ⟨_, hK1', rfl⟩)
      refine ⟨by simp, .inl ⟨_, _, rfl, run_takeDeferred hK2, ?_⟩⟩
      refine ⟨by simp, .inl ⟨_, _, rfl, run_takeDeferred hK1', ?_⟩⟩
      refine ⟨.bool true, ?_, rfl, ((BX.out.setCell (p := ⟨w.heap.size, 0, none⟩) (Nat.le_refl _) _).trans (belowK_b (w := w) (Nat.le_refl _) _ D2 _ _ l2 hK2 rfl rfl)).trans (belowK_b (w := w) (Nat.le_refl _) _ D1 _ _ l1 hK1' rfl rfl)⟩
      simp [results, Tryd.f9, go_sem, hc5]
theorem internNone_walk (id : Int) (A : Option Addr) (c : Nat) (l : List At) (w : World) (hi : (Lit.int .i64 id).wf = true) (hs : l.length ≤ c ∧ l.length ≤ 9223372036854775807 ∧ (A = none → c = 0) ∧ ASrc w A l ∧ ∀ a ∈ l, a.wfA) (hT : Lib.Utf8Tabs 1 2 w) :
    Calls Tryd.prog 9 #[.int .i64 id, .slice A l.length c] w fun e w' => e = .returned (.bool true) ∧ Below w.heap.size w w' := by
  by_cases h : l.length ≤ 70
  · exact none_in id A l.length c w h hT
  · exact none_known id A l.length c w hs.2.1 (by omega) hT
end Go.Proofs.YtaejlgdmalhhnaaDoor
