/- Layer 3: ValueMay. -/
import Derived.Test.YtaejlgdmalhhnaaDoorVo
set_option linter.unusedVariables false
set_option linter.unusedSimpArgs false
namespace Go.Proofs.YtaejlgdmalhhnaaDoor
open Go.RowKit

abbrev Cells4 (w W : World) (k m : Int) (g : Nat) (t : ByteArray) (fl : Int) (s : ByteArray) (d : Nat) (dk : Int) (ds : ByteArray) : Prop :=
  W.cell? ⟨w.heap.size, 0, none⟩ = some (.int .u8 k) ∧ W.cell? ⟨w.heap.size, 1, none⟩ = some (.int .i64 m) ∧ W.cell? ⟨w.heap.size, 2, none⟩ = some (.int .u64 (g : Int)) ∧ W.cell? ⟨w.heap.size, 3, none⟩ = some (.string t) ∧ W.cell? ⟨w.heap.size + 1, 0, none⟩ = some (.int .u8 1) ∧ W.cell? ⟨w.heap.size + 1, 1, none⟩ = some (.int .i64 fl) ∧ W.cell? ⟨w.heap.size + 1, 2, none⟩ = some (.int .u64 0) ∧ W.cell? ⟨w.heap.size + 1, 3, none⟩ = some (.string ⟨#[]⟩) ∧ W.cell? ⟨w.heap.size + 2, 0, none⟩ = some (.int .u8 4) ∧ W.cell? ⟨w.heap.size + 2, 1, none⟩ = some (.int .i64 0) ∧ W.cell? ⟨w.heap.size + 2, 2, none⟩ = some (.int .u64 0) ∧ W.cell? ⟨w.heap.size + 2, 3, none⟩ = some (.string s) ∧ W.cell? ⟨d, 0, none⟩ = some (.int .u8 dk) ∧ W.cell? ⟨d, 1, none⟩ = some (.int .i64 0) ∧ W.cell? ⟨d, 2, none⟩ = some (.int .u64 0) ∧ W.cell? ⟨d, 3, none⟩ = some (.string ds) ∧ Below w.heap.size w W
theorem cells4_next {w W W1 : World} {k m : Int} {g : Nat} {t : ByteArray} {fl : Int} {s : ByteArray} {d : Nat} {dk : Int} {ds : ByteArray} (h : Cells4 w W k m g t fl s d dk ds) (hb : Below W.heap.size W W1) : Cells4 w W1 k m g t fl s d dk ds := by
  obtain ⟨a0, a1, a2, a3, b0, b1, b2, b3, c0, c1, c2, c3, d0, d1, d2, d3, hB⟩ := h
  exact ⟨cell_below hb a0, cell_below hb a1, cell_below hb a2, cell_below hb a3, cell_below hb b0, cell_below hb b1, cell_below hb b2, cell_below hb b3, cell_below hb c0, cell_below hb c1, cell_below hb c2, cell_below hb c3, cell_below hb d0, cell_below hb d1, cell_below hb d2, cell_below hb d3, below_then hB hb⟩
theorem cells4_new {w W : World} {k m : Int} {g : Nat} {t : ByteArray} {fl : Int} {s : ByteArray} (h : Three w W ⟨k, m, g, t⟩ ⟨1, fl, 0, ⟨#[]⟩⟩ ⟨4, 0, 0, s⟩) (dk : Int) (ds : ByteArray) :
    Cells4 w (W.alloc (.cells #[.int .u8 dk, .int .i64 0, .int .u64 0, .string ds] 56)) k m g t fl s W.heap.size dk ds := by
  have hb := below_alloc (below_refl W) (.cells #[.int .u8 dk, .int .i64 0, .int .u64 0, .string ds] 56)
  obtain ⟨⟨a0, a1, a2, a3⟩, ⟨b0, b1, b2, b3⟩, ⟨c0, c1, c2, c3⟩, hB⟩ := h
  refine ⟨cell_below hb a0, cell_below hb a1, cell_below hb a2, cell_below hb a3, cell_below hb b0, cell_below hb b1, cell_below hb b2, cell_below hb b3, cell_below hb c0, cell_below hb c1, cell_below hb c2, cell_below hb c3, ?_, ?_, ?_, ?_, below_then hB hb⟩ <;> simp [go_sem]
theorem mayR_text (s : ByteArray) : mayR ⟨4, 0, 0, s⟩ = okText s := by
  unfold mayR okText
  rw [if_neg (show ¬ (4 : Int) = 1 by decide), if_neg (show ¬ (4 : Int) = 2 by decide), if_neg (show ¬ (4 : Int) = 3 by decide), if_pos rfl]
  simp only [decide_true, Bool.true_and]
  rcases readF_cases s.data.toList with ⟨a, b⟩ | ⟨a, b, c⟩
  · rw [a, b]; rfl
  · rw [a, b]; rfl
theorem Three.blw' {w W : World} {a b c : Val} (h : Three w W a b c) : Below w.heap.size w W := h.2.2.2
theorem may_big (v : Val) (f : Nat) (n : Int) (s : ByteArray) (b : Bool) (w : World) (hbig : 1000 < v.s.size ∨ 1000 < s.size) (hT : Lib.Utf8Tabs 1 2 w) :
    Calls Tryd.prog 8 #[v.v, .int .u64 (f : Int), .int .i64 n, .string s, .bool b] w fun e w' => e = .returned (.bool true) ∧ Below w.heap.size w w' := by
  have HB0 := Aside.mk (below_alloc (below_refl w) v.obj)
  have HK := Aside.mk (known3_any _ (tabs_below hT HB0.out))
  clear hT
  obtain ⟨k, m, g, t⟩ := v
  simp only at hbig
  unfold Val.obj at HK HB0
  unfold Val.v
  by_cases h1 : 1000 < t.size
  · have g1 : (1000 : Int) < (t.size : Int) := by omega
    clear hbig h1
    go_enter Tryd.func8, Tryd.ntmps8
    go_wp2_with fail
    (with_reducible refine HK.out.mono ?_)
    rintro e w1 ⟨rfl, hb1⟩
    have HB1 := Aside.mk (below_then HB0.out hb1)
    clear hb1
    go_wp2
    go_ret
    exact ⟨rfl, HB1.out⟩
  · have g1 : (t.size : Int) ≤ 1000 := by omega
    have g2 : (1000 : Int) < (s.size : Int) := by omega
    clear hbig h1
    go_enter Tryd.func8, Tryd.ntmps8
    go_wp2_with fail
    (with_reducible refine HK.out.mono ?_)
    rintro e w1 ⟨rfl, hb1⟩
    have HB1 := Aside.mk (below_then HB0.out hb1)
    clear hb1
    go_wp2
    go_ret
    exact ⟨rfl, HB1.out⟩
end Go.Proofs.YtaejlgdmalhhnaaDoor
