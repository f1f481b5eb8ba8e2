/- Layer 7: a table that is not there, or was not made: each call refuses. -/
import Derived.Test.YtaejlgdmalhhnaaDoorIu
set_option linter.unusedVariables false
set_option linter.unusedSimpArgs false
namespace Go.Proofs.YtaejlgdmalhhnaaDoor
open Go.RowKit Go.Maps

/-- What a value of type *Table is that is not there, or was not made. -/
def NoTab (w : World) (v : Value) : Prop := v = .pointer none ∨ ∃ tb, v = .pointer (some ⟨tb, 0, none⟩) ∧ w.cell? ⟨tb, 3, none⟩ = some (.map none)
theorem NoTab.below {w w' : World} {v : Value} (h : NoTab w v) (hb : Below w.heap.size w w') : NoTab w' v := by
  rcases h with h | ⟨tb, h, hc⟩
  · exact .inl h
  · exact .inr ⟨tb, h, cell_below hb hc⟩
theorem NoTab.ptr {w : World} {v : Value} (h : NoTab w v) : ∃ p, v = .pointer p := by
  rcases h with h | ⟨tb, h, _⟩
  · exact ⟨_, h⟩
  · exact ⟨_, h⟩
theorem ready_no {w : World} {v : Value} (h : NoTab w v) : Calls Tryd.prog 83 #[v] w fun e w' => e = .returned (.bool false) ∧ w' = w := by
  rcases h with rfl | ⟨tb, rfl, hc⟩
  · exact ready_nil w
  · exact ready_zero tb w hc
theorem asked_no {w : World} {v : Value} (id : Int) (h : NoTab w v) :
    Calls Tryd.prog 90 #[v, .int .i64 id] w fun e w' => e = .returned (.tuple #[.agg #[.slice none 0 0, .int .i64 0], .int .i64 1]) ∧ Below w.heap.size w w' := by
  have HR := Aside.mk (ready_no (h.below (below_alloc (below_refl w) (.cells #[.slice none 0 0, .int .i64 0] 132))))
  obtain ⟨p, rfl⟩ := h.ptr
  clear h
  go_enter Tryd.func90, Tryd.ntmps90
  go_wp2_with fail
  (with_reducible refine HR.out.mono ?_)
  rintro e w' ⟨rfl, rfl⟩
  go_wp2
  refine bodyPost_ret (v := .tuple #[.agg #[.slice none 0 0, .int .i64 0], .int .i64 1]) (by simp [results, Tryd.results90, go_sem]) rfl ?_
  exact ⟨rfl, below_alloc (below_refl w) _⟩
theorem add_no {w : World} {v : Value} (A : Option Addr) (n c : Nat) (h : NoTab w v) :
    Calls Tryd.prog 35 #[v, .slice A n c] w fun e w' => e = .returned (.tuple #[.int .i64 0, .int .i64 1]) ∧ Below w.heap.size w w' := by
  have HR := Aside.mk (ready_no h)
  obtain ⟨p, rfl⟩ := h.ptr
  clear h
  go_enter Tryd.func35, Tryd.ntmps35
  go_wp2_with fail
  (with_reducible refine HR.out.mono ?_)
  rintro e w' ⟨rfl, rfl⟩
  go_wp2
  go_ret2
  exact ⟨rfl, below_refl _⟩
theorem set_no {w : World} {v : Value} (id : Int) (h : NoTab w v) :
    Calls Tryd.prog 54 #[v, .int .i64 id] w fun e w' => e = .returned (.tuple #[.slice none 0 0, .int .i64 1]) ∧ Below w.heap.size w w' := by
  have HR := Aside.mk (asked_no id h)
  obtain ⟨p, rfl⟩ := h.ptr
  clear h
  go_enter Tryd.func54, Tryd.ntmps54
  go_wp2_with fail
  (with_reducible refine HR.out.mono ?_)
  rintro e w' ⟨rfl, hb⟩
  have HB := Aside.mk hb
  clear hb
  go_wp2
  go_ret2
  exact ⟨rfl, below_alloc HB.out _⟩
theorem hold_no {w : World} {v : Value} (id : Int) (h : NoTab w v) :
    Calls Tryd.prog 39 #[v, .int .i64 id] w fun e w' => e = .returned (.int .i64 1) ∧ Below w.heap.size w w' := by
  have HR := Aside.mk (asked_no id h)
  obtain ⟨p, rfl⟩ := h.ptr
  clear h
  go_enter Tryd.func39, Tryd.ntmps39
  go_wp2_with fail
  (with_reducible refine HR.out.mono ?_)
  rintro e w' ⟨rfl, hb⟩
  have HB := Aside.mk hb
  clear hb
  go_wp2
  go_ret
  exact ⟨rfl, below_alloc HB.out _⟩
theorem free_no {w : World} {v : Value} (id : Int) (h : NoTab w v) :
    Calls Tryd.prog 37 #[v, .int .i64 id] w fun e w' => e = .returned (.int .i64 1) ∧ Below w.heap.size w w' := by
  have HR := Aside.mk (asked_no id h)
  obtain ⟨p, rfl⟩ := h.ptr
  clear h
  go_enter Tryd.func37, Tryd.ntmps37
  go_wp2_with fail
  (with_reducible refine HR.out.mono ?_)
  rintro e w' ⟨rfl, hb⟩
  have HB := Aside.mk hb
  clear hb
  go_wp2
  go_ret
  exact ⟨rfl, below_alloc HB.out _⟩
theorem held_no {w : World} {v : Value} (id : Int) (h : NoTab w v) :
    Calls Tryd.prog 56 #[v, .int .i64 id] w fun e w' => e = .returned (.int .i64 0) ∧ Below w.heap.size w w' := by
  have HR := Aside.mk (asked_no id h)
  obtain ⟨p, rfl⟩ := h.ptr
  clear h
  go_enter Tryd.func56, Tryd.ntmps56
  go_wp2_with fail
  (with_reducible refine HR.out.mono ?_)
  rintro e w' ⟨rfl, hb⟩
  have HB := Aside.mk hb
  clear hb
  go_wp2
  go_ret
  exact ⟨rfl, below_alloc HB.out _⟩
theorem len_no {w : World} {v : Value} (h : NoTab w v) :
    Calls Tryd.prog 57 #[v] w fun e w' => e = .returned (.int .i64 0) ∧ Below w.heap.size w w' := by
  have HR := Aside.mk (ready_no h)
  obtain ⟨p, rfl⟩ := h.ptr
  clear h
  go_enter Tryd.func57, Tryd.ntmps57
  go_wp2_with fail
  (with_reducible refine HR.out.mono ?_)
  rintro e w' ⟨rfl, rfl⟩
  go_wp2
  go_ret
  exact ⟨rfl, below_refl _⟩
theorem all_no {w : World} {v : Value} (h : NoTab w v) :
    Calls Tryd.prog 55 #[v] w fun e w' => e = .returned (.func (.func 95) #[] #[.pointer (some ⟨w.heap.size, 0, none⟩)]) ∧ w' = w.alloc (.cells #[.slice none 0 0] 45) := by
  have HR := Aside.mk (ready_no (h.below (below_alloc (below_refl w) (.cells #[.slice none 0 0] 45))))
  obtain ⟨p, rfl⟩ := h.ptr
  clear h
  go_enter Tryd.func55, Tryd.ntmps55
  go_wp2_with fail
  (with_reducible refine HR.out.mono ?_)
  rintro e w' ⟨rfl, rfl⟩
  go_wp2
  go_ret
  exact ⟨rfl, rfl⟩
end Go.Proofs.YtaejlgdmalhhnaaDoor
