/- How a struct of one-cell fields that a caller hands in is opened. -/
import Derived.Test.YtaejlgdmalhhnaaDoorFr
import Derived.Test.YtaejlgdmalhhnaaDoorVm
import Derived.Lib.SmallJoins
set_option linter.unusedVariables false
set_option linter.constructorNameAsVariable false
namespace Go.Proofs.YtaejlgdmalhhnaaDoor
open Go.ChangeShapes Go.WideShapes Go.ChangeAt Go.RowKit

section
variable {H : Type} {enc : TypeId × Value → H} {P : Program} {w : World} {base : Nat} {spare : Nat → Bool} {held : Bool}
theorem trod_int1 {t : TypeId} {k : IntKind} {n : Nat} {v : Value} {y : DataW H × List MemPlace} (ht : P.underlying t = some (.int k)) (h : DataW.trod enc P w base spare held n t [v] = some y) :
    ∃ x, v = .int k x ∧ (Lit.int k x).wf = true := by
  cases n with
  | zero => simp [DataW.trod] at h
  | succ n =>
    cases v <;> simp [DataW.trod, ht] at h
    rename_i k' x
    obtain ⟨⟨rfl, hw⟩, _⟩ := h
    exact ⟨x, rfl, hw⟩
theorem trod_str1 {t : TypeId} {n : Nat} {v : Value} {y : DataW H × List MemPlace} (ht : P.underlying t = some .string) (h : DataW.trod enc P w base spare held n t [v] = some y) :
    ∃ s : ByteArray, v = .string s ∧ s.size ≤ 9223372036854775807 := by
  cases n with
  | zero => simp [DataW.trod] at h
  | succ n =>
    cases v <;> simp [DataW.trod, ht] at h
    rename_i s
    exact ⟨s, rfl, h.1⟩
end
theorem wf_u64 {x : Int} (h : (Lit.int .u64 x).wf = true) : 0 ≤ x ∧ x < 18446744073709551616 := by
  simp [Lit.wf, IntKind.min, IntKind.max] at h
  simp [IntKind.signed, IntKind.bits] at h
  omega
set_option maxRecDepth 100000 in
theorem open_val {H : Type} {enc : TypeId × Value → H} {w : World} {base : Nat} {spare : Nat → Bool} {held : Bool} {r : Reach} {b0 : Nat} {v : Value} {d : DataW H} {p : List MemPlace}
    (hv : Value.okWide Tryd.prog w r b0 56 v) (h : DataW.Trod enc Tryd.prog w base spare held 56 v d p) : ∃ a : Val, v = a.v ∧ a.fits := by
  obtain ⟨v0, v1, v2, v3, y0, y1, y2, y3, n, rfl, rfl, rfl, h0, h1, h2, h3⟩ := Go.Joins.open_agg4 Tryd.underlying56 (by kernel_rfl) (by kernel_rfl) hv h
  obtain ⟨k, rfl, _⟩ := trod_int1 Tryd.underlying5 h0
  obtain ⟨m, rfl, _⟩ := trod_int1 Tryd.underlying2 h1
  obtain ⟨f, rfl, wf⟩ := trod_int1 Tryd.underlying54 h2
  obtain ⟨s, rfl, hs⟩ := trod_str1 Tryd.underlying9 h3
  have hf := wf_u64 wf
  refine ⟨⟨k, m, f.toNat, s⟩, ?_, ?_, hs⟩
  · unfold Val.v; simp only; rw [Int.toNat_of_nonneg hf.1]
  · show f.toNat < 18446744073709551616; omega
set_option maxRecDepth 100000 in
theorem open_u64 {H : Type} {enc : TypeId × Value → H} {w : World} {base : Nat} {spare : Nat → Bool} {held : Bool} {r : Reach} {b0 : Nat} {t : TypeId} {v : Value} {d : DataW H} {p : List MemPlace}
    (ht : Tryd.prog.underlying t = some (.int .u64)) (hv : Value.okWide Tryd.prog w r b0 t v) (h : DataW.Trod enc Tryd.prog w base spare held t v d p) : ∃ f : Nat, v = .int .u64 (f : Int) ∧ f < 18446744073709551616 := by
  obtain ⟨x, rfl, _, _, wf⟩ := open_int ht hv h
  have hf := wf_u64 wf
  exact ⟨x.toNat, by rw [Int.toNat_of_nonneg hf.1], by omega⟩
set_option maxRecDepth 100000 in
theorem open_str {H : Type} {enc : TypeId × Value → H} {w : World} {base : Nat} {spare : Nat → Bool} {held : Bool} {r : Reach} {b0 : Nat} {t : TypeId} {v : Value} {d : DataW H} {p : List MemPlace}
    (ht : Tryd.prog.underlying t = some .string) (hv : Value.okWide Tryd.prog w r b0 t v) (h : DataW.Trod enc Tryd.prog w base spare held t v d p) : ∃ s : ByteArray, v = .string s ∧ s.size ≤ 9223372036854775807 := by
  obtain ⟨n, hn⟩ := h
  simp only [Value.okWide, ht, Cell.okWide] at hv
  cases v <;> simp_all [Cell.ok]
  rename_i s
  exact (trod_str1 ht hn).elim (fun s' h => by cases h.1; exact h.2)
end Go.Proofs.YtaejlgdmalhhnaaDoor
