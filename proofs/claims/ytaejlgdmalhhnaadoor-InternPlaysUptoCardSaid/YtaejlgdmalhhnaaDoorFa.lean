/- How rows of attributes, and rows of such rows, that a caller hands in are opened. -/
import Derived.Test.YtaejlgdmalhhnaaDoorFk
import Derived.Test.YtaejlgdmalhhnaaDoorPkE
set_option linter.unusedVariables false
set_option linter.constructorNameAsVariable false
namespace Go.Proofs.YtaejlgdmalhhnaaDoor
open Go.ChangeShapes Go.WideShapes Go.ChangeAt Go.RowKit Go.Deep

theorem cells56 : Tryd.prog.cellsOf 56 = 4 := by kernel_rfl
theorem cells58 : Tryd.prog.cellsOf 58 = 5 := by kernel_rfl
theorem cells2 : Tryd.prog.cellsOf 2 = 1 := by kernel_rfl
theorem cells54 : Tryd.prog.cellsOf 54 = 1 := by kernel_rfl
theorem cells9 : Tryd.prog.cellsOf 9 = 1 := by kernel_rfl
theorem cells48 : Tryd.prog.cellsOf 48 = 1 := by kernel_rfl
section
variable {H : Type} {enc : TypeId × Value → H} {w : World} {base : Nat} {spare : Nat → Bool} {held : Bool} {n : Nat} {cs : List Value} {y : DataW H × List MemPlace}
set_option maxRecDepth 100000 in
theorem trod_val (h : DataW.trod enc Tryd.prog w base spare held n 56 cs = some y) : ∃ v : Val, cs = v.cells ∧ (Lit.int .u8 v.k).wf = true ∧ (Lit.int .i64 v.n).wf = true ∧ v.f < 18446744073709551616 ∧ v.s.size ≤ 9223372036854775807 := by
  obtain ⟨xs, n', _, _, hlen, hx, hf⟩ := DataW.trod_struct Tryd.underlying56 h
  rw [cells56] at hlen
  match cs, hlen with
  | [c0, c1, c2, c3], _ =>
    have hx4 : xs.length = 4 := hx
    have g : ∀ i, i < 4 → ∃ y, xs[i]? = some y := fun i hi => ⟨_, List.getElem?_eq_getElem (by omega)⟩
    have h0 := hf 0 _ rfl
    have h1 := hf 1 _ rfl
    have h2 := hf 2 _ rfl
    have h3 := hf 3 _ rfl
    obtain ⟨y0, e0⟩ := g 0 (by omega)
    obtain ⟨y1, e1⟩ := g 1 (by omega)
    obtain ⟨y2, e2⟩ := g 2 (by omega)
    obtain ⟨y3, e3⟩ := g 3 (by omega)
    simp only [cells5, cells2, cells54, cells9, e0, e1, e2, e3, List.drop_zero, List.drop_succ_cons, List.take_succ_cons, List.take_zero] at h0 h1 h2 h3
    obtain ⟨k, rfl, w0⟩ := trod_int1 Tryd.underlying5 h0
    obtain ⟨m, rfl, w1⟩ := trod_int1 Tryd.underlying2 h1
    obtain ⟨f, rfl, w2⟩ := trod_int1 Tryd.underlying54 h2
    obtain ⟨s, rfl, hs⟩ := trod_str1 Tryd.underlying9 h3
    have hf := wf_u64 w2
    refine ⟨⟨k, m, f.toNat, s⟩, ?_, w0, w1, ?_, hs⟩
    · unfold Val.cells; simp only; rw [Int.toNat_of_nonneg hf.1]
    · show f.toNat < 18446744073709551616; omega
set_option maxRecDepth 100000 in
theorem trod_attr (h : DataW.trod enc Tryd.prog w base spare held n 58 cs = some y) : ∃ a : At, cs = a.cells ∧ a.wfA := by
  obtain ⟨xs, n', _, _, hlen, hx, hf⟩ := DataW.trod_struct Tryd.underlying58 h
  rw [cells58] at hlen
  match cs, hlen with
  | [c0, c1, c2, c3, c4], _ =>
    have hx2 : xs.length = 2 := hx
    have g : ∀ i, i < 2 → ∃ y, xs[i]? = some y := fun i hi => ⟨_, List.getElem?_eq_getElem (by omega)⟩
    have h0 := hf 0 _ rfl
    have h1 := hf 1 _ rfl
    obtain ⟨y0, e0⟩ := g 0 (by omega)
    obtain ⟨y1, e1⟩ := g 1 (by omega)
    simp only [cells3, cells56, e0, e1, List.drop_zero, List.drop_succ_cons, List.take_succ_cons, List.take_zero] at h0 h1
    obtain ⟨k, rfl, w0⟩ := trod_int1 Tryd.underlying3 h0
    obtain ⟨v, hv, _, wn, wf, _⟩ := trod_val h1
    have hv' : [c1, c2, c3, c4] = v.cells := hv
    exact ⟨⟨k, v⟩, by unfold At.cells; rw [hv']; rfl, w0, wn, wf⟩
set_option maxRecDepth 100000 in
theorem trod_attrs (h : DataW.trod enc Tryd.prog w base spare held n 48 cs = some y) : ∃ (A : Option Addr) (cap : Nat) (l : List At), cs = [.slice A l.length cap] ∧ l.length ≤ cap ∧ l.length ≤ 9223372036854775807 ∧ (A = none → cap = 0) ∧ ASrc w A l ∧ ∀ a ∈ l, a.wfA := by
  obtain ⟨A, cap, l, rfl, hl, hm, hA, hx⟩ := open_elems (fun cs (a : At) => cs = a.cells ∧ a.wfA) Tryd.underlying48 cells58 (fun n cs y h => trod_attr h) h
  simp only [maxLen] at hm
  refine ⟨A, cap, l, rfl, hl, by omega, fun h => (hA h).2, ⟨fun h => (hA h).1, fun ad h j a hj i v hi => ?_⟩, fun a ha => ?_⟩
  · obtain ⟨cs', ⟨rfl, _⟩, hc⟩ := hx ad h j a hj
    exact hc i v hi
  · obtain ⟨j, hj, rfl⟩ := List.mem_iff_getElem.1 ha
    rcases A with _ | ad
    · rw [(hA rfl).1] at hj; exact absurd hj (by simp)
    · obtain ⟨cs', ⟨_, hw⟩, _⟩ := hx ad rfl j _ (List.getElem?_eq_getElem hj)
      exact hw
end
set_option maxRecDepth 100000 in
theorem open_attrs {H : Type} {enc : TypeId × Value → H} {W : World} {base : Nat} {v : Value} {d : DataW H} {p : List MemPlace} (hv : Value.okWide Tryd.prog W .any base 48 v) (h : DataW.Trod enc Tryd.prog W 0 (fun _ => true) true 48 v d p) :
    ∃ (A : Option Addr) (cap : Nat) (l : List At), v = .slice A l.length cap ∧ l.length ≤ cap ∧ l.length ≤ 9223372036854775807 ∧ (A = none → cap = 0) ∧ ASrc W A l ∧ ∀ a ∈ l, a.wfA := by
  obtain ⟨a0, len, cap, rfl⟩ := okWide_slice Tryd.underlying48 hv
  obtain ⟨fuel, hf⟩ := h
  obtain ⟨A, cap', l, hcs, r⟩ := trod_attrs hf
  simp [Value.cells] at hcs
  obtain ⟨rfl, rfl, rfl⟩ := hcs
  exact ⟨a0, cap, l, rfl, r⟩
/-- A row of attributes as a slice shows it. -/
structure Sl where
  A : Option Addr
  c : Nat
  l : List At
def Sl.v (s : Sl) : Value := .slice s.A s.l.length s.c
def Sl.ok (W : World) (s : Sl) : Prop := s.l.length ≤ s.c ∧ s.l.length ≤ 9223372036854775807 ∧ (s.A = none → s.c = 0) ∧ ASrc W s.A s.l ∧ ∀ a ∈ s.l, a.wfA
/-- A row of such slices. -/
def LSrc (W : World) (A : Option Addr) (L : List Sl) : Prop := (A = none → L = []) ∧ ∀ ad, A = some ad → ∀ j s, L[j]? = some s → W.cell? (ad.add j) = some s.v
set_option maxRecDepth 100000 in
theorem open_sets {H : Type} {enc : TypeId × Value → H} {W : World} {base : Nat} {v : Value} {d : DataW H} {p : List MemPlace} (hv : Value.okWide Tryd.prog W .any base 44 v) (h : DataW.Trod enc Tryd.prog W 0 (fun _ => true) true 44 v d p) :
    ∃ (A : Option Addr) (cap : Nat) (L : List Sl), v = .slice A L.length cap ∧ L.length ≤ cap ∧ L.length ≤ 9223372036854775807 ∧ (A = none → cap = 0) ∧ LSrc W A L ∧ ∀ s ∈ L, s.ok W := by
  obtain ⟨a0, len, cap, rfl⟩ := okWide_slice Tryd.underlying44 hv
  obtain ⟨fuel, hf⟩ := h
  obtain ⟨A, cap', L, hcs, hl, hm, hA, hx⟩ := open_elems (fun cs (s : Sl) => cs = [s.v] ∧ s.ok W) Tryd.underlying44 cells48 (fun n cs y h => by
    obtain ⟨A, c, l, hcs, r⟩ := trod_attrs h
    exact ⟨⟨A, c, l⟩, hcs, r⟩) hf
  simp only [maxLen] at hm
  simp [Value.cells] at hcs
  obtain ⟨rfl, rfl, rfl⟩ := hcs
  refine ⟨a0, cap, L, rfl, hl, by omega, fun h => (hA h).2, ⟨fun h => (hA h).1, fun ad h j s hj => ?_⟩, fun s hs => ?_⟩
  · obtain ⟨cs', ⟨rfl, _⟩, hc⟩ := hx ad h j s hj
    have := hc 0 _ rfl
    simpa using this
  · obtain ⟨j, hj, rfl⟩ := List.mem_iff_getElem.1 hs
    rcases a0 with _ | ad
    · rw [(hA rfl).1] at hj; exact absurd hj (by simp)
    · obtain ⟨cs', ⟨_, hw⟩, _⟩ := hx ad rfl j _ (List.getElem?_eq_getElem hj)
      exact hw
end Go.Proofs.YtaejlgdmalhhnaaDoor
