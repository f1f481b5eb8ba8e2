/- How a slice of keys that a caller hands in is opened. -/
import Derived.Test.YtaejlgdmalhhnaaDoorFs
import Derived.Test.YtaejlgdmalhhnaaDoorPkA
import Derived.Deep.Slices
set_option linter.unusedVariables false
set_option linter.constructorNameAsVariable false
namespace Go.Proofs.YtaejlgdmalhhnaaDoor
open Go.ChangeShapes Go.WideShapes Go.ChangeAt Go.RowKit Go.Deep

section
variable {H : Type} {enc : TypeId × Value → H} {P : Program} {w : World} {base : Nat} {spare : Nat → Bool} {held : Bool}
/-- A slice whose elements are told by their cells. -/
theorem open_elems {α : Type} (R : List Value → α → Prop) {t e : TypeId} {C fuel : Nat} {cs : List Value} {x : DataW H × List MemPlace} (ht : P.underlying t = some (.slice e)) (hC : P.cellsOf e = C)
    (hR : ∀ n cs y, DataW.trod enc P w base spare held n e cs = some y → ∃ a, R cs a) (h : DataW.trod enc P w base spare held fuel t cs = some x) :
    ∃ (A : Option Addr) (cap : Nat) (xs : List α), cs = [.slice A xs.length cap] ∧ xs.length ≤ cap ∧ cap ≤ maxLen ∧ (A = none → xs = [] ∧ cap = 0) ∧
      ∀ ad, A = some ad → ∀ j a, xs[j]? = some a → ∃ cs', R cs' a ∧ ∀ i v, cs'[i]? = some v → w.cell? (ad.add (j * C + i)) = some v := by
  rcases open_slice ht h with ⟨rfl, _⟩ | ⟨a, len, cap, m, n, D, Pl, rfl, hb, hl, hm, hmm, hx, hi⟩
  · exact ⟨none, 0, [], rfl, Nat.le_refl _, by simp [maxLen], fun _ => ⟨rfl, rfl⟩, fun ad h => (by cases h)⟩
  · have hlm : len ≤ m := by rw [hmm]; split <;> omega
    have hex : ∀ i : Nat, i < len → ∃ a' : α, ∃ cs', R cs' a' ∧ ∀ j v, cs'[j]? = some v → w.cell? (a.add (i * C + j)) = some v := by
      intro i hil
      obtain ⟨cs', hc, ht'⟩ := hi i (by omega)
      rw [hC] at hc
      obtain ⟨a', ha⟩ := hR n cs' _ ht'
      obtain ⟨_, hcl, hat⟩ := World.cells?_some hc
      refine ⟨a', cs', ha, fun j v hj => ?_⟩
      have hjl : j < C := by have := (List.getElem?_eq_some_iff.1 hj).1; omega
      have h1 := hat j hjl
      rw [Go.Deep.add_add] at h1
      rw [h1]; exact hj
    have hli : ∀ k : Nat, k ≤ len → ∃ xs : List α, xs.length = k ∧ ∀ j a', xs[j]? = some a' → ∃ cs', R cs' a' ∧ ∀ i v, cs'[i]? = some v → w.cell? (a.add (j * C + i)) = some v := by
      intro k
      induction k with
      | zero => intro _; exact ⟨[], rfl, fun j a' h => by simp at h⟩
      | succ k ih =>
        intro hk
        obtain ⟨xs, hxl, hxs⟩ := ih (by omega)
        obtain ⟨a', ha'⟩ := hex k (by omega)
        refine ⟨xs ++ [a'], by simp [hxl], fun j b hj => ?_⟩
        by_cases hjk : j < xs.length
        · rw [List.getElem?_append_left hjk] at hj
          exact hxs j b hj
        · rw [List.getElem?_append_right (by omega)] at hj
          have : j - xs.length = 0 := by
            rcases Nat.eq_zero_or_pos (j - xs.length) with h | h
            · exact h
            · rw [List.getElem?_eq_none (by simp; omega)] at hj; cases hj
          rw [this] at hj
          simp at hj
          subst hj
          have e : j = k := by omega
          rw [e]
          exact ha'
    obtain ⟨xs, hxl, hxs⟩ := hli len (Nat.le_refl _)
    exact ⟨some a, cap, xs, by rw [hxl], by omega, hm, fun h => (by cases h), fun ad h j a' hj => (by cases h; exact hxs j a' hj)⟩
theorem trod_bool1 {t : TypeId} {n : Nat} {v : Value} {y : DataW H × List MemPlace} (ht : P.underlying t = some .bool) (h : DataW.trod enc P w base spare held n t [v] = some y) : ∃ b, v = .bool b := by
  cases n with
  | zero => simp [DataW.trod] at h
  | succ n => cases v <;> simp [DataW.trod, ht] at h; exact ⟨_, rfl⟩
end
theorem cells3 : Tryd.prog.cellsOf 3 = 1 := by kernel_rfl
theorem cells4 : Tryd.prog.cellsOf 4 = 1 := by kernel_rfl
theorem cells97 : Tryd.prog.cellsOf 97 = 6 := by kernel_rfl
def Ky.wf (k : Ky) : Prop := (Lit.int .i64 k.id).wf = true ∧ (Lit.int .u8 k.kd).wf = true ∧ (Lit.int .i64 k.gr).wf = true
set_option maxRecDepth 100000 in
theorem trod_key {H : Type} {enc : TypeId × Value → H} {w : World} {base : Nat} {spare : Nat → Bool} {held : Bool} {n : Nat} {cs : List Value} {y : DataW H × List MemPlace} (h : DataW.trod enc Tryd.prog w base spare held n 97 cs = some y) :
    ∃ k : Ky, cs = k.cells ∧ k.wf := by
  obtain ⟨xs, n', _, _, hlen, hx, hf⟩ := DataW.trod_struct Tryd.underlying97 h
  rw [cells97] at hlen
  match cs, hlen with
  | [c0, c1, c2, c3, c4, c5], _ =>
    have hx6 : xs.length = 6 := hx
    have g : ∀ i, i < 6 → ∃ y, xs[i]? = some y := fun i hi => ⟨_, List.getElem?_eq_getElem (by omega)⟩
    have h0 := hf 0 _ rfl
    have h1 := hf 1 _ rfl
    have h2 := hf 2 _ rfl
    have h3 := hf 3 _ rfl
    have h4 := hf 4 _ rfl
    have h5 := hf 5 _ rfl
    obtain ⟨y0, e0⟩ := g 0 (by omega)
    obtain ⟨y1, e1⟩ := g 1 (by omega)
    obtain ⟨y2, e2⟩ := g 2 (by omega)
    obtain ⟨y3, e3⟩ := g 3 (by omega)
    obtain ⟨y4, e4⟩ := g 4 (by omega)
    obtain ⟨y5, e5⟩ := g 5 (by omega)
    simp only [cells3, cells4, cells5, e0, e1, e2, e3, e4, e5, List.drop_zero, List.drop_succ_cons, List.take_succ_cons, List.take_zero] at h0 h1 h2 h3 h4 h5
    obtain ⟨id, rfl, w0⟩ := trod_int1 Tryd.underlying3 h0
    obtain ⟨bl, rfl⟩ := trod_bool1 Tryd.underlying4 h1
    obtain ⟨kd, rfl, w2⟩ := trod_int1 Tryd.underlying5 h2
    obtain ⟨af, rfl⟩ := trod_bool1 Tryd.underlying4 h3
    obtain ⟨be, rfl⟩ := trod_bool1 Tryd.underlying4 h4
    obtain ⟨gr, rfl, w5⟩ := trod_int1 Tryd.underlying3 h5
    exact ⟨⟨id, bl, kd, af, be, gr⟩, rfl, w0, w2, w5⟩
set_option maxRecDepth 100000 in
theorem open_keys {H : Type} {enc : TypeId × Value → H} {W : World} {base : Nat} {v : Value} {d : DataW H} {p : List MemPlace} (hv : Value.okWide Tryd.prog W .any base 35 v) (h : DataW.Trod enc Tryd.prog W 0 (fun _ => true) true 35 v d p) :
    ∃ (A : Option Addr) (cap : Nat) (ks : List Ky), v = .slice A ks.length cap ∧ ks.length ≤ cap ∧ ks.length ≤ 9223372036854775807 ∧ (A = none → cap = 0) ∧ KSrc W A ks ∧ ∀ k ∈ ks, k.wf := by
  obtain ⟨a0, len, cap, rfl⟩ := okWide_slice Tryd.underlying35 hv
  obtain ⟨fuel, hf⟩ := h
  obtain ⟨A, cap', ks, hcs, hl, hm, hA, hx⟩ := open_elems (fun cs (k : Ky) => cs = k.cells ∧ k.wf) Tryd.underlying35 cells97 (fun n cs y h => trod_key h) hf
  simp only [maxLen] at hm
  simp [Value.cells] at hcs
  obtain ⟨rfl, rfl, rfl⟩ := hcs
  refine ⟨a0, cap, ks, rfl, hl, by omega, fun h => (hA h).2, ⟨fun h => (hA h).1, fun ad h j k hj i v hi => ?_⟩, fun k hk => ?_⟩
  · obtain ⟨cs', ⟨rfl, _⟩, hc⟩ := hx ad h j k hj
    exact hc i v hi
  · obtain ⟨j, hj, rfl⟩ := List.mem_iff_getElem.1 hk
    rcases a0 with _ | ad
    · rw [(hA rfl).1] at hj; exact absurd hj (by simp)
    · obtain ⟨cs', ⟨_, hw⟩, _⟩ := hx ad rfl j _ (List.getElem?_eq_getElem hj)
      exact hw
end Go.Proofs.YtaejlgdmalhhnaaDoor
