/- Layer 4: a copy of a row of keys. -/
import Derived.Test.YtaejlgdmalhhnaaSc
import Derived.Lib.SliceRun
set_option linter.unusedVariables false
set_option linter.unusedSimpArgs false
namespace Go.Proofs.Ytaejlgdmalhhnaa
open Go.RowKit

theorem info97 : (Try.prog.info? 25).map (fun i => (i.zero, i.size, i.bytes)) = some (some (Ky.v ⟨0, false, 0, false, false, 0⟩), 6, 24) := by kernel_rfl
def kcells (ks : List Ky) : List Value := ks.flatMap Ky.cells
theorem kcells_length (ks : List Ky) : (kcells ks).length = ks.length * 6 := by
  induction ks with
  | nil => rfl
  | cons k r ih => simp [kcells, List.flatMap_cons] at *; rw [ih, cells_len]; omega
theorem kcells_one (ks : List Ky) : ∀ u ∈ kcells ks, u.oneCell' = true := by
  intro u hu
  simp only [kcells, List.mem_flatMap] at hu
  obtain ⟨k, _, hu⟩ := hu
  simp only [Ky.cells, List.mem_cons, List.mem_nil_iff, or_false] at hu
  rcases hu with rfl | rfl | rfl | rfl | rfl | rfl <;> rfl
theorem kcells_nil : kcells [] = [] := rfl
theorem own_lit6 (W : World) (B : Nat) (hb : B ≤ W.heap.size) : (W.alloc (.cells #[] 25)).ownsRow B 25 6 (.slice (some ⟨W.heap.size, 0, none⟩) 0 0) 0 (kcells []) := by
  have h := World.ownsRow_lit (base := B) (e := 25) (size := 6) W #[] 0 hb (by simp [maxLen]) (by simp)
  simpa [kcells] using h
def KClone (w : World) (ks : List Ky) (e : Ending) (w' : World) : Prop :=
  ∃ v, e = .returned v ∧ w'.ownsRow w.heap.size 25 6 v ks.length (kcells ks) ∧ Below w.heap.size w w'
set_option maxRecDepth 100000 in
theorem clone_keys (A : Option Addr) (c : Nat) (ks : List Ky) (w : World) (hA : A = none → ks = [] ∧ c = 0) (hC : Cells w A (kcells ks)) (hl : ks.length * 24 ≤ 140737488355328) :
    Calls Try.prog 10 #[.slice A ks.length c] w (KClone w ks) := by
  rcases A with _ | ad
  · obtain ⟨rfl, rfl⟩ := hA rfl
    have HP : KClone w [] (.returned (.slice none 0 0)) w := ⟨_, rfl, ⟨rfl, .inl ⟨rfl, rfl⟩⟩, below_refl w⟩
    have HP := Aside.mk HP
    clear hA hC hl
    obtain ⟨R, hR⟩ : ∃ R, KClone w [] = R := ⟨_, rfl⟩
    rw [hR] at HP ⊢
    clear hR
    have q35 : ∀ W : World, (binOp .eql 22 (.slice none 0 0) (.slice none 0 0)).run Try.prog W = .ok (.bool true) W := fun W => Lib.run_eql_slice_nil W 22 25 none 0 0 0 0 Try.underlying22
    go_enter Try.func10, Try.ntmps10
    go_wp2
    exact HP.out
  · clear hA
    have HC := Aside.mk (hC.below (below_alloc (below_refl w) (.cells #[] 25)))
    have HR : Aside (∀ v w', w'.ownsRow w.heap.size 25 6 v ks.length (kcells [] ++ kcells ks) → Below w.heap.size w w' → KClone w ks (.returned v) w') := by
      refine Aside.mk (fun v w' h hb => ⟨v, rfl, ?_, hb⟩)
      rw [kcells_nil, List.nil_append] at h
      exact h
    obtain ⟨R, hR⟩ : ∃ R, KClone w ks = R := ⟨_, rfl⟩
    rw [hR] at HR ⊢
    have HL := Aside.mk hl
    clear hR hC hl
    have q35 : ∀ W : World, (binOp .eql 22 (.slice (some ad) ks.length c) (.slice none 0 0)).run Try.prog W = .ok (.bool false) W := fun W => Lib.run_eql_slice_nil W 22 25 (some ad) ks.length c 0 0 Try.underlying22
    go_enter Try.func10, Try.ntmps10
    go_wp2_with (at_builtin; go_must (refine app_src (w0 := w) w.heap.size rfl (.tmp 5) (.tmp 6) 22 25 (Ky.v ⟨0, false, 0, false, false, 0⟩) 6 24 rfl Try.underlying22 info97 rfl (by decide) _ 0 ks.length c (some ad) (kcells []) (kcells ks) rfl rfl (kcells_length ks) (kcells_one ks) (own_lit6 w w.heap.size (Nat.le_refl _)) HC.out (below_alloc (below_refl w) _) (below_alloc (below_refl w) _).size (by have := HL.out; omega) (by have := HL.out; omega) ?_))
    intro v1 w1 hown hbel hg hat
    go_wp2
    exact HR.out v1 w1 hown hbel
end Go.Proofs.Ytaejlgdmalhhnaa
