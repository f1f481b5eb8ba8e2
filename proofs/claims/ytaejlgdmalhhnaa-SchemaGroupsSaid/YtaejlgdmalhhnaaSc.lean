/- Layer 4: a row of keys, sorted. -/
import Derived.Test.YtaejlgdmalhhnaaSb
import Derived.Shelf.SlSortCmp.NoneTotal
set_option linter.unusedVariables false
set_option linter.unusedSimpArgs false
namespace Go.Proofs.Ytaejlgdmalhhnaa
open Go.RowKit Go.Shelf Go.Sort

instance : Inhabited Ky := ⟨⟨0, false, 0, false, false, 0⟩⟩
/-- A row of keys as it lies in a block from a place on, and that it may be written. -/
def KRow (w : World) (g off : Nat) (ks : List Ky) : Prop :=
  ∀ j k, ks[j]? = some k → ∀ i v, k.cells[i]? = some v → w.cell? ⟨g, off + j * 6 + i, none⟩ = some v ∧ w.frozen? ⟨g, off + j * 6 + i, none⟩ = false
theorem cells_len (k : Ky) : k.cells.length = 6 := rfl
theorem holdsK_row {w : World} {g off : Nat} {d : Array Ky} : HoldsK Ky.cells 6 w g off d ↔ KRow w g off d.toList := by
  unfold HoldsK Holds KRow
  constructor
  · intro h j k hj i v hi
    have hjs : j < d.size := by
      have := (List.getElem?_eq_some_iff.1 hj).1; simpa using this
    have hi6 : i < 6 := (List.getElem?_eq_some_iff.1 hi).1
    have h1 := h (j * 6 + i) (by rw [size_flatK]; omega)
    rw [get_flatK _ _ _ _ (by omega)] at h1
    have e1 : (j * 6 + i) / 6 = j := by omega
    have e2 : (j * 6 + i) % 6 = i := by omega
    rw [e1, e2] at h1
    have ek : d[j]! = k := by
      rw [getElem!_pos d j hjs]
      have := hj; rw [Array.getElem?_toList, Array.getElem?_eq_getElem hjs] at this
      exact Option.some.inj this
    have ev : (k.cells)[i]! = v := by
      rw [List.getElem!_eq_getElem?_getD, hi]; rfl
    rw [ek, ev] at h1
    have ea : off + j * 6 + i = off + (j * 6 + i) := by omega
    rw [ea]
    exact h1
  · intro h t ht
    rw [size_flatK] at ht
    rw [get_flatK _ _ _ _ ht]
    have hj : t / 6 < d.size := by omega
    have hl : (d.toList)[t / 6]? = some d[t / 6]! := by
      rw [Array.getElem?_toList, Array.getElem?_eq_getElem hj, getElem!_pos d _ hj]
    have hi : t % 6 < (d[t / 6]!).cells.length := by rw [cells_len]; omega
    have h1 := h _ _ hl (t % 6) _ (List.getElem?_eq_getElem hi)
    have ea : off + t / 6 * 6 + t % 6 = off + t := by omega
    rw [ea] at h1
    have ev : (d[t / 6]!).cells[t % 6]! = (d[t / 6]!).cells[t % 6] := getElem!_pos (d[t / 6]!).cells (t % 6) hi
    show w.cell? ⟨g, off + t, none⟩ = some (id (d[t / 6]!).cells[t % 6]!) ∧ _
    rw [ev]
    exact h1
theorem ltId (x y : Ky) : ltOf (fun x y : Ky => Lib.compareInt x.id y.id) x y = decide (x.id < y.id) := by
  unfold ltOf Lib.compareInt
  by_cases h1 : x.id < y.id
  · simp [h1]
  · by_cases h2 : y.id < x.id <;> simp [h1, h2]
theorem swoId : SWO (ltOf fun x y : Ky => Lib.compareInt x.id y.id) where
  irrefl x := by rw [ltId]; simp
  trans x y z h1 h2 := by rw [ltId] at *; simp at *; omega
  ntrans x y z h1 h2 := by rw [ltId] at *; simp at *; omega
theorem isAgg97 (w : World) : (isAgg 25).run Try.prog w = .ok true w := by
  simp [isAgg, run_underlying Try.underlying25]
theorem sizeOf97 (w : World) : (Go.sizeOf 25).run Try.prog w = .ok 6 w := by
  have h : (Try.prog.info? 25).map (fun i => i.size) = some 6 := by kernel_rfl
  cases hi : Try.prog.info? 25 with
  | none => rw [hi] at h; cases h
  | some i =>
    rw [hi] at h
    simp at h
    simp [Go.sizeOf, run_program, hi, h]
    exact (show Try.t25.size = 6 by kernel_rfl)
/-- Keys by rising IDs. -/
def sortedK (ks : List Ky) : Prop := ks.Pairwise (fun a b => a.id ≤ b.id)
theorem grownBy_sortedK {w : World} {g off n : Nat} {os : Array Obj} (d : Array Ky) : w.grownBy (sortWorldK Ky.cells 6 w g off n d os) (some g) := by
  refine ⟨rfl, rfl, rfl, by simp [sortWorldK, putRowK], fun k hk hne => ?_⟩
  unfold sortWorldK putRowK
  rw [heap_grow_old _ _ (by simpa using hk)]
  have : g ≠ k := fun e => hne (by rw [e])
  simp [putRow, mapBlock, Sort.ahead, Array.getElem?_modify, this]
theorem sort_keys (g off cap : Nat) (ks : List Ky) (w : World) (hr : KRow w g off ks) (hg : g < w.heap.size) (hl : ks.length < 4611686018427387904) :
    Calls Try.prog 12 #[.slice (some ⟨g, off, none⟩) ks.length cap, .func (.func 13) #[] #[]] w fun e w' => e = .returned (.tuple #[]) ∧ ∃ ks' : List Ky, ks'.Perm ks ∧ sortedK ks' ∧ KRow w' g off ks' ∧ w.grownBy w' (some g) := by
  have eg : ∀ args w, (callFunc 13 args).run Try.prog w = .ok (.enter 13 args) w := enters_of Try.func13 (by kernel_rfl) rfl
  have hH : HoldsK Ky.cells 6 w g off ks.toArray := holdsK_row.2 (by simpa using hr)
  have hcon := AnyQ.slices_SortFunc Try.lays12 6 isAgg97 sizeOf97 Ky.cells (fun _ => rfl) (fun x v hv => by simp [Ky.cells] at hv; rcases hv with rfl | rfl | rfl | rfl | rfl | rfl <;> rfl) (fun x y => Lib.compareInt x.id y.id) swoId 13 #[] g off cap ks.toArray w eg (fun _ _ _ _ x y => closure81 x y _) hH hg (by simpa using hl)
  change Calls Try.prog 12 _ _ _ at hcon
  have hs : ks.toArray.size = ks.length := by simp
  rw [hs] at hcon
  refine hcon.mono ?_
  rintro e w' ⟨rfl, d', n, os, hp, hq, rfl⟩
  refine ⟨rfl, d'.toList, ?_, ?_, ?_, grownBy_sortedK d'⟩
  · have h1 : d'.size = ks.length := by have := hp.1; rw [hs] at this; exact this
    have h3 := hp.2.2
    have e1 : d'.extract 0 ks.length = d' := by rw [← h1]; exact Array.extract_size
    have e2 : ks.toArray.extract 0 ks.length = ks.toArray := by rw [← hs]; exact Array.extract_size
    rw [e1, e2] at h3
    simpa using h3
  · unfold sortedK
    rw [List.pairwise_iff_getElem]
    intro i j hi hj hij
    have h1 : d'.size = ks.length := by have := hp.1; rw [hs] at this; exact this
    have hi' : i < d'.size := by simpa using hi
    have hj' : j < d'.size := by simpa using hj
    have h := hq i j (Nat.zero_le _) hij (by omega)
    rw [ltId, getElem!_pos d' j hj', getElem!_pos d' i hi'] at h
    simp at h
    simpa using h
  · refine holdsK_row.1 ?_
    exact (show SWK Ky.cells 6 w g off d' (sortWorldK Ky.cells 6 w g off n d' os) from ⟨n, os, rfl⟩).holds hg hH hp.1
theorem sort_none (p : Option Addr) (cap : Nat) (w : World) : Calls Try.prog 12 #[.slice p 0 cap, .func (.func 13) #[] #[]] w fun e w' => e = .returned (.tuple #[]) ∧ w' = w := by
  have h := AnyF.slices_SortFunc_none Try.lays12 p cap (.func (.func 13) #[] #[]) w
  change Calls Try.prog 12 _ _ _ at h
  exact h
end Go.Proofs.Ytaejlgdmalhhnaa
