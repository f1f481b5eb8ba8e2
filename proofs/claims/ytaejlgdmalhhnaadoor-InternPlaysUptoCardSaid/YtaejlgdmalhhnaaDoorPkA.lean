/- Texts put together: Sa, Sb, Sc, Sd, Se, Sf, Sp, St. -/
import Derived.Shelf.SlGeneric
import Derived.Shelf.SlSortCmp.WholeK
import Derived.Test.YtaejlgdmalhhnaaDoorProg
import Derived.Test.YtaejlgdmalhhnaaDoorVl
import Derived.Shelf.SlSortCmp.NoneTotal
import Derived.Lib.SliceRun
import Derived.Maps.OwnSet
import Derived.Lib.SmallJoins
/-
  DERIVED: THE SHELF's CONTRACTS AT THIS DUMP, IN PLAIN WORDS (tools/lay-plain.mjs out of 'YtaejlgdmalhhnaaDoorLay.lean', which tools/lay-shelf.mjs wrote): THE SAME DECLARATIONS UNDER THE SAME NAMES: 'import', 'namespace', 'open', 'def', 'theorem' AND NOTHING ELSE: no command of the shelf's: FOR A HAND-IN. Each laying: the table of numbers ('.._ren') and one theorem, a field a fact of the dump's own or the kernel's comparison; each contract: ONE APPLICATION.
-/
namespace Go.Proofs
open Go.Shelf
def Tryd.lays80_ren : Go.Shelf.Ren := ⟨fun | 6 => 80 | 15 => 102 | 14 => 101 | 28 => 117 | 29 => 118 | 20 => 109 | 21 => 110 | 22 => 111 | 23 => 112 | 24 => 113 | 25 => 114 | 26 => 115 | 27 => 116 | 46 => 121 | 47 => 122 | 48 => 123 | 49 => 124 | 50 => 125 | 57 => 126 | n => n, fun | 22 => 35 | 24 => 97 | 25 => 126 | 3 => 3 | 39 => 149 | 0 => 0 | 53 => 142 | 55 => 54 | 4 => 4 | 46 => 158 | 45 => 157 | 50 => 129 | 5 => 5 | 9 => 9 | 66 => 167 | 70 => 171 | 76 => 173 | 77 => 174 | n => n, fun | n => n⟩
theorem Tryd.lays80 : Go.Proofs.SlLaysF0.n6 Tryd.prog Tryd.lays80_ren := {
  mixed := by kernel_rfl
  f6 := ⟨Tryd.f80.name, by decide, Tryd.func80.trans (congrArg some (by kernel_rfl))⟩
  f14 := ⟨Tryd.f101.name, by decide, Tryd.func101.trans (congrArg some (by kernel_rfl))⟩
  f15 := Tryd.func102.trans (congrArg some (by kernel_rfl))
  f20 := ⟨Tryd.f109.name, by decide, Tryd.func109.trans (congrArg some (by kernel_rfl))⟩
  f21 := ⟨Tryd.f110.name, by decide, Tryd.func110.trans (congrArg some (by kernel_rfl))⟩
  f22 := ⟨Tryd.f111.name, by decide, Tryd.func111.trans (congrArg some (by kernel_rfl))⟩
  f23 := ⟨Tryd.f112.name, by decide, Tryd.func112.trans (congrArg some (by kernel_rfl))⟩
  f24 := ⟨Tryd.f113.name, by decide, Tryd.func113.trans (congrArg some (by kernel_rfl))⟩
  f25 := ⟨Tryd.f114.name, by decide, Tryd.func114.trans (congrArg some (by kernel_rfl))⟩
  f26 := ⟨Tryd.f115.name, by decide, Tryd.func115.trans (congrArg some (by kernel_rfl))⟩
  f27 := ⟨Tryd.f116.name, by decide, Tryd.func116.trans (congrArg some (by kernel_rfl))⟩
  f28 := Tryd.func117.trans (congrArg some (by kernel_rfl))
  f29 := Tryd.func118.trans (congrArg some (by kernel_rfl))
  f46 := ⟨Tryd.f121.name, by decide, Tryd.func121.trans (congrArg some (by kernel_rfl))⟩
  f47 := Tryd.func122.trans (congrArg some (by kernel_rfl))
  f48 := Tryd.func123.trans (congrArg some (by kernel_rfl))
  f49 := ⟨Tryd.f124.name, by decide, Tryd.func124.trans (congrArg some (by kernel_rfl))⟩
  f50 := ⟨Tryd.f125.name, by decide, Tryd.func125.trans (congrArg some (by kernel_rfl))⟩
  f57 := ⟨Tryd.f126.name, by decide, Tryd.func126.trans (congrArg some (by kernel_rfl))⟩
  t0 := Tryd.underlying0
  a0 := Tryd.isAgg0
  z0 := Tryd.sizeOf0
  v0 := Tryd.zeroValue0
  t3 := Tryd.underlying3
  a3 := Tryd.isAgg3
  z3 := Tryd.sizeOf3
  v3 := Tryd.zeroValue3
  t4 := Tryd.underlying4
  a4 := Tryd.isAgg4
  z4 := Tryd.sizeOf4
  v4 := Tryd.zeroValue4
  t5 := Tryd.underlying5
  a5 := Tryd.isAgg5
  z5 := Tryd.sizeOf5
  v5 := Tryd.zeroValue5
  t9 := Tryd.underlying9
  a9 := Tryd.isAgg9
  z9 := Tryd.sizeOf9
  v9 := Tryd.zeroValue9
  t22 := Tryd.underlying35
  a22 := Tryd.isAgg35
  z22 := Tryd.sizeOf35
  v22 := Tryd.zeroValue35
  t25 := Tryd.underlying126
  a25 := Tryd.isAgg126
  z25 := Tryd.sizeOf126
  v25 := Tryd.zeroValue126
  t39 := Tryd.underlying149
  a39 := Tryd.isAgg149
  z39 := Tryd.sizeOf149
  v39 := Tryd.zeroValue149
  t45 := Tryd.underlying157
  a45 := Tryd.isAgg157
  z45 := Tryd.sizeOf157
  v45 := Tryd.zeroValue157
  t46 := Tryd.underlying158
  a46 := Tryd.isAgg158
  z46 := Tryd.sizeOf158
  v46 := Tryd.zeroValue158
  t50 := Tryd.underlying129
  a50 := Tryd.isAgg129
  z50 := Tryd.sizeOf129
  v50 := Tryd.zeroValue129
  t53 := Tryd.underlying142
  a53 := Tryd.isAgg142
  z53 := Tryd.sizeOf142
  v53 := Tryd.zeroValue142
  t55 := Tryd.underlying54
  a55 := Tryd.isAgg54
  z55 := Tryd.sizeOf54
  v55 := Tryd.zeroValue54
  t66 := Tryd.underlying167
  a66 := Tryd.isAgg167
  z66 := Tryd.sizeOf167
  v66 := Tryd.zeroValue167
  t70 := Tryd.underlying171
  a70 := Tryd.isAgg171
  z70 := Tryd.sizeOf171
  v70 := Tryd.zeroValue171
  t76 := Tryd.underlying173
  a76 := Tryd.isAgg173
  z76 := Tryd.sizeOf173
  v76 := Tryd.zeroValue173
  t77 := Tryd.underlying174
  a77 := Tryd.isAgg174
  z77 := Tryd.sizeOf174
  v77 := Tryd.zeroValue174 }
end Go.Proofs
/- Layer 4: keys; which may be; how two are compared. -/
set_option linter.unusedVariables false
set_option linter.unusedSimpArgs false
namespace Go.Proofs.YtaejlgdmalhhnaaDoor
open Go.RowKit

/-- A key of a schema. -/
structure Ky where
  id : Int
  bl : Bool
  kd : Int
  af : Bool
  be : Bool
  gr : Int
deriving DecidableEq
def Ky.cells (k : Ky) : List Value := [.int .i64 k.id, .bool k.bl, .int .u8 k.kd, .bool k.af, .bool k.be, .int .i64 k.gr]
def Ky.v (k : Ky) : Value := .agg #[.int .i64 k.id, .bool k.bl, .int .u8 k.kd, .bool k.af, .bool k.be, .int .i64 k.gr]
def Ky.obj (k : Ky) : Obj := .cells #[.int .i64 k.id, .bool k.bl, .int .u8 k.kd, .bool k.af, .bool k.be, .int .i64 k.gr] 97
def mayK (k : Ky) : Bool := (decide (1 ≤ k.id) && decide (k.id ≤ 1000) && decide (1 ≤ k.kd) && decide (k.kd ≤ 4)) && (if k.bl then (!k.be && decide (0 ≤ k.gr)) && decide (k.gr ≤ 8) else k.gr == 0)
set_option maxRecDepth 100000 in
theorem mayKey_any (k : Ky) (w : World) : Calls Tryd.prog 79 #[k.v] w fun e w' => e = .returned (.bool (mayK k)) ∧ Below w.heap.size w w' := by
  have HB := Aside.mk (below_alloc (below_refl w) k.obj)
  obtain ⟨id, bl, kd, af, be, gr⟩ := k
  unfold Ky.obj at HB
  unfold Ky.v
  by_cases h1 : id < 1
  · have hm : mayK ⟨id, bl, kd, af, be, gr⟩ = false := by unfold mayK; simp; omega
    rw [hm]
    go_enter Tryd.func79, Tryd.ntmps79
    go_wp2
    go_ret
    exact ⟨rfl, HB.out⟩
  have h1 : 1 ≤ id := by omega
  by_cases h2 : 1000 < id
  · have hm : mayK ⟨id, bl, kd, af, be, gr⟩ = false := by unfold mayK; simp; omega
    rw [hm]
    go_enter Tryd.func79, Tryd.ntmps79
    go_wp2
    go_ret
    exact ⟨rfl, HB.out⟩
  have h2 : id ≤ 1000 := by omega
  by_cases h3 : kd < 1
  · have hm : mayK ⟨id, bl, kd, af, be, gr⟩ = false := by unfold mayK; simp; omega
    rw [hm]
    go_enter Tryd.func79, Tryd.ntmps79
    go_wp2
    go_ret
    exact ⟨rfl, HB.out⟩
  have h3 : 1 ≤ kd := by omega
  by_cases h4 : 4 < kd
  · have hm : mayK ⟨id, bl, kd, af, be, gr⟩ = false := by unfold mayK; simp; omega
    rw [hm]
    go_enter Tryd.func79, Tryd.ntmps79
    go_wp2
    go_ret
    exact ⟨rfl, HB.out⟩
  have h4 : kd ≤ 4 := by omega
  cases bl
  · have hm : mayK ⟨id, false, kd, af, be, gr⟩ = (gr == 0) := by unfold mayK; simp [h1, h2, h3, h4]
    rw [hm]
    go_enter Tryd.func79, Tryd.ntmps79
    go_wp2
    go_ret
    exact ⟨rfl, HB.out⟩
  cases be
  rotate_left
  · have hm : mayK ⟨id, true, kd, af, true, gr⟩ = false := by unfold mayK; simp
    rw [hm]
    go_enter Tryd.func79, Tryd.ntmps79
    go_wp2
    go_ret
    exact ⟨rfl, HB.out⟩
  by_cases h5 : gr < 0
  · have hm : mayK ⟨id, true, kd, af, false, gr⟩ = false := by unfold mayK; simp; omega
    rw [hm]
    go_enter Tryd.func79, Tryd.ntmps79
    go_wp2
    go_ret
    exact ⟨rfl, HB.out⟩
  have h5 : 0 ≤ gr := by omega
  have hm : mayK ⟨id, true, kd, af, false, gr⟩ = decide (gr ≤ 8) := by unfold mayK; simp [h1, h2, h3, h4, h5]
  rw [hm]
  go_enter Tryd.func79, Tryd.ntmps79
  go_wp2
  go_ret
  exact ⟨rfl, HB.out⟩
theorem isNaN_int (x : Int) (w : World) : Calls Tryd.prog 103 #[.int .i64 x] w fun e w' => e = .returned (.bool false) ∧ w' = w := by
  go_enter Tryd.func103, Tryd.ntmps103
  go_wp2
  go_ret
  exact ⟨rfl, rfl⟩
theorem compare_int (x y : Int) (w : World) : Calls Tryd.prog 82 #[.int .i64 x, .int .i64 y] w fun e w' => e = .returned (.int .i64 (Lib.compareInt x y)) ∧ w' = w := by
  have HN := Aside.mk isNaN_int
  by_cases h1 : x < y
  · have hc : Lib.compareInt x y = -1 := by unfold Lib.compareInt; simp [h1]
    rw [hc]
    go_enter Tryd.func82, Tryd.ntmps82
    go_wp2_with (go_at_call 103; go_must (refine (HN.out _ _).mono ?_; rintro e w' ⟨rfl, rfl⟩))
    go_ret
    exact ⟨rfl, rfl⟩
  have h1 : y ≤ x := by omega
  by_cases h2 : y < x
  · have hc : Lib.compareInt x y = 1 := by unfold Lib.compareInt; simp [h2]; omega
    rw [hc]
    go_enter Tryd.func82, Tryd.ntmps82
    go_wp2_with (go_at_call 103; go_must (refine (HN.out _ _).mono ?_; rintro e w' ⟨rfl, rfl⟩))
    go_ret
    exact ⟨rfl, rfl⟩
  · have hc : Lib.compareInt x y = 0 := by unfold Lib.compareInt; rw [if_neg (by omega), if_neg (by omega)]
    have h2 : x ≤ y := by omega
    rw [hc]
    go_enter Tryd.func82, Tryd.ntmps82
    go_wp2_with (go_at_call 103; go_must (refine (HN.out _ _).mono ?_; rintro e w' ⟨rfl, rfl⟩))
    go_ret
    exact ⟨rfl, rfl⟩
open Go.Shelf Go.Lib Go.Sort in
theorem closure81 (x y : Ky) (W : World) : Calls Tryd.prog 81 #[x.v, y.v] W fun e w' => e = .returned (.int .i64 (Lib.compareInt x.id y.id)) ∧ ∃ q os', w' = grow (W.drewN q) os' := by
  have HC := Aside.mk (compare_int x.id y.id)
  obtain ⟨r, hr⟩ : ∃ r, Lib.compareInt x.id y.id = r := ⟨_, rfl⟩
  rw [hr] at HC ⊢
  clear hr
  unfold Ky.v
  go_enter Tryd.func81, Tryd.ntmps81
  go_wp2_with (go_at_call 82; go_must (refine (HC.out _).mono ?_; rintro e w' ⟨rfl, rfl⟩))
  go_ret
  exact ⟨rfl, 0, _, by rw [alloc_eq_grow, alloc_eq_grow, grow_grow]; rfl⟩
end Go.Proofs.YtaejlgdmalhhnaaDoor
/- Layer 4: a row of keys, sorted. -/
set_option linter.unusedVariables false
set_option linter.unusedSimpArgs false
namespace Go.Proofs.YtaejlgdmalhhnaaDoor
open Go.RowKit Go.Shelf Go.Sort

instance : Inhabited Ky := ⟨⟨0, false, 0, false, false, 0⟩⟩
/-- A row of keys as it lies in a block from a place on, and that it may be written. -/
def KRow (w : World) (g off : Nat) (ks : List Ky) : Prop :=
  ∀ j k, ks[j]? = some k → ∀ i v, k.cells[i]? = some v → w.cell? ⟨g, off + j * 6 + i, none⟩ = some v ∧ w.frozen? ⟨g, off + j * 6 + i, none⟩ = false
theorem cells_len (k : Ky) : k.cells.length = 6 := rfl
theorem holdsK_row {w : World} {g off : Nat} {d : Array Ky} : HoldsK Ky.cells 6 w g off d ↔ KRow w g off d.toList := by
  unfold HoldsK Holds KRow
  constructor
  · intro h j k hj i v hi
    have hjs : j < d.size := by
      have := (List.getElem?_eq_some_iff.1 hj).1; simpa using this
    have hi6 : i < 6 := (List.getElem?_eq_some_iff.1 hi).1
    have h1 := h (j * 6 + i) (by rw [size_flatK]; omega)
    rw [get_flatK _ _ _ _ (by omega)] at h1
    have e1 : (j * 6 + i) / 6 = j := by omega
    have e2 : (j * 6 + i) % 6 = i := by omega
    rw [e1, e2] at h1
    have ek : d[j]! = k := by
      rw [getElem!_pos d j hjs]
      have := hj; rw [Array.getElem?_toList, Array.getElem?_eq_getElem hjs] at this
      exact Option.some.inj this
    have ev : (k.cells)[i]! = v := by
      rw [List.getElem!_eq_getElem?_getD, hi]; rfl
    rw [ek, ev] at h1
    have ea : off + j * 6 + i = off + (j * 6 + i) := by omega
    rw [ea]
    exact h1
  · intro h t ht
    rw [size_flatK] at ht
    rw [get_flatK _ _ _ _ ht]
    have hj : t / 6 < d.size := by omega
    have hl : (d.toList)[t / 6]? = some d[t / 6]! := by
      rw [Array.getElem?_toList, Array.getElem?_eq_getElem hj, getElem!_pos d _ hj]
    have hi : t % 6 < (d[t / 6]!).cells.length := by rw [cells_len]; omega
    have h1 := h _ _ hl (t % 6) _ (List.getElem?_eq_getElem hi)
    have ea : off + t / 6 * 6 + t % 6 = off + t := by omega
    rw [ea] at h1
    have ev : (d[t / 6]!).cells[t % 6]! = (d[t / 6]!).cells[t % 6] := getElem!_pos (d[t / 6]!).cells (t % 6) hi
    show w.cell? ⟨g, off + t, none⟩ = some (id (d[t / 6]!).cells[t % 6]!) ∧ _
    rw [ev]
    exact h1
theorem ltId (x y : Ky) : ltOf (fun x y : Ky => Lib.compareInt x.id y.id) x y = decide (x.id < y.id) := by
  unfold ltOf Lib.compareInt
  by_cases h1 : x.id < y.id
  · simp [h1]
  · by_cases h2 : y.id < x.id <;> simp [h1, h2]
theorem swoId : SWO (ltOf fun x y : Ky => Lib.compareInt x.id y.id) where
  irrefl x := by rw [ltId]; simp
  trans x y z h1 h2 := by rw [ltId] at *; simp at *; omega
  ntrans x y z h1 h2 := by rw [ltId] at *; simp at *; omega
theorem isAgg97 (w : World) : (isAgg 97).run Tryd.prog w = .ok true w := by
  simp [isAgg, run_underlying Tryd.underlying97]
theorem sizeOf97 (w : World) : (Go.sizeOf 97).run Tryd.prog w = .ok 6 w := by
  have h : (Tryd.prog.info? 97).map (fun i => i.size) = some 6 := by kernel_rfl
  cases hi : Tryd.prog.info? 97 with
  | none => rw [hi] at h; cases h
  | some i =>
    rw [hi] at h
    simp at h
    simp [Go.sizeOf, run_program, hi, h]
    exact (show Tryd.t97.size = 6 by kernel_rfl)
/-- Keys by rising IDs. -/
def sortedK (ks : List Ky) : Prop := ks.Pairwise (fun a b => a.id ≤ b.id)
theorem grownBy_sortedK {w : World} {g off n : Nat} {os : Array Obj} (d : Array Ky) : w.grownBy (sortWorldK Ky.cells 6 w g off n d os) (some g) := by
  refine ⟨rfl, rfl, rfl, by simp [sortWorldK, putRowK], fun k hk hne => ?_⟩
  unfold sortWorldK putRowK
  rw [heap_grow_old _ _ (by simpa using hk)]
  have : g ≠ k := fun e => hne (by rw [e])
  simp [putRow, mapBlock, Sort.ahead, Array.getElem?_modify, this]
theorem sort_keys (g off cap : Nat) (ks : List Ky) (w : World) (hr : KRow w g off ks) (hg : g < w.heap.size) (hl : ks.length < 4611686018427387904) :
    Calls Tryd.prog 80 #[.slice (some ⟨g, off, none⟩) ks.length cap, .func (.func 81) #[] #[]] w fun e w' => e = .returned (.tuple #[]) ∧ ∃ ks' : List Ky, ks'.Perm ks ∧ sortedK ks' ∧ KRow w' g off ks' ∧ w.grownBy w' (some g) := by
  have eg : ∀ args w, (callFunc 81 args).run Tryd.prog w = .ok (.enter 81 args) w := enters_of Tryd.func81 (by kernel_rfl) rfl
  have hH : HoldsK Ky.cells 6 w g off ks.toArray := holdsK_row.2 (by simpa using hr)
  have hcon := AnyQ.slices_SortFunc Tryd.lays80 6 isAgg97 sizeOf97 Ky.cells (fun _ => rfl) (fun x v hv => by simp [Ky.cells] at hv; rcases hv with rfl | rfl | rfl | rfl | rfl | rfl <;> rfl) (fun x y => Lib.compareInt x.id y.id) swoId 81 #[] g off cap ks.toArray w eg (fun _ _ _ _ x y => closure81 x y _) hH hg (by simpa using hl)
  change Calls Tryd.prog 80 _ _ _ at hcon
  have hs : ks.toArray.size = ks.length := by simp
  rw [hs] at hcon
  refine hcon.mono ?_
  rintro e w' ⟨rfl, d', n, os, hp, hq, rfl⟩
  refine ⟨rfl, d'.toList, ?_, ?_, ?_, grownBy_sortedK d'⟩
  · have h1 : d'.size = ks.length := by have := hp.1; rw [hs] at this; exact this
    have h3 := hp.2.2
    have e1 : d'.extract 0 ks.length = d' := by rw [← h1]; exact Array.extract_size
    have e2 : ks.toArray.extract 0 ks.length = ks.toArray := by rw [← hs]; exact Array.extract_size
    rw [e1, e2] at h3
    simpa using h3
  · unfold sortedK
    rw [List.pairwise_iff_getElem]
    intro i j hi hj hij
    have h1 : d'.size = ks.length := by have := hp.1; rw [hs] at this; exact this
    have hi' : i < d'.size := by simpa using hi
    have hj' : j < d'.size := by simpa using hj
    have h := hq i j (Nat.zero_le _) hij (by omega)
    rw [ltId, getElem!_pos d' j hj', getElem!_pos d' i hi'] at h
    simp at h
    simpa using h
  · refine holdsK_row.1 ?_
    exact (show SWK Ky.cells 6 w g off d' (sortWorldK Ky.cells 6 w g off n d' os) from ⟨n, os, rfl⟩).holds hg hH hp.1
theorem sort_none (p : Option Addr) (cap : Nat) (w : World) : Calls Tryd.prog 80 #[.slice p 0 cap, .func (.func 81) #[] #[]] w fun e w' => e = .returned (.tuple #[]) ∧ w' = w := by
  have h := AnyF.slices_SortFunc_none Tryd.lays80 p cap (.func (.func 81) #[] #[]) w
  change Calls Tryd.prog 80 _ _ _ at h
  exact h
end Go.Proofs.YtaejlgdmalhhnaaDoor
/- Layer 4: a copy of a row of keys. -/
set_option linter.unusedVariables false
set_option linter.unusedSimpArgs false
namespace Go.Proofs.YtaejlgdmalhhnaaDoor
open Go.RowKit

theorem info97 : (Tryd.prog.info? 97).map (fun i => (i.zero, i.size, i.bytes)) = some (some (Ky.v ⟨0, false, 0, false, false, 0⟩), 6, 24) := by kernel_rfl
def kcells (ks : List Ky) : List Value := ks.flatMap Ky.cells
theorem kcells_length (ks : List Ky) : (kcells ks).length = ks.length * 6 := by
  induction ks with
  | nil => rfl
  | cons k r ih => simp [kcells, List.flatMap_cons] at *; rw [ih, cells_len]; omega
theorem kcells_one (ks : List Ky) : ∀ u ∈ kcells ks, u.oneCell' = true := by
  intro u hu
  simp only [kcells, List.mem_flatMap] at hu
  obtain ⟨k, _, hu⟩ := hu
  simp only [Ky.cells, List.mem_cons, List.mem_nil_iff, or_false] at hu
  rcases hu with rfl | rfl | rfl | rfl | rfl | rfl <;> rfl
theorem kcells_nil : kcells [] = [] := rfl
theorem own_lit6 (W : World) (B : Nat) (hb : B ≤ W.heap.size) : (W.alloc (.cells #[] 97)).ownsRow B 97 6 (.slice (some ⟨W.heap.size, 0, none⟩) 0 0) 0 (kcells []) := by
  have h := World.ownsRow_lit (base := B) (e := 97) (size := 6) W #[] 0 hb (by simp [maxLen]) (by simp)
  simpa [kcells] using h
def KClone (w : World) (ks : List Ky) (e : Ending) (w' : World) : Prop :=
  ∃ v, e = .returned v ∧ w'.ownsRow w.heap.size 97 6 v ks.length (kcells ks) ∧ Below w.heap.size w w'
set_option maxRecDepth 100000 in
theorem clone_keys (A : Option Addr) (c : Nat) (ks : List Ky) (w : World) (hA : A = none → ks = [] ∧ c = 0) (hC : Cells w A (kcells ks)) (hl : ks.length * 24 ≤ 140737488355328) :
    Calls Tryd.prog 78 #[.slice A ks.length c] w (KClone w ks) := by
  rcases A with _ | ad
  · obtain ⟨rfl, rfl⟩ := hA rfl
    have HP : KClone w [] (.returned (.slice none 0 0)) w := ⟨_, rfl, ⟨rfl, .inl ⟨rfl, rfl⟩⟩, below_refl w⟩
    have HP := Aside.mk HP
    clear hA hC hl
    obtain ⟨R, hR⟩ : ∃ R, KClone w [] = R := ⟨_, rfl⟩
    rw [hR] at HP ⊢
    clear hR
    have q35 : ∀ W : World, (binOp .eql 35 (.slice none 0 0) (.slice none 0 0)).run Tryd.prog W = .ok (.bool true) W := fun W => Lib.run_eql_slice_nil W 35 97 none 0 0 0 0 Tryd.underlying35
    go_enter Tryd.func78, Tryd.ntmps78
    go_wp2
    exact HP.out
  · clear hA
    have HC := Aside.mk (hC.below (below_alloc (below_refl w) (.cells #[] 97)))
    have HR : Aside (∀ v w', w'.ownsRow w.heap.size 97 6 v ks.length (kcells [] ++ kcells ks) → Below w.heap.size w w' → KClone w ks (.returned v) w') := by
      refine Aside.mk (fun v w' h hb => ⟨v, rfl, ?_, hb⟩)
      rw [kcells_nil, List.nil_append] at h
      exact h
    obtain ⟨R, hR⟩ : ∃ R, KClone w ks = R := ⟨_, rfl⟩
    rw [hR] at HR ⊢
    have HL := Aside.mk hl
    clear hR hC hl
    have q35 : ∀ W : World, (binOp .eql 35 (.slice (some ad) ks.length c) (.slice none 0 0)).run Tryd.prog W = .ok (.bool false) W := fun W => Lib.run_eql_slice_nil W 35 97 (some ad) ks.length c 0 0 Tryd.underlying35
    go_enter Tryd.func78, Tryd.ntmps78
    go_wp2_with (at_builtin; go_must (refine app_src (w0 := w) w.heap.size rfl (.tmp 5) (.tmp 6) 35 97 (Ky.v ⟨0, false, 0, false, false, 0⟩) 6 24 rfl Tryd.underlying35 info97 rfl (by decide) _ 0 ks.length c (some ad) (kcells []) (kcells ks) rfl rfl (kcells_length ks) (kcells_one ks) (own_lit6 w w.heap.size (Nat.le_refl _)) HC.out (below_alloc (below_refl w) _) (below_alloc (below_refl w) _).size (by have := HL.out; omega) (by have := HL.out; omega) ?_))
    intro v1 w1 hown hbel hg hat
    go_wp2
    exact HR.out v1 w1 hown hbel
end Go.Proofs.YtaejlgdmalhhnaaDoor
/- Layer 4: a map from numbers to keys. -/
set_option linter.unusedVariables false
set_option linter.unusedSimpArgs false
namespace Go.Proofs.YtaejlgdmalhhnaaDoor
open Go.RowKit Go.Maps

/-- How a key reads. -/
def kd (k : Ky) : DataW Unit := .agg [.lit (.int .i64 k.id), .lit (.bool k.bl), .lit (.int .u8 k.kd), .lit (.bool k.af), .lit (.bool k.be), .lit (.int .i64 k.gr)]
def keyOfL : List Value → Option Ky
  | [.int .i64 i, .bool b, .int .u8 k, .bool a, .bool e, .int .i64 g] => some ⟨i, b, k, a, e, g⟩
  | _ => none
def keyR (v : Value) : Option (DataW Unit × List MemPlace) :=
  match v with
  | .agg c => (keyOfL c.toList).map fun k => (kd k, [])
  | _ => none
theorem keyR_mk (k : Ky) : keyR k.v = some (kd k, []) := rfl
theorem kd_inj {a b : Ky} (h : kd a = kd b) : a = b := by
  obtain ⟨i, b1, k, a1, e, g⟩ := a
  obtain ⟨i', b', k', a', e', g'⟩ := b
  simp [kd] at h
  obtain ⟨h1, h2, h3, h4, h5, h6⟩ := h
  subst h1 h2 h3 h4 h5 h6
  rfl
theorem keyOfL_inv {l : List Value} {k : Ky} (h : keyOfL l = some k) : l = k.cells := by
  unfold keyOfL at h
  split at h
  · cases h; rfl
  · cases h
theorem keyR_inv {v : Value} {k : Ky} {ps : List MemPlace} (h : keyR v = some (kd k, ps)) : v = k.v := by
  unfold keyR at h
  split at h
  · rename_i c
    cases hk : keyOfL c.toList with
    | none => rw [hk] at h; cases h
    | some k' =>
      rw [hk] at h
      simp only [Option.map_some, Option.some.injEq, Prod.mk.injEq] at h
      have := kd_inj h.1
      subst this
      have hc := keyOfL_inv hk
      unfold Ky.v
      congr 1
      apply Array.ext'
      exact hc
  · cases h
def zeroK : Ky := ⟨0, false, 0, false, false, 0⟩
/-- The key of a number among others; the zero one. -/
def findK (ks : List Ky) (id : Int) : Option Ky := ks.find? (fun k => k.id == id)
/-- A map that holds each key under its number. -/
def KMap (w : World) (b : Nat) (ks : List Ky) : Prop :=
  ∃ n D, w.ownsMap Tryd.prog 3 keyR b n D ∧ n ≤ ks.length ∧ IsMap D ∧ (∀ id, (Lit.int .i64 id).wf = true → Maps.has D (.int .i64 id) = (findK ks id).isSome ∧ D.atKey (.int .i64 id) (kd zeroK) = kd ((findK ks id).getD zeroK))
theorem zero97 (w : World) : (zeroValue 97).run Tryd.prog w = .ok zeroK.v w := by
  have h : (Tryd.prog.info? 97).map (fun i => i.zero) = some (some zeroK.v) := by kernel_rfl
  cases hi : Tryd.prog.info? 97 with
  | none => rw [hi] at h; cases h
  | some i =>
    rw [hi] at h
    simp at h
    have hz : Tryd.t97.zero = some zeroK.v := by kernel_rfl
    simp [zeroValue, run_program, hi, h, hz]
theorem keyed3 : Keyed Tryd.prog 3 := int_keyed Tryd.underlying3
theorem KMap.look {w : World} {b : Nat} {ks : List Ky} (h : KMap w b ks) {id : Int} (hw : (Lit.int .i64 id).wf = true) :
    (Instr.lookup 107 (.map (some b)) (.int .i64 id) true).run Tryd.prog w = .ok (.tuple #[((findK ks id).getD zeroK).v, .bool (findK ks id).isSome]) w := by
  obtain ⟨n, D, ho, hn, hm, hf⟩ := h
  obtain ⟨v, ps, hr, hv⟩ := ho.look_ok keyed3 Tryd.underlying107 (zero97 w) (keyR_mk zeroK) (keyOf_int_mk Tryd.underlying3 hw)
  obtain ⟨h1, h2⟩ := hf id hw
  rw [h2] at hv
  rw [keyR_inv hv, h1] at hr
  exact hr
theorem KMap.new (w : World) : KMap (w.alloc (.map #[] 0)) w.heap.size [] :=
  ⟨0, .map [], World.ownsMap_made w Tryd.prog 3 keyR, Nat.le_refl _, isMap_empty, fun id hw => ⟨rfl, rfl⟩⟩
theorem KMap.put {w : World} {b : Nat} {ks : List Ky} (h : KMap w b ks) {k : Ky} (hw : (Lit.int .i64 k.id).wf = true) (hl : ks.length < 1000) (hnew : findK ks k.id = none) :
    ∃ w', (Instr.mapUpdate 107 (.map (some b)) (.int .i64 k.id) k.v).run Tryd.prog w = .ok () w' ∧ KMap w' b (ks ++ [k]) ∧ w.grownBy w' (some b) := by
  obtain ⟨n, D, ho, hn, hm, hf⟩ := h
  obtain ⟨w', hr, ho', hg⟩ := ho.update keyed3 Tryd.underlying107 (by simp only [maxLen]; omega) (keyOf_int_mk Tryd.underlying3 hw) (keyR_mk k)
  refine ⟨w', hr, ⟨n + 1, _, ho', by simp; omega, hm.put _ _, fun id hi => ?_⟩, hg⟩
  have hk : WideAt.IsKeyLit (.int .i64 k.id) := keyed3.key (keyOf_int_mk Tryd.underlying3 hw)
  by_cases he : id = k.id
  · subst he
    have hfind : findK (ks ++ [k]) k.id = some k := by
      unfold findK at hnew ⊢
      rw [List.find?_append, hnew]; simp
    rw [hfind, has_put_same hm hk, atKey_put_same hm hk]
    exact ⟨rfl, rfl⟩
  · have hne : (Lit.int .i64 id) ≠ (Lit.int .i64 k.id) := fun h => he (by injection h)
    have hfind : findK (ks ++ [k]) id = findK ks id := by
      unfold findK
      rw [List.find?_append]
      have : List.find? (fun k => k.id == id) [k] = none := by simp; exact fun e => he e.symm
      rw [this]; simp
    rw [hfind, has_put_other hne, atKey_put_other hne]
    exact hf id hi
end Go.Proofs.YtaejlgdmalhhnaaDoor
/- Layer 4: New. -/
set_option linter.unusedVariables false
set_option linter.unusedSimpArgs false
namespace Go.Proofs.YtaejlgdmalhhnaaDoor
open Go.RowKit Go.Maps

/-- A row of keys that a slice shows. -/
def KSrc (w : World) (A : Option Addr) (ks : List Ky) : Prop := (A = none → ks = []) ∧ ∀ ad, A = some ad → ∀ j k, ks[j]? = some k → ∀ i v, k.cells[i]? = some v → w.cell? (ad.add (j * 6 + i)) = some v
def okPre (ks : List Ky) : Prop := (∀ k ∈ ks, mayK k = true) ∧ ks.Pairwise (fun a b => a.id ≠ b.id)
instance (ks : List Ky) : Decidable (okPre ks) := by unfold okPre; infer_instance
def okKs (ks : List Ky) : Bool := decide (ks.length ≤ 64) && decide (okPre ks)
theorem KSrc.cells {w : World} {A : Option Addr} {ks : List Ky} (h : KSrc w A ks) : Cells w A (kcells ks) := by
  intro h0
  rcases A with _ | ad
  · have := h.1 rfl; subst this; simp [kcells] at h0
  · refine ⟨ad, rfl, fun t u ht => ?_⟩
    have hl := (List.getElem?_eq_some_iff.1 ht).1
    rw [kcells_length] at hl
    have hj : t / 6 < ks.length := by omega
    have key : ∀ (l : List Ky) (t : Nat) (u : Value), (kcells l)[t]? = some u → ∃ k, l[t / 6]? = some k ∧ k.cells[t % 6]? = some u := by
      intro l
      induction l with
      | nil => intro t u h; simp [kcells] at h
      | cons k r ih =>
        intro t u h
        have e : kcells (k :: r) = k.cells ++ kcells r := by simp [kcells]
        rw [e] at h
        by_cases h6 : t < 6
        · rw [List.getElem?_append_left (by rw [cells_len]; exact h6)] at h
          refine ⟨k, ?_, ?_⟩
          · rw [Nat.div_eq_of_lt h6]; rfl
          · rw [Nat.mod_eq_of_lt h6]; exact h
        · rw [List.getElem?_append_right (by rw [cells_len]; omega), cells_len] at h
          obtain ⟨k', h1, h2⟩ := ih _ _ h
          refine ⟨k', ?_, ?_⟩
          · have : t / 6 = (t - 6) / 6 + 1 := by omega
            rw [this]; exact h1
          · have : t % 6 = (t - 6) % 6 := by omega
            rw [this]; exact h2
    obtain ⟨k, h1, h2⟩ := key ks t u ht
    have := h.2 ad rfl _ _ h1 _ _ h2
    have e : t / 6 * 6 + t % 6 = t := by omega
    rw [e] at this
    exact this
theorem own_form {w : World} {B n : Nat} {e : TypeId} {size : Nat} {v : Value} {xs : List Value} (h : w.ownsRow B e size v n xs) : ∃ A c, v = .slice A n c ∧ (∀ blk, v.ownBlock = some blk → blk < w.heap.size) := by
  have hlt : ∀ blk, v.ownBlock = some blk → blk < w.heap.size := by
    intro blk hb
    rcases h.2 with ⟨rfl, _⟩ | ⟨g, cap, cur, rfl, _, hh, _⟩
    · cases hb
    · cases hb
      exact (Array.getElem?_eq_some_iff.1 hh).1
  rcases Go.Joins.ownsRow_forms h with ⟨rfl, rfl⟩ | ⟨g, cap, rfl⟩
  · exact ⟨none, 0, rfl, hlt⟩
  · exact ⟨some ⟨g, 0, none⟩, cap, rfl, hlt⟩
/-- The six cells of one key of a row, as the walk spells them. -/
theorem KSrc.six {w : World} {ad : Addr} {ks : List Ky} (h : KSrc w (some ad) ks) {k : Nat} {x : Ky} (hk : ks[k]? = some x) :
    w.cell? (ad.add (k * 6)) = some (.int .i64 x.id) ∧ w.cell? ⟨(ad.add (k * 6)).block, (ad.add (k * 6)).off + 1, none⟩ = some (.bool x.bl) ∧ w.cell? ⟨(ad.add (k * 6)).block, (ad.add (k * 6)).off + 2, none⟩ = some (.int .u8 x.kd) ∧ w.cell? ⟨(ad.add (k * 6)).block, (ad.add (k * 6)).off + 3, none⟩ = some (.bool x.af) ∧ w.cell? ⟨(ad.add (k * 6)).block, (ad.add (k * 6)).off + 4, none⟩ = some (.bool x.be) ∧ w.cell? ⟨(ad.add (k * 6)).block, (ad.add (k * 6)).off + 5, none⟩ = some (.int .i64 x.gr) := by
  have g : ∀ i v, x.cells[i]? = some v → w.cell? ((ad.add (k * 6)).add i) = some v := by
    intro i v hi
    rw [addr_add_add]
    exact h.2 ad rfl k x hk i v hi
  exact ⟨g 0 _ rfl, g 1 _ rfl, g 2 _ rfl, g 3 _ rfl, g 4 _ rfl, g 5 _ rfl⟩
theorem KSrc.below {w w1 : World} {A : Option Addr} {ks : List Ky} (h : KSrc w A ks) (hb : Below w.heap.size w w1) : KSrc w1 A ks :=
  ⟨h.1, fun ad ha j k hj i v hi => cell_below hb (h.2 ad ha j k hj i v hi)⟩
theorem KMap.below {w w1 : World} {b : Nat} {ks : List Ky} (h : KMap w b ks) (hb : Below w.heap.size w w1) : KMap w1 b ks := by
  obtain ⟨n, D, ho, r⟩ := h
  exact ⟨n, D, ho.kept (row := none) ⟨hb.os, hb.tape, hb.output, hb.size, fun i hi _ => hb.block i hi⟩ (by simp), r⟩
structure NewAt (w w1 wr : World) (A1 : Option Addr) (c1 : Nat) (ks : List Ky) (k : Nat) : Prop where
  below : Below w.heap.size w wr
  c0 : wr.cell? ⟨w1.heap.size + 1, 0, none⟩ = some (.slice A1 ks.length c1)
  cm : wr.cell? ⟨w1.heap.size + 1, 1, none⟩ = some (.map (some w1.heap.size))
  map : KMap wr w1.heap.size (ks.take k)
  row : wr.ownsRow w.heap.size 97 6 (.slice A1 ks.length c1) ks.length (kcells ks)
  pre : okPre (ks.take k)
  size : w1.heap.size + 1 < wr.heap.size
end Go.Proofs.YtaejlgdmalhhnaaDoor
/- Layer 4: rows of keys, plain. -/
namespace Go.Proofs.YtaejlgdmalhhnaaDoor

theorem pw_ne {ks : List Ky} (h : ks.Pairwise (fun a b => a.id ≠ b.id)) {a b : Ky} (ha : a ∈ ks) (hb : b ∈ ks) (e : a.id = b.id) : a = b := by
  induction ks with
  | nil => cases ha
  | cons k r ih =>
    rw [List.pairwise_cons] at h
    rcases List.mem_cons.1 ha with rfl | ha' <;> rcases List.mem_cons.1 hb with rfl | hb'
    · rfl
    · exact absurd e (h.1 _ hb')
    · exact absurd e.symm (h.1 _ ha')
    · exact ih h.2 ha' hb'
theorem pw_perm {ks l : List Ky} (hp : l.Perm ks) (h : ks.Pairwise (fun a b => a.id ≠ b.id)) : l.Pairwise (fun a b => a.id ≠ b.id) :=
  (hp.pairwise_iff (R := fun a b : Ky => a.id ≠ b.id) (fun {_ _} h => Ne.symm h)).2 h
/-- Rows that rise strictly. -/
def risesK (l : List Ky) : Prop := l.Pairwise (fun a b => a.id < b.id)
theorem rises_of {ks l : List Ky} (hp : l.Perm ks) (hs : sortedK l) (h : ks.Pairwise (fun a b => a.id ≠ b.id)) : risesK l := by
  have h' := pw_perm hp h
  unfold sortedK at hs
  unfold risesK
  exact (hs.and h').imp (fun {a b} h => by have := h.1; have := h.2; omega)
theorem find_mem {ks : List Ky} {id : Int} {k : Ky} (h : findK ks id = some k) : k ∈ ks ∧ k.id = id := by
  unfold findK at h
  exact ⟨List.mem_of_find?_eq_some h, by have := List.find?_some h; simpa using this⟩
theorem find_of_mem {ks : List Ky} {k : Ky} (h : ks.Pairwise (fun a b => a.id ≠ b.id)) (hk : k ∈ ks) : findK ks k.id = some k := by
  cases e : findK ks k.id with
  | none =>
    unfold findK at e
    rw [List.find?_eq_none] at e
    have := e k hk
    simp at this
  | some k' =>
    obtain ⟨h1, h2⟩ := find_mem e
    rw [pw_ne h h1 hk h2]
theorem find_perm {ks l : List Ky} (hp : l.Perm ks) (h : ks.Pairwise (fun a b => a.id ≠ b.id)) (id : Int) : findK l id = findK ks id := by
  cases e : findK l id with
  | some k =>
    obtain ⟨h1, h2⟩ := find_mem e
    subst h2
    exact (find_of_mem h (hp.mem_iff.1 h1)).symm
  | none =>
    cases e' : findK ks id with
    | none => rfl
    | some k =>
      obtain ⟨h1, h2⟩ := find_mem e'
      subst h2
      rw [find_of_mem (pw_perm hp h) (hp.mem_iff.2 h1)] at e
      cases e
/-- Two rows of the same keys that rise are one. -/
theorem rises_unique {a b : List Ky} (hp : a.Perm b) (ha : risesK a) (hb : risesK b) : a = b := by
  induction a generalizing b with
  | nil => exact (List.nil_perm.1 hp).symm
  | cons x r ih =>
    cases b with
    | nil => exact absurd hp.symm (by simp)
    | cons y s =>
      unfold risesK at ha hb
      rw [List.pairwise_cons] at ha hb
      have hx : x = y ∨ x ∈ s := by
        have := hp.mem_iff.1 (List.mem_cons_self (a := x) (l := r)); simpa using this
      have hy : y = x ∨ y ∈ r := by
        have := hp.mem_iff.2 (List.mem_cons_self (a := y) (l := s)); simpa using this
      have e : x = y := by
        rcases hx with h | h
        · exact h
        · rcases hy with h' | h'
          · exact h'.symm
          · have h1 := hb.1 _ h
            have h2 := ha.1 _ h'
            omega
      subst e
      rw [ih (hp.cons_inv) ha.2 hb.2]
theorem filter_next {l : List Ky} (hr : risesK l) (i : Int) : l.filter (fun k => decide (k.id < i + 1)) = l.filter (fun k => decide (k.id < i)) ++ (findK l i).toList := by
  induction l with
  | nil => rfl
  | cons x r ih =>
    unfold risesK at hr
    rw [List.pairwise_cons] at hr
    have ih' := ih hr.2
    by_cases h1 : x.id < i
    · have e1 : findK (x :: r) i = findK r i := List.find?_cons_of_neg (by simp; omega)
      rw [e1, List.filter_cons_of_pos (by simp; omega), List.filter_cons_of_pos (by simp; omega), ih']; rfl
    · have hnil : ∀ j : Int, j ≤ x.id + 1 → r.filter (fun k => decide (k.id < j)) = [] := by
        intro j hj
        rw [List.filter_eq_nil_iff]
        intro k hk
        have := hr.1 k hk
        simp; omega
      by_cases h2 : x.id = i
      · have e1 : findK (x :: r) i = some x := List.find?_cons_of_pos (by simp; omega)
        rw [e1, List.filter_cons_of_pos (by simp; omega), List.filter_cons_of_neg (by simp; omega), hnil _ (by omega), hnil _ (by omega)]; rfl
      · have e1 : findK (x :: r) i = none := by
          unfold findK
          rw [List.find?_eq_none]
          intro k hk
          rcases List.mem_cons.1 hk with rfl | hk
          · simpa using h2
          · have := hr.1 k hk; simp; omega
        rw [e1, List.filter_cons_of_neg (by simp; omega), List.filter_cons_of_neg (by simp; omega), hnil _ (by omega), hnil _ (by omega)]; rfl
theorem filter_all {l : List Ky} (h : ∀ k ∈ l, mayK k = true) : l.filter (fun k => decide (k.id < 1001)) = l := by
  rw [List.filter_eq_self]
  intro k hk
  have := h k hk
  unfold mayK at this
  simp at this
  simp; omega
theorem filter_none {l : List Ky} (h : ∀ k ∈ l, mayK k = true) : l.filter (fun k => decide (k.id < 1)) = [] := by
  rw [List.filter_eq_nil_iff]
  intro k hk
  have := h k hk
  unfold mayK at this
  simp at this
  simp; omega
/-- The others of a key's group, off the row that rises. -/
def groupOf (l : List Ky) (g id : Int) : List Int := (l.filter (fun o => o.gr == g && !(o.id == id))).map (·.id)
def groupK (ks l : List Ky) (id : Int) : List Int := match findK ks id with
  | none => []
  | some k => if k.gr = 0 then [] else groupOf l k.gr id
theorem groupOf_snoc (l : List Ky) (x : Ky) (g id : Int) : groupOf (l ++ [x]) g id = groupOf l g id ++ if x.gr = g ∧ x.id ≠ id then [x.id] else [] := by
  unfold groupOf
  rw [List.filter_append, List.map_append]
  congr 1
  by_cases h : x.gr = g ∧ x.id ≠ id
  · rw [if_pos h, List.filter_cons_of_pos (by simp [h.1, h.2])]; rfl
  · rw [if_neg h, List.filter_cons_of_neg (by intro h'; apply h; simpa using h')]; rfl
theorem group_mem {ks l : List Ky} (hp : l.Perm ks) (h : ks.Pairwise (fun a b => a.id ≠ b.id)) {x y : Ky} (hx : x ∈ l) (hy : y ∈ l) :
    y.id ∈ groupK ks l x.id ↔ x.gr ≠ 0 ∧ y.gr = x.gr ∧ y.id ≠ x.id := by
  unfold groupK
  rw [find_of_mem h (hp.mem_iff.1 hx)]
  simp only
  by_cases h0 : x.gr = 0
  · rw [if_pos h0]; simp [h0]
  · rw [if_neg h0]
    unfold groupOf
    rw [List.mem_map]
    constructor
    · rintro ⟨o, ho, he⟩
      rw [List.mem_filter] at ho
      have := pw_ne (pw_perm hp h) ho.1 hy he
      subst this
      have := ho.2
      simp at this
      exact ⟨h0, this.1, this.2⟩
    · rintro ⟨_, h1, h2⟩
      exact ⟨y, by rw [List.mem_filter]; exact ⟨hy, by simp [h1, h2]⟩, rfl⟩
theorem group_sym {ks l : List Ky} (hp : l.Perm ks) (h : ks.Pairwise (fun a b => a.id ≠ b.id)) {x y : Ky} (hx : x ∈ l) (hy : y ∈ l) :
    (groupK ks l x.id).contains y.id = (groupK ks l y.id).contains x.id := by
  rw [Bool.eq_iff_iff, List.contains_iff_mem, List.contains_iff_mem, group_mem hp h hx hy, group_mem hp h hy hx]
  constructor
  · rintro ⟨h1, h2, h3⟩; exact ⟨by omega, h2.symm, fun e => h3 e.symm⟩
  · rintro ⟨h1, h2, h3⟩; exact ⟨by omega, h2.symm, fun e => h3 e.symm⟩
theorem group_self {ks l : List Ky} (hp : l.Perm ks) (h : ks.Pairwise (fun a b => a.id ≠ b.id)) {x : Ky} (hx : x ∈ l) : (groupK ks l x.id).contains x.id = false := by
  rw [Bool.eq_false_iff]
  intro hc
  rw [List.contains_iff_mem, group_mem hp h hx hx] at hc
  exact hc.2.2 rfl
/-- The document's test of a row of keys, as its loops go. -/
def docK (k : Ky) : Bool := decide (k.id < 1) || decide (1000 < k.id) || decide (k.kd < 1) || decide (4 < k.kd) || decide (k.gr < 0) || decide (8 < k.gr) || (!k.bl && !(k.gr == 0)) || (k.bl && k.be)
theorem docK_eq (k : Ky) : docK k = !mayK k := by
  obtain ⟨id, bl, kd, af, be, gr⟩ := k
  rw [Bool.eq_iff_iff]
  unfold docK mayK
  cases bl <;> cases be <;> simp <;> omega
theorem okPre_snoc (l : List Ky) (x : Ky) : okPre (l ++ [x]) ↔ okPre l ∧ mayK x = true ∧ findK l x.id = none := by
  unfold okPre
  rw [List.pairwise_append]
  constructor
  · rintro ⟨h1, h2, _, h4⟩
    refine ⟨⟨fun k hk => h1 k (by simp [hk]), h2⟩, h1 x (by simp), ?_⟩
    unfold findK
    rw [List.find?_eq_none]
    intro k hk
    have := h4 k hk x (by simp)
    simpa using this
  · rintro ⟨⟨h1, h2⟩, h3, h4⟩
    refine ⟨fun k hk => ?_, h2, by simp, fun a ha b hb => ?_⟩
    · rcases List.mem_append.1 hk with h | h
      · exact h1 k h
      · simp at h; subst h; exact h3
    · simp at hb; subst hb
      unfold findK at h4
      rw [List.find?_eq_none] at h4
      simpa using h4 a ha
theorem okPre_take_fail {ks : List Ky} {i : Nat} {x : Ky} (hi : ks[i]? = some x) (h : ¬ (mayK x = true ∧ findK (ks.take i) x.id = none)) : ¬ okPre ks := by
  intro ho
  apply h
  have hlt := (List.getElem?_eq_some_iff.1 hi).1
  have ht : ks.take (i + 1) = ks.take i ++ [x] := by rw [List.take_succ_eq_append_getElem hlt, (List.getElem?_eq_some_iff.1 hi).2]
  have hs : okPre (ks.take (i + 1)) := ⟨fun k hk => ho.1 k (List.mem_of_mem_take hk), ho.2.sublist (List.take_sublist _ _)⟩
  rw [ht, okPre_snoc] at hs
  exact hs.2
end Go.Proofs.YtaejlgdmalhhnaaDoor
/- What stays: blocks of a range; a look-up by its run equation; a schema in memory. -/
set_option linter.unusedVariables false
set_option linter.unusedSimpArgs false
namespace Go.Proofs.YtaejlgdmalhhnaaDoor
open Go.RowKit Go.Maps

/-- The blocks from lo up to hi are as they were. -/
structure Stays (lo hi : Nat) (w w' : World) : Prop where
  size : w.heap.size ≤ w'.heap.size
  block : ∀ k, lo ≤ k → k < hi → w'.heap[k]? = w.heap[k]?
theorem Stays.of_below {lo hi : Nat} {w w' : World} (hb : Below w.heap.size w w') (h : hi ≤ w.heap.size) : Stays lo hi w w' := ⟨hb.size, fun k _ hk => hb.block k (by omega)⟩
theorem Stays.of_below' {B lo hi : Nat} {w w' : World} (hb : Below B w w') (h : hi ≤ B) : Stays lo hi w w' := ⟨hb.size, fun k _ hk => hb.block k (by omega)⟩
theorem Stays.of_grown {lo hi : Nat} {w w' : World} {row : Option Nat} (hg : w.grownBy w' row) (h : hi ≤ w.heap.size) (hr : ∀ k, row = some k → k < lo ∨ hi ≤ k) : Stays lo hi w w' :=
  ⟨hg.size, fun k h1 h2 => hg.block k (by omega) (fun e => by have := hr k e.symm; omega)⟩
theorem Stays.trans {lo hi : Nat} {a b c : World} (h : Stays lo hi a b) (k : Stays lo hi b c) : Stays lo hi a c := ⟨Nat.le_trans h.size k.size, fun i h1 h2 => (k.block i h1 h2).trans (h.block i h1 h2)⟩
theorem Stays.cell {lo hi : Nat} {w w' : World} (h : Stays lo hi w w') {a : Addr} (h1 : lo ≤ a.block) (h2 : a.block < hi) : w'.cell? a = w.cell? a := World.cell?_of_block (h.block _ h1 h2)
theorem Stays.setCell {lo hi : Nat} (w : World) {a : Addr} (v : Value) (h : a.block < lo ∨ hi ≤ a.block) : Stays lo hi w (w.setCell a v) :=
  ⟨by simp [World.setCell], fun k h1 h2 => Below.heap_setCell _ _ _ _ (by omega)⟩
theorem KMap.stays {lo hi : Nat} {w w' : World} {b : Nat} {ks : List Ky} (h : KMap w b ks) (hs : Stays lo hi w w') (h1 : lo ≤ b) (h2 : b < hi) : KMap w' b ks := by
  obtain ⟨n, D, ⟨es, clock, hh, r⟩, q⟩ := h
  exact ⟨n, D, ⟨es, clock, (hs.block b h1 h2).trans hh, r⟩, q⟩
theorem KMap.grown {w w' : World} {row : Option Nat} {b : Nat} {ks : List Ky} (h : KMap w b ks) (hg : w.grownBy w' row) (hne : some b ≠ row) : KMap w' b ks := by
  obtain ⟨n, D, ho, r⟩ := h
  exact ⟨n, D, ho.kept hg hne, r⟩
theorem KMap.lt {w : World} {b : Nat} {ks : List Ky} (h : KMap w b ks) : b < w.heap.size := by
  obtain ⟨n, D, ho, r⟩ := h
  exact ho.lt
theorem addr_block (a : Addr) (n : Nat) : (a.add n).block = a.block := by unfold Addr.add; split <;> rfl
theorem KSrc.stays {lo hi : Nat} {w w' : World} {A : Option Addr} {ks : List Ky} (h : KSrc w A ks) (hs : Stays lo hi w w') (ha : ∀ a, A = some a → lo ≤ a.block ∧ a.block < hi) : KSrc w' A ks := by
  refine ⟨h.1, fun ad he j k hj i v hi => ?_⟩
  have := ha ad he
  rw [hs.cell (by rw [addr_block]; omega) (by rw [addr_block]; omega)]
  exact h.2 ad he j k hj i v hi
theorem setCell_grown (w : World) (a : Addr) (v : Value) : w.grownBy (w.setCell a v) (some a.block) :=
  ⟨rfl, rfl, rfl, by simp [World.setCell], fun k _ hk => Below.heap_setCell _ _ _ _ (fun e => hk (by rw [e]))⟩

section
variable {P : Program} {ops : Array Oper} {rest : List Oper} {o : Oper} {a : Act} {w : World} {Q : Exit → Act → World → Prop}
/-- A look-up, by its run equation. -/
theorem lookup_run (hg : o.guard = none) (m x : Operand) (t : TypeId) (mv kv v : Value) (hop : o.op = Op.lookup t m x true) (hm : a.eval m = mv) (hx : a.eval x = kv) (hrun : (Instr.lookup t mv kv true).run P w = .ok v w)
    (hK : wpList P ops Q rest (a.put o.dst v) w) : wpList P ops Q (o :: rest) a w := by
  refine wpList_plain hg fun K' hK' => ?_
  unfold Oper.wp
  simp [execOp, hop, hm, hx, hrun, Result.andThen]
  exact hK' _ _ hK
end

section
variable {P : Program} {ops : Array Oper} {rest : List Oper} {o : Oper} {a : Act} {Q : Exit → Act → World → Prop}
/-- append(v, y0, y1, ..), the box's block spelled as the walk has it. -/
theorem app_lit2 {w0 W : World} (g base : Nat) (hg : g = W.heap.size) (hgd : o.guard = none) (s x : Operand) (t e : TypeId) (z : Value) (size bytes : Nat) (cs : Array Value)
    (ho : o.op = .call { callee := .builtin .append, args := #[s, x], argTypes := #[t, t] })
    (ht : P.underlying t = some (.slice e)) (hinfo : (P.info? e).map (fun i => (i.zero, i.size, i.bytes)) = some (some z, size, bytes)) (hz : z.cells.size = size) (hsz : 0 < size)
    (v : Value) (n m : Nat) (xs ys : List Value) (hs : a.eval s = v) (hx : a.eval x = .slice (some ⟨g, 0, none⟩) m m) (hcs : cs.toList = ys) (hy : ys.length = m * size) (h1 : ∀ u ∈ ys, u.oneCell' = true)
    (HO : W.ownsRow base e size v n xs) (HB : Below base w0 W) (hbase : base ≤ W.heap.size) (h63 : n + m ≤ 9223372036854775807) (hl : (n + m) * bytes ≤ 140737488355328)
    (h : ∀ v1 w1, w1.ownsRow base e size v1 (n + m) (xs ++ ys) → Below base w0 w1 → W.grownBy w1 v.ownBlock → (v1.ownBlock = v.ownBlock ∨ ∃ b, v1.ownBlock = some b ∧ W.heap.size ≤ b) → wpList P ops Q rest (a.put o.dst v1) w1) :
    wpList P ops Q (o :: rest) a (W.alloc (.cells cs e)) := by
  subst hg
  exact app_lit base hgd s x t e z size bytes cs ho ht hinfo hz hsz v n m xs ys hs hx hcs hy h1 HO HB hbase h63 hl h
end
/-- What a field of map type holds: nil, or a map of keys. -/
def MapV (lo hi : Nat) (w : World) (m : Value) (ks : List Ky) : Prop := (m = .map none ∧ ks = []) ∨ ∃ b, m = .map (some b) ∧ lo ≤ b ∧ b < hi ∧ KMap w b ks
theorem MapV.stays {lo hi : Nat} {w w' : World} {m : Value} {ks : List Ky} (h : MapV lo hi w m ks) (hs : Stays lo hi w w') : MapV lo hi w' m ks := by
  rcases h with ⟨rfl, rfl⟩ | ⟨b, rfl, h1, h2, hk⟩
  · exact .inl ⟨rfl, rfl⟩
  · exact .inr ⟨b, rfl, h1, h2, hk.stays hs h1 h2⟩
theorem MapV.look {lo hi : Nat} {w : World} {m : Value} {ks : List Ky} (h : MapV lo hi w m ks) {id : Int} (hw : (Lit.int .i64 id).wf = true) :
    (Instr.lookup 107 m (.int .i64 id) true).run Tryd.prog w = .ok (.tuple #[((findK ks id).getD zeroK).v, .bool (findK ks id).isSome]) w := by
  rcases h with ⟨rfl, rfl⟩ | ⟨b, rfl, _, _, hk⟩
  · exact look_nil (w := w) true keyed3 Tryd.underlying107 (zero97 w) (keyOf_int_mk Tryd.underlying3 hw)
  · exact hk.look hw
/-- A schema that is there: its two fields. -/
structure SchAt (lo hi : Nat) (w : World) (g : Nat) (A : Option Addr) (c : Nat) (m : Value) (ks srt : List Ky) : Prop where
  ge : lo ≤ g
  lt : g < hi
  top : hi ≤ w.heap.size
  c0 : w.cell? ⟨g, 0, none⟩ = some (.slice A srt.length c)
  cm : w.cell? ⟨g, 1, none⟩ = some m
  map : MapV lo hi w m ks
  src : KSrc w A srt
  at_ : ∀ a, A = some a → lo ≤ a.block ∧ a.block < hi
  nil : A = none → srt = [] ∧ c = 0
  cap : srt.length ≤ c
theorem SchAt.stays {lo hi : Nat} {w w' : World} {g : Nat} {A : Option Addr} {c : Nat} {m : Value} {ks srt : List Ky} (h : SchAt lo hi w g A c m ks srt) (hs : Stays lo hi w w') : SchAt lo hi w' g A c m ks srt :=
  ⟨h.ge, h.lt, Nat.le_trans h.top hs.size, (hs.cell h.ge h.lt).trans h.c0, (hs.cell h.ge h.lt).trans h.cm, h.map.stays hs, h.src.stays hs h.at_, h.at_, h.nil, h.cap⟩
/-- What a value of type *Schema stands for: its keys as they came, and by rising IDs. -/
def Sch (lo hi : Nat) (w : World) (v : Value) (ks srt : List Ky) : Prop :=
  (v = .pointer none ∧ ks = [] ∧ srt = []) ∨ ∃ g A c m, v = .pointer (some ⟨g, 0, none⟩) ∧ SchAt lo hi w g A c m ks srt
theorem Sch.stays {lo hi : Nat} {w w' : World} {v : Value} {ks srt : List Ky} (h : Sch lo hi w v ks srt) (hs : Stays lo hi w w') : Sch lo hi w' v ks srt := by
  rcases h with h | ⟨g, A, c, m, hv, h⟩
  · exact .inl h
  · exact .inr ⟨g, A, c, m, hv, h.stays hs⟩
theorem Sch.below {lo hi : Nat} {w w' : World} {v : Value} {ks srt : List Ky} (h : Sch lo hi w v ks srt) (hb : Below w.heap.size w w') : Sch lo hi w' v ks srt := by
  rcases h with h | ⟨g, A, c, m, hv, h⟩
  · exact .inl h
  · exact .inr ⟨g, A, c, m, hv, h.stays (Stays.of_below hb h.top)⟩
end Go.Proofs.YtaejlgdmalhhnaaDoor
