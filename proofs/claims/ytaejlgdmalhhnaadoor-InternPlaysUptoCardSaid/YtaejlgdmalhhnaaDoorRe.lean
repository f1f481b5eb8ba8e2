/- Layer 1: utf8.word, utf8.Valid over slices of bytes. After the guide's walk of utf8.ValidString, turned to slices. -/
import Derived.Test.YtaejlgdmalhhnaaDoorRd
import Derived.Lib.ValidAsc
import Derived.Lib.EndianBits
import Derived.Lib.Endian
import Derived.Shelf.Unicode.DecodeSlow
import Derived.Laws.BitsAllLaws
import Derived.Deep.CutBlock
import Derived.Deep.DeepCutAuto
set_option linter.unusedVariables false
namespace Go.Proofs.YtaejlgdmalhhnaaDoor
open Go.RowKit

/-- Bytes as whole numbers. -/
def ints (l : List UInt8) : List Int := l.map fun b => (b.toNat : Int)
theorem ints_length (l : List UInt8) : (ints l).length = l.length := by simp [ints]
theorem ints_getD (l : List UInt8) (j : Nat) : (ints l).getD j 0 = ((l.getD j 0).toNat : Int) := by
  rcases Nat.lt_or_ge j l.length with h | h
  · simp [ints, List.getD_eq_getElem?_getD, List.getElem?_eq_getElem h]
  · simp [ints, List.getD_eq_getElem?_getD, List.getElem?_eq_none h]
theorem ints_drop (l : List UInt8) (k : Nat) : ints (l.drop k) = (ints l).drop k := by simp [ints, List.map_drop]
theorem ints_append (a b : List UInt8) : ints (a ++ b) = ints a ++ ints b := by simp [ints]

/-- A list of whole numbers as bytes. -/
def toU (l : List Int) : List UInt8 := l.map fun n => UInt8.ofNat n.toNat
theorem ints_toU {l : List Int} (h : ∀ x ∈ l, 0 ≤ x ∧ x < 256) : ints (toU l) = l := by
  simp only [ints, toU, List.map_map]
  conv => rhs; rw [← List.map_id l]
  apply List.map_congr_left
  intro x hx
  have := h x hx
  simp [UInt8.toNat_ofNat']
  omega
/-- A slice of bytes that is read. -/
def Bs (w : World) (A : Option Addr) (l : List UInt8) : Prop := Nums w .u8 A (ints l)
theorem Bs.below {w w1 : World} {A : Option Addr} {l : List UInt8} (h : Bs w A l) (hb : Below w.heap.size w w1) : Bs w1 A l := Nums.below h hb
theorem Bs.len {w : World} {A : Option Addr} {l : List UInt8} (h : Bs w A l) : l.length ≤ 9223372036854775807 := by have := h.1; rwa [ints_length] at this
theorem Bs.at_ {w : World} {A : Option Addr} {l : List UInt8} (h : Bs w A l) {i : Nat} (hi : i < l.length) : ∃ ad, A = some ad ∧ w.cell? (ad.add i) = some (.int .u8 ((l.getD i 0).toNat : Int)) := by
  obtain ⟨ad, e, hc⟩ := Nums.at_ h (i := i) (by rw [ints_length]; exact hi)
  rw [ints_getD] at hc
  exact ⟨ad, e, hc⟩
/-- At a literal index from 1 on, as the walk spells the address. -/
theorem Bs.lit {w : World} {ad : Addr} {l : List UInt8} (h : Bs w (some ad) l) (i : Nat) (hi : i + 1 < l.length) : w.cell? ⟨ad.block, ad.off + (i + 1), none⟩ = some (.int .u8 ((l.getD (i + 1) 0).toNat : Int)) := by
  obtain ⟨ad', e, hc⟩ := h.at_ hi
  cases e
  unfold Addr.add at hc
  rw [if_neg (by omega)] at hc
  exact hc
theorem Bs.lit1 {w : World} {ad : Addr} {l : List UInt8} (h : Bs w (some ad) l) (hi : 1 < l.length) : w.cell? ⟨ad.block, ad.off + 1, none⟩ = some (.int .u8 ((l.getD 1 0).toNat : Int)) := h.lit 0 hi
theorem Bs.lit2 {w : World} {ad : Addr} {l : List UInt8} (h : Bs w (some ad) l) (hi : 2 < l.length) : w.cell? ⟨ad.block, ad.off + 2, none⟩ = some (.int .u8 ((l.getD 2 0).toNat : Int)) := h.lit 1 hi
theorem Bs.lit3 {w : World} {ad : Addr} {l : List UInt8} (h : Bs w (some ad) l) (hi : 3 < l.length) : w.cell? ⟨ad.block, ad.off + 3, none⟩ = some (.int .u8 ((l.getD 3 0).toNat : Int)) := h.lit 2 hi
theorem Bs.cut {w : World} {A : Option Addr} {l : List UInt8} (h : Bs w A l) (k c : Nat) (hk : k ≤ l.length) (hc : l.length ≤ c) : Bs w (if c = k then A else A.map (·.add k)) (l.drop k) := by
  unfold Bs
  rw [ints_drop]
  exact Nums.drop h k c (by rw [ints_length]; exact hc) (by rw [ints_length]; exact hk)

theorem bytes_of_nums {w : World} {A : Option Addr} {xs : List Int} {c : Nat} (h : Nums w .u8 A xs) (hw : ∀ x ∈ xs, (Lit.int .u8 x).wf = true) (hc : xs.length ≤ c) :
    ∃ b : List UInt8, xs = ints b ∧ Bs w A b ∧ b.length ≤ c := by
  have hr : ∀ x ∈ xs, 0 ≤ x ∧ x < 256 := fun x hx => by
    have := hw x hx
    simp [Lit.wf, IntKind.min, IntKind.max, IntKind.signed, IntKind.bits] at this
    omega
  refine ⟨toU xs, (ints_toU hr).symm, by unfold Bs; rw [ints_toU hr]; exact h, by simpa [toU] using hc⟩
/-- 'p[k:]' at a slice whose capacity is its length. -/
theorem cut_bs {A : Option Addr} {l : List UInt8} (k : Nat) (hk : k ≤ l.length) :
    ∃ A1 : Option Addr, (∀ W : World, (Instr.slice 23 (.slice A l.length l.length) (some (.int .i64 (k : Int))) none none).run Tryd.prog W = .ok (.slice A1 (l.drop k).length (l.drop k).length) W) ∧
      ∀ w, Bs w A l → Bs w A1 (l.drop k) := by
  obtain ⟨i0, hi, hzz⟩ := Option.map_eq_some_iff.1 info5
  simp only [Prod.mk.injEq] at hzz
  obtain ⟨_, hz1, _⟩ := hzz
  refine ⟨if l.length = k then A else A.map (·.add k), fun W => ?_, fun w h => h.cut k l.length hk (Nat.le_refl _)⟩
  have hel : Tryd.prog.elem 23 = 5 := by simp [Program.elem, Tryd.underlying23]
  have hu : Tryd.prog.underlying 23 = some (.slice (Tryd.prog.elem 23)) := by rw [hel]; exact Tryd.underlying23
  rw [run_slice_l W 23 A l.length l.length hu .i64 (k : Int) (Int.natCast_nonneg _) (by omega), hel, List.length_drop]
  simp [sizeOf, typeInfo, hi, hz1, sliced, Result.andThen]

set_option maxHeartbeats 8000000 in
set_option maxRecDepth 100000 in
theorem word_any (A : Option Addr) (s : List UInt8) (c : Nat) (w : World) (hB : Bs w A s) (hs : 8 ≤ s.length) :
    Calls Tryd.prog 100 #[.slice A s.length c] w fun e w' => e = .returned (.int .u64 (Lib.leNat (s.take 8))) ∧ ∃ q, w' = w.drewN q := by
  obtain ⟨ad, rfl, c0⟩ := hB.at_ (i := 0) (by omega)
  have c1 := hB.lit 0 (by omega)
  have c2 := hB.lit 1 (by omega)
  have c3 := hB.lit 2 (by omega)
  have c4 := hB.lit 3 (by omega)
  have c5 := hB.lit 4 (by omega)
  have c6 := hB.lit 5 (by omega)
  have c7 := hB.lit 6 (by omega)
  simp only [Nat.zero_add, Nat.reduceAdd] at c1 c2 c3 c4 c5 c6 c7
  have c0' : w.cell? ad = some (.int .u8 ((s.getD 0 0).toNat : Int)) := c0
  have ht : s.take 8 = [s.getD 0 0, s.getD 1 0, s.getD 2 0, s.getD 3 0, s.getD 4 0, s.getD 5 0, s.getD 6 0, s.getD 7 0] := by
    match s, hs with
    | a0 :: a1 :: a2 :: a3 :: a4 :: a5 :: a6 :: a7 :: r, _ => simp
  have hlen : (8 : Int) ≤ (s.length : Int) := by omega
  clear hB
  obtain ⟨x0, hx0⟩ : ∃ x, s.getD 0 0 = x := ⟨_, rfl⟩
  obtain ⟨x1, hx1⟩ : ∃ x, s.getD 1 0 = x := ⟨_, rfl⟩
  obtain ⟨x2, hx2⟩ : ∃ x, s.getD 2 0 = x := ⟨_, rfl⟩
  obtain ⟨x3, hx3⟩ : ∃ x, s.getD 3 0 = x := ⟨_, rfl⟩
  obtain ⟨x4, hx4⟩ : ∃ x, s.getD 4 0 = x := ⟨_, rfl⟩
  obtain ⟨x5, hx5⟩ : ∃ x, s.getD 5 0 = x := ⟨_, rfl⟩
  obtain ⟨x6, hx6⟩ : ∃ x, s.getD 6 0 = x := ⟨_, rfl⟩
  obtain ⟨x7, hx7⟩ : ∃ x, s.getD 7 0 = x := ⟨_, rfl⟩
  rw [hx0, hx1, hx2, hx3, hx4, hx5, hx6, hx7] at ht
  rw [hx0] at c0 c0'; rw [hx1] at c1; rw [hx2] at c2; rw [hx3] at c3; rw [hx4] at c4; rw [hx5] at c5; rw [hx6] at c6; rw [hx7] at c7
  have h0 := x0.toNat_lt; have h1 := x1.toNat_lt; have h2 := x2.toNat_lt; have h3 := x3.toNat_lt
  have h4 := x4.toNat_lt; have h5 := x5.toNat_lt; have h6 := x6.toNat_lt; have h7 := x7.toNat_lt
  rw [ht]
  clear ht hx0 hx1 hx2 hx3 hx4 hx5 hx6 hx7
  have hv : Hid (((Lib.leNat [x0, x1, x2, x3, x4, x5, x6, x7] : Nat) : Int) = (x0.toNat : Int) + (x1.toNat : Int) * 256 + (x2.toNat : Int) * 65536 + (x3.toNat : Int) * 16777216 + (x4.toNat : Int) * 4294967296 + (x5.toNat : Int) * 1099511627776 + (x6.toNat : Int) * 281474976710656 + (x7.toNat : Int) * 72057594037927936) := by
    refine Lib.hid ?_
    simp only [Lib.leNat]
    push_cast
    omega
  have q0 : (0 : Int) < (s.length : Int) := by omega
  have p0 : 0 < s.length := by omega
  have q1 : (1 : Int) < (s.length : Int) := by omega
  have p1 : 1 < s.length := by omega
  have q2 : (2 : Int) < (s.length : Int) := by omega
  have p2 : 2 < s.length := by omega
  have q3 : (3 : Int) < (s.length : Int) := by omega
  have p3 : 3 < s.length := by omega
  have q4 : (4 : Int) < (s.length : Int) := by omega
  have p4 : 4 < s.length := by omega
  have q5 : (5 : Int) < (s.length : Int) := by omega
  have p5 : 5 < s.length := by omega
  have q6 : (6 : Int) < (s.length : Int) := by omega
  have p6 : 6 < s.length := by omega
  have q7 : (7 : Int) < (s.length : Int) := by omega
  have p7 : 7 < s.length := by omega
  go_enter Tryd.func100, Tryd.ntmps100
  go_wp2
  go_quiet (fail)
  go_wp2
  go_ret
  refine ⟨?_, _, rfl⟩
  simp (disch := omega) only [u64_or8, u64_or16, u64_or24, u64_or32, u64_or40, u64_or48, u64_or56]
  rw [hv.out]
  rfl
end Go.Proofs.YtaejlgdmalhhnaaDoor
