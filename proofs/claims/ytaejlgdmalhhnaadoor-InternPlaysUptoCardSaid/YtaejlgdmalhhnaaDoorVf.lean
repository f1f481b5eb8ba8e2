/- Layer 3: Number and Less. -/
import Derived.Test.YtaejlgdmalhhnaaDoorVe
import Derived.BigQuiet
set_option linter.unusedVariables false
namespace Go.Proofs.YtaejlgdmalhhnaaDoor
open Go.RowKit

def Box (w : World) (g : Nat) (a : Val) : Prop :=
  w.cell? ⟨g, 0, none⟩ = some (.int .u8 a.k) ∧ w.cell? ⟨g, 1, none⟩ = some (.int .i64 a.n) ∧ w.cell? ⟨g, 2, none⟩ = some (.int .u64 (a.f : Int)) ∧ w.cell? ⟨g, 3, none⟩ = some (.string a.s)
theorem Box.below {w w1 : World} {g : Nat} {a : Val} (h : Box w g a) (hb : Below w.heap.size w w1) : Box w1 g a :=
  ⟨cell_below hb h.1, cell_below hb h.2.1, cell_below hb h.2.2.1, cell_below hb h.2.2.2⟩
def Val.obj (v : Val) : Obj := .cells #[.int .u8 v.k, .int .i64 v.n, .int .u64 (v.f : Int), .string v.s] 56
theorem Box.new (w : World) (a : Val) : Box (w.alloc a.obj) w.heap.size a := by
  refine ⟨?_, ?_, ?_, ?_⟩ <;> (unfold Val.obj; simp [go_sem])
def numB (v : Val) : Option Nat := if mayV v then (if v.k = 3 then some v.f else if v.k = 2 then some (floatOfInt .f64 v.n) else none) else none
theorem numB_no {v : Val} (h : mayV v = false) : numB v = none := by unfold numB; rw [h]; rfl
theorem numB_3 {v : Val} (h : mayV v = true) (k : v.k = 3) : numB v = some v.f := by unfold numB; rw [h, if_pos rfl, if_pos k]
theorem numB_2 {v : Val} (h : mayV v = true) (k : v.k = 2) : numB v = some (floatOfInt .f64 v.n) := by unfold numB; rw [h, if_pos rfl, if_neg (by omega), if_pos k]
theorem numB_else {v : Val} (k3 : v.k ≠ 3) (k2 : v.k ≠ 2) : numB v = none := by unfold numB; rw [if_neg k3, if_neg k2]; simp
set_option maxRecDepth 100000 in
theorem number_any (v : Val) (w : World) (hT : Lib.Utf8Tabs 1 2 w) : Calls Tryd.prog 45 #[v.v] w fun e w' => e = .returned (.tuple #[.float .f64 ((numB v).getD 0), .bool (numB v).isSome]) ∧ Below w.heap.size w w' := by
  have HM := Aside.mk (fun w' (hb : Below w.heap.size w w') => mayV_any v w' (tabs_below hT hb))
  have HX := Aside.mk (Box.new w v)
  have hb0 := below_alloc (below_refl w) v.obj
  have C1 := Aside.mk (HM.out _ hb0)
  by_cases hm : mayV v = true
  · have HM := Aside.mk hm
    rw [hm] at C1
    by_cases h3 : v.k = 3
    · rw [numB_3 hm h3]
      clear hT hm
      obtain ⟨k, n, f, s⟩ := v
      simp only at h3
      subst h3
      have h52 := call52 f
      have hb0 := Aside.mk hb0
      unfold Val.v at C1 ⊢
      unfold Val.obj at C1 HX hb0
      go_enter Tryd.func45, Tryd.ntmps45
      go_wp2_with fail
      (with_reducible refine C1.out.mono ?_)
      rintro e w1 ⟨rfl, hb1⟩
      obtain ⟨c0, c1, c2, c3⟩ := HX.out.below hb1
      have Hb := Aside.mk (below_then hb0.out hb1)
      clear hb1
      simp only at c0 c1 c2 c3
      go_wp2
      exact bodyPost_ret (v := .tuple #[.float .f64 f, .bool true]) (by simp [results, Tryd.results45, go_sem]) rfl ⟨rfl, Hb.out⟩
    by_cases h2 : v.k = 2
    · rw [numB_2 hm h2]
      clear hT hm h3
      obtain ⟨k, n, f, s⟩ := v
      simp only at h2
      subst h2
      have hb0 := Aside.mk hb0
      unfold Val.v at C1 ⊢
      unfold Val.obj at C1 HX hb0
      go_enter Tryd.func45, Tryd.ntmps45
      go_wp2_with fail
      (with_reducible refine C1.out.mono ?_)
      rintro e w1 ⟨rfl, hb1⟩
      obtain ⟨c0, c1, c2, c3⟩ := HX.out.below hb1
      have Hb := Aside.mk (below_then hb0.out hb1)
      clear hb1
      simp only at c0 c1 c2 c3
      go_wp2
      exact bodyPost_ret (v := .tuple #[.float .f64 (floatOfInt .f64 n), .bool true]) (by simp [results, Tryd.results45, go_sem]) rfl ⟨rfl, Hb.out⟩
    · rw [numB_else h3 h2]
      clear hT hm
      obtain ⟨k, n, f, s⟩ := v
      simp only at h2 h3
      have e3 : (k == 3) = false := beq_eq_false_iff_ne.2 h3
      have e2 : (k == 2) = false := beq_eq_false_iff_ne.2 h2
      have hb0 := Aside.mk hb0
      clear h2 h3
      unfold Val.v at C1 ⊢
      unfold Val.obj at C1 HX hb0
      go_enter Tryd.func45, Tryd.ntmps45
      go_wp2_with fail
      (with_reducible refine C1.out.mono ?_)
      rintro e w1 ⟨rfl, hb1⟩
      obtain ⟨c0, c1, c2, c3⟩ := HX.out.below hb1
      have Hb := Aside.mk (below_then hb0.out hb1)
      clear hb1
      simp only at c0 c1 c2 c3
      go_wp2
      exact bodyPost_ret (v := .tuple #[.float .f64 0, .bool false]) (by simp [results, Tryd.results45, go_sem]) rfl ⟨rfl, Hb.out⟩
  · have hm : mayV v = false := by simpa using hm
    rw [hm] at C1
    rw [numB_no hm]
    clear hT hm
    obtain ⟨k, n, f, s⟩ := v
    have hb0 := Aside.mk hb0
    unfold Val.v at C1 ⊢
    unfold Val.obj at C1 HX hb0
    go_enter Tryd.func45, Tryd.ntmps45
    go_wp2_with fail
    (with_reducible refine C1.out.mono ?_)
    rintro e w1 ⟨rfl, hb1⟩
    have Hb := Aside.mk (below_then hb0.out hb1)
    clear hb1
    go_wp2
    exact bodyPost_ret (v := .tuple #[.float .f64 0, .bool false]) (by simp [results, Tryd.results45, go_sem]) rfl ⟨rfl, Hb.out⟩

def lessF (x y : Nat) : Bool :=
  if nanB x then false else if nanB y then true else if Ieee.double.order x y == some .eq then signB x && !signB y else Ieee.double.order x y == some .lt
def lessV (a b : Val) : Bool :=
  if mayV a && mayV b then
    (if a.k = b.k then (if a.k = 4 then Op.bytesLess a.s.toList b.s.toList else if a.k = 3 then lessF a.f b.f else decide (a.n < b.n)) else decide (a.k < b.k))
  else false
end Go.Proofs.YtaejlgdmalhhnaaDoor
