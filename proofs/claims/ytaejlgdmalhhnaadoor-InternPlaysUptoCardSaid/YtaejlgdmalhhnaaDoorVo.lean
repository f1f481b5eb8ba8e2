/- Layer 3: ValueOrder. -/
import Derived.Test.YtaejlgdmalhhnaaDoorVn
set_option linter.unusedVariables false
set_option linter.unusedSimpArgs false
namespace Go.Proofs.YtaejlgdmalhhnaaDoor
open Go.RowKit

/-- Three boxes that the call laid. -/
def Three (w W : World) (a b c : Val) : Prop := Box W w.heap.size a ∧ Box W (w.heap.size + 1) b ∧ Box W (w.heap.size + 2) c ∧ Below w.heap.size w W
theorem Three.next {w W W1 : World} {a b c : Val} (h : Three w W a b c) (hb : Below W.heap.size W W1) : Three w W1 a b c :=
  ⟨h.1.below hb, h.2.1.below hb, h.2.2.1.below hb, below_then h.2.2.2 hb⟩
theorem Three.new (w : World) (a b c : Val) : Three w (((w.alloc a.obj).alloc b.obj).alloc c.obj) a b c := by
  have hb : Below ((w.alloc a.obj).alloc b.obj).heap.size ((w.alloc a.obj).alloc b.obj) (((w.alloc a.obj).alloc b.obj).alloc c.obj) := below_alloc (below_refl _) _
  refine ⟨(two_a w a b).below hb, (two_b w a b).below hb, ?_, below_then (two_below w a b) hb⟩
  have h := Box.new ((w.alloc a.obj).alloc b.obj) c
  rw [World.size_alloc, World.size_alloc] at h
  exact h
/-- The facts of the three boxes as cells. -/
abbrev Cells3 (w W : World) (k n : Int) (f : Nat) (s : ByteArray) (k' n' : Int) (f' : Nat) (s' : ByteArray) (k'' n'' : Int) (f'' : Nat) (s'' : ByteArray) : Prop :=
  W.cell? ⟨w.heap.size, 0, none⟩ = some (.int .u8 k) ∧ W.cell? ⟨w.heap.size, 1, none⟩ = some (.int .i64 n) ∧ W.cell? ⟨w.heap.size, 2, none⟩ = some (.int .u64 (f : Int)) ∧ W.cell? ⟨w.heap.size, 3, none⟩ = some (.string s) ∧
  W.cell? ⟨w.heap.size + 1, 0, none⟩ = some (.int .u8 k') ∧ W.cell? ⟨w.heap.size + 1, 1, none⟩ = some (.int .i64 n') ∧ W.cell? ⟨w.heap.size + 1, 2, none⟩ = some (.int .u64 (f' : Int)) ∧ W.cell? ⟨w.heap.size + 1, 3, none⟩ = some (.string s') ∧
  W.cell? ⟨w.heap.size + 2, 0, none⟩ = some (.int .u8 k'') ∧ W.cell? ⟨w.heap.size + 2, 1, none⟩ = some (.int .i64 n'') ∧ W.cell? ⟨w.heap.size + 2, 2, none⟩ = some (.int .u64 (f'' : Int)) ∧ W.cell? ⟨w.heap.size + 2, 3, none⟩ = some (.string s'') ∧ Below w.heap.size w W
theorem Three.cells {w W : World} {k n : Int} {f : Nat} {s : ByteArray} {k' n' : Int} {f' : Nat} {s' : ByteArray} {k'' n'' : Int} {f'' : Nat} {s'' : ByteArray} (h : Three w W ⟨k, n, f, s⟩ ⟨k', n', f', s'⟩ ⟨k'', n'', f'', s''⟩) :
    Cells3 w W k n f s k' n' f' s' k'' n'' f'' s'' := ⟨h.1.1, h.1.2.1, h.1.2.2.1, h.1.2.2.2, h.2.1.1, h.2.1.2.1, h.2.1.2.2.1, h.2.1.2.2.2, h.2.2.1.1, h.2.2.1.2.1, h.2.2.1.2.2.1, h.2.2.1.2.2.2, h.2.2.2⟩
theorem cells3_next {w W W1 : World} {k n : Int} {f : Nat} {s : ByteArray} {k' n' : Int} {f' : Nat} {s' : ByteArray} {k'' n'' : Int} {f'' : Nat} {s'' : ByteArray} (h : Cells3 w W k n f s k' n' f' s' k'' n'' f'' s'') (hb : Below W.heap.size W W1) : Cells3 w W1 k n f s k' n' f' s' k'' n'' f'' s'' := by
  obtain ⟨a0, a1, a2, a3, b0, b1, b2, b3, c0, c1, c2, c3, hB⟩ := h
  exact ⟨cell_below hb a0, cell_below hb a1, cell_below hb a2, cell_below hb a3, cell_below hb b0, cell_below hb b1, cell_below hb b2, cell_below hb b3, cell_below hb c0, cell_below hb c1, cell_below hb c2, cell_below hb c3, below_then hB hb⟩
theorem Three.of {w W : World} {k n : Int} {f : Nat} {s : ByteArray} {k' n' : Int} {f' : Nat} {s' : ByteArray} {k'' n'' : Int} {f'' : Nat} {s'' : ByteArray} (h : Cells3 w W k n f s k' n' f' s' k'' n'' f'' s'') :
    Three w W ⟨k, n, f, s⟩ ⟨k', n', f', s'⟩ ⟨k'', n'', f'', s''⟩ := by
  obtain ⟨a0, a1, a2, a3, b0, b1, b2, b3, c0, c1, c2, c3, hb⟩ := h
  exact ⟨⟨a0, a1, a2, a3⟩, ⟨b0, b1, b2, b3⟩, ⟨c0, c1, c2, c3⟩, hb⟩
def over (a b c : Val) : Bool := decide (3000 < IntKind.i64.wrap (IntKind.i64.wrap ((a.s.size : Int) + (b.s.size : Int)) + (c.s.size : Int)))
theorem order_big (a b c : Val) (w : World) (fa : a.fits) (fb : b.fits) (fc : c.fits) (hT : Lib.Utf8Tabs 1 2 w) (hbig : over a b c = true) :
    Calls Tryd.prog 11 #[a.v, b.v, c.v] w fun e w' => e = .returned (.bool true) ∧ Below w.heap.size w w' := by
  have T := Aside.mk (Three.new w a b c)
  have KN := Aside.mk (fun W (h : Three w W a b c) => known3_any W (tabs_below hT h.2.2.2))
  clear hT fa fb fc
  obtain ⟨k, n, f, s⟩ := a
  obtain ⟨l, m, g, t⟩ := b
  obtain ⟨i, o, h, u⟩ := c
  unfold Val.obj at T
  simp only at T
  unfold over at hbig
  simp only at hbig
  obtain ⟨z, hz⟩ : ∃ z, IntKind.i64.wrap ((s.size : Int) + (t.size : Int)) = z := ⟨_, rfl⟩
  rw [hz] at hbig
  obtain ⟨y, hy⟩ : ∃ y, IntKind.i64.wrap (z + (u.size : Int)) = y := ⟨_, rfl⟩
  rw [hy] at hbig
  unfold Val.v
  go_enter Tryd.func11, Tryd.ntmps11
  go_wp2_with fail
  (with_reducible refine (KN.out _ T.out).mono ?_)
  rintro e w1 ⟨rfl, hb1⟩
  replace T := Aside.mk (Three.next T.out hb1)
  clear hb1
  obtain ⟨a0, a1, a2, a3, b0, b1, b2, b3, c0, c1, c2, c3, _⟩ := Three.cells T.out
  go_wp2
  go_ret
  exact ⟨rfl, by assumption⟩
set_option maxRecDepth 100000 in
set_option maxHeartbeats 2000000 in
theorem order_b1 (a b c : Val) (w : World) (fa : a.fits) (fb : b.fits) (fc : c.fits) (hT : Lib.Utf8Tabs 1 2 w) (hbig : over a b c = false) (ha : mayV a = false) :
    Calls Tryd.prog 11 #[a.v, b.v, c.v] w fun e w' => e = .returned (.bool true) ∧ Below w.heap.size w w' := by
  have T := Aside.mk (Three.new w a b c)
  have KN := Aside.mk (fun W (h : Three w W a b c) => known3_any W (tabs_below hT h.2.2.2))
  have MA := Aside.mk (fun W (h : Three w W a b c) => mayV_any a W (tabs_below hT h.2.2.2))
  have MB := Aside.mk (fun W (h : Three w W a b c) => mayV_any b W (tabs_below hT h.2.2.2))
  have MC := Aside.mk (fun W (h : Three w W a b c) => mayV_any c W (tabs_below hT h.2.2.2))
  have LAB := Aside.mk (fun W (h : Three w W a b c) => less_any a b W (tabs_below hT h.2.2.2) fa.1 fb.1)
  rw [ha] at MA
  have hl : lessV a b = false := by unfold lessV; rw [ha]; rfl
  rw [hl] at LAB
  clear hT fa fb fc MB MC ha hl
  obtain ⟨k, n, f, s⟩ := a
  obtain ⟨l, m, g, t⟩ := b
  obtain ⟨i, o, h, u⟩ := c
  unfold Val.obj at T
  simp only at T
  unfold over at hbig
  simp only at hbig
  obtain ⟨z, hz⟩ : ∃ z, IntKind.i64.wrap ((s.size : Int) + (t.size : Int)) = z := ⟨_, rfl⟩
  rw [hz] at hbig
  obtain ⟨y, hy⟩ : ∃ y, IntKind.i64.wrap (z + (u.size : Int)) = y := ⟨_, rfl⟩
  rw [hy] at hbig
  unfold Val.v at MA LAB ⊢
  go_enter Tryd.func11, Tryd.ntmps11
  go_wp2_with fail
  (with_reducible refine (MA.out _ T.out).mono ?_)
  rintro e w1 ⟨rfl, hb1⟩
  replace T := Aside.mk (Three.next T.out hb1)
  clear hb1
  obtain ⟨a0, a1, a2, a3, b0, b1, b2, b3, c0, c1, c2, c3, _⟩ := Three.cells T.out
  go_wp2_with fail
  (with_reducible refine (MA.out _ T.out).mono ?_)
  rintro e w1 ⟨rfl, hb1⟩
  clear a0 a1 a2 a3 b0 b1 b2 b3 c0 c1 c2 c3
  replace T := Aside.mk (Three.next T.out hb1)
  clear hb1
  obtain ⟨a0, a1, a2, a3, b0, b1, b2, b3, c0, c1, c2, c3, _⟩ := Three.cells T.out
  go_wp2_with fail
  (with_reducible refine (LAB.out _ T.out).mono ?_)
  rintro e w1 ⟨rfl, hb1⟩
  clear a0 a1 a2 a3 b0 b1 b2 b3 c0 c1 c2 c3
  replace T := Aside.mk (Three.next T.out hb1)
  clear hb1
  obtain ⟨a0, a1, a2, a3, b0, b1, b2, b3, c0, c1, c2, c3, _⟩ := Three.cells T.out
  go_wp2_with fail
  (with_reducible refine (KN.out _ T.out).mono ?_)
  rintro e w1 ⟨rfl, hb1⟩
  clear a0 a1 a2 a3 b0 b1 b2 b3 c0 c1 c2 c3
  replace T := Aside.mk (Three.next T.out hb1)
  clear hb1
  obtain ⟨a0, a1, a2, a3, b0, b1, b2, b3, c0, c1, c2, c3, _⟩ := Three.cells T.out
  go_wp2
  go_ret
  exact ⟨rfl, by assumption⟩
set_option maxRecDepth 100000 in
set_option maxHeartbeats 2000000 in
theorem order_b2 (a b c : Val) (w : World) (fa : a.fits) (fb : b.fits) (fc : c.fits) (hT : Lib.Utf8Tabs 1 2 w) (hbig : over a b c = false) (ha : mayV a = true) (hb : mayV b = false) :
    Calls Tryd.prog 11 #[a.v, b.v, c.v] w fun e w' => e = .returned (.bool true) ∧ Below w.heap.size w w' := by
  have T := Aside.mk (Three.new w a b c)
  have KN := Aside.mk (fun W (h : Three w W a b c) => known3_any W (tabs_below hT h.2.2.2))
  have MA := Aside.mk (fun W (h : Three w W a b c) => mayV_any a W (tabs_below hT h.2.2.2))
  have MB := Aside.mk (fun W (h : Three w W a b c) => mayV_any b W (tabs_below hT h.2.2.2))
  have MC := Aside.mk (fun W (h : Three w W a b c) => mayV_any c W (tabs_below hT h.2.2.2))
  have LAB := Aside.mk (fun W (h : Three w W a b c) => less_any a b W (tabs_below hT h.2.2.2) fa.1 fb.1)
  rw [ha] at MA
  rw [hb] at MB
  have hl : lessV a b = false := by unfold lessV; rw [ha, hb]; rfl
  rw [hl] at LAB
  clear hT fa fb fc MC ha hb hl
  obtain ⟨k, n, f, s⟩ := a
  obtain ⟨l, m, g, t⟩ := b
  obtain ⟨i, o, h, u⟩ := c
  unfold Val.obj at T
  simp only at T
  unfold over at hbig
  simp only at hbig
  obtain ⟨z, hz⟩ : ∃ z, IntKind.i64.wrap ((s.size : Int) + (t.size : Int)) = z := ⟨_, rfl⟩
  rw [hz] at hbig
  obtain ⟨y, hy⟩ : ∃ y, IntKind.i64.wrap (z + (u.size : Int)) = y := ⟨_, rfl⟩
  rw [hy] at hbig
  unfold Val.v at MA MB LAB ⊢
  go_enter Tryd.func11, Tryd.ntmps11
  go_wp2_with fail
  (with_reducible refine (MA.out _ T.out).mono ?_)
  rintro e w1 ⟨rfl, hb1⟩
  replace T := Aside.mk (Three.next T.out hb1)
  clear hb1
  obtain ⟨a0, a1, a2, a3, b0, b1, b2, b3, c0, c1, c2, c3, _⟩ := Three.cells T.out
  go_wp2_with fail
  (with_reducible refine (MB.out _ T.out).mono ?_)
  rintro e w1 ⟨rfl, hb1⟩
  clear a0 a1 a2 a3 b0 b1 b2 b3 c0 c1 c2 c3
  replace T := Aside.mk (Three.next T.out hb1)
  clear hb1
  obtain ⟨a0, a1, a2, a3, b0, b1, b2, b3, c0, c1, c2, c3, _⟩ := Three.cells T.out
  go_wp2_with fail
  (with_reducible refine (MA.out _ T.out).mono ?_)
  rintro e w1 ⟨rfl, hb1⟩
  clear a0 a1 a2 a3 b0 b1 b2 b3 c0 c1 c2 c3
  replace T := Aside.mk (Three.next T.out hb1)
  clear hb1
  obtain ⟨a0, a1, a2, a3, b0, b1, b2, b3, c0, c1, c2, c3, _⟩ := Three.cells T.out
  go_wp2_with fail
  (with_reducible refine (MB.out _ T.out).mono ?_)
  rintro e w1 ⟨rfl, hb1⟩
  clear a0 a1 a2 a3 b0 b1 b2 b3 c0 c1 c2 c3
  replace T := Aside.mk (Three.next T.out hb1)
  clear hb1
  obtain ⟨a0, a1, a2, a3, b0, b1, b2, b3, c0, c1, c2, c3, _⟩ := Three.cells T.out
  go_wp2_with fail
  (with_reducible refine (LAB.out _ T.out).mono ?_)
  rintro e w1 ⟨rfl, hb1⟩
  clear a0 a1 a2 a3 b0 b1 b2 b3 c0 c1 c2 c3
  replace T := Aside.mk (Three.next T.out hb1)
  clear hb1
  obtain ⟨a0, a1, a2, a3, b0, b1, b2, b3, c0, c1, c2, c3, _⟩ := Three.cells T.out
  go_wp2_with fail
  (with_reducible refine (KN.out _ T.out).mono ?_)
  rintro e w1 ⟨rfl, hb1⟩
  clear a0 a1 a2 a3 b0 b1 b2 b3 c0 c1 c2 c3
  replace T := Aside.mk (Three.next T.out hb1)
  clear hb1
  obtain ⟨a0, a1, a2, a3, b0, b1, b2, b3, c0, c1, c2, c3, _⟩ := Three.cells T.out
  go_wp2
  go_ret
  exact ⟨rfl, by assumption⟩
set_option maxRecDepth 100000 in
set_option maxHeartbeats 2000000 in
theorem order_b3 (a b c : Val) (w : World) (fa : a.fits) (fb : b.fits) (fc : c.fits) (hT : Lib.Utf8Tabs 1 2 w) (hbig : over a b c = false) (ha : mayV a = true) (hb : mayV b = true) (hc : mayV c = false) :
    Calls Tryd.prog 11 #[a.v, b.v, c.v] w fun e w' => e = .returned (.bool true) ∧ Below w.heap.size w w' := by
  have T := Aside.mk (Three.new w a b c)
  have KN := Aside.mk (fun W (h : Three w W a b c) => known3_any W (tabs_below hT h.2.2.2))
  have MA := Aside.mk (fun W (h : Three w W a b c) => mayV_any a W (tabs_below hT h.2.2.2))
  have MB := Aside.mk (fun W (h : Three w W a b c) => mayV_any b W (tabs_below hT h.2.2.2))
  have MC := Aside.mk (fun W (h : Three w W a b c) => mayV_any c W (tabs_below hT h.2.2.2))
  rw [ha] at MA
  rw [hb] at MB
  rw [hc] at MC
  clear hT fa fb fc ha hb hc
  obtain ⟨k, n, f, s⟩ := a
  obtain ⟨l, m, g, t⟩ := b
  obtain ⟨i, o, h, u⟩ := c
  unfold Val.obj at T
  simp only at T
  unfold over at hbig
  simp only at hbig
  obtain ⟨z, hz⟩ : ∃ z, IntKind.i64.wrap ((s.size : Int) + (t.size : Int)) = z := ⟨_, rfl⟩
  rw [hz] at hbig
  obtain ⟨y, hy⟩ : ∃ y, IntKind.i64.wrap (z + (u.size : Int)) = y := ⟨_, rfl⟩
  rw [hy] at hbig
  unfold Val.v at MA MB MC ⊢
  go_enter Tryd.func11, Tryd.ntmps11
  go_wp2_with fail
  (with_reducible refine (MA.out _ T.out).mono ?_)
  rintro e w1 ⟨rfl, hb1⟩
  replace T := Aside.mk (Three.next T.out hb1)
  clear hb1
  obtain ⟨a0, a1, a2, a3, b0, b1, b2, b3, c0, c1, c2, c3, _⟩ := Three.cells T.out
  go_wp2_with fail
  (with_reducible refine (MB.out _ T.out).mono ?_)
  rintro e w1 ⟨rfl, hb1⟩
  clear a0 a1 a2 a3 b0 b1 b2 b3 c0 c1 c2 c3
  replace T := Aside.mk (Three.next T.out hb1)
  clear hb1
  obtain ⟨a0, a1, a2, a3, b0, b1, b2, b3, c0, c1, c2, c3, _⟩ := Three.cells T.out
  go_wp2_with fail
  (with_reducible refine (MC.out _ T.out).mono ?_)
  rintro e w1 ⟨rfl, hb1⟩
  clear a0 a1 a2 a3 b0 b1 b2 b3 c0 c1 c2 c3
  replace T := Aside.mk (Three.next T.out hb1)
  clear hb1
  obtain ⟨a0, a1, a2, a3, b0, b1, b2, b3, c0, c1, c2, c3, _⟩ := Three.cells T.out
  go_wp2_with fail
  (with_reducible refine (MA.out _ T.out).mono ?_)
  rintro e w1 ⟨rfl, hb1⟩
  clear a0 a1 a2 a3 b0 b1 b2 b3 c0 c1 c2 c3
  replace T := Aside.mk (Three.next T.out hb1)
  clear hb1
  obtain ⟨a0, a1, a2, a3, b0, b1, b2, b3, c0, c1, c2, c3, _⟩ := Three.cells T.out
  go_wp2_with fail
  (with_reducible refine (MB.out _ T.out).mono ?_)
  rintro e w1 ⟨rfl, hb1⟩
  clear a0 a1 a2 a3 b0 b1 b2 b3 c0 c1 c2 c3
  replace T := Aside.mk (Three.next T.out hb1)
  clear hb1
  obtain ⟨a0, a1, a2, a3, b0, b1, b2, b3, c0, c1, c2, c3, _⟩ := Three.cells T.out
  go_wp2_with fail
  (with_reducible refine (KN.out _ T.out).mono ?_)
  rintro e w1 ⟨rfl, hb1⟩
  clear a0 a1 a2 a3 b0 b1 b2 b3 c0 c1 c2 c3
  replace T := Aside.mk (Three.next T.out hb1)
  clear hb1
  obtain ⟨a0, a1, a2, a3, b0, b1, b2, b3, c0, c1, c2, c3, _⟩ := Three.cells T.out
  go_wp2
  go_ret
  exact ⟨rfl, by assumption⟩

section
variable {P : Program} {ops : Array Oper} {Q : Exit → Act → World → Prop} {md : Region.Mode} {S : World → Prop}
/-- An operation taken first, its slot named. -/
theorem take_at {i : Nat} {oi : Oper} {v : Value} {d : Option Tmp} {fuel : Nat} {listed : Array Bool} {a : Act} {w : World} (hi : ops[i]? = some oi) (hd : oi.dst = d)
    (hs : Region.noSelect ops = true) (hf : Region.free md ops listed i = true) (hr : (Region.ready md ops listed).contains i = true)
    (hQ : ∀ c a w, Q (.panic c) (a.put d v) w → Q (.panic c) a w) (hy : YieldsIf P ops S oi v a) (hS : S w)
    (h : wpAnyH P md ops Q S fuel (listed.setIfInBounds i true) (a.put d v) w) : wpAnyH P md ops Q S (fuel + 1) listed a w := by
  subst hd
  exact wpAnyH_take hi hs hf hr hQ hy hS h
end
end Go.Proofs.YtaejlgdmalhhnaaDoor
