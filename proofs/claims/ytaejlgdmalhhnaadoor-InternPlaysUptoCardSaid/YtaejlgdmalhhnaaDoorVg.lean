/- Layer 3: Less. -/
import Derived.Test.YtaejlgdmalhhnaaDoorVf
set_option linter.unusedVariables false
namespace Go.Proofs.YtaejlgdmalhhnaaDoor
open Go.RowKit

theorem lessF_1 {x y : Nat} (h : nanB x = true) : lessF x y = false := by unfold lessF; rw [if_pos h]
theorem lessF_2 {x y : Nat} (h : nanB x = false) (k : nanB y = true) : lessF x y = true := by unfold lessF; rw [h, k]; rfl
theorem lessF_3 {x y : Nat} (h : nanB x = false) (k : nanB y = false) (o : (Ieee.double.order x y == some .eq) = false) : lessF x y = (Ieee.double.order x y == some .lt) := by unfold lessF; rw [h, k, o]; rfl
theorem lessF_4 {x y : Nat} (h : nanB x = false) (k : nanB y = false) (o : (Ieee.double.order x y == some .eq) = true) : lessF x y = (signB x && !signB y) := by unfold lessF; rw [h, k, o]; rfl
theorem two_below (w : World) (a b : Val) : Below w.heap.size w ((w.alloc a.obj).alloc b.obj) := below_alloc (below_alloc (below_refl w) _) _
theorem two_a (w : World) (a b : Val) : Box ((w.alloc a.obj).alloc b.obj) w.heap.size a := (Box.new w a).below (below_alloc (below_refl _) _)
theorem two_b (w : World) (a b : Val) : Box ((w.alloc a.obj).alloc b.obj) (w.heap.size + 1) b := by
  have h := Box.new (w.alloc a.obj) b
  rw [World.size_alloc] at h
  exact h

set_option maxRecDepth 100000 in
set_option maxHeartbeats 2000000 in
theorem less_any (a b : Val) (w : World) (hT : Lib.Utf8Tabs 1 2 w) (ha : a.f < 18446744073709551616) (hb : b.f < 18446744073709551616) :
    Calls Tryd.prog 58 #[a.v, b.v] w fun e w' => e = .returned (.bool (lessV a b)) ∧ Below w.heap.size w w' := by
  have HB0 := Aside.mk (two_below w a b)
  have HM := Aside.mk (fun (v : Val) w' (h : Below w.heap.size w w') => mayV_any v w' (tabs_below hT h))
  have C1 := Aside.mk (HM.out a _ HB0.out)
  have C2 := Aside.mk (HM.out b)
  have HA := Aside.mk (two_a w a b)
  have HB := Aside.mk (two_b w a b)
  clear HM hT
  by_cases hma : mayV a = true
  rotate_left
  · have hma : mayV a = false := by simpa using hma
    have hL : lessV a b = false := by unfold lessV; rw [hma]; rfl
    rw [hL]
    rw [hma] at C1
    clear hma hL C2 ha hb HA HB
    unfold Val.obj at C1 HB0
    unfold Val.v at C1 ⊢
    go_enter Tryd.func58, Tryd.ntmps58
    go_wp2_with fail
    (with_reducible refine C1.out.mono ?_)
    rintro e w1 ⟨rfl, hb1⟩
    have HB1 := Aside.mk (below_then HB0.out hb1)
    clear hb1
    go_wp2
    go_ret
    exact ⟨rfl, HB1.out⟩
  by_cases hmb : mayV b = true
  rotate_left
  · have hmb : mayV b = false := by simpa using hmb
    have hL : lessV a b = false := by unfold lessV; rw [hma, hmb]; rfl
    rw [hL]
    rw [hma] at C1
    rw [hmb] at C2
    clear hma hmb hL ha hb HA
    unfold Val.obj at C1 HB0 HB
    unfold Val.v at C1 C2 ⊢
    go_enter Tryd.func58, Tryd.ntmps58
    go_wp2_with fail
    (with_reducible refine C1.out.mono ?_)
    rintro e w1 ⟨rfl, hb1⟩
    obtain ⟨b0, b1, b2, b3⟩ := HB.out.below hb1
    have HB1 := Aside.mk (below_then HB0.out hb1)
    clear hb1
    go_wp2_with fail
    (with_reducible refine (C2.out _ HB1.out).mono ?_)
    rintro e w2 ⟨rfl, hb2⟩
    have HB2 := Aside.mk (below_then HB1.out hb2)
    clear hb2
    go_wp2
    go_ret
    exact ⟨rfl, HB2.out⟩
  have hL : lessV a b = (if a.k = b.k then (if a.k = 4 then Op.bytesLess a.s.toList b.s.toList else if a.k = 3 then lessF a.f b.f else decide (a.n < b.n)) else decide (a.k < b.k)) := by unfold lessV; rw [hma, hmb]; rfl
  rw [hma] at C1
  rw [hmb] at C2
  clear hma hmb
  obtain ⟨k, n, f, s⟩ := a
  obtain ⟨l, m, g, t⟩ := b
  simp only at ha hb hL
  by_cases hk : k = l
  rotate_left
  · rw [if_neg hk] at hL
    rw [hL]
    have e1 : (k == l) = false := beq_eq_false_iff_ne.2 hk
    clear ha hb hL hk
    unfold Val.obj at C1 HB0 HB HA
    unfold Val.v at C1 C2 ⊢
    go_enter Tryd.func58, Tryd.ntmps58
    go_wp2_with fail
    (with_reducible refine C1.out.mono ?_)
    rintro e w1 ⟨rfl, hb1⟩
    obtain ⟨b0, b1, b2, b3⟩ := HB.out.below hb1
    have HA1 := Aside.mk (HA.out.below hb1)
    have HD1 := Aside.mk (HB.out.below hb1)
    have HB1 := Aside.mk (below_then HB0.out hb1)
    clear hb1
    go_wp2_with fail
    (with_reducible refine (C2.out _ HB1.out).mono ?_)
    rintro e w2 ⟨rfl, hb2⟩
    clear b0 b1 b2 b3
    obtain ⟨a0, a1, a2, a3⟩ := HA1.out.below hb2
    obtain ⟨b0, b1, b2, b3⟩ := HD1.out.below hb2
    have HB2 := Aside.mk (below_then HB1.out hb2)
    clear hb2
    simp only at a0 a1 a2 a3 b0 b1 b2 b3
    go_wp2
    go_ret
    exact ⟨rfl, HB2.out⟩
  subst hk
  rw [if_pos rfl] at hL
  by_cases h4 : k = 4
  · rw [if_pos h4] at hL
    rw [hL]
    clear ha hb hL
    subst h4
    unfold Val.obj at C1 HB0 HB HA
    unfold Val.v at C1 C2 ⊢
    go_enter Tryd.func58, Tryd.ntmps58
    go_wp2_with fail
    (with_reducible refine C1.out.mono ?_)
    rintro e w1 ⟨rfl, hb1⟩
    obtain ⟨b0, b1, b2, b3⟩ := HB.out.below hb1
    have HA1 := Aside.mk (HA.out.below hb1)
    have HD1 := Aside.mk (HB.out.below hb1)
    have HB1 := Aside.mk (below_then HB0.out hb1)
    clear hb1
    go_wp2_with fail
    (with_reducible refine (C2.out _ HB1.out).mono ?_)
    rintro e w2 ⟨rfl, hb2⟩
    clear b0 b1 b2 b3
    obtain ⟨a0, a1, a2, a3⟩ := HA1.out.below hb2
    obtain ⟨b0, b1, b2, b3⟩ := HD1.out.below hb2
    have HB2 := Aside.mk (below_then HB1.out hb2)
    clear hb2
    simp only at a0 a1 a2 a3 b0 b1 b2 b3
    go_wp2
    go_ret
    exact ⟨rfl, HB2.out⟩
  rw [if_neg h4] at hL
  have e4 : (k == 4) = false := beq_eq_false_iff_ne.2 h4
  by_cases h3 : k = 3
  rotate_left
  · rw [if_neg h3] at hL
    rw [hL]
    have e3 : (k == 3) = false := beq_eq_false_iff_ne.2 h3
    clear ha hb hL h3 h4
    unfold Val.obj at C1 HB0 HB HA
    unfold Val.v at C1 C2 ⊢
    go_enter Tryd.func58, Tryd.ntmps58
    go_wp2_with fail
    (with_reducible refine C1.out.mono ?_)
    rintro e w1 ⟨rfl, hb1⟩
    obtain ⟨b0, b1, b2, b3⟩ := HB.out.below hb1
    have HA1 := Aside.mk (HA.out.below hb1)
    have HD1 := Aside.mk (HB.out.below hb1)
    have HB1 := Aside.mk (below_then HB0.out hb1)
    clear hb1
    go_wp2_with fail
    (with_reducible refine (C2.out _ HB1.out).mono ?_)
    rintro e w2 ⟨rfl, hb2⟩
    clear b0 b1 b2 b3
    obtain ⟨a0, a1, a2, a3⟩ := HA1.out.below hb2
    obtain ⟨b0, b1, b2, b3⟩ := HD1.out.below hb2
    have HB2 := Aside.mk (below_then HB1.out hb2)
    clear hb2
    simp only at a0 a1 a2 a3 b0 b1 b2 b3
    go_wp2
    go_ret
    exact ⟨rfl, HB2.out⟩
  rw [if_pos h3] at hL
  rw [hL]
  clear hL h4 e4
  subst h3
  have H52f := Aside.mk (call52 f)
  have H52g := Aside.mk (call52 g)
  have HNf := Aside.mk (isNaN_any f)
  have HNg := Aside.mk (isNaN_any g)
  have HSf := Aside.mk (fun w => signbit_any f w ha)
  have HSg := Aside.mk (fun w => signbit_any g w hb)
  have HF := Aside.mk (show ∀ R, lessF f g = R → Ending.returned (.bool R) = .returned (.bool (lessF f g)) from fun R h => by rw [h])
  have Hn1 := Aside.mk (lessF_1 (x := f) (y := g))
  have Hn2 := Aside.mk (lessF_2 (x := f) (y := g))
  have Hn3 := Aside.mk (lessF_3 (x := f) (y := g))
  have Hn4 := Aside.mk (lessF_4 (x := f) (y := g))
  obtain ⟨R, hR⟩ : ∃ R, lessF f g = R := ⟨_, rfl⟩
  rw [hR] at HF Hn1 Hn2 Hn3 Hn4 ⊢
  clear hR HF ha hb
  unfold Val.obj at C1 HB0 HB HA
  unfold Val.v at C1 C2 ⊢
  go_enter Tryd.func58, Tryd.ntmps58
  go_wp2_with fail
  (with_reducible refine C1.out.mono ?_)
  rintro e w1 ⟨rfl, hb1⟩
  obtain ⟨b0, b1, b2, b3⟩ := HB.out.below hb1
  have HA1 := Aside.mk (HA.out.below hb1)
  have HD1 := Aside.mk (HB.out.below hb1)
  have HB1 := Aside.mk (below_then HB0.out hb1)
  clear hb1
  go_wp2_with fail
  (with_reducible refine (C2.out _ HB1.out).mono ?_)
  rintro e w2 ⟨rfl, hb2⟩
  clear b0 b1 b2 b3
  obtain ⟨a0, a1, a2, a3⟩ := HA1.out.below hb2
  obtain ⟨b0, b1, b2, b3⟩ := HD1.out.below hb2
  have HB2 := Aside.mk (below_then HB1.out hb2)
  clear hb2
  simp only at a0 a1 a2 a3 b0 b1 b2 b3
  go_wp2_with fail
  have h52f := H52f.out
  have h52g := H52g.out
  go_quiet (fail)
  have HB3 := Aside.mk (below_drewN HB2.out nq)
  generalize w2.drewN nq = wq at HB3 ⊢
  clear H52f H52g h52f h52g C1 C2 HA HB HB0 HB1 HB2 HA1 HD1 a0 a1 a2 a3 b0 b1 b2 b3
  by_cases hf : nanB f = true
  · rw [hf] at HNf
    have HR := Aside.mk (Hn1.out hf).symm
    clear hf Hn1 Hn2 Hn3 Hn4
    go_wp2_with (go_at_call 94; go_must (refine (HNf.out _).mono ?_; rintro e w' ⟨rfl, rfl⟩))
    go_ret
    exact ⟨ret_bool HR.out, HB3.out⟩
  have hf : nanB f = false := by simpa using hf
  rw [hf] at HNf
  by_cases hg : nanB g = true
  · rw [hg] at HNg
    have HR := Aside.mk (Hn2.out hf hg).symm
    clear hf hg Hn1 Hn2 Hn3 Hn4
    go_wp2_with (first | (go_at_call 94; (first | (with_reducible refine (HNf.out _).mono ?_) | (with_reducible refine (HNg.out _).mono ?_)); rintro e w' ⟨rfl, rfl⟩))
    go_ret
    exact ⟨ret_bool HR.out, HB3.out⟩
  have hg : nanB g = false := by simpa using hg
  rw [hg] at HNg
  by_cases ho : (Ieee.double.order f g == some .eq) = true
  · have hR : R = (signB f && !signB g) := Hn4.out hf hg ho
    have ho1 : (FloatKind.f64.format.order f g != some .eq) = false := by show (!(Ieee.double.order f g == some .eq)) = false; rw [ho]; rfl
    clear hf hg ho Hn1 Hn2 Hn3 Hn4
    by_cases hsf : signB f = true
    · rw [hsf] at HSf hR
      rw [Bool.true_and] at hR
      clear hsf
      obtain ⟨q, hq⟩ : ∃ q, signB g = q := ⟨_, rfl⟩
      rw [hq] at HSg hR
      have HR := Aside.mk hR.symm
      clear hq hR
      go_wp2_with (first | (go_at_call 94; (first | (with_reducible refine (HNf.out _).mono ?_) | (with_reducible refine (HNg.out _).mono ?_)); rintro e w' ⟨rfl, rfl⟩) | (go_at_call 96; (first | (with_reducible refine (HSf.out _).mono ?_) | (with_reducible refine (HSg.out _).mono ?_)); rintro e w' ⟨rfl, rfl⟩))
      go_ret
      exact ⟨ret_bool HR.out, HB3.out⟩
    · have hsf : signB f = false := by simpa using hsf
      rw [hsf] at HSf hR
      rw [Bool.false_and] at hR
      have HR := Aside.mk hR.symm
      clear hsf hR
      go_wp2_with (first | (go_at_call 94; (first | (with_reducible refine (HNf.out _).mono ?_) | (with_reducible refine (HNg.out _).mono ?_)); rintro e w' ⟨rfl, rfl⟩) | (go_at_call 96; go_must (refine (HSf.out _).mono ?_; rintro e w' ⟨rfl, rfl⟩)))
      go_ret
      exact ⟨ret_bool HR.out, HB3.out⟩
  · have ho : (Ieee.double.order f g == some .eq) = false := by simpa using ho
    have hR : R = (Ieee.double.order f g == some .lt) := Hn3.out hf hg ho
    have ho1 : (FloatKind.f64.format.order f g != some .eq) = true := by show (!(Ieee.double.order f g == some .eq)) = true; rw [ho]; rfl
    have HR : Aside ((FloatKind.f64.format.order f g == some .lt) = R) := Aside.mk hR.symm
    clear hR hf hg ho Hn1 Hn2 Hn3 Hn4
    go_wp2_with (first | (go_at_call 94; (first | (with_reducible refine (HNf.out _).mono ?_) | (with_reducible refine (HNg.out _).mono ?_)); rintro e w' ⟨rfl, rfl⟩))
    go_ret
    exact ⟨ret_bool HR.out, HB3.out⟩
end Go.Proofs.YtaejlgdmalhhnaaDoor
