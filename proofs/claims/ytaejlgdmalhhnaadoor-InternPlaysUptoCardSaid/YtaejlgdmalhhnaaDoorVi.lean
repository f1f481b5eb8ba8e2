/- Layer 3: the document's Number and Less. -/
import Derived.Test.YtaejlgdmalhhnaaDoorVh
set_option linter.unusedVariables false
namespace Go.Proofs.YtaejlgdmalhhnaaDoor
open Go.RowKit

def numR (v : Val) : Option Nat := if mayR v then (if v.k = 3 then some v.f else if v.k = 2 then some (floatOfInt .f64 v.n) else none) else none
theorem numR_no {v : Val} (h : mayR v = false) : numR v = none := by unfold numR; rw [h]; rfl
theorem numR_3 {v : Val} (h : mayR v = true) (k : v.k = 3) : numR v = some v.f := by unfold numR; rw [h, if_pos rfl, if_pos k]
theorem numR_2 {v : Val} (h : mayR v = true) (k : v.k = 2) : numR v = some (floatOfInt .f64 v.n) := by unfold numR; rw [h, if_pos rfl, if_neg (by omega), if_pos k]
theorem numR_else {v : Val} (k3 : v.k ≠ 3) (k2 : v.k ≠ 2) : numR v = none := by unfold numR; rw [if_neg k3, if_neg k2]; simp
set_option maxRecDepth 100000 in
theorem refNumber_any (v : Val) (w : World) (hf : v.f < 18446744073709551616) (hs : v.s.size * 4 ≤ 140737488355324) : Calls Tryd.prog 46 #[v.v] w fun e w' => e = .returned (.tuple #[.int .u64 (((numR v).getD 0 : Nat) : Int), .bool (numR v).isSome]) ∧ Below w.heap.size w w' := by
  have HX := Aside.mk (Box.new w v)
  have hb0 := below_alloc (below_refl w) v.obj
  have C1 := Aside.mk (mayR_any v (w.alloc v.obj) hf hs)
  by_cases hm : mayR v = true
  · have HM := Aside.mk hm
    rw [hm] at C1
    by_cases h3 : v.k = 3
    · rw [numR_3 hm h3]
      clear hf hs hm
      obtain ⟨k, n, f, s⟩ := v
      simp only at h3
      subst h3
      have hb0 := Aside.mk hb0
      unfold Val.v at C1 ⊢
      unfold Val.obj at C1 HX hb0
      go_enter Tryd.func46, Tryd.ntmps46
      go_wp2_with fail
      (with_reducible refine C1.out.mono ?_)
      rintro e w1 ⟨rfl, hb1⟩
      obtain ⟨c0, c1, c2, c3⟩ := HX.out.below hb1
      have Hb := Aside.mk (below_then hb0.out hb1)
      clear hb1
      simp only at c0 c1 c2 c3
      go_wp2
      exact bodyPost_ret (v := .tuple #[.int .u64 (f : Int), .bool true]) (by simp [results, Tryd.results46, go_sem]) rfl ⟨rfl, Hb.out⟩
    by_cases h2 : v.k = 2
    · rw [numR_2 hm h2]
      clear hf hs hm h3
      obtain ⟨k, n, f, s⟩ := v
      simp only at h2
      subst h2
      have h47 := call47 (floatOfInt .f64 n)
      have hb0 := Aside.mk hb0
      unfold Val.v at C1 ⊢
      unfold Val.obj at C1 HX hb0
      go_enter Tryd.func46, Tryd.ntmps46
      go_wp2_with fail
      (with_reducible refine C1.out.mono ?_)
      rintro e w1 ⟨rfl, hb1⟩
      obtain ⟨c0, c1, c2, c3⟩ := HX.out.below hb1
      have Hb := Aside.mk (below_then hb0.out hb1)
      clear hb1
      simp only at c0 c1 c2 c3
      go_wp2
      exact bodyPost_ret (v := .tuple #[.int .u64 ((floatOfInt .f64 n : Nat) : Int), .bool true]) (by simp [results, Tryd.results46, go_sem]) rfl ⟨rfl, Hb.out⟩
    · rw [numR_else h3 h2]
      clear hf hs hm
      obtain ⟨k, n, f, s⟩ := v
      simp only at h2 h3
      have e3 : (k == 3) = false := beq_eq_false_iff_ne.2 h3
      have e2 : (k == 2) = false := beq_eq_false_iff_ne.2 h2
      have hb0 := Aside.mk hb0
      clear h2 h3
      unfold Val.v at C1 ⊢
      unfold Val.obj at C1 HX hb0
      go_enter Tryd.func46, Tryd.ntmps46
      go_wp2_with fail
      (with_reducible refine C1.out.mono ?_)
      rintro e w1 ⟨rfl, hb1⟩
      obtain ⟨c0, c1, c2, c3⟩ := HX.out.below hb1
      have Hb := Aside.mk (below_then hb0.out hb1)
      clear hb1
      simp only at c0 c1 c2 c3
      go_wp2
      exact bodyPost_ret (v := .tuple #[.int .u64 0, .bool false]) (by simp [results, Tryd.results46, go_sem]) rfl ⟨rfl, Hb.out⟩
  · have hm : mayR v = false := by simpa using hm
    rw [hm] at C1
    rw [numR_no hm]
    clear hf hs hm
    obtain ⟨k, n, f, s⟩ := v
    have hb0 := Aside.mk hb0
    unfold Val.v at C1 ⊢
    unfold Val.obj at C1 HX hb0
    go_enter Tryd.func46, Tryd.ntmps46
    go_wp2_with fail
    (with_reducible refine C1.out.mono ?_)
    rintro e w1 ⟨rfl, hb1⟩
    have Hb := Aside.mk (below_then hb0.out hb1)
    clear hb1
    go_wp2
    exact bodyPost_ret (v := .tuple #[.int .u64 0, .bool false]) (by simp [results, Tryd.results46, go_sem]) rfl ⟨rfl, Hb.out⟩
def lessR (a b : Val) : Bool :=
  if mayR a && mayR b then
    (if a.k = b.k then (if a.k = 3 then decide (rankN a.f < rankN b.f) else if a.k = 4 then Op.bytesLess a.s.toList b.s.toList else decide (a.n < b.n)) else decide (a.k < b.k))
  else false
set_option maxRecDepth 100000 in
set_option maxHeartbeats 2000000 in
theorem refLess_any (a b : Val) (w : World) (ha : a.f < 18446744073709551616) (hb : b.f < 18446744073709551616) (hsa : a.s.size * 4 ≤ 140737488355324) (hsb : b.s.size * 4 ≤ 140737488355324) :
    Calls Tryd.prog 59 #[a.v, b.v] w fun e w' => e = .returned (.bool (lessR a b)) ∧ Below w.heap.size w w' := by
  have HB0 := Aside.mk (two_below w a b)
  have C1 := Aside.mk (mayR_any a ((w.alloc a.obj).alloc b.obj) ha hsa)
  have C2 := Aside.mk (fun W => mayR_any b W hb hsb)
  have HA := Aside.mk (two_a w a b)
  have HB := Aside.mk (two_b w a b)
  clear hsa hsb
  by_cases hma : mayR a = true
  rotate_left
  · have hma : mayR a = false := by simpa using hma
    have hL : lessR a b = false := by unfold lessR; rw [hma]; rfl
    rw [hL]
    rw [hma] at C1
    clear hma hL C2 ha hb HA HB
    unfold Val.obj at C1 HB0
    unfold Val.v at C1 ⊢
    go_enter Tryd.func59, Tryd.ntmps59
    go_wp2_with fail
    (with_reducible refine C1.out.mono ?_)
    rintro e w1 ⟨rfl, hb1⟩
    have HB1 := Aside.mk (below_then HB0.out hb1)
    clear hb1
    go_wp2
    go_ret
    exact ⟨rfl, HB1.out⟩
  by_cases hmb : mayR b = true
  rotate_left
  · have hmb : mayR b = false := by simpa using hmb
    have hL : lessR a b = false := by unfold lessR; rw [hma, hmb]; rfl
    rw [hL]
    rw [hma] at C1
    rw [hmb] at C2
    clear hma hmb hL ha hb HA
    unfold Val.obj at C1 HB0 HB
    unfold Val.v at C1 C2 ⊢
    go_enter Tryd.func59, Tryd.ntmps59
    go_wp2_with fail
    (with_reducible refine C1.out.mono ?_)
    rintro e w1 ⟨rfl, hb1⟩
    obtain ⟨b0, b1, b2, b3⟩ := HB.out.below hb1
    have HB1 := Aside.mk (below_then HB0.out hb1)
    clear hb1
    go_wp2_with fail
    (with_reducible refine (C2.out _).mono ?_)
    rintro e w2 ⟨rfl, hb2⟩
    have HB2 := Aside.mk (below_then HB1.out hb2)
    clear hb2
    go_wp2
    go_ret
    exact ⟨rfl, HB2.out⟩
  have hL : lessR a b = (if a.k = b.k then (if a.k = 3 then decide (rankN a.f < rankN b.f) else if a.k = 4 then Op.bytesLess a.s.toList b.s.toList else decide (a.n < b.n)) else decide (a.k < b.k)) := by unfold lessR; rw [hma, hmb]; rfl
  rw [hma] at C1
  rw [hmb] at C2
  clear hma hmb
  obtain ⟨k, n, f, s⟩ := a
  obtain ⟨l, m, g, t⟩ := b
  simp only at ha hb hL
  by_cases hk : k = l
  rotate_left
  · rw [if_neg hk] at hL
    rw [hL]
    have e1 : (k == l) = false := beq_eq_false_iff_ne.2 hk
    clear ha hb hL hk
    unfold Val.obj at C1 HB0 HB HA
    unfold Val.v at C1 C2 ⊢
    go_enter Tryd.func59, Tryd.ntmps59
    go_wp2_with fail
    (with_reducible refine C1.out.mono ?_)
    rintro e w1 ⟨rfl, hb1⟩
    obtain ⟨b0, b1, b2, b3⟩ := HB.out.below hb1
    have HA1 := Aside.mk (HA.out.below hb1)
    have HD1 := Aside.mk (HB.out.below hb1)
    have HB1 := Aside.mk (below_then HB0.out hb1)
    clear hb1
    go_wp2_with fail
    (with_reducible refine (C2.out _).mono ?_)
    rintro e w2 ⟨rfl, hb2⟩
    clear b0 b1 b2 b3
    obtain ⟨a0, a1, a2, a3⟩ := HA1.out.below hb2
    obtain ⟨b0, b1, b2, b3⟩ := HD1.out.below hb2
    have HB2 := Aside.mk (below_then HB1.out hb2)
    clear hb2
    simp only at a0 a1 a2 a3 b0 b1 b2 b3
    go_wp2
    go_ret
    exact ⟨rfl, HB2.out⟩
  subst hk
  rw [if_pos rfl] at hL
  by_cases h3 : k = 3
  rotate_left
  · rw [if_neg h3] at hL
    have e3 : (k == 3) = false := beq_eq_false_iff_ne.2 h3
    by_cases h4 : k = 4
    · rw [if_pos h4] at hL
      rw [hL]
      clear ha hb hL e3 h3
      subst h4
      unfold Val.obj at C1 HB0 HB HA
      unfold Val.v at C1 C2 ⊢
      go_enter Tryd.func59, Tryd.ntmps59
      go_wp2_with fail
      (with_reducible refine C1.out.mono ?_)
      rintro e w1 ⟨rfl, hb1⟩
      obtain ⟨b0, b1, b2, b3⟩ := HB.out.below hb1
      have HA1 := Aside.mk (HA.out.below hb1)
      have HD1 := Aside.mk (HB.out.below hb1)
      have HB1 := Aside.mk (below_then HB0.out hb1)
      clear hb1
      go_wp2_with fail
      (with_reducible refine (C2.out _).mono ?_)
      rintro e w2 ⟨rfl, hb2⟩
      clear b0 b1 b2 b3
      obtain ⟨a0, a1, a2, a3⟩ := HA1.out.below hb2
      obtain ⟨b0, b1, b2, b3⟩ := HD1.out.below hb2
      have HB2 := Aside.mk (below_then HB1.out hb2)
      clear hb2
      simp only at a0 a1 a2 a3 b0 b1 b2 b3
      go_wp2
      go_ret
      exact ⟨rfl, HB2.out⟩
    · rw [if_neg h4] at hL
      rw [hL]
      have e4 : (k == 4) = false := beq_eq_false_iff_ne.2 h4
      clear ha hb hL h3 h4
      unfold Val.obj at C1 HB0 HB HA
      unfold Val.v at C1 C2 ⊢
      go_enter Tryd.func59, Tryd.ntmps59
      go_wp2_with fail
      (with_reducible refine C1.out.mono ?_)
      rintro e w1 ⟨rfl, hb1⟩
      obtain ⟨b0, b1, b2, b3⟩ := HB.out.below hb1
      have HA1 := Aside.mk (HA.out.below hb1)
      have HD1 := Aside.mk (HB.out.below hb1)
      have HB1 := Aside.mk (below_then HB0.out hb1)
      clear hb1
      go_wp2_with fail
      (with_reducible refine (C2.out _).mono ?_)
      rintro e w2 ⟨rfl, hb2⟩
      clear b0 b1 b2 b3
      obtain ⟨a0, a1, a2, a3⟩ := HA1.out.below hb2
      obtain ⟨b0, b1, b2, b3⟩ := HD1.out.below hb2
      have HB2 := Aside.mk (below_then HB1.out hb2)
      clear hb2
      simp only at a0 a1 a2 a3 b0 b1 b2 b3
      go_wp2
      go_ret
      exact ⟨rfl, HB2.out⟩
  rw [if_pos h3] at hL
  rw [hL]
  clear hL
  subst h3
  have HRf := Aside.mk (fun w => rank_any f w ha)
  have HRg := Aside.mk (fun w => rank_any g w hb)
  have HR := Aside.mk (show (decide ((rankN f : Int) < (rankN g : Int))) = decide (rankN f < rankN g) by rw [decide_eq_decide]; omega)
  obtain ⟨R, hR⟩ : ∃ R, decide (rankN f < rankN g) = R := ⟨_, rfl⟩
  rw [hR] at HR ⊢
  obtain ⟨x, hx⟩ : ∃ x : Int, (rankN f : Int) = x := ⟨_, rfl⟩
  obtain ⟨y, hy⟩ : ∃ y : Int, (rankN g : Int) = y := ⟨_, rfl⟩
  rw [hx] at HRf HR
  rw [hy] at HRg HR
  clear hR hx hy ha hb
  unfold Val.obj at C1 HB0 HB HA
  unfold Val.v at C1 C2 ⊢
  go_enter Tryd.func59, Tryd.ntmps59
  go_wp2_with fail
  (with_reducible refine C1.out.mono ?_)
  rintro e w1 ⟨rfl, hb1⟩
  obtain ⟨b0, b1, b2, b3⟩ := HB.out.below hb1
  have HA1 := Aside.mk (HA.out.below hb1)
  have HD1 := Aside.mk (HB.out.below hb1)
  have HB1 := Aside.mk (below_then HB0.out hb1)
  clear hb1
  go_wp2_with fail
  (with_reducible refine (C2.out _).mono ?_)
  rintro e w2 ⟨rfl, hb2⟩
  clear b0 b1 b2 b3
  obtain ⟨a0, a1, a2, a3⟩ := HA1.out.below hb2
  obtain ⟨b0, b1, b2, b3⟩ := HD1.out.below hb2
  have HB2 := Aside.mk (below_then HB1.out hb2)
  clear hb2
  simp only at a0 a1 a2 a3 b0 b1 b2 b3
  go_wp2_with fail
  have CF := Aside.mk (fun n => (HRf.out (w2.drewN n)).mono (fun _ _ h => (⟨h.1, h.2.symm⟩ : _ ∧ _)))
  have CG := Aside.mk (fun n => (HRg.out (w2.drewN n)).mono (fun _ _ h => (⟨h.1, h.2.symm⟩ : _ ∧ _)))
  go_quiet (first | (go_at_call 97; (with_reducible refine Calls.quiet_of_same (CF.out _))) | (go_at_call 97; (with_reducible refine Calls.quiet_of_same (CG.out _))))
  have HB3 := Aside.mk (below_drewN HB2.out nq)
  generalize w2.drewN nq = wq at HB3 ⊢
  go_wp2
  go_ret
  exact ⟨ret_bool HR.out, HB3.out⟩
end Go.Proofs.YtaejlgdmalhhnaaDoor
