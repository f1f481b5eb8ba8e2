/- Layer 3: the document's May, Number, Less. -/
import Derived.Test.YtaejlgdmalhhnaaDoorVg
set_option linter.unusedVariables false
namespace Go.Proofs.YtaejlgdmalhhnaaDoor
open Go.RowKit

def mayR (v : Val) : Bool :=
  if v.k = 1 then decide (v = ⟨1, v.n, 0, ⟨#[]⟩⟩) && (v.n == 0 || v.n == 1)
  else if v.k = 2 then decide (v = ⟨2, v.n, 0, ⟨#[]⟩⟩)
  else if v.k = 3 then decide (v = ⟨3, 0, v.f, ⟨#[]⟩⟩) && (!noneB v.f || v.f == nanW)
  else if v.k = 4 then (decide (v = ⟨4, 0, 0, v.s⟩) && decide (v.s.size ≤ 64)) && ((readF v.s.data.toList).2 == 0)
  else false

set_option maxRecDepth 100000 in
theorem mayR_1 (v : Val) (hk : v.k = 1) (w : World) : Calls Tryd.prog 44 #[v.v] w fun e w' => e = .returned (.bool (mayR v)) ∧ Below w.heap.size w w' := by
  have hm : mayR v = (decide (v = ⟨1, v.n, 0, ⟨#[]⟩⟩) && (v.n == 0 || v.n == 1)) := by unfold mayR; rw [if_pos hk]
  rw [hm]
  obtain ⟨k, n, f, s⟩ := v
  simp only at hk hm ⊢
  subst hk
  obtain ⟨q, hq⟩ : ∃ q, decide ((⟨1, n, f, s⟩ : Val) = ⟨1, n, 0, ⟨#[]⟩⟩) = q := ⟨_, rfl⟩
  rw [hq]
  have heq : ∀ W : World, (binOp .eql 56 (.agg #[.int .u8 1, .int .i64 n, .int .u64 (f : Int), .string s]) (.agg #[.int .u8 1, .int .i64 n, .int .u64 0, .string ⟨#[]⟩])).run Tryd.prog W = .ok (.bool q) W := fun W => eq_at (a := ⟨1, n, f, s⟩) (b := ⟨1, n, 0, ⟨#[]⟩⟩) hq W
  have Hb := Aside.mk (below_alloc (below_refl w) (.cells #[.int .u8 1, .int .i64 n, .int .u64 (f : Int), .string s] 56))
  clear hm hq
  unfold Val.v
  cases q
  · rw [Bool.false_and]
    go_enter Tryd.func44, Tryd.ntmps44
    go_wp2
    go_ret
    exact ⟨rfl, Hb.out⟩
  · rw [Bool.true_and]
    obtain ⟨p, hp⟩ : ∃ p, (n == 0) = p := ⟨_, rfl⟩
    rw [hp]
    cases p
    · rw [Bool.false_or]
      go_enter Tryd.func44, Tryd.ntmps44
      go_wp2
      go_ret
      exact ⟨rfl, Hb.out⟩
    · rw [Bool.true_or]
      go_enter Tryd.func44, Tryd.ntmps44
      go_wp2
      go_ret
      exact ⟨rfl, Hb.out⟩
set_option maxRecDepth 100000 in
theorem mayR_2 (v : Val) (hk : v.k = 2) (w : World) : Calls Tryd.prog 44 #[v.v] w fun e w' => e = .returned (.bool (mayR v)) ∧ Below w.heap.size w w' := by
  have hm : mayR v = decide (v = ⟨2, v.n, 0, ⟨#[]⟩⟩) := by unfold mayR; rw [if_neg (by omega), if_pos hk]
  rw [hm]
  obtain ⟨k, n, f, s⟩ := v
  simp only at hk hm ⊢
  subst hk
  obtain ⟨q, hq⟩ : ∃ q, decide ((⟨2, n, f, s⟩ : Val) = ⟨2, n, 0, ⟨#[]⟩⟩) = q := ⟨_, rfl⟩
  rw [hq]
  have heq : ∀ W : World, (binOp .eql 56 (.agg #[.int .u8 2, .int .i64 n, .int .u64 (f : Int), .string s]) (.agg #[.int .u8 2, .int .i64 n, .int .u64 0, .string ⟨#[]⟩])).run Tryd.prog W = .ok (.bool q) W := fun W => eq_at (a := ⟨2, n, f, s⟩) (b := ⟨2, n, 0, ⟨#[]⟩⟩) hq W
  have Hb := Aside.mk (below_alloc (below_refl w) (.cells #[.int .u8 2, .int .i64 n, .int .u64 (f : Int), .string s] 56))
  clear hm hq
  unfold Val.v
  go_enter Tryd.func44, Tryd.ntmps44
  go_wp2
  go_ret
  exact ⟨rfl, Hb.out⟩
set_option maxRecDepth 100000 in
theorem mayR_3 (v : Val) (hk : v.k = 3) (hf : v.f < 18446744073709551616) (w : World) : Calls Tryd.prog 44 #[v.v] w fun e w' => e = .returned (.bool (mayR v)) ∧ Below w.heap.size w w' := by
  have hm : mayR v = (decide (v = ⟨3, 0, v.f, ⟨#[]⟩⟩) && (!noneB v.f || v.f == nanW)) := by unfold mayR; rw [if_neg (by omega), if_neg (by omega), if_pos hk]
  rw [hm]
  obtain ⟨k, n, f, s⟩ := v
  simp only at hk hm hf ⊢
  subst hk
  obtain ⟨q, hq⟩ : ∃ q, decide ((⟨3, n, f, s⟩ : Val) = ⟨3, 0, f, ⟨#[]⟩⟩) = q := ⟨_, rfl⟩
  rw [hq]
  have heq : ∀ W : World, (binOp .eql 56 (.agg #[.int .u8 3, .int .i64 n, .int .u64 (f : Int), .string s]) (.agg #[.int .u8 3, .int .i64 0, .int .u64 (f : Int), .string ⟨#[]⟩])).run Tryd.prog W = .ok (.bool q) W := fun W => eq_at (a := ⟨3, n, f, s⟩) (b := ⟨3, 0, f, ⟨#[]⟩⟩) hq W
  have Hb := Aside.mk (below_alloc (below_refl w) (.cells #[.int .u8 3, .int .i64 n, .int .u64 (f : Int), .string s] 56))
  have HN := Aside.mk (fun W => none_any f W hf)
  clear hm hq hf
  unfold Val.v
  cases q
  · rw [Bool.false_and]
    go_enter Tryd.func44, Tryd.ntmps44
    go_wp2
    go_ret
    exact ⟨rfl, Hb.out⟩
  · rw [Bool.true_and]
    obtain ⟨p, hp⟩ : ∃ p, noneB f = p := ⟨_, rfl⟩
    rw [hp] at HN ⊢
    clear hp
    cases p
    · rw [Bool.not_false, Bool.true_or]
      go_enter Tryd.func44, Tryd.ntmps44
      go_wp2_with (go_at_call 93; go_must (refine (HN.out _).mono ?_; rintro e w' ⟨rfl, rfl⟩))
      go_ret
      exact ⟨rfl, Hb.out⟩
    · rw [Bool.not_true, Bool.false_or]
      have hz : ((f : Int) == 9221120237041090560) = (f == nanW) := by
        unfold nanW
        by_cases h : f = 9221120237041090560
        · subst h; rfl
        · rw [beq_eq_false_iff_ne.2 h, beq_eq_false_iff_ne.2 (by omega)]
      obtain ⟨z, hzz⟩ : ∃ z, (f == nanW) = z := ⟨_, rfl⟩
      rw [hzz] at hz ⊢
      clear hzz
      go_enter Tryd.func44, Tryd.ntmps44
      go_wp2_with (go_at_call 93; go_must (refine (HN.out _).mono ?_; rintro e w' ⟨rfl, rfl⟩))
      go_ret
      exact ⟨rfl, Hb.out⟩
/-- The document's Read of a text's bytes: the error's number. -/
theorem refRead_text (s : ByteArray) (W : World) (hs : s.size * 4 ≤ 140737488355324) :
    Calls Tryd.prog 24 #[.slice (some ⟨W.heap.size, 0, none⟩) s.size (grownCap W s.size 0 5)] (Lib.bytesWorld W 5 s) (ReadRes (Lib.bytesWorld W 5 s) (readF s.data.toList).1 (readF s.data.toList).2) := by
  have h := refRead_s (some ⟨W.heap.size, 0, none⟩) (grownCap W s.size 0 5) s.data.toList (Lib.bytesWorld W 5 s) (bytes_reads W s (by omega)) (by rw [toList_length]; exact grownCap_ge _ _ _ _) (by rw [toList_length]; exact hs)
  rw [toList_length] at h
  exact h
set_option maxRecDepth 100000 in
theorem mayR_4 (v : Val) (hk : v.k = 4) (hs : v.s.size * 4 ≤ 140737488355324) (w : World) : Calls Tryd.prog 44 #[v.v] w fun e w' => e = .returned (.bool (mayR v)) ∧ Below w.heap.size w w' := by
  have hm : mayR v = ((decide (v = ⟨4, 0, 0, v.s⟩) && decide (v.s.size ≤ 64)) && ((readF v.s.data.toList).2 == 0)) := by unfold mayR; rw [if_neg (by omega), if_neg (by omega), if_neg (by omega), if_pos hk]
  rw [hm]
  have HX := Aside.mk (Box.new w v)
  have hb0 := below_alloc (below_refl w) v.obj
  have C1 := Aside.mk (refRead_text v.s (w.alloc v.obj) hs)
  have hb0 := Aside.mk (below_then hb0 (below_bytes _ v.s))
  have HX := Aside.mk (HX.out.below (below_bytes _ v.s))
  obtain ⟨k, n, f, s⟩ := v
  simp only at hk hm hs C1 hb0 HX ⊢
  subst hk
  obtain ⟨q, hq⟩ : ∃ q, decide ((⟨4, n, f, s⟩ : Val) = ⟨4, 0, 0, s⟩) = q := ⟨_, rfl⟩
  rw [hq]
  have heq : ∀ W : World, (binOp .eql 56 (.agg #[.int .u8 4, .int .i64 n, .int .u64 (f : Int), .string s]) (.agg #[.int .u8 4, .int .i64 0, .int .u64 0, .string s])).run Tryd.prog W = .ok (.bool q) W := fun W => eq_at (a := ⟨4, n, f, s⟩) (b := ⟨4, 0, 0, s⟩) hq W
  obtain ⟨u, hu⟩ : ∃ u, (readF s.data.toList).1 = u := ⟨_, rfl⟩
  obtain ⟨z, hz⟩ : ∃ z, (readF s.data.toList).2 = z := ⟨_, rfl⟩
  rw [hu, hz] at C1
  rw [hz]
  have hle : decide ((s.size : Int) ≤ 64) = decide (s.size ≤ 64) := by rw [decide_eq_decide]; omega
  obtain ⟨p, hp⟩ : ∃ p, decide (s.size ≤ 64) = p := ⟨_, rfl⟩
  rw [hp] at hle ⊢
  clear hm hq hs hu hz hp
  unfold Val.v
  unfold Val.obj at C1 hb0 HX
  rw [World.size_alloc] at C1
  have hcv := conv_sb s
  cases q
  · rw [Bool.false_and, Bool.false_and]
    clear hle
    go_enter Tryd.func44, Tryd.ntmps44
    go_wp2_with fail
    (with_reducible refine C1.out.mono ?_)
    rintro e w1 ⟨A1, n1, rfl, hn1, hr1, hb1⟩
    obtain ⟨c0, c1, c2, c3⟩ := HX.out.below hb1
    have Hb := Aside.mk (below_then hb0.out hb1)
    clear hn1 hr1 hb1
    simp only at c0 c1 c2 c3
    go_wp2
    go_ret
    exact ⟨rfl, Hb.out⟩
  · rw [Bool.true_and]
    cases p
    · rw [Bool.false_and]
      have hlt : (64 : Int) < (s.size : Int) := by simp at hle; exact hle
      go_enter Tryd.func44, Tryd.ntmps44
      go_wp2_with fail
      (with_reducible refine C1.out.mono ?_)
      rintro e w1 ⟨A1, n1, rfl, hn1, hr1, hb1⟩
      obtain ⟨c0, c1, c2, c3⟩ := HX.out.below hb1
      have Hb := Aside.mk (below_then hb0.out hb1)
      clear hn1 hr1 hb1
      simp only at c0 c1 c2 c3
      go_wp2
      go_ret
      exact ⟨rfl, Hb.out⟩
    · rw [Bool.true_and]
      have hlt : (s.size : Int) ≤ 64 := by simpa using hle
      go_enter Tryd.func44, Tryd.ntmps44
      go_wp2_with fail
      (with_reducible refine C1.out.mono ?_)
      rintro e w1 ⟨A1, n1, rfl, hn1, hr1, hb1⟩
      obtain ⟨c0, c1, c2, c3⟩ := HX.out.below hb1
      have Hb := Aside.mk (below_then hb0.out hb1)
      clear hn1 hr1 hb1
      simp only at c0 c1 c2 c3
      go_wp2
      go_ret
      exact ⟨rfl, Hb.out⟩
set_option maxRecDepth 100000 in
theorem mayR_else (v : Val) (hk : v.k ≠ 1 ∧ v.k ≠ 2 ∧ v.k ≠ 3 ∧ v.k ≠ 4) (w : World) : Calls Tryd.prog 44 #[v.v] w fun e w' => e = .returned (.bool (mayR v)) ∧ Below w.heap.size w w' := by
  have hm : mayR v = false := by unfold mayR; rw [if_neg hk.1, if_neg hk.2.1, if_neg hk.2.2.1, if_neg hk.2.2.2]
  rw [hm]
  obtain ⟨k, n, f, s⟩ := v
  simp only at hk
  have e1 : (k == 1) = false := beq_eq_false_iff_ne.2 hk.1
  have e2 : (k == 2) = false := beq_eq_false_iff_ne.2 hk.2.1
  have e3 : (k == 3) = false := beq_eq_false_iff_ne.2 hk.2.2.1
  have e4 : (k == 4) = false := beq_eq_false_iff_ne.2 hk.2.2.2
  clear hm hk
  unfold Val.v
  go_enter Tryd.func44, Tryd.ntmps44
  go_wp2
  go_ret
  exact ⟨rfl, below_alloc (below_refl w) _⟩
theorem mayR_any (v : Val) (w : World) (hf : v.f < 18446744073709551616) (hs : v.s.size * 4 ≤ 140737488355324) : Calls Tryd.prog 44 #[v.v] w fun e w' => e = .returned (.bool (mayR v)) ∧ Below w.heap.size w w' := by
  by_cases h1 : v.k = 1
  · exact mayR_1 v h1 w
  by_cases h2 : v.k = 2
  · exact mayR_2 v h2 w
  by_cases h3 : v.k = 3
  · exact mayR_3 v h3 hf w
  by_cases h4 : v.k = 4
  · exact mayR_4 v h4 hs w
  · exact mayR_else v ⟨h1, h2, h3, h4⟩ w
end Go.Proofs.YtaejlgdmalhhnaaDoor
