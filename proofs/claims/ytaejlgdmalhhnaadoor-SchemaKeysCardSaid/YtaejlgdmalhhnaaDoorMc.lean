/- The document's layer 4: May (printed by gen_dmay.py). -/
import Derived.Test.YtaejlgdmalhhnaaDoorMa
set_option linter.unusedVariables false
set_option linter.unusedSimpArgs false
namespace Go.Proofs.YtaejlgdmalhhnaaDoor
open Go.RowKit Go.Maps

theorem okKs_len {ks : List Ky} (h : 64 < ks.length) : okKs ks = false := by
  unfold okKs
  rw [decide_eq_false (by omega), Bool.false_and]
theorem okKs_bad {ks : List Ky} {i : Nat} {x : Ky} (hi : ks[i]? = some x) (h : docK x = true) : okKs ks = false := by
  have := okPre_take_fail hi (fun h' => by rw [docK_eq, h'.1] at h; simp at h)
  unfold okKs
  rw [decide_eq_false this, Bool.and_false]
theorem okKs_two {ks : List Ky} {i j : Nat} {x y : Ky} (hi : ks[i]? = some x) (hj : ks[j]? = some y) (hlt : j < i) (h : y.id = x.id) : okKs ks = false := by
  have := okPre_take_fail hi (fun h' => by
    have h2 := h'.2
    unfold findK at h2
    rw [List.find?_eq_none] at h2
    exact h2 y (List.mem_of_getElem? (i := j) (by rw [List.getElem?_take, if_pos hlt]; exact hj)) (by simpa using h))
  unfold okKs
  rw [decide_eq_false this, Bool.and_false]
theorem okPre_next {ks : List Ky} {i : Nat} {x : Ky} (h : okPre (ks.take i)) (hi : ks[i]? = some x) (hd : docK x = false) (hn : ∀ j < i, ∀ y, ks[j]? = some y → y.id ≠ x.id) : okPre (ks.take (i + 1)) := by
  have hlt := (List.getElem?_eq_some_iff.1 hi).1
  rw [List.take_succ_eq_append_getElem hlt, (List.getElem?_eq_some_iff.1 hi).2, okPre_snoc]
  refine ⟨h, by rw [docK_eq] at hd; simpa using hd, ?_⟩
  unfold findK
  rw [List.find?_eq_none]
  intro y hy
  obtain ⟨j, hj, he⟩ := List.mem_iff_getElem.1 hy
  rw [List.length_take] at hj
  have := hn j (by omega) y (by rw [← he, List.getElem_take]; exact List.getElem?_eq_getElem (by omega))
  simpa using this
theorem okPre_none (ks : List Ky) : okPre (ks.take 0) := by unfold okPre; simp
set_option maxRecDepth 100000 in
set_option maxHeartbeats 4000000 in
theorem dMay_any (A : Option Addr) (c : Nat) (ks : List Ky) (w : World) (hc : ks.length ≤ c) (hl : ks.length ≤ 9223372036854775807) (hS : KSrc w A ks) :
    Calls Tryd.prog 31 #[.slice A ks.length c] w fun e w' => e = .returned (.bool (okKs ks)) ∧ Below w.heap.size w w' := by
  have HS := Aside.mk hS
  have g2 : (ks.length : Int) ≤ (c : Int) := by omega
  obtain ⟨b, hb⟩ : ∃ b, okKs ks = b := ⟨_, rfl⟩
  have HB := Aside.mk hb
  rw [hb]
  clear hS hb hc
  by_cases h64 : 64 < ks.length
  · have h64z : (64 : Int) < (ks.length : Int) := by omega
    have g1 : (ks.length : Int) ≤ 9223372036854775807 := by omega
    have HZ := Aside.mk (show b = false by rw [← HB.out]; exact okKs_len h64)
    clear h64 hl
    go_enter Tryd.func31, Tryd.ntmps31
    go_wp2
    go_ret
    exact ⟨by have h := HZ.out; subst h; rfl, below_refl w⟩
  have h64z : (ks.length : Int) ≤ 64 := by omega
  have HL := Aside.mk (show ks.length ≤ 64 by omega)
  clear h64 hl
  go_enter Tryd.func31, Tryd.ntmps31
  go_wp2_with fail
  go_loopw [3] (fun i wr => ∃ k : Nat, k ≤ ks.length ∧ i = .int .i64 k ∧ Aside (Below w.heap.size w wr ∧ okPre (ks.take k))) (fun i _ => ks.length - (intOf i).toNat)
  case atStart => exact ⟨0, Nat.zero_le _, rfl, ⟨below_refl w, okPre_none ks⟩⟩
  case round =>
    obtain ⟨k, hk, rfl, HN⟩ := hrel
    by_cases hlt : k < ks.length
    · have hkz : (k : Int) < (ks.length : Int) := by omega
      obtain ⟨⟨xi, xb, xk, xa, xe, xg⟩, hx⟩ : ∃ x, ks[k]? = some x := ⟨_, List.getElem?_eq_getElem hlt⟩
      rcases hAA : A with _ | ad
      · have h0 := HS.out.1 hAA; subst h0; exact absurd hlt (by simp)
      subst hAA
      have HX := Aside.mk hx
      obtain ⟨s0, s1, s2, s3, s4, s5⟩ := (HS.out.below HN.out.1).six hx
      simp only at s0 s1 s2 s3 s4 s5
      clear hx
      by_cases hq0 : decide (xi < 1) = true
      · have HZ := Aside.mk (show b = false by rw [← HB.out]; exact okKs_bad HX.out (by unfold docK; simp only [hq0, Bool.true_or, Bool.or_true]))
        go_wp2
        go_ret
        exact ⟨by have h := HZ.out; subst h; rfl, below_alloc HN.out.1 _⟩
      rw [Bool.not_eq_true] at hq0
      by_cases hq1 : decide (1000 < xi) = true
      · have HZ := Aside.mk (show b = false by rw [← HB.out]; exact okKs_bad HX.out (by unfold docK; simp only [hq1, Bool.true_or, Bool.or_true]))
        go_wp2
        go_ret
        exact ⟨by have h := HZ.out; subst h; rfl, below_alloc HN.out.1 _⟩
      rw [Bool.not_eq_true] at hq1
      by_cases hq2 : decide (xk < 1) = true
      · have HZ := Aside.mk (show b = false by rw [← HB.out]; exact okKs_bad HX.out (by unfold docK; simp only [hq2, Bool.true_or, Bool.or_true]))
        go_wp2
        go_ret
        exact ⟨by have h := HZ.out; subst h; rfl, below_alloc HN.out.1 _⟩
      rw [Bool.not_eq_true] at hq2
      by_cases hq3 : decide (4 < xk) = true
      · have HZ := Aside.mk (show b = false by rw [← HB.out]; exact okKs_bad HX.out (by unfold docK; simp only [hq3, Bool.true_or, Bool.or_true]))
        go_wp2
        go_ret
        exact ⟨by have h := HZ.out; subst h; rfl, below_alloc HN.out.1 _⟩
      rw [Bool.not_eq_true] at hq3
      by_cases hq4 : decide (xg < 0) = true
      · have HZ := Aside.mk (show b = false by rw [← HB.out]; exact okKs_bad HX.out (by unfold docK; simp only [hq4, Bool.true_or, Bool.or_true]))
        go_wp2
        go_ret
        exact ⟨by have h := HZ.out; subst h; rfl, below_alloc HN.out.1 _⟩
      rw [Bool.not_eq_true] at hq4
      by_cases hq5 : decide (8 < xg) = true
      · have HZ := Aside.mk (show b = false by rw [← HB.out]; exact okKs_bad HX.out (by unfold docK; simp only [hq5, Bool.true_or, Bool.or_true]))
        go_wp2
        go_ret
        exact ⟨by have h := HZ.out; subst h; rfl, below_alloc HN.out.1 _⟩
      rw [Bool.not_eq_true] at hq5
      cases xb
      · by_cases hq6 : (xg == 0) = false
        · have HZ := Aside.mk (show b = false by rw [← HB.out]; exact okKs_bad HX.out (by unfold docK; simp only [hq6, Bool.not_false, Bool.and_true, Bool.true_or, Bool.or_true]))
          have q6 : (xg != 0) = true := by simpa using hq6
          go_wp2
          go_ret
          exact ⟨by have h := HZ.out; subst h; rfl, below_alloc HN.out.1 _⟩
        rw [Bool.not_eq_false] at hq6
        have q6 : (xg != 0) = false := by simpa using hq6
        have HD := Aside.mk (show docK ⟨xi, false, xk, xa, xe, xg⟩ = false by unfold docK; simp only [hq0, hq1, hq2, hq3, hq4, hq5, hq6, Bool.not_true, Bool.not_false, Bool.false_and, Bool.true_and, Bool.or_false, Bool.and_false])
        go_wp2_with fail
        have HC := Aside.mk (show (wr.alloc (.cells #[.int .i64 xi, .bool false, .int .u8 xk, .bool xa, .bool xe, .int .i64 xg] 97)).cell? ⟨wr.heap.size, 0, none⟩ = some (.int .i64 xi) from cell_at (heap_alloc_new wr _) rfl)
        have HB0 := Aside.mk (below_alloc HN.out.1 (.cells #[.int .i64 xi, .bool false, .int .u8 xk, .bool xa, .bool xe, .int .i64 xg] 97))
        go_loopw [5] (fun n wx => ∃ m : Nat, m ≤ k ∧ n = .int .i64 m ∧ Aside (Below (wr.alloc (.cells #[.int .i64 xi, .bool false, .int .u8 xk, .bool xa, .bool xe, .int .i64 xg] 97)).heap.size (wr.alloc (.cells #[.int .i64 xi, .bool false, .int .u8 xk, .bool xa, .bool xe, .int .i64 xg] 97)) wx ∧ ∀ j < m, ∀ y, ks[j]? = some y → y.id ≠ xi)) (fun n _ => k - (intOf n).toNat)
        case atStart => exact ⟨0, Nat.zero_le _, rfl, ⟨below_refl _, fun j h => absurd h (by omega)⟩⟩
        case round =>
          obtain ⟨m, hm, rfl, HM⟩ := hrel
          have HBm := Aside.mk (below_then HB0.out HM.out.1)
          have hc0 := cell_below HM.out.1 HC.out
          by_cases hlm : m < k
          · have hmz : (m : Int) < (k : Int) := by omega
            have hmz2 : (m : Int) < (ks.length : Int) := by omega
            obtain ⟨⟨yi, yb, yk, ya, ye, yg⟩, hy⟩ : ∃ y, ks[m]? = some y := ⟨_, List.getElem?_eq_getElem (by omega)⟩
            obtain ⟨r0, _⟩ := (HS.out.below HBm.out).six hy
            simp only at r0
            have HY := Aside.mk hy
            clear hy
            by_cases he : yi = xi
            · have q : (yi == xi) = true := by simpa using he
              have HZ := Aside.mk (show b = false by rw [← HB.out]; exact okKs_two HX.out HY.out hlm he)
              clear he
              go_wp2_with fail
              go_quiet (fail)
              have HBn := Aside.mk (below_drewN HBm.out nq)
              go_wp2
              go_ret
              exact ⟨by have h := HZ.out; subst h; rfl, HBn.out⟩
            · have q : (yi == xi) = false := by simpa using he
              have HZ := Aside.mk (show ∀ j < m + 1, ∀ y, ks[j]? = some y → y.id ≠ xi by
                intro j hj y hy
                rcases Nat.lt_or_ge j m with h | h
                · exact HM.out.2 j h y hy
                · obtain rfl : j = m := by omega
                  rw [HY.out] at hy; cases hy; exact he)
              clear he
              go_wp2_with fail
              go_quiet (fail)
              have HBn := Aside.mk (below_drewN HM.out.1 nq)
              go_wp2
              go_roundw
              case rel => exact ⟨m + 1, by omega, by go_num, ⟨HBn.out, HZ.out⟩⟩
              case measure => simp [intOf]; omega
          · have hmk : k = m := by omega
            subst hmk
            have HZ := Aside.mk (okPre_next HN.out.2 HX.out HD.out HM.out.2)
            go_wp2
            go_roundw
            case rel => exact ⟨k + 1, by omega, by go_num, ⟨HBm.out, HZ.out⟩⟩
            case measure => simp [intOf]; omega
      · cases xe
        rotate_left
        · have HZ := Aside.mk (show b = false by rw [← HB.out]; exact okKs_bad HX.out (by unfold docK; simp only [Bool.and_true, Bool.or_true]))
          go_wp2
          go_ret
          exact ⟨by have h := HZ.out; subst h; rfl, below_alloc HN.out.1 _⟩
        · skip
          have HD := Aside.mk (show docK ⟨xi, true, xk, xa, false, xg⟩ = false by unfold docK; simp only [hq0, hq1, hq2, hq3, hq4, hq5, Bool.not_true, Bool.not_true, Bool.not_false, Bool.false_and, Bool.true_and, Bool.or_false, Bool.and_false])
          go_wp2_with fail
          have HC := Aside.mk (show (wr.alloc (.cells #[.int .i64 xi, .bool true, .int .u8 xk, .bool xa, .bool false, .int .i64 xg] 97)).cell? ⟨wr.heap.size, 0, none⟩ = some (.int .i64 xi) from cell_at (heap_alloc_new wr _) rfl)
          have HB0 := Aside.mk (below_alloc HN.out.1 (.cells #[.int .i64 xi, .bool true, .int .u8 xk, .bool xa, .bool false, .int .i64 xg] 97))
          go_loopw [5] (fun n wx => ∃ m : Nat, m ≤ k ∧ n = .int .i64 m ∧ Aside (Below (wr.alloc (.cells #[.int .i64 xi, .bool true, .int .u8 xk, .bool xa, .bool false, .int .i64 xg] 97)).heap.size (wr.alloc (.cells #[.int .i64 xi, .bool true, .int .u8 xk, .bool xa, .bool false, .int .i64 xg] 97)) wx ∧ ∀ j < m, ∀ y, ks[j]? = some y → y.id ≠ xi)) (fun n _ => k - (intOf n).toNat)
          case atStart => exact ⟨0, Nat.zero_le _, rfl, ⟨below_refl _, fun j h => absurd h (by omega)⟩⟩
          case round =>
            obtain ⟨m, hm, rfl, HM⟩ := hrel
            have HBm := Aside.mk (below_then HB0.out HM.out.1)
            have hc0 := cell_below HM.out.1 HC.out
            by_cases hlm : m < k
            · have hmz : (m : Int) < (k : Int) := by omega
              have hmz2 : (m : Int) < (ks.length : Int) := by omega
              obtain ⟨⟨yi, yb, yk, ya, ye, yg⟩, hy⟩ : ∃ y, ks[m]? = some y := ⟨_, List.getElem?_eq_getElem (by omega)⟩
              obtain ⟨r0, _⟩ := (HS.out.below HBm.out).six hy
              simp only at r0
              have HY := Aside.mk hy
              clear hy
              by_cases he : yi = xi
              · have q : (yi == xi) = true := by simpa using he
                have HZ := Aside.mk (show b = false by rw [← HB.out]; exact okKs_two HX.out HY.out hlm he)
                clear he
                go_wp2_with fail
                go_quiet (fail)
                have HBn := Aside.mk (below_drewN HBm.out nq)
                go_wp2
                go_ret
                exact ⟨by have h := HZ.out; subst h; rfl, HBn.out⟩
              · have q : (yi == xi) = false := by simpa using he
                have HZ := Aside.mk (show ∀ j < m + 1, ∀ y, ks[j]? = some y → y.id ≠ xi by
                  intro j hj y hy
                  rcases Nat.lt_or_ge j m with h | h
                  · exact HM.out.2 j h y hy
                  · obtain rfl : j = m := by omega
                    rw [HY.out] at hy; cases hy; exact he)
                clear he
                go_wp2_with fail
                go_quiet (fail)
                have HBn := Aside.mk (below_drewN HM.out.1 nq)
                go_wp2
                go_roundw
                case rel => exact ⟨m + 1, by omega, by go_num, ⟨HBn.out, HZ.out⟩⟩
                case measure => simp [intOf]; omega
            · have hmk : k = m := by omega
              subst hmk
              have HZ := Aside.mk (okPre_next HN.out.2 HX.out HD.out HM.out.2)
              go_wp2
              go_roundw
              case rel => exact ⟨k + 1, by omega, by go_num, ⟨HBm.out, HZ.out⟩⟩
              case measure => simp [intOf]; omega
    · obtain rfl : k = ks.length := by omega
      have HZ := Aside.mk (show b = true by
        have h := HN.out.2
        rw [List.take_length] at h
        rw [← HB.out]
        unfold okKs
        rw [decide_eq_true HL.out, decide_eq_true h]
        rfl)
      go_wp2
      go_ret
      exact ⟨by have h := HZ.out; subst h; rfl, HN.out.1⟩
end Go.Proofs.YtaejlgdmalhhnaaDoor
