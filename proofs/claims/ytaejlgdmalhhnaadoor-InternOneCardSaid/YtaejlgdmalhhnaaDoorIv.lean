/- Layer 7: InternHolds (printed by gen_holds.py). -/
import Derived.Test.YtaejlgdmalhhnaaDoorIu
set_option linter.unusedVariables false
set_option linter.unusedSimpArgs false
namespace Go.Proofs.YtaejlgdmalhhnaaDoor
open Go.RowKit Go.Maps

theorem hold_one (l : List At) (h : Int) (h0 : h ≠ 0) : holdP [(l, h)] 0 1 = ([(l, h + 1)], 0, 0) := by
  have ha : askP [(l, h)] 0 1 = (h, 0) := by
    unfold askP
    rw [if_neg (by decide), if_neg (by decide), show ((1 : Int) - 1).toNat = 0 from rfl]
    simp only [List.getElem?_cons_zero]
    rw [if_neg h0]
  unfold holdP
  rw [ha, if_neg (by simp), if_neg (by decide), show ((1 : Int) - 1).toNat = 0 from rfl]
  rfl
def hdP (l : List At) (n k : Nat) : Ps := if k ≤ n then [(l, (n : Int) + 1 - (k : Int))] else [([], 0)]
def frP (n k : Nat) : List Int := if k ≤ n then [] else [0]
theorem hd_end (l : List At) (n : Nat) : hdP l n (n + 1) = [([], 0)] := by unfold hdP; rw [if_neg (by omega)]
theorem fr_end (n : Nat) : frP n (n + 1) = [0] := by unfold frP; rw [if_neg (by omega)]
theorem hd_ask (l : List At) (n k : Nat) (h : k ≤ n) : (askP (hdP l n k) 0 1).1 = (n : Int) + 1 - (k : Int) := by
  unfold hdP
  rw [if_pos h]
  unfold askP
  rw [if_neg (by decide), if_neg (by decide), show ((1 : Int) - 1).toNat = 0 from rfl]
  simp only [List.getElem?_cons_zero]
  rw [if_neg (by omega)]
theorem hd_free (l : List At) (n k : Nat) (h : k ≤ n) : freeP (hdP l n k) (frP n k) 0 1 = (hdP l n (k + 1), frP n (k + 1), 0, 0) := by
  have ha : askP (hdP l n k) 0 1 = ((n : Int) + 1 - (k : Int), 0) := by
    unfold hdP
    rw [if_pos h]
    unfold askP
    rw [if_neg (by decide), if_neg (by decide), show ((1 : Int) - 1).toNat = 0 from rfl]
    simp only [List.getElem?_cons_zero]
    rw [if_neg (by omega)]
  unfold freeP
  rw [ha, if_neg (by simp), if_neg (by decide), show ((1 : Int) - 1).toNat = 0 from rfl]
  unfold hdP frP
  rw [if_pos h, if_pos h]
  simp only [List.getElem?_cons_zero]
  by_cases hk : k = n
  · subst hk
    rw [if_pos (by omega), if_neg (by omega), if_neg (by omega)]
    rfl
  · rw [if_neg (by omega), if_pos (by omega), if_pos (by omega)]
    have e : (n : Int) + 1 - (k : Int) - 1 = (n : Int) + 1 - ((k + 1 : Nat) : Int) := by omega
    simp only [List.set_cons_zero, e]
theorem run_cast {w W : World} {tb : Nat} {so : Option Addr} {mb lo hi : Nat} {ks srt : List Ky} {l : List At} {h h' : Int} {free : List Int} {empty : Int} {cnt cnt' : Nat} {O : Nat → Prop} (hr : Run w W tb so mb lo hi ks srt [(l, h)] free empty cnt O) (e : h = h') (e2 : cnt = cnt') : Run w W tb so mb lo hi ks srt [(l, h')] free empty cnt' O := by
  subst e e2; exact hr
set_option maxRecDepth 100000 in
set_option maxHeartbeats 4000000 in
theorem holds_no (nn : Nat) (w : World) (hn : nn ≤ 50) (hT : Lib.Utf8Tabs 1 2 w) : Calls Tryd.prog 19 #[.int .i64 (nn : Int), .bool false] w fun e w' => e = .returned (.bool true) ∧ Below w.heap.size w w' := by
  have HT := Aside.mk hT
  have HK := Aside.mk (fun W (h : Below w.heap.size w W) => known7_any W (tabs_below hT h))
  have N1 := Aside.mk newI
  unfold kIObj at N1
  have g0 : (0 : Int) ≤ (nn : Int) := by omega
  have g1 : (nn : Int) ≤ 50 := by omega
  clear hT
  go_enter Tryd.func19, Tryd.ntmps19
  go_wp2_with fail
  (with_reducible refine (N1.out _).mono ?_)
  rintro e w1 ⟨hb1, h1⟩
  rw [kI_ok, if_pos rfl] at h1
  obtain ⟨v, srt, rfl, hS, hv, hp, hs⟩ := h1
  have hsp : ∃ so, v = .pointer so := by rcases hS with ⟨rfl, _⟩ | ⟨g, A, c, m, rfl, _⟩ <;> exact ⟨_, rfl⟩
  obtain ⟨so, rfl⟩ := hsp
  have R2 := Aside.mk (run_new (w := w) (below_then (below_alloc (below_refl w) kIObj) hb1) hS (Nat.le_refl _))
  clear hS hv hp hs hb1
  go_wp2_with fail
  (with_reducible refine (new7_any so w1).mono ?_)
  rintro e w2 ⟨rfl, rfl⟩
  go_wp2_with fail
  (with_reducible refine (flags_any 0 _).mono ?_)
  rintro e w' ⟨rfl, rfl⟩
  go_wp2_with fail
  have CA := run_flag 0 R2.out (by decide) HT.out (by decide) (P' := [(flagA 0, 1)]) (free' := []) (empty' := 0) (id := 1) (err := 0) (by decide +kernel)
  try rw [show ((newW w1 (.pointer so)).alloc (flagO 0)).heap.size = (newW w1 (.pointer so)).heap.size + 1 from World.size_alloc _ _] at CA
  (with_reducible refine CA.mono ?_)
  clear CA
  rintro e w4 ⟨rfl, hr, _⟩
  have R4 := Aside.mk hr
  clear hr R2
  go_wp2_with fail
  go_loopw [49] (fun i wr => ∃ k : Nat, k ≤ nn ∧ i = .int .i64 k ∧ ∃ O, Aside (Run w wr (w1.heap.size + 1) so w1.heap.size (w.alloc kIObj).heap.size w1.heap.size kI srt [(flagA 0, 1 + (k : Int))] [] 0 (1 + k) O)) (fun i _ => nn - (intOf i).toNat)
  case atStart => exact ⟨0, Nat.zero_le _, rfl, _, R4⟩
  case round =>
    obtain ⟨k, hk, rfl, O, HR⟩ := hrel
    by_cases hlt : k < nn
    · have hkz : (k : Int) < (nn : Int) := by omega
      go_wp2_with fail
      (with_reducible refine (run_hold 1 HR.out (by omega) (by decide) (hold_one (flagA 0) (1 + (k : Int)) (by omega))).mono ?_)
      rintro e w5 ⟨rfl, hr, _⟩
      have R5 := Aside.mk (run_cast hr (show 1 + (k : Int) + 1 = 1 + ((k + 1 : Nat) : Int) by omega) (show 1 + k + 1 = 1 + (k + 1) by omega))
      clear hr
      go_wp2
      go_roundw
      case rel => exact ⟨k + 1, by omega, by go_num, _, R5⟩
      case measure => simp [intOf]; omega
    · obtain rfl : k = nn := by omega
      have H0 := Aside.mk (show ∃ O, Run w wr (w1.heap.size + 1) so w1.heap.size (w.alloc kIObj).heap.size w1.heap.size kI srt (hdP (flagA 0) k 0) (frP k 0) 0 (1 + k + 0) O from ⟨O, by
        have := HR.out
        unfold hdP frP
        rw [if_pos (Nat.zero_le k), if_pos (Nat.zero_le k)]
        have e : (k : Int) + 1 - ((0 : Nat) : Int) = 1 + (k : Int) := by omega
        rw [e]; exact this⟩)
      go_wp2_with fail
      obtain ⟨wo, hwo⟩ : ∃ wo : World, wo = wr := ⟨_, rfl⟩
      rw [← hwo] at H0 ⊢
      clear hwo HR
      go_loopw [58] (fun i wr => ∃ j : Nat, j ≤ k + 1 ∧ i = .int .i64 j ∧ Aside (∃ O, Run w wr (w1.heap.size + 1) so w1.heap.size (w.alloc kIObj).heap.size w1.heap.size kI srt (hdP (flagA 0) k j) (frP k j) 0 (1 + k + j) O)) (fun i _ => k + 1 - (intOf i).toNat)
      case atStart => exact ⟨0, Nat.zero_le _, rfl, H0⟩
      case round =>
        obtain ⟨j, hj, rfl, HR⟩ := hrel
        by_cases hjl : j < k + 1
        · have hjz : (j : Int) < (k : Int) + 1 := by omega
          have hj50 : (j : Int) ≤ 50 := by omega
          obtain ⟨O, hR⟩ := HR.out
          have RJ := Aside.mk hR
          have HHe := Aside.mk (show Calls Tryd.prog 56 #[.pointer (some ⟨w1.heap.size + 1, 0, none⟩), .int .i64 1] wr fun e w' => e = .returned (.int .i64 ((k : Int) + 1 - (j : Int))) ∧ Below wr.heap.size wr w' from by
            have h := heldM 1 hR.tab (by omega) (by decide)
            rw [hd_ask (flagA 0) k j (by omega)] at h
            exact h)
          clear hR
          go_wp2_with fail
          (with_reducible refine HHe.out.mono ?_)
          rintro e w5 ⟨rfl, hb5⟩
          have RK := Aside.mk (RJ.out.later hb5)
          clear hb5
          go_wp2_with fail
          (with_reducible refine (run_free 1 RK.out (by omega) (by decide) (hd_free (flagA 0) k j (by omega))).mono ?_)
          rintro e w6 ⟨rfl, hr, _⟩
          have R6 := Aside.mk (show ∃ O, Run w w6 (w1.heap.size + 1) so w1.heap.size (w.alloc kIObj).heap.size w1.heap.size kI srt (hdP (flagA 0) k (j + 1)) (frP k (j + 1)) 0 (1 + k + (j + 1)) O from ⟨_, hr⟩)
          clear hr
          go_wp2
          go_roundw
          case rel => exact ⟨j + 1, by omega, by go_num, R6⟩
          case measure => simp [intOf]; omega
        · obtain rfl : j = k + 1 := by omega
          obtain ⟨O, hR⟩ := HR.out
          rw [hd_end, fr_end] at hR
          have RJ := Aside.mk hR
          have HHe := Aside.mk (show Calls Tryd.prog 56 #[.pointer (some ⟨w1.heap.size + 1, 0, none⟩), .int .i64 1] wr fun e w' => e = .returned (.int .i64 0) ∧ Below wr.heap.size wr w' from heldM 1 hR.tab (by omega) (by decide))
          clear hR
          go_wp2_with fail
          (with_reducible refine HHe.out.mono ?_)
          rintro e w5 ⟨rfl, hb5⟩
          have RK := Aside.mk (RJ.out.later hb5)
          clear hb5
          go_wp2_with fail
          (with_reducible refine (run_hold 1 RK.out (by omega) (by decide) (P' := [([], 0)]) (empty' := 0) (err := 5) (by decide +kernel)).mono ?_)
          rintro e w6 ⟨rfl, hr, _⟩
          have R6 := Aside.mk hr
          have HLn := Aside.mk (show Calls Tryd.prog 57 #[.pointer (some ⟨w1.heap.size + 1, 0, none⟩)] w6 fun e w' => e = .returned (.int .i64 1) ∧ Below w6.heap.size w6 w' from lenM hr.tab (by omega))
          clear hr
          go_wp2_with fail
          (with_reducible refine HLn.out.mono ?_)
          rintro e w7 ⟨rfl, hb7⟩
          have R7 := Aside.mk (R6.out.later hb7)
          clear hb7
          go_wp2_with fail
          (with_reducible refine (HK.out _ R7.out.below).mono ?_)
          rintro e w8 ⟨rfl, hb8⟩
          have HB := Aside.mk (below_then R7.out.below hb8)
          clear hb8
          go_wp2
          go_ret
          exact ⟨rfl, HB.out⟩
set_option maxRecDepth 100000 in
set_option maxHeartbeats 4000000 in
theorem holds_yes (nn : Nat) (w : World) (hn : nn ≤ 50) (hT : Lib.Utf8Tabs 1 2 w) : Calls Tryd.prog 19 #[.int .i64 (nn : Int), .bool true] w fun e w' => e = .returned (.bool true) ∧ Below w.heap.size w w' := by
  have HT := Aside.mk hT
  have HK := Aside.mk (fun W (h : Below w.heap.size w W) => known7_any W (tabs_below hT h))
  have N1 := Aside.mk newI
  unfold kIObj at N1
  have g0 : (0 : Int) ≤ (nn : Int) := by omega
  have g1 : (nn : Int) ≤ 50 := by omega
  clear hT
  go_enter Tryd.func19, Tryd.ntmps19
  go_wp2_with fail
  (with_reducible refine (N1.out _).mono ?_)
  rintro e w1 ⟨hb1, h1⟩
  rw [kI_ok, if_pos rfl] at h1
  obtain ⟨v, srt, rfl, hS, hv, hp, hs⟩ := h1
  have hsp : ∃ so, v = .pointer so := by rcases hS with ⟨rfl, _⟩ | ⟨g, A, c, m, rfl, _⟩ <;> exact ⟨_, rfl⟩
  obtain ⟨so, rfl⟩ := hsp
  have R2 := Aside.mk (run_new (w := w) (below_then (below_alloc (below_refl w) kIObj) hb1) hS (Nat.le_refl _))
  clear hS hv hp hs hb1
  go_wp2_with fail
  (with_reducible refine (new7_any so w1).mono ?_)
  rintro e w2 ⟨rfl, rfl⟩
  go_wp2_with fail
  (with_reducible refine (flags_any 0 _).mono ?_)
  rintro e w' ⟨rfl, rfl⟩
  have R3 := Aside.mk (R2.out.later (below_alloc (below_refl _) (flagO 0)))
  go_wp2_with fail
  (with_reducible refine (flags_any 1 _).mono ?_)
  rintro e w' ⟨rfl, rfl⟩
  go_wp2_with fail
  have CA := run_flag 1 R3.out (by decide) HT.out (by decide) (P' := [(flagA 1, 1)]) (free' := []) (empty' := 0) (id := 1) (err := 0) (by decide +kernel)
  try rw [show ((newW w1 (.pointer so)).alloc (flagO 0)).heap.size = (newW w1 (.pointer so)).heap.size + 1 from World.size_alloc _ _] at CA
  (with_reducible refine CA.mono ?_)
  clear CA
  rintro e w4 ⟨rfl, hr, _⟩
  have R4 := Aside.mk hr
  clear hr R2
  go_wp2_with fail
  go_loopw [49] (fun i wr => ∃ k : Nat, k ≤ nn ∧ i = .int .i64 k ∧ ∃ O, Aside (Run w wr (w1.heap.size + 1) so w1.heap.size (w.alloc kIObj).heap.size w1.heap.size kI srt [(flagA 1, 1 + (k : Int))] [] 0 (1 + k) O)) (fun i _ => nn - (intOf i).toNat)
  case atStart => exact ⟨0, Nat.zero_le _, rfl, _, R4⟩
  case round =>
    obtain ⟨k, hk, rfl, O, HR⟩ := hrel
    by_cases hlt : k < nn
    · have hkz : (k : Int) < (nn : Int) := by omega
      go_wp2_with fail
      (with_reducible refine (run_hold 1 HR.out (by omega) (by decide) (hold_one (flagA 1) (1 + (k : Int)) (by omega))).mono ?_)
      rintro e w5 ⟨rfl, hr, _⟩
      have R5 := Aside.mk (run_cast hr (show 1 + (k : Int) + 1 = 1 + ((k + 1 : Nat) : Int) by omega) (show 1 + k + 1 = 1 + (k + 1) by omega))
      clear hr
      go_wp2
      go_roundw
      case rel => exact ⟨k + 1, by omega, by go_num, _, R5⟩
      case measure => simp [intOf]; omega
    · obtain rfl : k = nn := by omega
      have H0 := Aside.mk (show ∃ O, Run w wr (w1.heap.size + 1) so w1.heap.size (w.alloc kIObj).heap.size w1.heap.size kI srt (hdP (flagA 1) k 0) (frP k 0) 0 (1 + k + 0) O from ⟨O, by
        have := HR.out
        unfold hdP frP
        rw [if_pos (Nat.zero_le k), if_pos (Nat.zero_le k)]
        have e : (k : Int) + 1 - ((0 : Nat) : Int) = 1 + (k : Int) := by omega
        rw [e]; exact this⟩)
      go_wp2_with fail
      obtain ⟨wo, hwo⟩ : ∃ wo : World, wo = wr := ⟨_, rfl⟩
      rw [← hwo] at H0 ⊢
      clear hwo HR
      go_loopw [58] (fun i wr => ∃ j : Nat, j ≤ k + 1 ∧ i = .int .i64 j ∧ Aside (∃ O, Run w wr (w1.heap.size + 1) so w1.heap.size (w.alloc kIObj).heap.size w1.heap.size kI srt (hdP (flagA 1) k j) (frP k j) 0 (1 + k + j) O)) (fun i _ => k + 1 - (intOf i).toNat)
      case atStart => exact ⟨0, Nat.zero_le _, rfl, H0⟩
      case round =>
        obtain ⟨j, hj, rfl, HR⟩ := hrel
        by_cases hjl : j < k + 1
        · have hjz : (j : Int) < (k : Int) + 1 := by omega
          have hj50 : (j : Int) ≤ 50 := by omega
          obtain ⟨O, hR⟩ := HR.out
          have RJ := Aside.mk hR
          have HHe := Aside.mk (show Calls Tryd.prog 56 #[.pointer (some ⟨w1.heap.size + 1, 0, none⟩), .int .i64 1] wr fun e w' => e = .returned (.int .i64 ((k : Int) + 1 - (j : Int))) ∧ Below wr.heap.size wr w' from by
            have h := heldM 1 hR.tab (by omega) (by decide)
            rw [hd_ask (flagA 1) k j (by omega)] at h
            exact h)
          clear hR
          go_wp2_with fail
          (with_reducible refine HHe.out.mono ?_)
          rintro e w5 ⟨rfl, hb5⟩
          have RK := Aside.mk (RJ.out.later hb5)
          clear hb5
          go_wp2_with fail
          (with_reducible refine (run_free 1 RK.out (by omega) (by decide) (hd_free (flagA 1) k j (by omega))).mono ?_)
          rintro e w6 ⟨rfl, hr, _⟩
          have R6 := Aside.mk (show ∃ O, Run w w6 (w1.heap.size + 1) so w1.heap.size (w.alloc kIObj).heap.size w1.heap.size kI srt (hdP (flagA 1) k (j + 1)) (frP k (j + 1)) 0 (1 + k + (j + 1)) O from ⟨_, hr⟩)
          clear hr
          go_wp2
          go_roundw
          case rel => exact ⟨j + 1, by omega, by go_num, R6⟩
          case measure => simp [intOf]; omega
        · obtain rfl : j = k + 1 := by omega
          obtain ⟨O, hR⟩ := HR.out
          rw [hd_end, fr_end] at hR
          have RJ := Aside.mk hR
          have HHe := Aside.mk (show Calls Tryd.prog 56 #[.pointer (some ⟨w1.heap.size + 1, 0, none⟩), .int .i64 1] wr fun e w' => e = .returned (.int .i64 0) ∧ Below wr.heap.size wr w' from heldM 1 hR.tab (by omega) (by decide))
          clear hR
          go_wp2_with fail
          (with_reducible refine HHe.out.mono ?_)
          rintro e w5 ⟨rfl, hb5⟩
          have RK := Aside.mk (RJ.out.later hb5)
          clear hb5
          go_wp2_with fail
          (with_reducible refine (run_hold 1 RK.out (by omega) (by decide) (P' := [([], 0)]) (empty' := 0) (err := 5) (by decide +kernel)).mono ?_)
          rintro e w6 ⟨rfl, hr, _⟩
          have R6 := Aside.mk hr
          have HLn := Aside.mk (show Calls Tryd.prog 57 #[.pointer (some ⟨w1.heap.size + 1, 0, none⟩)] w6 fun e w' => e = .returned (.int .i64 1) ∧ Below w6.heap.size w6 w' from lenM hr.tab (by omega))
          clear hr
          go_wp2_with fail
          (with_reducible refine HLn.out.mono ?_)
          rintro e w7 ⟨rfl, hb7⟩
          have R7 := Aside.mk (R6.out.later hb7)
          clear hb7
          go_wp2_with fail
          (with_reducible refine (HK.out _ R7.out.below).mono ?_)
          rintro e w8 ⟨rfl, hb8⟩
          have HB := Aside.mk (below_then R7.out.below hb8)
          clear hb8
          go_wp2
          go_ret
          exact ⟨rfl, HB.out⟩
set_option maxRecDepth 100000 in
theorem internHolds_walk (n : Int) (flag : Bool) (w : World) (hw : (Lit.int .i64 n).wf = true) (hT : Lib.Utf8Tabs 1 2 w) : Calls Tryd.prog 19 #[.int .i64 n, .bool flag] w fun e w' => e = .returned (.bool true) ∧ Below w.heap.size w w' := by
  by_cases h : 0 ≤ n ∧ n ≤ 50
  · obtain ⟨nn, rfl⟩ : ∃ nn : Nat, n = (nn : Int) := ⟨n.toNat, by omega⟩
    cases flag
    · exact holds_no nn w (by omega) hT
    · exact holds_yes nn w (by omega) hT
  · have HK := Aside.mk (known7_any w hT)
    have HB := Aside.mk (below_refl w)
    clear hT hw
    by_cases h0 : n < 0
    · clear h
      go_enter Tryd.func19, Tryd.ntmps19
      go_wp2_with fail
      (with_reducible refine HK.out.mono ?_)
      rintro e w1 ⟨rfl, hb1⟩
      go_wp2
      go_ret
      exact ⟨rfl, hb1⟩
    · have h1 : 0 ≤ n := by omega
      have h2 : 50 < n := by omega
      clear h h0
      go_enter Tryd.func19, Tryd.ntmps19
      go_wp2_with fail
      (with_reducible refine HK.out.mono ?_)
      rintro e w1 ⟨rfl, hb1⟩
      go_wp2
      go_ret
      exact ⟨rfl, hb1⟩
end Go.Proofs.YtaejlgdmalhhnaaDoor
