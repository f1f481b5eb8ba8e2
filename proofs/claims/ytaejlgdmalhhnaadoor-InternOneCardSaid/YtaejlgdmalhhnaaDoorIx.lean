/- Layer 7: InternReuse's walk. -/
import Derived.Test.YtaejlgdmalhhnaaDoorIw
set_option linter.unusedVariables false
set_option linter.unusedSimpArgs false
namespace Go.Proofs.YtaejlgdmalhhnaaDoor
open Go.RowKit Go.Maps

theorem rs_any1 (k : Nat) (w : World) (hj : k + 1 < 42) : Calls Tryd.prog 70 #[.int .i64 ((k : Int) + 1)] w fun e w' => e = .returned (.slice (some ⟨w.heap.size + 1, 0, none⟩) 1 1) ∧ w' = rsW w (k + 1) := by
  have h := rs_any (k + 1) w hj
  rw [show ((k + 1 : Nat) : Int) = (k : Int) + 1 from by omega] at h
  exact h
set_option maxRecDepth 100000 in
set_option maxHeartbeats 4000000 in
theorem reuse_in (nn : Nat) (gone : Int) (w : World) (h1 : 1 ≤ nn) (hn : nn ≤ 40) (hT : Lib.Utf8Tabs 1 2 w) : Calls Tryd.prog 16 #[.int .i64 (nn : Int), .int .i64 gone] w fun e w' => e = .returned (.bool true) ∧ Below w.heap.size w w' := by
  have HT := Aside.mk hT
  have HK := Aside.mk (fun W (h : Below w.heap.size w W) => known7_any W (tabs_below hT h))
  have N1 := Aside.mk newR
  unfold kRObj at N1
  have g0 : (1 : Int) ≤ (nn : Int) := by omega
  have g1 : (nn : Int) ≤ 40 := by omega
  obtain ⟨gu, hgu⟩ : ∃ gu : Nat, IntKind.u64.wrap gone = (gu : Int) := ⟨(IntKind.u64.wrap gone).toNat, by rw [wrap_u64]; omega⟩
  have HGU := Aside.mk hgu
  have HN := Aside.mk hn
  have HN1 := Aside.mk h1
  clear hT hgu hn h1
  go_enter Tryd.func16, Tryd.ntmps16
  go_wp2_with fail
  (with_reducible refine (N1.out _).mono ?_)
  rintro e w1 ⟨hb1, h1⟩
  rw [kR_ok, if_pos rfl] at h1
  obtain ⟨v, srt, rfl, hS, hv, hp, hs⟩ := h1
  have hsp : ∃ so, v = .pointer so := by rcases hS with ⟨rfl, _⟩ | ⟨g, A, c, m, rfl, _⟩ <;> exact ⟨_, rfl⟩
  obtain ⟨so, rfl⟩ := hsp
  have R2 := Aside.mk (run_new (w := w) (below_then (below_alloc (below_refl w) kRObj) hb1) hS (Nat.le_refl _))
  clear hS hv hp hs hb1
  go_wp2_with fail
  (with_reducible refine (new7_any so w1).mono ?_)
  rintro e w2 ⟨rfl, rfl⟩
  go_wp2_with fail
  go_loopw [39] (fun i wr => ∃ k : Nat, k ≤ nn ∧ i = .int .i64 k ∧ ∃ O, Aside (Run w wr (w1.heap.size + 1) so w1.heap.size (w.alloc kRObj).heap.size w1.heap.size kR srt (rsP k) [] 0 k O)) (fun i _ => nn - (intOf i).toNat)
  case atStart => exact ⟨0, Nat.zero_le _, rfl, _, R2⟩
  case round =>
    obtain ⟨k, hk, rfl, O, HR⟩ := hrel
    by_cases hlt : k < nn
    · have hkz : (k : Int) < (nn : Int) := by omega
      go_wp2_with fail
      (with_reducible refine (rs_any k _ (by have := HN.out; omega)).mono ?_)
      rintro e w' ⟨rfl, rfl⟩
      go_wp2_with fail
      (with_reducible refine (run_rs k HR.out (by have := HN.out; omega) HT.out (rs_add (by have := HN.out; omega))).mono ?_)
      rintro e w5 ⟨rfl, hr, _⟩
      have R5 := Aside.mk hr
      clear hr
      go_wp2
      go_roundw
      case rel => exact ⟨k + 1, by omega, by go_num, _, R5⟩
      case measure => simp [intOf]; omega
    · obtain rfl : k = nn := by omega
      have hgu := HGU.out
      obtain ⟨kk, hkk⟩ : ∃ kk : Nat, (gu : Int) % (k : Int) = (kk : Int) := ⟨gu % k, by simp⟩
      have hk0 : kk < k := by have := Nat.mod_lt gu (show 0 < k by have := HN1.out; omega); have : ((gu % k : Nat) : Int) = (kk : Int) := by rw [← hkk]; simp
                              omega
      have HKK := Aside.mk hk0
      have b0 : (0 : Int) ≤ (kk : Int) := by omega
      have b1 : (kk : Int) ≤ 40 := by have := HN.out; omega
      clear hk0
      go_wp2_with fail
      (with_reducible refine (run_free ((kk : Int) + 1) HR.out (by have := HN.out; omega) (WalkArith.wf_i64 (by omega)) (rs_free HKK.out)).mono ?_)
      rintro e w5 ⟨rfl, hr, _⟩
      have R5 := Aside.mk hr
      clear hr hgu hkk HR
      go_wp2_with fail
      (with_reducible refine (rs_any (k) _ (by have := HN.out; omega)).mono ?_)
      rintro e w' ⟨rfl, rfl⟩
      go_wp2_with fail
      (with_reducible refine (run_rs (k) R5.out (by have := HN.out; omega) HT.out (rs_again HKK.out (by have := HN.out; omega))).mono ?_)
      rintro e w6 ⟨rfl, hr, _⟩
      have R6 := Aside.mk hr
      clear hr
      go_wp2_with fail
      (with_reducible refine (rs_any1 k _ (by have := HN.out; omega)).mono ?_)
      rintro e w' ⟨rfl, rfl⟩
      go_wp2_with fail
      (with_reducible refine (run_rs (k + 1) R6.out (by have := HN.out; omega) HT.out (rs_next HKK.out (by have := HN.out; omega))).mono ?_)
      rintro e w7 ⟨rfl, hr, _⟩
      have R7 := Aside.mk hr
      clear hr
      have HLn := Aside.mk (show Calls Tryd.prog 57 #[.pointer (some ⟨w1.heap.size + 1, 0, none⟩)] w7 fun e w' => e = .returned (.int .i64 ((k : Int) + 2)) ∧ Below w7.heap.size w7 w' from by
        have h := lenM R7.out.tab (by have := HN.out; omega)
        have e : (1 : Int) + (((rsP k).set kk (rsA k, 1) ++ [(rsA (k + 1), 1)]).length : Int) - (([] : List Int).length : Int) = (k : Int) + 2 := by rw [List.length_append, List.length_set, rsP_len]; simp; omega
        rw [e] at h
        exact h)
      go_wp2_with fail
      (with_reducible refine HLn.out.mono ?_)
      rintro e w8 ⟨rfl, hb8⟩
      have R8 := Aside.mk (R7.out.later hb8)
      clear hb8
      go_wp2_with fail
      (with_reducible refine (HK.out _ R8.out.below).mono ?_)
      rintro e w9 ⟨rfl, hb9⟩
      have HB := Aside.mk (below_then R8.out.below hb9)
      clear hb9
      go_wp2
      go_ret
      exact ⟨rfl, HB.out⟩
set_option maxRecDepth 100000 in
theorem internReuse_walk (n gone : Int) (w : World) (hw : (Lit.int .i64 n).wf = true) (hg : (Lit.int .i64 gone).wf = true) (hT : Lib.Utf8Tabs 1 2 w) : Calls Tryd.prog 16 #[.int .i64 n, .int .i64 gone] w fun e w' => e = .returned (.bool true) ∧ Below w.heap.size w w' := by
  by_cases h : 1 ≤ n ∧ n ≤ 40
  · obtain ⟨nn, rfl⟩ : ∃ nn : Nat, n = (nn : Int) := ⟨n.toNat, by omega⟩
    exact reuse_in nn gone w (by omega) (by omega) hT
  · have HK := Aside.mk (known7_any w hT)
    clear hT hw hg
    by_cases h0 : n < 1
    · clear h
      go_enter Tryd.func16, Tryd.ntmps16
      go_wp2_with fail
      (with_reducible refine HK.out.mono ?_)
      rintro e w1 ⟨rfl, hb1⟩
      go_wp2
      go_ret
      exact ⟨rfl, hb1⟩
    · have h1 : 1 ≤ n := by omega
      have h2 : 40 < n := by omega
      clear h h0
      go_enter Tryd.func16, Tryd.ntmps16
      go_wp2_with fail
      (with_reducible refine HK.out.mono ?_)
      rintro e w1 ⟨rfl, hb1⟩
      go_wp2
      go_ret
      exact ⟨rfl, hb1⟩
end Go.Proofs.YtaejlgdmalhhnaaDoor
