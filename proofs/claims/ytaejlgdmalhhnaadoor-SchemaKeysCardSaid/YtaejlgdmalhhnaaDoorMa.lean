/- The document's layer 4: Find. -/
import Derived.Test.YtaejlgdmalhhnaaDoorPkB
set_option linter.unusedVariables false
set_option linter.unusedSimpArgs false
namespace Go.Proofs.YtaejlgdmalhhnaaDoor
open Go.RowKit Go.Maps

theorem findK_hit {ks : List Ky} {k : Nat} {x : Ky} {id : Int} (hx : ks[k]? = some x) (he : x.id = id) (hn : ∀ j < k, ∀ y, ks[j]? = some y → y.id ≠ id) : findK ks id = some x := by
  unfold findK
  rw [List.find?_eq_some_iff_getElem]
  obtain ⟨hk, hx⟩ := List.getElem?_eq_some_iff.1 hx
  refine ⟨by simpa using he, k, hk, hx, fun j hj => ?_⟩
  have := hn j hj _ (List.getElem?_eq_getElem (by omega))
  simpa using this
theorem findK_miss {ks : List Ky} {id : Int} (hn : ∀ j < ks.length, ∀ y, ks[j]? = some y → y.id ≠ id) : findK ks id = none := by
  unfold findK
  rw [List.find?_eq_none]
  intro y hy
  obtain ⟨j, hj, rfl⟩ := List.mem_iff_getElem.1 hy
  have := hn j hj _ (List.getElem?_eq_getElem hj)
  simpa using this
set_option maxRecDepth 100000 in
theorem dFind_any (A : Option Addr) (c : Nat) (ks : List Ky) (id : Int) (w : World) (hc : ks.length ≤ c) (hl : ks.length ≤ 9223372036854775807) (hS : KSrc w A ks) :
    Calls Tryd.prog 66 #[.slice A ks.length c, .int .i64 id] w (FindPost w ks id) := by
  have HS := Aside.mk hS
  have g1 : (ks.length : Int) ≤ 9223372036854775807 := by omega
  have g2 : (ks.length : Int) ≤ (c : Int) := by omega
  obtain ⟨R, hR⟩ : ∃ R, FindPost w ks id = R := ⟨_, rfl⟩
  rw [hR]
  have HRR := Aside.mk hR
  clear hS hc hl hR
  go_enter Tryd.func66, Tryd.ntmps66
  go_wp2_with fail
  go_loopw [6] (fun i wr => ∃ k : Nat, k ≤ ks.length ∧ i = .int .i64 k ∧ wr = w.alloc (.cells #[.int .i64 0, .bool false, .int .u8 0, .bool false, .bool false, .int .i64 0] 97) ∧ Aside (∀ j < k, ∀ y, ks[j]? = some y → y.id ≠ id)) (fun i _ => ks.length - (intOf i).toNat)
  case atStart => exact ⟨0, Nat.zero_le _, rfl, rfl, ⟨fun j h => absurd h (by omega)⟩⟩
  case round =>
    obtain ⟨k, hk, rfl, rfl, HN⟩ := hrel
    by_cases hlt : k < ks.length
    · have hkz : (k : Int) < (ks.length : Int) := by omega
      obtain ⟨⟨xi, xb, xk, xa, xe, xg⟩, hx⟩ : ∃ x, ks[k]? = some x := ⟨_, List.getElem?_eq_getElem hlt⟩
      rcases hAA : A with _ | ad
      · have h0 := HS.out.1 hAA; subst h0; exact absurd hlt (by simp)
      subst hAA
      obtain ⟨s0, s1, s2, s3, s4, s5⟩ := (HS.out.below (below_alloc (below_refl w) (.cells #[.int .i64 0, .bool false, .int .u8 0, .bool false, .bool false, .int .i64 0] 97))).six hx
      simp only at s0 s1 s2 s3 s4 s5
      have HX := Aside.mk hx
      clear hx
      by_cases hq : xi = id
      · have q : (xi == id) = true := by simpa using hq
        have HZ := Aside.mk (findK_hit HX.out hq HN.out)
        clear hq
        go_wp2
        refine bodyPost_ret (v := .tuple #[.agg #[.int .i64 xi, .bool xb, .int .u8 xk, .bool xa, .bool xe, .int .i64 xg], .bool true]) (by simp [results, Tryd.results66, go_sem]) rfl ?_
        rw [← HRR.out]
        unfold FindPost
        rw [HZ.out]
        exact ⟨rfl, below_alloc (below_refl w) _⟩
      · have q : (xi == id) = false := by simpa using hq
        have HZ := Aside.mk (show ∀ j < k + 1, ∀ y, ks[j]? = some y → y.id ≠ id by
          intro j hj y hy
          rcases Nat.lt_or_ge j k with h | h
          · exact HN.out j h y hy
          · obtain rfl : j = k := by omega
            rw [HX.out] at hy; cases hy; exact hq)
        clear hq
        go_wp2
        go_roundw
        case rel => exact ⟨k + 1, by omega, by go_num, trivial, HZ⟩
        case measure => simp [intOf]; omega
    · obtain rfl : k = ks.length := by omega
      have HZ := Aside.mk (findK_miss HN.out)
      go_wp2
      refine bodyPost_ret (v := .tuple #[.agg #[.int .i64 0, .bool false, .int .u8 0, .bool false, .bool false, .int .i64 0], .bool false]) (by simp [results, Tryd.results66, go_sem]) rfl ?_
      rw [← HRR.out]
      unfold FindPost
      rw [HZ.out]
      exact ⟨rfl, below_alloc (below_refl w) _⟩
end Go.Proofs.YtaejlgdmalhhnaaDoor
