/- The document's layer 4: Fits. -/
import Derived.Test.YtaejlgdmalhhnaaDoorMa
import Derived.Test.YtaejlgdmalhhnaaDoorPkB
import Derived.Test.YtaejlgdmalhhnaaDoorVk
set_option linter.unusedVariables false
set_option linter.unusedSimpArgs false
namespace Go.Proofs.YtaejlgdmalhhnaaDoor
open Go.RowKit Go.Maps

set_option maxRecDepth 100000 in
theorem dFits_any (A : Option Addr) (c : Nat) (ks : List Ky) (id : Int) (v : Val) (w : World) (hc : ks.length ≤ c) (hl : ks.length ≤ 9223372036854775807) (hS : KSrc w A ks) (hf : v.f < 18446744073709551616) (hs : v.s.size * 4 ≤ 140737488355324) :
    Calls Tryd.prog 69 #[.slice A ks.length c, .int .i64 id, v.v] w fun e w' => e = .returned (.bool (fitsK ks id v)) ∧ Below w.heap.size w w' := by
  have HF := Aside.mk (dFind_any A c ks id (w.alloc v.obj) hc hl (hS.below (below_alloc (below_refl w) _)))
  have HM := Aside.mk (fun W => mayR_any v W hf hs)
  rw [mayR_mayV v hf] at HM
  clear hS hc hl
  obtain ⟨k, n, f, t⟩ := v
  cases hk : findK ks id with
  | none =>
    have hr : fitsK ks id ⟨k, n, f, t⟩ = false := by unfold fitsK; rw [hk]
    rw [hr]
    have hp : ∀ w e w', FindPost w ks id e w' → e = .returned (.tuple #[.agg #[.int .i64 0, .bool false, .int .u8 0, .bool false, .bool false, .int .i64 0], .bool false]) ∧ Below w.heap.size w w' := by
      intro w e w' h; unfold FindPost at h; rw [hk] at h; exact h
    have HP := Aside.mk hp
    clear hp hr hk HM hf hs
    unfold Val.obj at HF
    unfold Val.v
    go_enter Tryd.func69, Tryd.ntmps69
    go_wp2_with fail
    (with_reducible refine HF.out.mono ?_)
    intro e w1 h1
    obtain ⟨rfl, hb1⟩ := HP.out _ _ _ h1
    clear h1
    have HB := Aside.mk (below_then (below_alloc (below_refl w) (Val.obj ⟨k, n, f, t⟩)) hb1)
    clear hb1
    go_wp2
    go_ret
    exact ⟨rfl, below_alloc HB.out _⟩
  | some x =>
    obtain ⟨xi, xb, xk, xa, xe, xg⟩ := x
    have hr : fitsK ks id ⟨k, n, f, t⟩ = (xk == k && mayV ⟨k, n, f, t⟩) := by unfold fitsK; rw [hk]
    rw [hr]
    have hp : ∀ w e w', FindPost w ks id e w' → e = .returned (.tuple #[.agg #[.int .i64 xi, .bool xb, .int .u8 xk, .bool xa, .bool xe, .int .i64 xg], .bool true]) ∧ Below w.heap.size w w' := by
      intro w e w' h; unfold FindPost at h; rw [hk] at h; exact h
    have HP := Aside.mk hp
    have HX := Aside.mk (Box.new w ⟨k, n, f, t⟩)
    obtain ⟨r, hrr⟩ : ∃ r, mayV ⟨k, n, f, t⟩ = r := ⟨_, rfl⟩
    rw [hrr] at HM ⊢
    clear hp hr hk hf hs hrr
    unfold Val.obj at HF HX
    unfold Val.v at HM ⊢
    have hkk : ((k : Int) == xk) = (xk == k) := by rw [Bool.eq_iff_iff]; simp; exact eq_comm
    obtain ⟨b, hbb⟩ : ∃ b, (xk == k) = b := ⟨_, rfl⟩
    rw [hbb] at hkk ⊢
    clear hbb
    go_enter Tryd.func69, Tryd.ntmps69
    go_wp2_with fail
    (with_reducible refine HF.out.mono ?_)
    intro e w1 h1
    obtain ⟨rfl, hb1⟩ := HP.out _ _ _ h1
    clear h1
    have HB1 := Aside.mk (below_then (below_alloc (below_refl w) (Val.obj ⟨k, n, f, t⟩)) hb1)
    obtain ⟨c0, c1, c2, c3⟩ := HX.out.below (below_alloc hb1 (.cells #[.int .i64 xi, .bool xb, .int .u8 xk, .bool xa, .bool xe, .int .i64 xg] 97))
    have HX1 := Aside.mk (HX.out.below (below_alloc hb1 (.cells #[.int .i64 xi, .bool xb, .int .u8 xk, .bool xa, .bool xe, .int .i64 xg] 97)))
    clear hb1
    simp only at c0 c1 c2 c3
    go_wp2_with fail
    (with_reducible refine (HM.out _).mono ?_)
    rintro e w2 ⟨rfl, hb2⟩
    have d0 := (HX1.out.below hb2).1
    have d1 := cell_below hb2 (show (w1.alloc (.cells #[.int .i64 xi, .bool xb, .int .u8 xk, .bool xa, .bool xe, .int .i64 xg] 97)).cell? ⟨w1.heap.size, 2, none⟩ = some (.int .u8 xk) from cell_at (heap_alloc_new w1 _) rfl)
    have HB := Aside.mk (below_then (below_alloc HB1.out (.cells #[.int .i64 xi, .bool xb, .int .u8 xk, .bool xa, .bool xe, .int .i64 xg] 97)) hb2)
    clear hb2 c0 c1 c2 c3
    simp only at d0
    cases r
    · go_wp2
      go_ret
      exact ⟨by simp, HB.out⟩
    · go_wp2
      go_ret
      exact ⟨by simp, HB.out⟩
end Go.Proofs.YtaejlgdmalhhnaaDoor
