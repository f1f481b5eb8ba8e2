/- Layer 4: Fits and Group of a schema, nil and zero let in. -/
import Derived.Test.YtaejlgdmalhhnaaDoorSh
import Derived.Test.YtaejlgdmalhhnaaDoorVd
set_option linter.unusedVariables false
set_option linter.unusedSimpArgs false
namespace Go.Proofs.YtaejlgdmalhhnaaDoor
open Go.RowKit Go.Maps

theorem box_all {w : World} {g : Nat} {k n : Int} {f : Nat} {s : ByteArray} (h : Box w g ⟨k, n, f, s⟩) :
    (∀ o, (w.alloc o).cell? ⟨g, 0, none⟩ = some (.int .u8 k)) ∧ (∀ o, (w.alloc o).cell? ⟨g, 1, none⟩ = some (.int .i64 n)) ∧ (∀ o, (w.alloc o).cell? ⟨g, 2, none⟩ = some (.int .u64 (f : Int))) ∧ (∀ o, (w.alloc o).cell? ⟨g, 3, none⟩ = some (.string s)) :=
  ⟨fun o => cell_below (below_alloc (below_refl w) o) h.1, fun o => cell_below (below_alloc (below_refl w) o) h.2.1, fun o => cell_below (below_alloc (below_refl w) o) h.2.2.1, fun o => cell_below (below_alloc (below_refl w) o) h.2.2.2⟩
def fitsK (ks : List Ky) (id : Int) (v : Val) : Bool := match findK ks id with
  | none => false
  | some k => k.kd == v.k && mayV v
set_option maxRecDepth 100000 in
theorem fits_any {lo hi : Nat} {s : Value} {ks srt : List Ky} (id : Int) (v : Val) (w : World) (hS : Sch lo hi w s ks srt) (hw : (Lit.int .i64 id).wf = true) (hT : Lib.Utf8Tabs 1 2 w) :
    Calls Tryd.prog 61 #[s, .int .i64 id, v.v] w fun e w' => e = .returned (.bool (fitsK ks id v)) ∧ Below w.heap.size w w' := by
  have HF := Aside.mk (find_any id (w.alloc v.obj) (hS.below (below_alloc (below_refl w) _)) hw)
  have HM := Aside.mk (fun W (h : Below w.heap.size w W) => mayV_any v W (tabs_below hT h))
  clear hT hw
  obtain ⟨k, n, f, t⟩ := v
  cases hk : findK ks id with
  | none =>
    have hr : fitsK ks id ⟨k, n, f, t⟩ = false := by unfold fitsK; rw [hk]
    rw [hr]
    have hp : ∀ w e w', FindPost w ks id e w' → e = .returned (.tuple #[.agg #[.int .i64 0, .bool false, .int .u8 0, .bool false, .bool false, .int .i64 0], .bool false]) ∧ Below w.heap.size w w' := by
      intro w e w' h; unfold FindPost at h; rw [hk] at h; exact h
    have HP := Aside.mk hp
    clear hp hr hk HM
    unfold Val.obj at HF
    unfold Val.v
    have hsp : ∃ so, s = .pointer so := by rcases hS with ⟨rfl, _⟩ | ⟨g, A, c, m, rfl, _⟩ <;> exact ⟨_, rfl⟩
    obtain ⟨so, rfl⟩ := hsp
    clear hS
    go_enter Tryd.func61, Tryd.ntmps61
    go_wp2_with fail
    (with_reducible refine HF.out.mono ?_)
    intro e w1 h1
    obtain ⟨rfl, hb1⟩ := HP.out _ _ _ h1
    clear h1
    have HB := Aside.mk (below_then (below_alloc (below_refl w) (Val.obj ⟨k, n, f, t⟩)) hb1)
    clear hb1
    go_wp2
    go_ret
    exact ⟨rfl, below_alloc HB.out _⟩
  | some x =>
    obtain ⟨xi, xb, xk, xa, xe, xg⟩ := x
    have hr : fitsK ks id ⟨k, n, f, t⟩ = (xk == k && mayV ⟨k, n, f, t⟩) := by unfold fitsK; rw [hk]
    rw [hr]
    have hp : ∀ w e w', FindPost w ks id e w' → e = .returned (.tuple #[.agg #[.int .i64 xi, .bool xb, .int .u8 xk, .bool xa, .bool xe, .int .i64 xg], .bool true]) ∧ Below w.heap.size w w' := by
      intro w e w' h; unfold FindPost at h; rw [hk] at h; exact h
    have HP := Aside.mk hp
    clear hp hr hk
    unfold Val.obj at HF
    have hsp : ∃ so, s = .pointer so := by rcases hS with ⟨rfl, _⟩ | ⟨g, A, c, m, rfl, _⟩ <;> exact ⟨_, rfl⟩
    obtain ⟨so, rfl⟩ := hsp
    clear hS
    obtain ⟨r, hrr⟩ : ∃ r, mayV ⟨k, n, f, t⟩ = r := ⟨_, rfl⟩
    rw [hrr] at HM ⊢
    have HX := Aside.mk (Box.new w ⟨k, n, f, t⟩)
    unfold Val.obj at HX
    unfold Val.v at HM ⊢
    clear hrr
    by_cases hx : xk = k
    · subst hx
      go_enter Tryd.func61, Tryd.ntmps61
      go_wp2_with fail
      (with_reducible refine HF.out.mono ?_)
      intro e w1 h1
      obtain ⟨rfl, hb1⟩ := HP.out _ _ _ h1
      clear h1
      have HB := Aside.mk (below_then (below_alloc (below_refl w) (Val.obj ⟨xk, n, f, t⟩)) hb1)
      obtain ⟨b0, b1, b2, b3⟩ := box_all (HX.out.below hb1)
      clear hb1
      go_wp2_with fail
      (with_reducible refine (HM.out _ (below_alloc HB.out _)).mono ?_)
      rintro e w2 ⟨rfl, hb2⟩
      have HB2 := Aside.mk (below_then (below_alloc HB.out _) hb2)
      clear hb2
      go_wp2
      go_ret
      exact ⟨by simp, HB2.out⟩
    · have hx0 : ((xk : Int) == k) = false := by simpa using hx
      go_enter Tryd.func61, Tryd.ntmps61
      go_wp2_with fail
      (with_reducible refine HF.out.mono ?_)
      intro e w1 h1
      obtain ⟨rfl, hb1⟩ := HP.out _ _ _ h1
      clear h1
      have HB := Aside.mk (below_then (below_alloc (below_refl w) (Val.obj ⟨k, n, f, t⟩)) hb1)
      obtain ⟨b0, b1, b2, b3⟩ := box_all (HX.out.below hb1)
      clear hb1
      go_wp2
      go_ret
      exact ⟨by simp [hx0], below_alloc HB.out _⟩
end Go.Proofs.YtaejlgdmalhhnaaDoor
