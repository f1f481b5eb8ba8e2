/- The document's layer 4: Keys. -/
import Derived.Test.YtaejlgdmalhhnaaDoorMa
set_option linter.unusedVariables false
set_option linter.unusedSimpArgs false
namespace Go.Proofs.YtaejlgdmalhhnaaDoor
open Go.RowKit Go.Maps

theorem kcells_snoc (l : List Ky) (k : Ky) : kcells (l ++ [k]) = kcells l ++ k.cells := by simp [kcells, List.flatMap_append]
def upK (srt : List Ky) (i : Int) : List Ky := srt.filter (fun k => decide (k.id < i))
theorem upK_some {ks srt : List Ky} (hp : srt.Perm ks) (hw : ks.Pairwise (fun a b => a.id ≠ b.id)) (hr : risesK srt) {i : Int} {x : Ky} (h : findK ks i = some x) : upK srt (i + 1) = upK srt i ++ [x] := by
  unfold upK
  rw [filter_next hr, find_perm hp hw, h]
  rfl
theorem upK_none {ks srt : List Ky} (hp : srt.Perm ks) (hw : ks.Pairwise (fun a b => a.id ≠ b.id)) (hr : risesK srt) {i : Int} (h : findK ks i = none) : upK srt (i + 1) = upK srt i := by
  unfold upK
  rw [filter_next hr, find_perm hp hw, h]
  simp
theorem upK_len (srt : List Ky) (i : Int) : (upK srt i).length ≤ srt.length := List.length_filter_le _ _
/-- The row of keys below a number. -/
structure UpAt (w wr : World) (srt : List Ky) (v : Value) (i : Int) : Prop where
  below : Below w.heap.size w wr
  own : wr.ownsRow w.heap.size 97 6 v (upK srt i).length (kcells (upK srt i))
theorem UpAt.later {w wr w1 : World} {srt : List Ky} {v : Value} {i : Int} (h : UpAt w wr srt v i) (hb : Below wr.heap.size wr w1) : UpAt w w1 srt v i := ⟨below_then h.below hb, own_below h.own hb⟩
theorem UpAt.put {w w1 : World} {srt : List Ky} {v1 : Value} {i : Int} {x : Ky} (e : upK srt (i + 1) = upK srt i ++ [x]) (hb : Below w.heap.size w w1) (h : w1.ownsRow w.heap.size 97 6 v1 ((upK srt i).length + 1) (kcells (upK srt i) ++ x.cells)) : UpAt w w1 srt v1 (i + 1) := by
  refine ⟨hb, ?_⟩
  rw [e, kcells_snoc, List.length_append]
  exact h
theorem UpAt.skip {w wr : World} {srt : List Ky} {v : Value} {i : Int} (h : UpAt w wr srt v i) (e : upK srt (i + 1) = upK srt i) : UpAt w wr srt v (i + 1) := ⟨h.below, by rw [e]; exact h.own⟩
set_option maxRecDepth 100000 in
set_option maxHeartbeats 1000000 in
theorem dKeys_any (A : Option Addr) (c : Nat) (ks srt : List Ky) (w : World) (hc : ks.length ≤ c) (hl : srt.length ≤ 64) (hS : KSrc w A ks) (hp : srt.Perm ks) (hr : risesK srt) (hw : ks.Pairwise (fun a b => a.id ≠ b.id)) (hm : ∀ k ∈ ks, mayK k = true) :
    Calls Tryd.prog 64 #[.slice A ks.length c] w (KClone w srt) := by
  have hlen := hp.length_eq
  have HF := Aside.mk (fun (i : Int) (W : World) (hb : Below w.heap.size w W) => dFind_any A c ks i W hc (by omega) (hS.below hb))
  have HP := Aside.mk hp
  have HRi := Aside.mk hr
  have HPw := Aside.mk hw
  have HL := Aside.mk hl
  have HMs := Aside.mk (show ∀ k ∈ srt, mayK k = true from fun k hk => hm k (hp.mem_iff.1 hk))
  have H0 := Aside.mk (show UpAt w w srt (.slice none 0 0) 1 from ⟨below_refl w, by unfold upK; rw [filter_none HMs.out]; exact ⟨rfl, .inl ⟨rfl, rfl⟩⟩⟩)
  obtain ⟨R, hR⟩ : ∃ R, KClone w srt = R := ⟨_, rfl⟩
  rw [hR]
  have HRR := Aside.mk hR
  clear hS hc hl hR hp hr hw hm hlen
  go_enter Tryd.func64, Tryd.ntmps64
  go_wp2_with fail
  go_loopw [3, 4] (fun v i wr => ∃ k : Nat, 1 ≤ k ∧ k ≤ 1001 ∧ i = .int .i64 k ∧ Aside (UpAt w wr srt v k)) (fun _ i _ => 1001 - (intOf i).toNat)
  case atStart => exact ⟨1, by omega, by omega, rfl, H0⟩
  case round =>
    obtain ⟨k, h1, hk, rfl, HN⟩ := hrel
    by_cases hlt : k ≤ 1000
    · have hkz : (k : Int) ≤ 1000 := by omega
      have F := Aside.mk (HF.out (k : Int) wr HN.out.below)
      cases hf : findK ks (k : Int) with
      | none =>
        have HFK := Aside.mk hf
        have e1 := upK_none HP.out HPw.out HRi.out hf
        have HE := Aside.mk e1
        clear hf e1
        go_wp2_with fail
        (with_reducible refine F.out.mono ?_)
        intro e w1 h1
        unfold FindPost at h1
        rw [HFK.out] at h1
        obtain ⟨he, hb1⟩ := h1
        obtain rfl : e = .returned (.tuple #[.agg #[.int .i64 0, .bool false, .int .u8 0, .bool false, .bool false, .int .i64 0], .bool false]) := he
        have HZ := Aside.mk ((HN.out.later (below_alloc hb1 (.cells #[.int .i64 0, .bool false, .int .u8 0, .bool false, .bool false, .int .i64 0] 97))).skip HE.out)
        clear hb1
        go_wp2
        go_roundw
        case rel => exact ⟨k + 1, by omega, by omega, by go_num, HZ⟩
        case measure => simp [intOf]; omega
      | some x =>
        have HFK := Aside.mk hf
        have e1 := upK_some HP.out HPw.out HRi.out hf
        have HE := Aside.mk e1
        clear hf e1
        obtain ⟨xi, xb, xk, xa, xe, xg⟩ := x
        go_wp2_with fail
        (with_reducible refine F.out.mono ?_)
        intro e w1 h1
        unfold FindPost at h1
        rw [HFK.out] at h1
        obtain ⟨he, hb1⟩ := h1
        obtain rfl : e = .returned (.tuple #[.agg #[.int .i64 xi, .bool xb, .int .u8 xk, .bool xa, .bool xe, .int .i64 xg], .bool true]) := he
        have HZ := Aside.mk (HN.out.later (below_alloc hb1 (.cells #[.int .i64 xi, .bool xb, .int .u8 xk, .bool xa, .bool xe, .int .i64 xg] 97)))
        have HLe := Aside.mk (upK_len srt k)
        clear hb1
        go_wp2_with (at_builtin; go_must (refine app_lit2 (w0 := w) (w1.heap.size + 1) w.heap.size (World.size_alloc _ _).symm rfl (.tmp 18) (.tmp 20) 35 97 (Ky.v ⟨0, false, 0, false, false, 0⟩) 6 24 _ rfl Tryd.underlying35 info97 rfl (by decide) u3 (upK srt k).length 1 (kcells (upK srt k)) (Ky.cells ⟨xi, xb, xk, xa, xe, xg⟩) rfl rfl rfl rfl (by intro u hu; simp only [Ky.cells, List.mem_cons, List.mem_nil_iff, or_false] at hu; rcases hu with rfl | rfl | rfl | rfl | rfl | rfl <;> rfl) HZ.out.own HZ.out.below HZ.out.below.size (by have := HLe.out; have := HL.out; omega) (by have := HLe.out; have := HL.out; omega) ?_))
        intro v1 w6 o1 hb6 gr1 at1
        have HY := Aside.mk (UpAt.put HE.out hb6 o1)
        clear o1 hb6 gr1 at1
        go_wp2
        go_roundw
        case rel => exact ⟨k + 1, by omega, by omega, by go_num, HY⟩
        case measure => simp [intOf]; omega
    · obtain rfl : k = 1001 := by omega
      have HZ := Aside.mk (show KClone w srt (.returned u3) wr from ⟨_, rfl, by have h := HN.out.own; unfold upK at h; have e := filter_all HMs.out; rw [show ((1001 : Nat) : Int) = 1001 from rfl, e] at h; exact h, HN.out.below⟩)
      go_wp2
      rw [← HRR.out]
      exact HZ.out
end Go.Proofs.YtaejlgdmalhhnaaDoor
