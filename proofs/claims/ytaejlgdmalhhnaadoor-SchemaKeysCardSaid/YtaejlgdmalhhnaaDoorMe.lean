/- The document's layer 4: Group. -/
import Derived.Test.YtaejlgdmalhhnaaDoorMb
set_option linter.unusedVariables false
set_option linter.unusedSimpArgs false
namespace Go.Proofs.YtaejlgdmalhhnaaDoor
open Go.RowKit Go.Maps

theorem src_of_ownK {w : World} {B : Nat} {v : Value} {l : List Ky} (h : w.ownsRow B 97 6 v l.length (kcells l)) : ∃ A c, v = .slice A l.length c ∧ l.length ≤ c ∧ (A = none → c = 0) ∧ KSrc w A l := by
  rcases h.2 with ⟨rfl, h0⟩ | ⟨g, c, cur, rfl, _, _, hc, _⟩
  · obtain rfl := List.eq_nil_of_length_eq_zero h0
    exact ⟨none, 0, rfl, Nat.le_refl _, fun _ => rfl, fun _ => rfl, fun ad e => (by cases e)⟩
  · exact ⟨_, c, rfl, hc, fun e => (by cases e), src_of_row (row_of_own h)⟩
theorem GrAt.later {w0 wr w1 : World} {l : Value} {r : List Int} (h : GrAt w0 wr l r) (hb : Below wr.heap.size wr w1) : GrAt w0 w1 l r := ⟨below_then h.below hb, h.own.below hb⟩
set_option maxRecDepth 100000 in
set_option maxHeartbeats 2000000 in
theorem dGroup_any (A : Option Addr) (c : Nat) (ks srt : List Ky) (id : Int) (w : World) (hc : ks.length ≤ c) (hl : srt.length ≤ 64) (hS : KSrc w A ks) (hp : srt.Perm ks) (hr : risesK srt) (hw : ks.Pairwise (fun a b => a.id ≠ b.id)) (hm : ∀ k ∈ ks, mayK k = true) :
    Calls Tryd.prog 68 #[.slice A ks.length c, .int .i64 id] w (GroupPost w (groupK ks srt id)) := by
  have hlen := hp.length_eq
  have HF := Aside.mk (dFind_any A c ks id w hc (by omega) hS)
  have HK := Aside.mk (fun (W : World) (hb : Below w.heap.size w W) => dKeys_any A c ks srt W hc hl (hS.below hb) hp hr hw hm)
  have g3 : (srt.length : Int) ≤ 64 := by omega
  clear hS hc hl hp hr hw hm hlen
  cases hk : findK ks id with
  | none =>
    have hr : groupK ks srt id = [] := by unfold groupK; rw [hk]
    rw [hr]
    have hp : ∀ e w', FindPost w ks id e w' → e = .returned (.tuple #[.agg #[.int .i64 0, .bool false, .int .u8 0, .bool false, .bool false, .int .i64 0], .bool false]) ∧ Below w.heap.size w w' := by
      intro e w' h; unfold FindPost at h; rw [hk] at h; exact h
    have HP := Aside.mk hp
    obtain ⟨R, hR⟩ : ∃ R, GroupPost w [] = R := ⟨_, rfl⟩
    rw [hR]
    have HR := Aside.mk hR
    clear hp hr hk hR
    go_enter Tryd.func68, Tryd.ntmps68
    go_wp2_with fail
    (with_reducible refine HF.out.mono ?_)
    intro e w1 h1
    obtain ⟨rfl, hb1⟩ := HP.out _ _ h1
    have HB := Aside.mk (below_alloc hb1 (.cells #[.int .i64 0, .bool false, .int .u8 0, .bool false, .bool false, .int .i64 0] 97))
    clear h1 hb1
    go_wp2_with fail
    (with_reducible refine (HK.out _ HB.out).mono ?_)
    rintro e w2 ⟨lv, rfl, ho, hb2⟩
    obtain ⟨lA, lc, rfl, hlc, _, hlS⟩ := src_of_ownK ho
    have HB2 := Aside.mk (below_then HB.out hb2)
    clear ho hb2 hlS
    go_wp2_with fail
    go_loopw [5, 9] (fun v i wr => v = .slice none 0 0 ∧ i = .int .i64 0 ∧ wr = w2) (fun _ _ _ => 0)
    case atStart => exact ⟨rfl, rfl, rfl⟩
    case round =>
      obtain ⟨rfl, rfl, rfl⟩ := hrel
      go_wp2
      rw [← HR.out]
      exact ⟨_, rfl, OwnN.nil _ _ _ _, HB2.out⟩
  | some x =>
    obtain ⟨xi, xb, xk, xa, xe, xg⟩ := x
    have hp : ∀ e w', FindPost w ks id e w' → e = .returned (.tuple #[.agg #[.int .i64 xi, .bool xb, .int .u8 xk, .bool xa, .bool xe, .int .i64 xg], .bool true]) ∧ Below w.heap.size w w' := by
      intro e w' h; unfold FindPost at h; rw [hk] at h; exact h
    have HP := Aside.mk hp
    by_cases hg0 : xg = 0
    · subst hg0
      have hr : groupK ks srt id = [] := by unfold groupK; rw [hk]; rfl
      rw [hr]
      obtain ⟨R, hR⟩ : ∃ R, GroupPost w [] = R := ⟨_, rfl⟩
      rw [hR]
      have HR := Aside.mk hR
      clear hp hr hk hR
      go_enter Tryd.func68, Tryd.ntmps68
      go_wp2_with fail
      (with_reducible refine HF.out.mono ?_)
      intro e w1 h1
      obtain ⟨rfl, hb1⟩ := HP.out _ _ h1
      have HB := Aside.mk (below_alloc hb1 (.cells #[.int .i64 xi, .bool xb, .int .u8 xk, .bool xa, .bool xe, .int .i64 0] 97))
      have HC := Aside.mk (show (w1.alloc (.cells #[.int .i64 xi, .bool xb, .int .u8 xk, .bool xa, .bool xe, .int .i64 0] 97)).cell? ⟨w1.heap.size, 5, none⟩ = some (.int .i64 0) from cell_at (heap_alloc_new w1 _) rfl)
      clear h1 hb1
      go_wp2_with fail
      (with_reducible refine (HK.out _ HB.out).mono ?_)
      rintro e w2 ⟨lv, rfl, ho, hb2⟩
      obtain ⟨lA, lc, rfl, hlc, _, hlS⟩ := src_of_ownK ho
      have HB2 := Aside.mk (below_then HB.out hb2)
      have c5 := cell_below hb2 HC.out
      clear ho hb2 hlS
      go_wp2_with fail
      go_loopw [5, 9] (fun v i wr => v = .slice none 0 0 ∧ i = .int .i64 0 ∧ wr = w2) (fun _ _ _ => 0)
      case atStart => exact ⟨rfl, rfl, rfl⟩
      case round =>
        obtain ⟨rfl, rfl, rfl⟩ := hrel
        go_wp2
        rw [← HR.out]
        exact ⟨_, rfl, OwnN.nil _ _ _ _, HB2.out⟩
    · have hr : groupK ks srt id = groupOf srt xg id := by unfold groupK; rw [hk]; simp only; rw [if_neg hg0]
      rw [hr]
      have hgz : ((xg : Int) != 0) = true := by simpa using hg0
      obtain ⟨R, hR⟩ : ∃ R, GroupPost w (groupOf srt xg id) = R := ⟨_, rfl⟩
      rw [hR]
      have HR := Aside.mk hR
      clear hp hr hk hR hg0
      go_enter Tryd.func68, Tryd.ntmps68
      go_wp2_with fail
      (with_reducible refine HF.out.mono ?_)
      intro e w1 h1
      obtain ⟨rfl, hb1⟩ := HP.out _ _ h1
      have HB := Aside.mk (below_alloc hb1 (.cells #[.int .i64 xi, .bool xb, .int .u8 xk, .bool xa, .bool xe, .int .i64 xg] 97))
      have HC := Aside.mk (show (w1.alloc (.cells #[.int .i64 xi, .bool xb, .int .u8 xk, .bool xa, .bool xe, .int .i64 xg] 97)).cell? ⟨w1.heap.size, 5, none⟩ = some (.int .i64 xg) from cell_at (heap_alloc_new w1 _) rfl)
      clear h1 hb1
      go_wp2_with fail
      (with_reducible refine (HK.out _ HB.out).mono ?_)
      rintro e w2 ⟨lv, rfl, ho, hb2⟩
      obtain ⟨lA, lc, rfl, hlc, _, hlS⟩ := src_of_ownK ho
      have H0 := Aside.mk (show GrAt w2 w2 (.slice none 0 0) (groupOf (srt.take 0) xg id) from ⟨below_refl w2, OwnN.nil _ _ _ _⟩)
      have HB2 := Aside.mk (below_then HB.out hb2)
      have HC2 := Aside.mk (cell_below hb2 HC.out)
      have HlS := Aside.mk hlS
      have g4 : (srt.length : Int) ≤ (lc : Int) := by omega
      clear ho hb2 hlS hlc
      go_wp2_with fail
      go_loopw [5, 9] (fun v i wr => ∃ k : Nat, k ≤ srt.length ∧ i = .int .i64 k ∧ Aside (GrAt w2 wr v (groupOf (srt.take k) xg id))) (fun _ i _ => srt.length - (intOf i).toNat)
      case atStart => exact ⟨0, Nat.zero_le _, rfl, H0⟩
      case round =>
        obtain ⟨k, hk, rfl, HN⟩ := hrel
        have c5 := cell_below HN.out.below HC2.out
        by_cases hlt : k < srt.length
        · have hkz : (k : Int) < (srt.length : Int) := by omega
          rcases hAA : lA with _ | ad
          · exact absurd (HlS.out.1 hAA) (fun e => by rw [e] at hlt; exact absurd hlt (by simp))
          subst hAA
          obtain ⟨⟨yi, yb, yk, ya, ye, yg⟩, hy⟩ : ∃ x, srt[k]? = some x := ⟨_, List.getElem?_eq_getElem hlt⟩
          obtain ⟨s0, s1, s2, s3, s4, s5⟩ := (HlS.out.below HN.out.below).six hy
          simp only at s0 s1 s2 s3 s4 s5
          have HL := Aside.mk (Nat.le_trans (groupOf_len (srt.take k) xg id) (List.length_take_le _ _))
          have HL2 := Aside.mk (show srt.length ≤ 64 by omega)
          by_cases e1 : yg = xg
          · subst e1
            by_cases e2 : yi = id
            · have HY := Aside.mk hy
              have HE2 := Aside.mk e2
              have q2 : ((yi : Int) != id) = false := by simpa using e2
              clear hy e2
              go_wp2_with fail
              go_quiet (fail)
              have HD := Aside.mk (HN.out.later (below_drewN (below_refl wr) nq))
              generalize wr.drewN nq = w7 at HD ⊢
              clear s0 s1 s2 s3 s4 s5 c5
              go_wp2
              go_roundw
              case rel => exact ⟨k + 1, by omega, by go_num, ⟨GrAt.skip HY.out (fun h => h.2 HE2.out) HD.out⟩⟩
              case measure => simp [intOf]; omega
            · have HE2 := Aside.mk e2
              have q2 : ((yi : Int) != id) = true := by simpa using e2
              clear e2
              have HY := Aside.mk hy
              clear hy
              go_wp2_with fail
              go_quiet (fail)
              have HD := Aside.mk (HN.out.later (below_drewN (below_refl wr) nq))
              generalize wr.drewN nq = w7 at HD ⊢
              clear s0 s1 s2 s3 s4 s5 c5
              obtain ⟨s0, _⟩ := (HlS.out.below HD.out.below).six HY.out
              simp only at s0
              go_wp2_with (at_builtin; go_must (refine app_lit (w0 := w2) w2.heap.size rfl (.tmp 49) (.tmp 55) 45 3 (.int .i64 0) 1 8 _ rfl Tryd.underlying45 info3 rfl (by decide) u5 (groupOf (srt.take k) yg id).length 1 (nums .i64 (groupOf (srt.take k) yg id)) (nums .i64 [yi]) rfl rfl rfl rfl (nums_one _ _) HD.out.own HD.out.below HD.out.below.size (by have := HL.out; have := HL2.out; omega) (by have := HL.out; have := HL2.out; omega) ?_))
              intro v1 w8 hown hbel hg hat
              have HW := Aside.mk (GrAt.put HY.out rfl HE2.out hbel hown)
              clear hown hbel hg hat
              go_wp2
              go_roundw
              case rel => exact ⟨k + 1, by omega, by go_num, HW⟩
              case measure => simp [intOf]; omega
          · have HY := Aside.mk hy
            have HE1 := Aside.mk e1
            have q1 : ((yg : Int) == xg) = false := by simpa using e1
            clear hy e1
            go_wp2_with fail
            go_quiet (fail)
            have HD := Aside.mk (HN.out.later (below_drewN (below_refl wr) nq))
            generalize wr.drewN nq = w7 at HD ⊢
            clear s0 s1 s2 s3 s4 s5 c5
            go_wp2
            go_roundw
            case rel => exact ⟨k + 1, by omega, by go_num, ⟨GrAt.skip HY.out (fun h => HE1.out h.1) HD.out⟩⟩
            case measure => simp [intOf]; omega
        · obtain rfl : k = srt.length := by omega
          have hN := HN.out
          rw [List.take_length] at hN
          have HZ := Aside.mk (show GroupPost w (groupOf srt xg id) (.returned u5) wr from group_mono hN.own HB2.out hN.below)
          clear hN HN
          go_wp2
          rw [← HR.out]
          exact HZ.out
end Go.Proofs.YtaejlgdmalhhnaaDoor
