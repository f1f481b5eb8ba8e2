/- Texts put together: Ma, Mb, Me, Mc, Md, Mf. -/
import Derived.Test.YtaejlgdmalhhnaaDoorPkB
import Derived.Test.YtaejlgdmalhhnaaDoorVk
/- The document's layer 4: Find. -/
set_option linter.unusedVariables false
set_option linter.unusedSimpArgs false
namespace Go.Proofs.YtaejlgdmalhhnaaDoor
open Go.RowKit Go.Maps

theorem findK_hit {ks : List Ky} {k : Nat} {x : Ky} {id : Int} (hx : ks[k]? = some x) (he : x.id = id) (hn : ∀ j < k, ∀ y, ks[j]? = some y → y.id ≠ id) : findK ks id = some x := by
  unfold findK
  rw [List.find?_eq_some_iff_getElem]
  obtain ⟨hk, hx⟩ := List.getElem?_eq_some_iff.1 hx
  refine ⟨by simpa using he, k, hk, hx, fun j hj => ?_⟩
  have := hn j hj _ (List.getElem?_eq_getElem (by omega))
  simpa using this
theorem findK_miss {ks : List Ky} {id : Int} (hn : ∀ j < ks.length, ∀ y, ks[j]? = some y → y.id ≠ id) : findK ks id = none := by
  unfold findK
  rw [List.find?_eq_none]
  intro y hy
  obtain ⟨j, hj, rfl⟩ := List.mem_iff_getElem.1 hy
  have := hn j hj _ (List.getElem?_eq_getElem hj)
  simpa using this
set_option maxRecDepth 100000 in
theorem dFind_any (A : Option Addr) (c : Nat) (ks : List Ky) (id : Int) (w : World) (hc : ks.length ≤ c) (hl : ks.length ≤ 9223372036854775807) (hS : KSrc w A ks) :
    Calls Tryd.prog 66 #[.slice A ks.length c, .int .i64 id] w (FindPost w ks id) := by
  have HS := Aside.mk hS
  have g1 : (ks.length : Int) ≤ 9223372036854775807 := by omega
  have g2 : (ks.length : Int) ≤ (c : Int) := by omega
  obtain ⟨R, hR⟩ : ∃ R, FindPost w ks id = R := ⟨_, rfl⟩
  rw [hR]
  have HRR := Aside.mk hR
  clear hS hc hl hR
  go_enter Tryd.func66, Tryd.ntmps66
  go_wp2_with fail
  go_loopw [6] (fun i wr => ∃ k : Nat, k ≤ ks.length ∧ i = .int .i64 k ∧ wr = w.alloc (.cells #[.int .i64 0, .bool false, .int .u8 0, .bool false, .bool false, .int .i64 0] 97) ∧ Aside (∀ j < k, ∀ y, ks[j]? = some y → y.id ≠ id)) (fun i _ => ks.length - (intOf i).toNat)
  case atStart => exact ⟨0, Nat.zero_le _, rfl, rfl, ⟨fun j h => absurd h (by omega)⟩⟩
  case round =>
    obtain ⟨k, hk, rfl, rfl, HN⟩ := hrel
    by_cases hlt : k < ks.length
    · have hkz : (k : Int) < (ks.length : Int) := by omega
      obtain ⟨⟨xi, xb, xk, xa, xe, xg⟩, hx⟩ : ∃ x, ks[k]? = some x := ⟨_, List.getElem?_eq_getElem hlt⟩
      rcases hAA : A with _ | ad
      · have h0 := HS.out.1 hAA; subst h0; exact absurd hlt (by simp)
      subst hAA
      obtain ⟨s0, s1, s2, s3, s4, s5⟩ := (HS.out.below (below_alloc (below_refl w) (.cells #[.int .i64 0, .bool false, .int .u8 0, .bool false, .bool false, .int .i64 0] 97))).six hx
      simp only at s0 s1 s2 s3 s4 s5
      have HX := Aside.mk hx
      clear hx
      by_cases hq : xi = id
      · have q : (xi == id) = true := by simpa using hq
        have HZ := Aside.mk (findK_hit HX.out hq HN.out)
        clear hq
        go_wp2
        refine bodyPost_ret (v := .tuple #[.agg #[.int .i64 xi, .bool xb, .int .u8 xk, .bool xa, .bool xe, .int .i64 xg], .bool true]) (by simp [results, Tryd.results66, go_sem]) rfl ?_
        rw [← HRR.out]
        unfold FindPost
        rw [HZ.out]
        exact ⟨rfl, below_alloc (below_refl w) _⟩
      · have q : (xi == id) = false := by simpa using hq
        have HZ := Aside.mk (show ∀ j < k + 1, ∀ y, ks[j]? = some y → y.id ≠ id by
          intro j hj y hy
          rcases Nat.lt_or_ge j k with h | h
          · exact HN.out j h y hy
          · obtain rfl : j = k := by omega
            rw [HX.out] at hy; cases hy; exact hq)
        clear hq
        go_wp2
        go_roundw
        case rel => exact ⟨k + 1, by omega, by go_num, trivial, HZ⟩
        case measure => simp [intOf]; omega
    · obtain rfl : k = ks.length := by omega
      have HZ := Aside.mk (findK_miss HN.out)
      go_wp2
      refine bodyPost_ret (v := .tuple #[.agg #[.int .i64 0, .bool false, .int .u8 0, .bool false, .bool false, .int .i64 0], .bool false]) (by simp [results, Tryd.results66, go_sem]) rfl ?_
      rw [← HRR.out]
      unfold FindPost
      rw [HZ.out]
      exact ⟨rfl, below_alloc (below_refl w) _⟩
end Go.Proofs.YtaejlgdmalhhnaaDoor
/- The document's layer 4: Keys. -/
set_option linter.unusedVariables false
set_option linter.unusedSimpArgs false
namespace Go.Proofs.YtaejlgdmalhhnaaDoor
open Go.RowKit Go.Maps

theorem kcells_snoc (l : List Ky) (k : Ky) : kcells (l ++ [k]) = kcells l ++ k.cells := by simp [kcells, List.flatMap_append]
def upK (srt : List Ky) (i : Int) : List Ky := srt.filter (fun k => decide (k.id < i))
theorem upK_some {ks srt : List Ky} (hp : srt.Perm ks) (hw : ks.Pairwise (fun a b => a.id ≠ b.id)) (hr : risesK srt) {i : Int} {x : Ky} (h : findK ks i = some x) : upK srt (i + 1) = upK srt i ++ [x] := by
  unfold upK
  rw [filter_next hr, find_perm hp hw, h]
  rfl
theorem upK_none {ks srt : List Ky} (hp : srt.Perm ks) (hw : ks.Pairwise (fun a b => a.id ≠ b.id)) (hr : risesK srt) {i : Int} (h : findK ks i = none) : upK srt (i + 1) = upK srt i := by
  unfold upK
  rw [filter_next hr, find_perm hp hw, h]
  simp
theorem upK_len (srt : List Ky) (i : Int) : (upK srt i).length ≤ srt.length := List.length_filter_le _ _
/-- The row of keys below a number. -/
structure UpAt (w wr : World) (srt : List Ky) (v : Value) (i : Int) : Prop where
  below : Below w.heap.size w wr
  own : wr.ownsRow w.heap.size 97 6 v (upK srt i).length (kcells (upK srt i))
theorem UpAt.later {w wr w1 : World} {srt : List Ky} {v : Value} {i : Int} (h : UpAt w wr srt v i) (hb : Below wr.heap.size wr w1) : UpAt w w1 srt v i := ⟨below_then h.below hb, own_below h.own hb⟩
theorem UpAt.put {w w1 : World} {srt : List Ky} {v1 : Value} {i : Int} {x : Ky} (e : upK srt (i + 1) = upK srt i ++ [x]) (hb : Below w.heap.size w w1) (h : w1.ownsRow w.heap.size 97 6 v1 ((upK srt i).length + 1) (kcells (upK srt i) ++ x.cells)) : UpAt w w1 srt v1 (i + 1) := by
  refine ⟨hb, ?_⟩
  rw [e, kcells_snoc, List.length_append]
  exact h
theorem UpAt.skip {w wr : World} {srt : List Ky} {v : Value} {i : Int} (h : UpAt w wr srt v i) (e : upK srt (i + 1) = upK srt i) : UpAt w wr srt v (i + 1) := ⟨h.below, by rw [e]; exact h.own⟩
set_option maxRecDepth 100000 in
set_option maxHeartbeats 1000000 in
theorem dKeys_any (A : Option Addr) (c : Nat) (ks srt : List Ky) (w : World) (hc : ks.length ≤ c) (hl : srt.length ≤ 64) (hS : KSrc w A ks) (hp : srt.Perm ks) (hr : risesK srt) (hw : ks.Pairwise (fun a b => a.id ≠ b.id)) (hm : ∀ k ∈ ks, mayK k = true) :
    Calls Tryd.prog 64 #[.slice A ks.length c] w (KClone w srt) := by
  have hlen := hp.length_eq
  have HF := Aside.mk (fun (i : Int) (W : World) (hb : Below w.heap.size w W) => dFind_any A c ks i W hc (by omega) (hS.below hb))
  have HP := Aside.mk hp
  have HRi := Aside.mk hr
  have HPw := Aside.mk hw
  have HL := Aside.mk hl
  have HMs := Aside.mk (show ∀ k ∈ srt, mayK k = true from fun k hk => hm k (hp.mem_iff.1 hk))
  have H0 := Aside.mk (show UpAt w w srt (.slice none 0 0) 1 from ⟨below_refl w, by unfold upK; rw [filter_none HMs.out]; exact ⟨rfl, .inl ⟨rfl, rfl⟩⟩⟩)
  obtain ⟨R, hR⟩ : ∃ R, KClone w srt = R := ⟨_, rfl⟩
  rw [hR]
  have HRR := Aside.mk hR
  clear hS hc hl hR hp hr hw hm hlen
  go_enter Tryd.func64, Tryd.ntmps64
  go_wp2_with fail
  go_loopw [3, 4] (fun v i wr => ∃ k : Nat, 1 ≤ k ∧ k ≤ 1001 ∧ i = .int .i64 k ∧ Aside (UpAt w wr srt v k)) (fun _ i _ => 1001 - (intOf i).toNat)
  case atStart => exact ⟨1, by omega, by omega, rfl, H0⟩
  case round =>
    obtain ⟨k, h1, hk, rfl, HN⟩ := hrel
    by_cases hlt : k ≤ 1000
    · have hkz : (k : Int) ≤ 1000 := by omega
      have F := Aside.mk (HF.out (k : Int) wr HN.out.below)
      cases hf : findK ks (k : Int) with
      | none =>
        have HFK := Aside.mk hf
        have e1 := upK_none HP.out HPw.out HRi.out hf
        have HE := Aside.mk e1
        clear hf e1
        go_wp2_with fail
        (with_reducible refine F.out.mono ?_)
        intro e w1 h1
        unfold FindPost at h1
        rw [HFK.out] at h1
        obtain ⟨he, hb1⟩ := h1
        obtain rfl : e = .returned (.tuple #[.agg #[.int .i64 0, .bool false, .int .u8 0, .bool false, .bool false, .int .i64 0], .bool false]) := he
        have HZ := Aside.mk ((HN.out.later (below_alloc hb1 (.cells #[.int .i64 0, .bool false, .int .u8 0, .bool false, .bool false, .int .i64 0] 97))).skip HE.out)
        clear hb1
        go_wp2
        go_roundw
        case rel => exact ⟨k + 1, by omega, by omega, by go_num, HZ⟩
        case measure => simp [intOf]; omega
      | some x =>
        have HFK := Aside.mk hf
        have e1 := upK_some HP.out HPw.out HRi.out hf
        have HE := Aside.mk e1
        clear hf e1
        obtain ⟨xi, xb, xk, xa, xe, xg⟩ := x
        go_wp2_with fail
        (with_reducible refine F.out.mono ?_)
        intro e w1 h1
        unfold FindPost at h1
        rw [HFK.out] at h1
        obtain ⟨he, hb1⟩ := h1
        obtain rfl : e = .returned (.tuple #[.agg #[.int .i64 xi, .bool xb, .int .u8 xk, .bool xa, .bool xe, .int .i64 xg], .bool true]) := he
        have HZ := Aside.mk (HN.out.later (below_alloc hb1 (.cells #[.int .i64 xi, .bool xb, .int .u8 xk, .bool xa, .bool xe, .int .i64 xg] 97)))
        have HLe := Aside.mk (upK_len srt k)
        clear hb1
        go_wp2_with (at_builtin; go_must (refine app_lit2 (w0 := w) (w1.heap.size + 1) w.heap.size (World.size_alloc _ _).symm rfl (.tmp 18) (.tmp 20) 35 97 (Ky.v ⟨0, false, 0, false, false, 0⟩) 6 24 _ rfl Tryd.underlying35 info97 rfl (by decide) u3 (upK srt k).length 1 (kcells (upK srt k)) (Ky.cells ⟨xi, xb, xk, xa, xe, xg⟩) rfl rfl rfl rfl (by intro u hu; simp only [Ky.cells, List.mem_cons, List.mem_nil_iff, or_false] at hu; rcases hu with rfl | rfl | rfl | rfl | rfl | rfl <;> rfl) HZ.out.own HZ.out.below HZ.out.below.size (by have := HLe.out; have := HL.out; omega) (by have := HLe.out; have := HL.out; omega) ?_))
        intro v1 w6 o1 hb6 gr1 at1
        have HY := Aside.mk (UpAt.put HE.out hb6 o1)
        clear o1 hb6 gr1 at1
        go_wp2
        go_roundw
        case rel => exact ⟨k + 1, by omega, by omega, by go_num, HY⟩
        case measure => simp [intOf]; omega
    · obtain rfl : k = 1001 := by omega
      have HZ := Aside.mk (show KClone w srt (.returned u3) wr from ⟨_, rfl, by have h := HN.out.own; unfold upK at h; have e := filter_all HMs.out; rw [show ((1001 : Nat) : Int) = 1001 from rfl, e] at h; exact h, HN.out.below⟩)
      go_wp2
      rw [← HRR.out]
      exact HZ.out
end Go.Proofs.YtaejlgdmalhhnaaDoor
/- The document's layer 4: Group. -/
set_option linter.unusedVariables false
set_option linter.unusedSimpArgs false
namespace Go.Proofs.YtaejlgdmalhhnaaDoor
open Go.RowKit Go.Maps

theorem src_of_ownK {w : World} {B : Nat} {v : Value} {l : List Ky} (h : w.ownsRow B 97 6 v l.length (kcells l)) : ∃ A c, v = .slice A l.length c ∧ l.length ≤ c ∧ (A = none → c = 0) ∧ KSrc w A l := by
  rcases h.2 with ⟨rfl, h0⟩ | ⟨g, c, cur, rfl, _, _, hc, _⟩
  · obtain rfl := List.eq_nil_of_length_eq_zero h0
    exact ⟨none, 0, rfl, Nat.le_refl _, fun _ => rfl, fun _ => rfl, fun ad e => (by cases e)⟩
  · exact ⟨_, c, rfl, hc, fun e => (by cases e), src_of_row (row_of_own h)⟩
theorem GrAt.later {w0 wr w1 : World} {l : Value} {r : List Int} (h : GrAt w0 wr l r) (hb : Below wr.heap.size wr w1) : GrAt w0 w1 l r := ⟨below_then h.below hb, h.own.below hb⟩
set_option maxRecDepth 100000 in
set_option maxHeartbeats 2000000 in
theorem dGroup_any (A : Option Addr) (c : Nat) (ks srt : List Ky) (id : Int) (w : World) (hc : ks.length ≤ c) (hl : srt.length ≤ 64) (hS : KSrc w A ks) (hp : srt.Perm ks) (hr : risesK srt) (hw : ks.Pairwise (fun a b => a.id ≠ b.id)) (hm : ∀ k ∈ ks, mayK k = true) :
    Calls Tryd.prog 68 #[.slice A ks.length c, .int .i64 id] w (GroupPost w (groupK ks srt id)) := by
  have hlen := hp.length_eq
  have HF := Aside.mk (dFind_any A c ks id w hc (by omega) hS)
  have HK := Aside.mk (fun (W : World) (hb : Below w.heap.size w W) => dKeys_any A c ks srt W hc hl (hS.below hb) hp hr hw hm)
  have g3 : (srt.length : Int) ≤ 64 := by omega
  clear hS hc hl hp hr hw hm hlen
  cases hk : findK ks id with
  | none =>
    have hr : groupK ks srt id = [] := by unfold groupK; rw [hk]
    rw [hr]
    have hp : ∀ e w', FindPost w ks id e w' → e = .returned (.tuple #[.agg #[.int .i64 0, .bool false, .int .u8 0, .bool false, .bool false, .int .i64 0], .bool false]) ∧ Below w.heap.size w w' := by
      intro e w' h; unfold FindPost at h; rw [hk] at h; exact h
    have HP := Aside.mk hp
    obtain ⟨R, hR⟩ : ∃ R, GroupPost w [] = R := ⟨_, rfl⟩
    rw [hR]
    have HR := Aside.mk hR
    clear hp hr hk hR
    go_enter Tryd.func68, Tryd.ntmps68
    go_wp2_with fail
    (with_reducible refine HF.out.mono ?_)
    intro e w1 h1
    obtain ⟨rfl, hb1⟩ := HP.out _ _ h1
    have HB := Aside.mk (below_alloc hb1 (.cells #[.int .i64 0, .bool false, .int .u8 0, .bool false, .bool false, .int .i64 0] 97))
    clear h1 hb1
    go_wp2_with fail
    (with_reducible refine (HK.out _ HB.out).mono ?_)
    rintro e w2 ⟨lv, rfl, ho, hb2⟩
    obtain ⟨lA, lc, rfl, hlc, _, hlS⟩ := src_of_ownK ho
    have HB2 := Aside.mk (below_then HB.out hb2)
    clear ho hb2 hlS
    go_wp2_with fail
    go_loopw [5, 9] (fun v i wr => v = .slice none 0 0 ∧ i = .int .i64 0 ∧ wr = w2) (fun _ _ _ => 0)
    case atStart => exact ⟨rfl, rfl, rfl⟩
    case round =>
      obtain ⟨rfl, rfl, rfl⟩ := hrel
      go_wp2
      rw [← HR.out]
      exact ⟨_, rfl, OwnN.nil _ _ _ _, HB2.out⟩
  | some x =>
    obtain ⟨xi, xb, xk, xa, xe, xg⟩ := x
    have hp : ∀ e w', FindPost w ks id e w' → e = .returned (.tuple #[.agg #[.int .i64 xi, .bool xb, .int .u8 xk, .bool xa, .bool xe, .int .i64 xg], .bool true]) ∧ Below w.heap.size w w' := by
      intro e w' h; unfold FindPost at h; rw [hk] at h; exact h
    have HP := Aside.mk hp
    by_cases hg0 : xg = 0
    · subst hg0
      have hr : groupK ks srt id = [] := by unfold groupK; rw [hk]; rfl
      rw [hr]
      obtain ⟨R, hR⟩ : ∃ R, GroupPost w [] = R := ⟨_, rfl⟩
      rw [hR]
      have HR := Aside.mk hR
      clear hp hr hk hR
      go_enter Tryd.func68, Tryd.ntmps68
      go_wp2_with fail
      (with_reducible refine HF.out.mono ?_)
      intro e w1 h1
      obtain ⟨rfl, hb1⟩ := HP.out _ _ h1
      have HB := Aside.mk (below_alloc hb1 (.cells #[.int .i64 xi, .bool xb, .int .u8 xk, .bool xa, .bool xe, .int .i64 0] 97))
      have HC := Aside.mk (show (w1.alloc (.cells #[.int .i64 xi, .bool xb, .int .u8 xk, .bool xa, .bool xe, .int .i64 0] 97)).cell? ⟨w1.heap.size, 5, none⟩ = some (.int .i64 0) from cell_at (heap_alloc_new w1 _) rfl)
      clear h1 hb1
      go_wp2_with fail
      (with_reducible refine (HK.out _ HB.out).mono ?_)
      rintro e w2 ⟨lv, rfl, ho, hb2⟩
      obtain ⟨lA, lc, rfl, hlc, _, hlS⟩ := src_of_ownK ho
      have HB2 := Aside.mk (below_then HB.out hb2)
      have c5 := cell_below hb2 HC.out
      clear ho hb2 hlS
      go_wp2_with fail
      go_loopw [5, 9] (fun v i wr => v = .slice none 0 0 ∧ i = .int .i64 0 ∧ wr = w2) (fun _ _ _ => 0)
      case atStart => exact ⟨rfl, rfl, rfl⟩
      case round =>
        obtain ⟨rfl, rfl, rfl⟩ := hrel
        go_wp2
        rw [← HR.out]
        exact ⟨_, rfl, OwnN.nil _ _ _ _, HB2.out⟩
    · have hr : groupK ks srt id = groupOf srt xg id := by unfold groupK; rw [hk]; simp only; rw [if_neg hg0]
      rw [hr]
      have hgz : ((xg : Int) != 0) = true := by simpa using hg0
      obtain ⟨R, hR⟩ : ∃ R, GroupPost w (groupOf srt xg id) = R := ⟨_, rfl⟩
      rw [hR]
      have HR := Aside.mk hR
      clear hp hr hk hR hg0
      go_enter Tryd.func68, Tryd.ntmps68
      go_wp2_with fail
      (with_reducible refine HF.out.mono ?_)
      intro e w1 h1
      obtain ⟨rfl, hb1⟩ := HP.out _ _ h1
      have HB := Aside.mk (below_alloc hb1 (.cells #[.int .i64 xi, .bool xb, .int .u8 xk, .bool xa, .bool xe, .int .i64 xg] 97))
      have HC := Aside.mk (show (w1.alloc (.cells #[.int .i64 xi, .bool xb, .int .u8 xk, .bool xa, .bool xe, .int .i64 xg] 97)).cell? ⟨w1.heap.size, 5, none⟩ = some (.int .i64 xg) from cell_at (heap_alloc_new w1 _) rfl)
      clear h1 hb1
      go_wp2_with fail
      (with_reducible refine (HK.out _ HB.out).mono ?_)
      rintro e w2 ⟨lv, rfl, ho, hb2⟩
      obtain ⟨lA, lc, rfl, hlc, _, hlS⟩ := src_of_ownK ho
      have H0 := Aside.mk (show GrAt w2 w2 (.slice none 0 0) (groupOf (srt.take 0) xg id) from ⟨below_refl w2, OwnN.nil _ _ _ _⟩)
      have HB2 := Aside.mk (below_then HB.out hb2)
      have HC2 := Aside.mk (cell_below hb2 HC.out)
      have HlS := Aside.mk hlS
      have g4 : (srt.length : Int) ≤ (lc : Int) := by omega
      clear ho hb2 hlS hlc
      go_wp2_with fail
      go_loopw [5, 9] (fun v i wr => ∃ k : Nat, k ≤ srt.length ∧ i = .int .i64 k ∧ Aside (GrAt w2 wr v (groupOf (srt.take k) xg id))) (fun _ i _ => srt.length - (intOf i).toNat)
      case atStart => exact ⟨0, Nat.zero_le _, rfl, H0⟩
      case round =>
        obtain ⟨k, hk, rfl, HN⟩ := hrel
        have c5 := cell_below HN.out.below HC2.out
        by_cases hlt : k < srt.length
        · have hkz : (k : Int) < (srt.length : Int) := by omega
          rcases hAA : lA with _ | ad
          · exact absurd (HlS.out.1 hAA) (fun e => by rw [e] at hlt; exact absurd hlt (by simp))
          subst hAA
          obtain ⟨⟨yi, yb, yk, ya, ye, yg⟩, hy⟩ : ∃ x, srt[k]? = some x := ⟨_, List.getElem?_eq_getElem hlt⟩
          obtain ⟨s0, s1, s2, s3, s4, s5⟩ := (HlS.out.below HN.out.below).six hy
          simp only at s0 s1 s2 s3 s4 s5
          have HL := Aside.mk (Nat.le_trans (groupOf_len (srt.take k) xg id) (List.length_take_le _ _))
          have HL2 := Aside.mk (show srt.length ≤ 64 by omega)
          by_cases e1 : yg = xg
          · subst e1
            by_cases e2 : yi = id
            · have HY := Aside.mk hy
              have HE2 := Aside.mk e2
              have q2 : ((yi : Int) != id) = false := by simpa using e2
              clear hy e2
              go_wp2_with fail
              go_quiet (fail)
              have HD := Aside.mk (HN.out.later (below_drewN (below_refl wr) nq))
              generalize wr.drewN nq = w7 at HD ⊢
              clear s0 s1 s2 s3 s4 s5 c5
              go_wp2
              go_roundw
              case rel => exact ⟨k + 1, by omega, by go_num, ⟨GrAt.skip HY.out (fun h => h.2 HE2.out) HD.out⟩⟩
              case measure => simp [intOf]; omega
            · have HE2 := Aside.mk e2
              have q2 : ((yi : Int) != id) = true := by simpa using e2
              clear e2
              have HY := Aside.mk hy
              clear hy
              go_wp2_with fail
              go_quiet (fail)
              have HD := Aside.mk (HN.out.later (below_drewN (below_refl wr) nq))
              generalize wr.drewN nq = w7 at HD ⊢
              clear s0 s1 s2 s3 s4 s5 c5
              obtain ⟨s0, _⟩ := (HlS.out.below HD.out.below).six HY.out
              simp only at s0
              go_wp2_with (at_builtin; go_must (refine app_lit (w0 := w2) w2.heap.size rfl (.tmp 49) (.tmp 55) 45 3 (.int .i64 0) 1 8 _ rfl Tryd.underlying45 info3 rfl (by decide) u5 (groupOf (srt.take k) yg id).length 1 (nums .i64 (groupOf (srt.take k) yg id)) (nums .i64 [yi]) rfl rfl rfl rfl (nums_one _ _) HD.out.own HD.out.below HD.out.below.size (by have := HL.out; have := HL2.out; omega) (by have := HL.out; have := HL2.out; omega) ?_))
              intro v1 w8 hown hbel hg hat
              have HW := Aside.mk (GrAt.put HY.out rfl HE2.out hbel hown)
              clear hown hbel hg hat
              go_wp2
              go_roundw
              case rel => exact ⟨k + 1, by omega, by go_num, HW⟩
              case measure => simp [intOf]; omega
          · have HY := Aside.mk hy
            have HE1 := Aside.mk e1
            have q1 : ((yg : Int) == xg) = false := by simpa using e1
            clear hy e1
            go_wp2_with fail
            go_quiet (fail)
            have HD := Aside.mk (HN.out.later (below_drewN (below_refl wr) nq))
            generalize wr.drewN nq = w7 at HD ⊢
            clear s0 s1 s2 s3 s4 s5 c5
            go_wp2
            go_roundw
            case rel => exact ⟨k + 1, by omega, by go_num, ⟨GrAt.skip HY.out (fun h => HE1.out h.1) HD.out⟩⟩
            case measure => simp [intOf]; omega
        · obtain rfl : k = srt.length := by omega
          have hN := HN.out
          rw [List.take_length] at hN
          have HZ := Aside.mk (show GroupPost w (groupOf srt xg id) (.returned u5) wr from group_mono hN.own HB2.out hN.below)
          clear hN HN
          go_wp2
          rw [← HR.out]
          exact HZ.out
end Go.Proofs.YtaejlgdmalhhnaaDoor
/- The document's layer 4: May (printed by gen_dmay.py). -/
set_option linter.unusedVariables false
set_option linter.unusedSimpArgs false
namespace Go.Proofs.YtaejlgdmalhhnaaDoor
open Go.RowKit Go.Maps

theorem okKs_len {ks : List Ky} (h : 64 < ks.length) : okKs ks = false := by
  unfold okKs
  rw [decide_eq_false (by omega), Bool.false_and]
theorem okKs_bad {ks : List Ky} {i : Nat} {x : Ky} (hi : ks[i]? = some x) (h : docK x = true) : okKs ks = false := by
  have := okPre_take_fail hi (fun h' => by rw [docK_eq, h'.1] at h; simp at h)
  unfold okKs
  rw [decide_eq_false this, Bool.and_false]
theorem okKs_two {ks : List Ky} {i j : Nat} {x y : Ky} (hi : ks[i]? = some x) (hj : ks[j]? = some y) (hlt : j < i) (h : y.id = x.id) : okKs ks = false := by
  have := okPre_take_fail hi (fun h' => by
    have h2 := h'.2
    unfold findK at h2
    rw [List.find?_eq_none] at h2
    exact h2 y (List.mem_of_getElem? (i := j) (by rw [List.getElem?_take, if_pos hlt]; exact hj)) (by simpa using h))
  unfold okKs
  rw [decide_eq_false this, Bool.and_false]
theorem okPre_next {ks : List Ky} {i : Nat} {x : Ky} (h : okPre (ks.take i)) (hi : ks[i]? = some x) (hd : docK x = false) (hn : ∀ j < i, ∀ y, ks[j]? = some y → y.id ≠ x.id) : okPre (ks.take (i + 1)) := by
  have hlt := (List.getElem?_eq_some_iff.1 hi).1
  rw [List.take_succ_eq_append_getElem hlt, (List.getElem?_eq_some_iff.1 hi).2, okPre_snoc]
  refine ⟨h, by rw [docK_eq] at hd; simpa using hd, ?_⟩
  unfold findK
  rw [List.find?_eq_none]
  intro y hy
  obtain ⟨j, hj, he⟩ := List.mem_iff_getElem.1 hy
  rw [List.length_take] at hj
  have := hn j (by omega) y (by rw [← he, List.getElem_take]; exact List.getElem?_eq_getElem (by omega))
  simpa using this
theorem okPre_none (ks : List Ky) : okPre (ks.take 0) := by unfold okPre; simp
set_option maxRecDepth 100000 in
set_option maxHeartbeats 4000000 in
theorem dMay_any (A : Option Addr) (c : Nat) (ks : List Ky) (w : World) (hc : ks.length ≤ c) (hl : ks.length ≤ 9223372036854775807) (hS : KSrc w A ks) :
    Calls Tryd.prog 31 #[.slice A ks.length c] w fun e w' => e = .returned (.bool (okKs ks)) ∧ Below w.heap.size w w' := by
  have HS := Aside.mk hS
  have g2 : (ks.length : Int) ≤ (c : Int) := by omega
  obtain ⟨b, hb⟩ : ∃ b, okKs ks = b := ⟨_, rfl⟩
  have HB := Aside.mk hb
  rw [hb]
  clear hS hb hc
  by_cases h64 : 64 < ks.length
  · have h64z : (64 : Int) < (ks.length : Int) := by omega
    have g1 : (ks.length : Int) ≤ 9223372036854775807 := by omega
    have HZ := Aside.mk (show b = false by rw [← HB.out]; exact okKs_len h64)
    clear h64 hl
    go_enter Tryd.func31, Tryd.ntmps31
    go_wp2
    go_ret
    exact ⟨by have h := HZ.out; subst h; rfl, below_refl w⟩
  have h64z : (ks.length : Int) ≤ 64 := by omega
  have HL := Aside.mk (show ks.length ≤ 64 by omega)
  clear h64 hl
  go_enter Tryd.func31, Tryd.ntmps31
  go_wp2_with fail
  go_loopw [3] (fun i wr => ∃ k : Nat, k ≤ ks.length ∧ i = .int .i64 k ∧ Aside (Below w.heap.size w wr ∧ okPre (ks.take k))) (fun i _ => ks.length - (intOf i).toNat)
  case atStart => exact ⟨0, Nat.zero_le _, rfl, ⟨below_refl w, okPre_none ks⟩⟩
  case round =>
    obtain ⟨k, hk, rfl, HN⟩ := hrel
    by_cases hlt : k < ks.length
    · have hkz : (k : Int) < (ks.length : Int) := by omega
      obtain ⟨⟨xi, xb, xk, xa, xe, xg⟩, hx⟩ : ∃ x, ks[k]? = some x := ⟨_, List.getElem?_eq_getElem hlt⟩
      rcases hAA : A with _ | ad
      · have h0 := HS.out.1 hAA; subst h0; exact absurd hlt (by simp)
      subst hAA
      have HX := Aside.mk hx
      obtain ⟨s0, s1, s2, s3, s4, s5⟩ := (HS.out.below HN.out.1).six hx
      simp only at s0 s1 s2 s3 s4 s5
      clear hx
      by_cases hq0 : decide (xi < 1) = true
      · have HZ := Aside.mk (show b = false by rw [← HB.out]; exact okKs_bad HX.out (by unfold docK; simp only [hq0, Bool.true_or, Bool.or_true]))
        go_wp2
        go_ret
        exact ⟨by have h := HZ.out; subst h; rfl, below_alloc HN.out.1 _⟩
      rw [Bool.not_eq_true] at hq0
      by_cases hq1 : decide (1000 < xi) = true
      · have HZ := Aside.mk (show b = false by rw [← HB.out]; exact okKs_bad HX.out (by unfold docK; simp only [hq1, Bool.true_or, Bool.or_true]))
        go_wp2
        go_ret
        exact ⟨by have h := HZ.out; subst h; rfl, below_alloc HN.out.1 _⟩
      rw [Bool.not_eq_true] at hq1
      by_cases hq2 : decide (xk < 1) = true
      · have HZ := Aside.mk (show b = false by rw [← HB.out]; exact okKs_bad HX.out (by unfold docK; simp only [hq2, Bool.true_or, Bool.or_true]))
        go_wp2
        go_ret
        exact ⟨by have h := HZ.out; subst h; rfl, below_alloc HN.out.1 _⟩
      rw [Bool.not_eq_true] at hq2
      by_cases hq3 : decide (4 < xk) = true
      · have HZ := Aside.mk (show b = false by rw [← HB.out]; exact okKs_bad HX.out (by unfold docK; simp only [hq3, Bool.true_or, Bool.or_true]))
        go_wp2
        go_ret
        exact ⟨by have h := HZ.out; subst h; rfl, below_alloc HN.out.1 _⟩
      rw [Bool.not_eq_true] at hq3
      by_cases hq4 : decide (xg < 0) = true
      · have HZ := Aside.mk (show b = false by rw [← HB.out]; exact okKs_bad HX.out (by unfold docK; simp only [hq4, Bool.true_or, Bool.or_true]))
        go_wp2
        go_ret
        exact ⟨by have h := HZ.out; subst h; rfl, below_alloc HN.out.1 _⟩
      rw [Bool.not_eq_true] at hq4
      by_cases hq5 : decide (8 < xg) = true
      · have HZ := Aside.mk (show b = false by rw [← HB.out]; exact okKs_bad HX.out (by unfold docK; simp only [hq5, Bool.true_or, Bool.or_true]))
        go_wp2
        go_ret
        exact ⟨by have h := HZ.out; subst h; rfl, below_alloc HN.out.1 _⟩
      rw [Bool.not_eq_true] at hq5
      cases xb
      · by_cases hq6 : (xg == 0) = false
        · have HZ := Aside.mk (show b = false by rw [← HB.out]; exact okKs_bad HX.out (by unfold docK; simp only [hq6, Bool.not_false, Bool.and_true, Bool.true_or, Bool.or_true]))
          have q6 : (xg != 0) = true := by simpa using hq6
          go_wp2
          go_ret
          exact ⟨by have h := HZ.out; subst h; rfl, below_alloc HN.out.1 _⟩
        rw [Bool.not_eq_false] at hq6
        have q6 : (xg != 0) = false := by simpa using hq6
        have HD := Aside.mk (show docK ⟨xi, false, xk, xa, xe, xg⟩ = false by unfold docK; simp only [hq0, hq1, hq2, hq3, hq4, hq5, hq6, Bool.not_true, Bool.not_false, Bool.false_and, Bool.true_and, Bool.or_false, Bool.and_false])
        go_wp2_with fail
        have HC := Aside.mk (show (wr.alloc (.cells #[.int .i64 xi, .bool false, .int .u8 xk, .bool xa, .bool xe, .int .i64 xg] 97)).cell? ⟨wr.heap.size, 0, none⟩ = some (.int .i64 xi) from cell_at (heap_alloc_new wr _) rfl)
        have HB0 := Aside.mk (below_alloc HN.out.1 (.cells #[.int .i64 xi, .bool false, .int .u8 xk, .bool xa, .bool xe, .int .i64 xg] 97))
        go_loopw [5] (fun n wx => ∃ m : Nat, m ≤ k ∧ n = .int .i64 m ∧ Aside (Below (wr.alloc (.cells #[.int .i64 xi, .bool false, .int .u8 xk, .bool xa, .bool xe, .int .i64 xg] 97)).heap.size (wr.alloc (.cells #[.int .i64 xi, .bool false, .int .u8 xk, .bool xa, .bool xe, .int .i64 xg] 97)) wx ∧ ∀ j < m, ∀ y, ks[j]? = some y → y.id ≠ xi)) (fun n _ => k - (intOf n).toNat)
        case atStart => exact ⟨0, Nat.zero_le _, rfl, ⟨below_refl _, fun j h => absurd h (by omega)⟩⟩
        case round =>
          obtain ⟨m, hm, rfl, HM⟩ := hrel
          have HBm := Aside.mk (below_then HB0.out HM.out.1)
          have hc0 := cell_below HM.out.1 HC.out
          by_cases hlm : m < k
          · have hmz : (m : Int) < (k : Int) := by omega
            have hmz2 : (m : Int) < (ks.length : Int) := by omega
            obtain ⟨⟨yi, yb, yk, ya, ye, yg⟩, hy⟩ : ∃ y, ks[m]? = some y := ⟨_, List.getElem?_eq_getElem (by omega)⟩
            obtain ⟨r0, _⟩ := (HS.out.below HBm.out).six hy
            simp only at r0
            have HY := Aside.mk hy
            clear hy
            by_cases he : yi = xi
            · have q : (yi == xi) = true := by simpa using he
              have HZ := Aside.mk (show b = false by rw [← HB.out]; exact okKs_two HX.out HY.out hlm he)
              clear he
              go_wp2_with fail
              go_quiet (fail)
              have HBn := Aside.mk (below_drewN HBm.out nq)
              go_wp2
              go_ret
              exact ⟨by have h := HZ.out; subst h; rfl, HBn.out⟩
            · have q : (yi == xi) = false := by simpa using he
              have HZ := Aside.mk (show ∀ j < m + 1, ∀ y, ks[j]? = some y → y.id ≠ xi by
                intro j hj y hy
                rcases Nat.lt_or_ge j m with h | h
                · exact HM.out.2 j h y hy
                · obtain rfl : j = m := by omega
                  rw [HY.out] at hy; cases hy; exact he)
              clear he
              go_wp2_with fail
              go_quiet (fail)
              have HBn := Aside.mk (below_drewN HM.out.1 nq)
              go_wp2
              go_roundw
              case rel => exact ⟨m + 1, by omega, by go_num, ⟨HBn.out, HZ.out⟩⟩
              case measure => simp [intOf]; omega
          · have hmk : k = m := by omega
            subst hmk
            have HZ := Aside.mk (okPre_next HN.out.2 HX.out HD.out HM.out.2)
            go_wp2
            go_roundw
            case rel => exact ⟨k + 1, by omega, by go_num, ⟨HBm.out, HZ.out⟩⟩
            case measure => simp [intOf]; omega
      · cases xe
        rotate_left
        · have HZ := Aside.mk (show b = false by rw [← HB.out]; exact okKs_bad HX.out (by unfold docK; simp only [Bool.and_true, Bool.or_true]))
          go_wp2
          go_ret
          exact ⟨by have h := HZ.out; subst h; rfl, below_alloc HN.out.1 _⟩
        · skip
          have HD := Aside.mk (show docK ⟨xi, true, xk, xa, false, xg⟩ = false by unfold docK; simp only [hq0, hq1, hq2, hq3, hq4, hq5, Bool.not_true, Bool.not_true, Bool.not_false, Bool.false_and, Bool.true_and, Bool.or_false, Bool.and_false])
          go_wp2_with fail
          have HC := Aside.mk (show (wr.alloc (.cells #[.int .i64 xi, .bool true, .int .u8 xk, .bool xa, .bool false, .int .i64 xg] 97)).cell? ⟨wr.heap.size, 0, none⟩ = some (.int .i64 xi) from cell_at (heap_alloc_new wr _) rfl)
          have HB0 := Aside.mk (below_alloc HN.out.1 (.cells #[.int .i64 xi, .bool true, .int .u8 xk, .bool xa, .bool false, .int .i64 xg] 97))
          go_loopw [5] (fun n wx => ∃ m : Nat, m ≤ k ∧ n = .int .i64 m ∧ Aside (Below (wr.alloc (.cells #[.int .i64 xi, .bool true, .int .u8 xk, .bool xa, .bool false, .int .i64 xg] 97)).heap.size (wr.alloc (.cells #[.int .i64 xi, .bool true, .int .u8 xk, .bool xa, .bool false, .int .i64 xg] 97)) wx ∧ ∀ j < m, ∀ y, ks[j]? = some y → y.id ≠ xi)) (fun n _ => k - (intOf n).toNat)
          case atStart => exact ⟨0, Nat.zero_le _, rfl, ⟨below_refl _, fun j h => absurd h (by omega)⟩⟩
          case round =>
            obtain ⟨m, hm, rfl, HM⟩ := hrel
            have HBm := Aside.mk (below_then HB0.out HM.out.1)
            have hc0 := cell_below HM.out.1 HC.out
            by_cases hlm : m < k
            · have hmz : (m : Int) < (k : Int) := by omega
              have hmz2 : (m : Int) < (ks.length : Int) := by omega
              obtain ⟨⟨yi, yb, yk, ya, ye, yg⟩, hy⟩ : ∃ y, ks[m]? = some y := ⟨_, List.getElem?_eq_getElem (by omega)⟩
              obtain ⟨r0, _⟩ := (HS.out.below HBm.out).six hy
              simp only at r0
              have HY := Aside.mk hy
              clear hy
              by_cases he : yi = xi
              · have q : (yi == xi) = true := by simpa using he
                have HZ := Aside.mk (show b = false by rw [← HB.out]; exact okKs_two HX.out HY.out hlm he)
                clear he
                go_wp2_with fail
                go_quiet (fail)
                have HBn := Aside.mk (below_drewN HBm.out nq)
                go_wp2
                go_ret
                exact ⟨by have h := HZ.out; subst h; rfl, HBn.out⟩
              · have q : (yi == xi) = false := by simpa using he
                have HZ := Aside.mk (show ∀ j < m + 1, ∀ y, ks[j]? = some y → y.id ≠ xi by
                  intro j hj y hy
                  rcases Nat.lt_or_ge j m with h | h
                  · exact HM.out.2 j h y hy
                  · obtain rfl : j = m := by omega
                    rw [HY.out] at hy; cases hy; exact he)
                clear he
                go_wp2_with fail
                go_quiet (fail)
                have HBn := Aside.mk (below_drewN HM.out.1 nq)
                go_wp2
                go_roundw
                case rel => exact ⟨m + 1, by omega, by go_num, ⟨HBn.out, HZ.out⟩⟩
                case measure => simp [intOf]; omega
            · have hmk : k = m := by omega
              subst hmk
              have HZ := Aside.mk (okPre_next HN.out.2 HX.out HD.out HM.out.2)
              go_wp2
              go_roundw
              case rel => exact ⟨k + 1, by omega, by go_num, ⟨HBm.out, HZ.out⟩⟩
              case measure => simp [intOf]; omega
    · obtain rfl : k = ks.length := by omega
      have HZ := Aside.mk (show b = true by
        have h := HN.out.2
        rw [List.take_length] at h
        rw [← HB.out]
        unfold okKs
        rw [decide_eq_true HL.out, decide_eq_true h]
        rfl)
      go_wp2
      go_ret
      exact ⟨by have h := HZ.out; subst h; rfl, HN.out.1⟩
end Go.Proofs.YtaejlgdmalhhnaaDoor
/- The document's layer 4: Fits. -/
set_option linter.unusedVariables false
set_option linter.unusedSimpArgs false
namespace Go.Proofs.YtaejlgdmalhhnaaDoor
open Go.RowKit Go.Maps

set_option maxRecDepth 100000 in
theorem dFits_any (A : Option Addr) (c : Nat) (ks : List Ky) (id : Int) (v : Val) (w : World) (hc : ks.length ≤ c) (hl : ks.length ≤ 9223372036854775807) (hS : KSrc w A ks) (hf : v.f < 18446744073709551616) (hs : v.s.size * 4 ≤ 140737488355324) :
    Calls Tryd.prog 69 #[.slice A ks.length c, .int .i64 id, v.v] w fun e w' => e = .returned (.bool (fitsK ks id v)) ∧ Below w.heap.size w w' := by
  have HF := Aside.mk (dFind_any A c ks id (w.alloc v.obj) hc hl (hS.below (below_alloc (below_refl w) _)))
  have HM := Aside.mk (fun W => mayR_any v W hf hs)
  rw [mayR_mayV v hf] at HM
  clear hS hc hl
  obtain ⟨k, n, f, t⟩ := v
  cases hk : findK ks id with
  | none =>
    have hr : fitsK ks id ⟨k, n, f, t⟩ = false := by unfold fitsK; rw [hk]
    rw [hr]
    have hp : ∀ w e w', FindPost w ks id e w' → e = .returned (.tuple #[.agg #[.int .i64 0, .bool false, .int .u8 0, .bool false, .bool false, .int .i64 0], .bool false]) ∧ Below w.heap.size w w' := by
      intro w e w' h; unfold FindPost at h; rw [hk] at h; exact h
    have HP := Aside.mk hp
    clear hp hr hk HM hf hs
    unfold Val.obj at HF
    unfold Val.v
    go_enter Tryd.func69, Tryd.ntmps69
    go_wp2_with fail
    (with_reducible refine HF.out.mono ?_)
    intro e w1 h1
    obtain ⟨rfl, hb1⟩ := HP.out _ _ _ h1
    clear h1
    have HB := Aside.mk (below_then (below_alloc (below_refl w) (Val.obj ⟨k, n, f, t⟩)) hb1)
    clear hb1
    go_wp2
    go_ret
    exact ⟨rfl, below_alloc HB.out _⟩
  | some x =>
    obtain ⟨xi, xb, xk, xa, xe, xg⟩ := x
    have hr : fitsK ks id ⟨k, n, f, t⟩ = (xk == k && mayV ⟨k, n, f, t⟩) := by unfold fitsK; rw [hk]
    rw [hr]
    have hp : ∀ w e w', FindPost w ks id e w' → e = .returned (.tuple #[.agg #[.int .i64 xi, .bool xb, .int .u8 xk, .bool xa, .bool xe, .int .i64 xg], .bool true]) ∧ Below w.heap.size w w' := by
      intro w e w' h; unfold FindPost at h; rw [hk] at h; exact h
    have HP := Aside.mk hp
    have HX := Aside.mk (Box.new w ⟨k, n, f, t⟩)
    obtain ⟨r, hrr⟩ : ∃ r, mayV ⟨k, n, f, t⟩ = r := ⟨_, rfl⟩
    rw [hrr] at HM ⊢
    clear hp hr hk hf hs hrr
    unfold Val.obj at HF HX
    unfold Val.v at HM ⊢
    have hkk : ((k : Int) == xk) = (xk == k) := by rw [Bool.eq_iff_iff]; simp; exact eq_comm
    obtain ⟨b, hbb⟩ : ∃ b, (xk == k) = b := ⟨_, rfl⟩
    rw [hbb] at hkk ⊢
    clear hbb
    go_enter Tryd.func69, Tryd.ntmps69
    go_wp2_with fail
    (with_reducible refine HF.out.mono ?_)
    intro e w1 h1
    obtain ⟨rfl, hb1⟩ := HP.out _ _ _ h1
    clear h1
    have HB1 := Aside.mk (below_then (below_alloc (below_refl w) (Val.obj ⟨k, n, f, t⟩)) hb1)
    obtain ⟨c0, c1, c2, c3⟩ := HX.out.below (below_alloc hb1 (.cells #[.int .i64 xi, .bool xb, .int .u8 xk, .bool xa, .bool xe, .int .i64 xg] 97))
    have HX1 := Aside.mk (HX.out.below (below_alloc hb1 (.cells #[.int .i64 xi, .bool xb, .int .u8 xk, .bool xa, .bool xe, .int .i64 xg] 97)))
    clear hb1
    simp only at c0 c1 c2 c3
    go_wp2_with fail
    (with_reducible refine (HM.out _).mono ?_)
    rintro e w2 ⟨rfl, hb2⟩
    have d0 := (HX1.out.below hb2).1
    have d1 := cell_below hb2 (show (w1.alloc (.cells #[.int .i64 xi, .bool xb, .int .u8 xk, .bool xa, .bool xe, .int .i64 xg] 97)).cell? ⟨w1.heap.size, 2, none⟩ = some (.int .u8 xk) from cell_at (heap_alloc_new w1 _) rfl)
    have HB := Aside.mk (below_then (below_alloc HB1.out (.cells #[.int .i64 xi, .bool xb, .int .u8 xk, .bool xa, .bool xe, .int .i64 xg] 97)) hb2)
    clear hb2 c0 c1 c2 c3
    simp only at d0
    cases r
    · go_wp2
      go_ret
      exact ⟨by simp, HB.out⟩
    · go_wp2
      go_ret
      exact ⟨by simp, HB.out⟩
end Go.Proofs.YtaejlgdmalhhnaaDoor
/- Rows of the call's own that are written place by place: plain lemmas. -/
set_option linter.unusedVariables false
set_option linter.unusedSimpArgs false
namespace Go.Proofs.YtaejlgdmalhhnaaDoor
open Go.RowKit Go.Maps

/-- The first k have been written over. -/
def overw {α : Type} (f : α → α) (l : List α) (k : Nat) : List α := (l.take k).map f ++ l.drop k
theorem overw_zero {α : Type} (f : α → α) (l : List α) : overw f l 0 = l := by simp [overw]
theorem overw_length {α : Type} (f : α → α) (l : List α) (k : Nat) : (overw f l k).length = l.length := by simp [overw]; omega
theorem overw_at {α : Type} {f : α → α} {l : List α} {k : Nat} : (overw f l k)[k]? = l[k]? := by
  unfold overw
  rcases Nat.lt_or_ge k l.length with h | h
  · rw [List.getElem?_append_right (by rw [List.length_map, List.length_take]; omega), List.length_map, List.length_take, List.getElem?_drop]
    congr 1
    omega
  · rw [List.getElem?_eq_none (by simp; omega), List.getElem?_eq_none h]
theorem overw_next {α : Type} {f : α → α} {l : List α} {k : Nat} {x : α} (h : l[k]? = some x) : overw f l (k + 1) = (overw f l k).set k (f x) := by
  have hk := (List.getElem?_eq_some_iff.1 h).1
  unfold overw
  have e1 : l.take (k + 1) = l.take k ++ [x] := by rw [List.take_succ_eq_append_getElem hk, (List.getElem?_eq_some_iff.1 h).2]
  have e2 : l.drop k = x :: l.drop (k + 1) := by rw [List.drop_eq_getElem_cons hk, (List.getElem?_eq_some_iff.1 h).2]
  rw [e1, e2, List.map_append, List.append_assoc, List.set_append_right k (f x) (by rw [List.length_map, List.length_take]; omega), List.length_map, List.length_take]
  have e3 : k - min k l.length = 0 := by omega
  rw [e3]
  rfl
theorem kcells_set (l : List Ky) (k : Nat) (y : Ky) (hk : k < l.length) (x : Ky) (hx : l[k]? = some x) (i : Nat) (u : Value) (hu : y.cells = x.cells.set i u) (hi : i < 6) : kcells (l.set k y) = (kcells l).set (k * 6 + i) u := by
  induction l generalizing k with
  | nil => simp at hk
  | cons a r ih =>
    have e : ∀ (a : Ky) (r : List Ky), kcells (a :: r) = a.cells ++ kcells r := fun a r => by simp [kcells]
    cases k with
    | zero =>
      simp at hx
      subst hx
      rw [List.set_cons_zero, e, e, hu, List.set_append_left _ _ (by rw [cells_len]; omega), Nat.zero_mul, Nat.zero_add]
    | succ k =>
      rw [List.set_cons_succ, e, e, ih k (by simpa using hk) (by simpa using hx), List.set_append_right _ _ (by rw [cells_len]; omega), cells_len]
      have e2 : (k + 1) * 6 + i - 6 = k * 6 + i := by omega
      rw [e2]
theorem nums_set (k : IntKind) (l : List Int) (i : Nat) (z : Int) : nums k (l.set i z) = (nums k l).set i (.int k z) := by
  unfold nums
  rw [List.map_set]
theorem own_stay {w w' : World} {B n size : Nat} {e : TypeId} {v : Value} {xs : List Value} (h : w.ownsRow B e size v n xs) (hb : ∀ k, v.ownBlock = some k → w'.heap[k]? = w.heap[k]?) : w'.ownsRow B e size v n xs := by
  refine ⟨h.1, ?_⟩
  rcases h.2 with h2 | ⟨g, cap, cur, rfl, hB, hh, r⟩
  · exact .inl h2
  · exact .inr ⟨g, cap, cur, rfl, hB, (hb g rfl).trans hh, r⟩
theorem own_blk {w : World} {B n c size : Nat} {e : TypeId} {A : Option Addr} {xs : List Value} {a : Addr} (h : w.ownsRow B e size (.slice A n c) n xs) (ha : A = some a) : a.block < w.heap.size := by
  subst ha
  rcases h.2 with ⟨h1, _⟩ | ⟨g, cap, cur, h1, hB, hh, hc, _⟩
  · cases h1
  · injection h1 with a1 a2 a3
    injection a1 with a1
    subst a1
    exact (Array.getElem?_eq_some_iff.1 hh).1
variable {w w0 : World} {B n c size : Nat} {e : TypeId} {xs : List Value} {ad : Addr}
theorem row_at (h : w.ownsRow B e size (.slice (some ad) n c) n xs) : ∃ g cur, ad = ⟨g, 0, none⟩ ∧ B ≤ g ∧ w.heap[g]? = some (.cells cur e (0, 0)) ∧ n ≤ c := by
  rcases h.2 with ⟨h1, _⟩ | ⟨g, cap, cur, h1, hB, hh, hc, _⟩
  · cases h1
  · injection h1 with a1 a2 a3
    injection a1 with a1
    subst a1 a3
    exact ⟨g, cur, rfl, hB, hh, hc⟩
theorem row_fz (h : w.ownsRow B e size (.slice (some ad) n c) n xs) (j i : Nat) : w.frozen? ⟨(ad.add j).block, (ad.add j).off + i, none⟩ = false := by
  obtain ⟨g, cur, rfl, _, hh, _⟩ := row_at h
  exact frozen_of_row w _ _ cur e (by rw [addr_add_plain]; exact hh)
theorem row_fz0 (h : w.ownsRow B e size (.slice (some ad) n c) n xs) (j : Nat) : w.frozen? (ad.add j) = false := by
  obtain ⟨g, cur, rfl, _, hh, _⟩ := row_at h
  rw [addr_add_plain]
  exact frozen_of_row w _ _ cur e hh
theorem row_put (h : w.ownsRow B e size (.slice (some ad) n c) n xs) (j i : Nat) (u : Value) : (w.setCell ⟨(ad.add j).block, (ad.add j).off + i, none⟩ u).ownsRow B e size (.slice (some ad) n c) n (xs.set (j + i) u) := by
  obtain ⟨g, cur, rfl, _, hh, _⟩ := row_at h
  rw [addr_add_plain]
  exact (h.stored (j + i) u).1
theorem row_put0 (h : w.ownsRow B e size (.slice (some ad) n c) n xs) (j : Nat) (u : Value) : (w.setCell (ad.add j) u).ownsRow B e size (.slice (some ad) n c) n (xs.set j u) := by
  obtain ⟨g, cur, rfl, _, hh, _⟩ := row_at h
  rw [addr_add_plain]
  exact (h.stored j u).1
theorem row_below (h : w.ownsRow B e size (.slice (some ad) n c) n xs) (hb : Below B w0 w) (j : Nat) (a : Addr) (ha : a.block = (ad.add j).block) (u : Value) : Below B w0 (w.setCell a u) := by
  obtain ⟨g, cur, rfl, hg, hh, _⟩ := row_at h
  rw [addr_add_plain] at ha
  refine hb.setCell ?_ u
  rw [ha]
  exact hg
/-- A row of keys of the call's own, the first k written over. -/
structure KOver (w0 w : World) (f : Ky → Ky) (ad : Addr) (c : Nat) (l : List Ky) (k : Nat) : Prop where
  below : Below w0.heap.size w0 w
  own : w.ownsRow w0.heap.size 97 6 (.slice (some ad) l.length c) l.length (kcells (overw f l k))
theorem KOver.six {f : Ky → Ky} {l : List Ky} {k : Nat} (h : KOver w0 w f ad c l k) {x : Ky} (hx : l[k]? = some x) :
    w.cell? (ad.add (k * 6)) = some (.int .i64 x.id) ∧ w.cell? ⟨(ad.add (k * 6)).block, (ad.add (k * 6)).off + 1, none⟩ = some (.bool x.bl) ∧ w.cell? ⟨(ad.add (k * 6)).block, (ad.add (k * 6)).off + 2, none⟩ = some (.int .u8 x.kd) ∧
    w.cell? ⟨(ad.add (k * 6)).block, (ad.add (k * 6)).off + 3, none⟩ = some (.bool x.af) ∧ w.cell? ⟨(ad.add (k * 6)).block, (ad.add (k * 6)).off + 4, none⟩ = some (.bool x.be) ∧ w.cell? ⟨(ad.add (k * 6)).block, (ad.add (k * 6)).off + 5, none⟩ = some (.int .i64 x.gr) := by
  have ho := h.own
  have e : l.length = (overw f l k).length := (overw_length f l k).symm
  obtain ⟨g, cur, rfl, _⟩ := row_at ho
  have hs : KSrc w (some ⟨g, 0, none⟩) (overw f l k) := by
    refine src_of_row (row_of_own (B := w0.heap.size) (c := c) ?_)
    rw [← e]
    exact ho
  exact hs.six (by rw [overw_at]; exact hx)
theorem KOver.put {f : Ky → Ky} {l : List Ky} {k : Nat} (h : KOver w0 w f ad c l k) {x : Ky} (hx : l[k]? = some x) {i : Nat} {u : Value} (hi : i < 6) (hu : (f x).cells = x.cells.set i u) :
    KOver w0 (w.setCell ⟨(ad.add (k * 6)).block, (ad.add (k * 6)).off + i, none⟩ u) f ad c l (k + 1) := by
  have hk := (List.getElem?_eq_some_iff.1 hx).1
  refine ⟨row_below h.own h.below (k * 6) ⟨(ad.add (k * 6)).block, (ad.add (k * 6)).off + i, none⟩ rfl u, ?_⟩
  rw [overw_next hx, kcells_set (overw f l k) k (f x) (by rw [overw_length]; exact hk) x (by rw [overw_at]; exact hx) i u hu hi]
  exact row_put h.own (k * 6) i u
theorem KOver.put0 {f : Ky → Ky} {l : List Ky} {k : Nat} (h : KOver w0 w f ad c l k) {x : Ky} (hx : l[k]? = some x) {u : Value} (hu : (f x).cells = x.cells.set 0 u) :
    KOver w0 (w.setCell (ad.add (k * 6)) u) f ad c l (k + 1) := by
  have hk := (List.getElem?_eq_some_iff.1 hx).1
  refine ⟨row_below h.own h.below (k * 6) _ rfl u, ?_⟩
  rw [overw_next hx, kcells_set (overw f l k) k (f x) (by rw [overw_length]; exact hk) x (by rw [overw_at]; exact hx) 0 u hu (by omega)]
  exact row_put0 h.own (k * 6) u
theorem KOver.drew {f : Ky → Ky} {l : List Ky} {k : Nat} (h : KOver w0 w f ad c l k) (n : Nat) : KOver w0 (w.drewN n) f ad c l k := ⟨below_drewN h.below n, own_below h.own (below_drewN (below_refl w) n)⟩
/-- A row of numbers of the call's own, the first k written over. -/
structure NOver (w0 w : World) (ad : Addr) (c : Nat) (l : List Int) (k : Nat) : Prop where
  below : Below w0.heap.size w0 w
  own : w.ownsRow w0.heap.size 3 1 (.slice (some ad) l.length c) l.length (nums .i64 (overw (fun _ => -1) l k))
theorem NOver.cell {l : List Int} {k : Nat} (h : NOver w0 w ad c l k) {x : Int} (hx : l[k]? = some x) : w.cell? (ad.add k) = some (.int .i64 x) := by
  obtain ⟨g, cur, rfl, _⟩ := row_at h.own
  exact World.ownsRow.cells h.own (g := g) rfl k (.int .i64 x) (by unfold nums; rw [List.getElem?_map, overw_at, hx]; rfl)
theorem NOver.put {l : List Int} {k : Nat} (h : NOver w0 w ad c l k) {x : Int} (hx : l[k]? = some x) : NOver w0 (w.setCell (ad.add k) (.int .i64 (-1))) ad c l (k + 1) := by
  refine ⟨row_below h.own h.below k _ rfl _, ?_⟩
  rw [overw_next hx, nums_set]
  exact row_put0 h.own k _
theorem NOver.drew {l : List Int} {k : Nat} (h : NOver w0 w ad c l k) (n : Nat) : NOver w0 (w.drewN n) ad c l k := ⟨below_drewN h.below n, own_below h.own (below_drewN (below_refl w) n)⟩
theorem ne_key_self (k : Ky) (w : World) : (binOp .neq 97 (.agg #[.int .i64 k.id, .bool k.bl, .int .u8 k.kd, .bool k.af, .bool k.be, .int .i64 k.gr]) (.agg #[.int .i64 k.id, .bool k.bl, .int .u8 k.kd, .bool k.af, .bool k.be, .int .i64 k.gr])).run Tryd.prog w = .ok (.bool false) w := by
  simp [binOp, Op.equal, Op.maxDepth, go_sem]
end Go.Proofs.YtaejlgdmalhhnaaDoor
