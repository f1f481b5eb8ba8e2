/- Layer 4: SchemaFits' walk. -/
import Derived.Test.YtaejlgdmalhhnaaDoorSm
set_option linter.unusedVariables false
set_option linter.unusedSimpArgs false
namespace Go.Proofs.YtaejlgdmalhhnaaDoor
open Go.RowKit Go.Maps

def ct (b : Bool) : Int := if b then 1 else 0
theorem ct_true : ct true = 1 := rfl
theorem ct_false : ct false = 0 := rfl
theorem ct_le (b : Bool) : 0 ≤ ct b ∧ ct b ≤ 1 := by cases b <;> simp [ct]
def fvObj : Obj := .cells #[.int .u8 1, .int .i64 0, .int .u64 0, .string ⟨#[]⟩, .int .u8 2, .int .i64 (-5), .int .u64 0, .string ⟨#[]⟩, .int .u8 3, .int .i64 0, .int .u64 9221120237041090560, .string ⟨#[]⟩, .int .u8 4, .int .i64 0, .int .u64 0, .string ⟨#[97]⟩] 94
set_option maxRecDepth 100000 in
set_option maxHeartbeats 2000000 in
theorem fits_no (A : Option Addr) (c : Nat) (ks : List Ky) (id : Int) (w : World) (hc : ks.length ≤ c) (hS : KSrc w A ks) (hA : A = none → c = 0) (hl : ks.length ≤ 9223372036854775807) (hwf : ∀ k ∈ ks, (Lit.int .i64 k.id).wf = true) (hw : (Lit.int .i64 id).wf = true) (hok : okKs ks = false) :
    Calls Tryd.prog 13 #[.slice A ks.length c, .int .i64 id] w fun e w' => e = .returned (.bool true) ∧ Below w.heap.size w w' := by
  have HK := Aside.mk known4_any
  have N := Aside.mk (new_any A c ks w hc hS hA hl hwf)
  have HO := Aside.mk hok
  clear hc hS hA hwf hw hok hl
  go_enter Tryd.func13, Tryd.ntmps13
  go_wp2_with fail
  (with_reducible refine N.out.mono ?_)
  rintro e w1 ⟨hb1, h1⟩
  rw [HO.out] at h1
  obtain rfl : e = .returned (.tuple #[.pointer none, .int .i64 3]) := h1
  have HB1 := Aside.mk hb1
  clear hb1
  go_wp2_with fail
  (with_reducible refine (HK.out _).mono ?_)
  rintro e w2 ⟨rfl, hb2⟩
  have HB := Aside.mk (below_then HB1.out hb2)
  clear hb2
  go_wp2
  go_ret
  exact ⟨rfl, HB.out⟩
set_option maxRecDepth 100000 in
set_option maxHeartbeats 4000000 in
theorem fits_yes (A : Option Addr) (c : Nat) (ks : List Ky) (id : Int) (w : World) (hc : ks.length ≤ c) (hS : KSrc w A ks) (hA : A = none → c = 0) (hl : ks.length ≤ 9223372036854775807) (hwf : ∀ k ∈ ks, (Lit.int .i64 k.id).wf = true) (hw : (Lit.int .i64 id).wf = true) (hok : okKs ks = true) (hT : Lib.Utf8Tabs 1 2 w) :
    Calls Tryd.prog 13 #[.slice A ks.length c, .int .i64 id] w fun e w' => e = .returned (.bool true) ∧ Below w.heap.size w w' := by
  have HK := Aside.mk known4_any
  have N := Aside.mk (new_any A c ks w hc hS hA hl hwf)
  have HO := Aside.mk hok
  have g64 : (ks.length : Int) ≤ 64 := by unfold okKs at hok; simp at hok; omega
  obtain ⟨b1, b2, b3, b4, ok, _, e1, e2, e3, e4, e5, hpat⟩ := fits_four hok id
  have hcnt : (ok = false ∧ ct b1 + ct b2 + ct b3 + ct b4 = 0) ∨ (ok = true ∧ ct b1 + ct b2 + ct b3 + ct b4 = 1) := by
    rcases hpat with ⟨rfl, rfl, rfl, rfl, rfl⟩ | ⟨rfl, ⟨rfl, rfl, rfl, rfl⟩ | ⟨rfl, rfl, rfl, rfl⟩ | ⟨rfl, rfl, rfl, rfl⟩ | ⟨rfl, rfl, rfl, rfl⟩⟩ <;> simp [ct]
  obtain ⟨m, hm⟩ : ∃ m, ct b1 + ct b2 + ct b3 + ct b4 = m := ⟨_, rfl⟩
  rw [hm] at hcnt
  have HM := Aside.mk hm.symm
  have HCnt := Aside.mk hcnt
  have F0 := Aside.mk (fits_bad ks id fv0 fv0_may)
  have FN := Aside.mk (fits_bad ks id fvN fvN_may)
  have E1 := Aside.mk e1
  have E2 := Aside.mk e2
  have E3 := Aside.mk e3
  have E4 := Aside.mk e4
  have E5 := Aside.mk e5
  have HW := Aside.mk hw
  have HT := Aside.mk (fun W (h : Below w.heap.size w W) => tabs_below hT h)
  have T1 := Aside.mk (fun (W : World) (lo hi : Nat) (srt : List Ky) (so : Option Addr) (h : Sch lo hi W (.pointer so) ks srt) (hT : Lib.Utf8Tabs 1 2 W) => show Calls Tryd.prog 61 #[.pointer so, .int .i64 id, .agg #[.int .u8 1, .int .i64 0, .int .u64 0, .string ⟨#[]⟩]] W fun e w' => e = .returned (.bool b1) ∧ Below W.heap.size W w' from by have h := fits_any id fv1 W h HW.out hT; rw [E1.out] at h; exact h)
  have T2 := Aside.mk (fun (W : World) (lo hi : Nat) (srt : List Ky) (so : Option Addr) (h : Sch lo hi W (.pointer so) ks srt) (hT : Lib.Utf8Tabs 1 2 W) => show Calls Tryd.prog 61 #[.pointer so, .int .i64 id, .agg #[.int .u8 2, .int .i64 (-5), .int .u64 0, .string ⟨#[]⟩]] W fun e w' => e = .returned (.bool b2) ∧ Below W.heap.size W w' from by have h := fits_any id fv2 W h HW.out hT; rw [E2.out] at h; exact h)
  have T3 := Aside.mk (fun (W : World) (lo hi : Nat) (srt : List Ky) (so : Option Addr) (h : Sch lo hi W (.pointer so) ks srt) (hT : Lib.Utf8Tabs 1 2 W) => show Calls Tryd.prog 61 #[.pointer so, .int .i64 id, .agg #[.int .u8 3, .int .i64 0, .int .u64 9221120237041090560, .string ⟨#[]⟩]] W fun e w' => e = .returned (.bool b3) ∧ Below W.heap.size W w' from by have h := fits_any id fv3 W h HW.out hT; rw [E3.out] at h; exact h)
  have T4 := Aside.mk (fun (W : World) (lo hi : Nat) (srt : List Ky) (so : Option Addr) (h : Sch lo hi W (.pointer so) ks srt) (hT : Lib.Utf8Tabs 1 2 W) => show Calls Tryd.prog 61 #[.pointer so, .int .i64 id, .agg #[.int .u8 4, .int .i64 0, .int .u64 0, .string ⟨#[97]⟩]] W fun e w' => e = .returned (.bool b4) ∧ Below W.heap.size W w' from by have h := fits_any id fv4 W h HW.out hT; rw [E4.out] at h; exact h)
  have T0 := Aside.mk (fun (W : World) (lo hi : Nat) (srt : List Ky) (so : Option Addr) (h : Sch lo hi W (.pointer so) ks srt) (hT : Lib.Utf8Tabs 1 2 W) => show Calls Tryd.prog 61 #[.pointer so, .int .i64 id, .agg #[.int .u8 0, .int .i64 0, .int .u64 0, .string ⟨#[]⟩]] W fun e w' => e = .returned (.bool false) ∧ Below W.heap.size W w' from by have h := fits_any id fv0 W h HW.out hT; rw [F0.out] at h; exact h)
  have TN := Aside.mk (fun (W : World) (lo hi : Nat) (srt : List Ky) (so : Option Addr) (h : Sch lo hi W (.pointer so) ks srt) (hT : Lib.Utf8Tabs 1 2 W) => show Calls Tryd.prog 61 #[.pointer so, .int .i64 id, .agg #[.int .u8 3, .int .i64 0, .int .u64 9221120237041090561, .string ⟨#[]⟩]] W fun e w' => e = .returned (.bool false) ∧ Below W.heap.size W w' from by have h := fits_any id fvN W h HW.out hT; rw [FN.out] at h; exact h)
  clear hc hS hA hwf hw hok hl e1 e2 e3 e4 e5 hpat hcnt hT hm
  go_enter Tryd.func13, Tryd.ntmps13
  go_wp2_with fail
  (with_reducible refine N.out.mono ?_)
  rintro e w1 ⟨hb1, h1⟩
  rw [HO.out, if_pos rfl] at h1
  obtain ⟨v, srt, rfl, hS, hv, hp, hs⟩ := h1
  have hsp : ∃ so, v = .pointer so := by rcases hS with ⟨rfl, _⟩ | ⟨g, A, c, m, rfl, _⟩ <;> exact ⟨_, rfl⟩
  obtain ⟨so, rfl⟩ := hsp
  have HB1 := Aside.mk hb1
  have HS1 := Aside.mk hS
  clear hb1 hS hv hp hs
  go_wp2_with fail
  have HA := Aside.mk (show (w1.alloc fvObj).heap[w1.heap.size]? = some (.cells #[.int .u8 1, .int .i64 0, .int .u64 0, .string ⟨#[]⟩, .int .u8 2, .int .i64 (-5), .int .u64 0, .string ⟨#[]⟩, .int .u8 3, .int .i64 0, .int .u64 9221120237041090560, .string ⟨#[]⟩, .int .u8 4, .int .i64 0, .int .u64 0, .string ⟨#[97]⟩] 94) from heap_alloc_new w1 _)
  have HA0 := Aside.mk (below_alloc (below_refl w1) fvObj)
  have q1 := ct_le b1
  have q2 := ct_le b2
  have q3 := ct_le b3
  have q4 := ct_le b4
  go_loopw [8, 30] (fun n i wr => ((i = .int .i64 0 ∧ n = .int .i64 (0)) ∨ (i = .int .i64 1 ∧ n = .int .i64 (ct b1)) ∨ (i = .int .i64 2 ∧ n = .int .i64 (ct b1 + ct b2)) ∨ (i = .int .i64 3 ∧ n = .int .i64 (ct b1 + ct b2 + ct b3)) ∨ (i = .int .i64 4 ∧ n = .int .i64 (m))) ∧ Aside (Below (w1.alloc fvObj).heap.size (w1.alloc fvObj) wr)) (fun _ i _ => (4 - intOf i).toNat)
  case atStart => exact ⟨.inl ⟨rfl, rfl⟩, ⟨below_refl _⟩⟩
  case round =>
    obtain ⟨⟨rfl, rfl⟩ | ⟨rfl, rfl⟩ | ⟨rfl, rfl⟩ | ⟨rfl, rfl⟩ | ⟨rfl, rfl⟩, HN⟩ := hrel
    · skip
      have x0 := cell_at (i := 0) (below_heap HN.out HA.out) rfl
      have x1 := cell_at (i := 1) (below_heap HN.out HA.out) rfl
      have x2 := cell_at (i := 2) (below_heap HN.out HA.out) rfl
      have x3 := cell_at (i := 3) (below_heap HN.out HA.out) rfl
      go_wp2_with fail
      (with_reducible refine (T1.out _ _ _ _ _ (HS1.out.below (below_then HA0.out HN.out)) (HT.out _ (below_then HB1.out (below_then HA0.out HN.out)))).mono ?_)
      rintro e w2 ⟨rfl, hb2⟩
      have HB2 := Aside.mk (below_then HN.out hb2)
      clear hb2 x0 x1 x2 x3
      cases b1
      · go_wp2
        go_roundw
        case rel => exact ⟨.inr (.inl ⟨rfl, by (simp [ct])⟩), HB2⟩
        case measure => simp [intOf]
      · go_wp2
        go_roundw
        case rel => exact ⟨.inr (.inl ⟨rfl, by (simp [ct])⟩), HB2⟩
        case measure => simp [intOf]
    · have hq : 0 ≤ ct b1 ∧ ct b1 ≤ 4 := by omega
      have x0 := cell_at (i := 4) (below_heap HN.out HA.out) rfl
      have x1 := cell_at (i := 5) (below_heap HN.out HA.out) rfl
      have x2 := cell_at (i := 6) (below_heap HN.out HA.out) rfl
      have x3 := cell_at (i := 7) (below_heap HN.out HA.out) rfl
      go_wp2_with fail
      (with_reducible refine (T2.out _ _ _ _ _ (HS1.out.below (below_then HA0.out HN.out)) (HT.out _ (below_then HB1.out (below_then HA0.out HN.out)))).mono ?_)
      rintro e w2 ⟨rfl, hb2⟩
      have HB2 := Aside.mk (below_then HN.out hb2)
      clear hb2 x0 x1 x2 x3
      cases b2
      · go_wp2
        go_roundw
        case rel => exact ⟨.inr (.inr (.inl ⟨rfl, by (simp [ct_false])⟩)), HB2⟩
        case measure => simp [intOf]
      · go_wp2
        go_roundw
        case rel => exact ⟨.inr (.inr (.inl ⟨rfl, by (simp [ct_true])⟩)), HB2⟩
        case measure => simp [intOf]
    · have hq : 0 ≤ ct b1 + ct b2 ∧ ct b1 + ct b2 ≤ 4 := by omega
      have x0 := cell_at (i := 8) (below_heap HN.out HA.out) rfl
      have x1 := cell_at (i := 9) (below_heap HN.out HA.out) rfl
      have x2 := cell_at (i := 10) (below_heap HN.out HA.out) rfl
      have x3 := cell_at (i := 11) (below_heap HN.out HA.out) rfl
      go_wp2_with fail
      (with_reducible refine (T3.out _ _ _ _ _ (HS1.out.below (below_then HA0.out HN.out)) (HT.out _ (below_then HB1.out (below_then HA0.out HN.out)))).mono ?_)
      rintro e w2 ⟨rfl, hb2⟩
      have HB2 := Aside.mk (below_then HN.out hb2)
      clear hb2 x0 x1 x2 x3
      cases b3
      · go_wp2
        go_roundw
        case rel => exact ⟨.inr (.inr (.inr (.inl ⟨rfl, by (simp [ct_false])⟩))), HB2⟩
        case measure => simp [intOf]
      · go_wp2
        go_roundw
        case rel => exact ⟨.inr (.inr (.inr (.inl ⟨rfl, by (simp [ct_true])⟩))), HB2⟩
        case measure => simp [intOf]
    · have hq : 0 ≤ ct b1 + ct b2 + ct b3 ∧ ct b1 + ct b2 + ct b3 ≤ 4 := by omega
      have x0 := cell_at (i := 12) (below_heap HN.out HA.out) rfl
      have x1 := cell_at (i := 13) (below_heap HN.out HA.out) rfl
      have x2 := cell_at (i := 14) (below_heap HN.out HA.out) rfl
      have x3 := cell_at (i := 15) (below_heap HN.out HA.out) rfl
      go_wp2_with fail
      (with_reducible refine (T4.out _ _ _ _ _ (HS1.out.below (below_then HA0.out HN.out)) (HT.out _ (below_then HB1.out (below_then HA0.out HN.out)))).mono ?_)
      rintro e w2 ⟨rfl, hb2⟩
      have HB2 := Aside.mk (below_then HN.out hb2)
      clear hb2 x0 x1 x2 x3
      cases b4
      · go_wp2
        go_roundw
        case rel => exact ⟨.inr (.inr (.inr (.inr (⟨rfl, by (rw [HM.out]; simp [ct_false])⟩)))), HB2⟩
        case measure => simp [intOf]
      · go_wp2
        go_roundw
        case rel => exact ⟨.inr (.inr (.inr (.inr (⟨rfl, by (rw [HM.out]; simp [ct_true])⟩)))), HB2⟩
        case measure => simp [intOf]
    · clear q1 q2 q3 q4
      rcases HCnt.out with ⟨hok, hm⟩ | ⟨hok, hm⟩
      · subst hm
        have hf : findK ks id = none := by
          cases h : findK ks id with
          | none => rfl
          | some k => have := E5.out; rw [h, hok] at this; cases this
        have FD := Aside.mk (fun (W : World) (lo hi : Nat) (h : Sch lo hi W (.pointer so) ks srt) => show Calls Tryd.prog 62 #[.pointer so, .int .i64 id] W fun e w' => e = .returned (.tuple #[.agg #[.int .i64 0, .bool false, .int .u8 0, .bool false, .bool false, .int .i64 0], .bool false]) ∧ Below W.heap.size W w' from by have h := find_any id W h HW.out; unfold FindPost at h; rw [hf] at h; exact h)
        clear hok hf
        have S2 := Aside.mk (HS1.out.below (below_then HA0.out HN.out))
        have B2 := Aside.mk (below_then HB1.out (below_then HA0.out HN.out))
        clear HN
        go_wp2_with fail
        (with_reducible refine (FD.out _ _ _ S2.out).mono ?_)
        rintro e w2 ⟨rfl, hb2⟩
        have b2 := below_alloc hb2 (.cells #[.int .i64 0, .bool false, .int .u8 0, .bool false, .bool false, .int .i64 0] 97)
        have S3 := Aside.mk (S2.out.below b2)
        have B3 := Aside.mk (below_then B2.out b2)
        clear hb2 b2
        go_wp2_with fail
        (with_reducible refine (T0.out _ _ _ _ _ S3.out (HT.out _ B3.out)).mono ?_)
        rintro e w3 ⟨rfl, hb3⟩
        have S4 := Aside.mk (S3.out.below hb3)
        have B4 := Aside.mk (below_then B3.out hb3)
        clear hb3
        go_wp2_with fail
        (with_reducible refine (TN.out _ _ _ _ _ S4.out (HT.out _ B4.out)).mono ?_)
        rintro e w4 ⟨rfl, hb4⟩
        have B5 := Aside.mk (below_then B4.out hb4)
        clear hb4
        go_wp2_with fail
        (with_reducible refine (HK.out _).mono ?_)
        rintro e w5 ⟨rfl, hb5⟩
        have B6 := Aside.mk (below_then B5.out hb5)
        clear hb5
        go_wp2
        go_ret
        exact ⟨rfl, B6.out⟩
      · subst hm
        obtain ⟨⟨xi, xb, xk, xa, xe, xg⟩, hf⟩ : ∃ k, findK ks id = some k := by
          cases h : findK ks id with
          | none => have := E5.out; rw [h, hok] at this; cases this
          | some k => exact ⟨k, rfl⟩
        obtain rfl : xi = id := (find_mem hf).2
        have FD := Aside.mk (fun (W : World) (lo hi : Nat) (h : Sch lo hi W (.pointer so) ks srt) => show Calls Tryd.prog 62 #[.pointer so, .int .i64 xi] W fun e w' => e = .returned (.tuple #[.agg #[.int .i64 xi, .bool xb, .int .u8 xk, .bool xa, .bool xe, .int .i64 xg], .bool true]) ∧ Below W.heap.size W w' from by have h := find_any xi W h HW.out; unfold FindPost at h; rw [hf] at h; exact h)
        clear hok hf
        have S2 := Aside.mk (HS1.out.below (below_then HA0.out HN.out))
        have B2 := Aside.mk (below_then HB1.out (below_then HA0.out HN.out))
        clear HN
        go_wp2_with fail
        (with_reducible refine (FD.out _ _ _ S2.out).mono ?_)
        rintro e w2 ⟨rfl, hb2⟩
        have b2 := below_alloc hb2 (.cells #[.int .i64 xi, .bool xb, .int .u8 xk, .bool xa, .bool xe, .int .i64 xg] 97)
        have S3 := Aside.mk (S2.out.below b2)
        have B3 := Aside.mk (below_then B2.out b2)
        clear hb2 b2
        go_wp2_with fail
        (with_reducible refine (T0.out _ _ _ _ _ S3.out (HT.out _ B3.out)).mono ?_)
        rintro e w3 ⟨rfl, hb3⟩
        have S4 := Aside.mk (S3.out.below hb3)
        have B4 := Aside.mk (below_then B3.out hb3)
        clear hb3
        go_wp2_with fail
        (with_reducible refine (TN.out _ _ _ _ _ S4.out (HT.out _ B4.out)).mono ?_)
        rintro e w4 ⟨rfl, hb4⟩
        have B5 := Aside.mk (below_then B4.out hb4)
        clear hb4
        go_wp2_with fail
        (with_reducible refine (HK.out _).mono ?_)
        rintro e w5 ⟨rfl, hb5⟩
        have B6 := Aside.mk (below_then B5.out hb5)
        clear hb5
        go_wp2
        go_ret
        exact ⟨rfl, B6.out⟩
theorem schemaFits_walk (A : Option Addr) (c : Nat) (ks : List Ky) (id : Int) (w : World) (hc : ks.length ≤ c) (hl : ks.length ≤ 9223372036854775807) (hA : A = none → c = 0) (hS : KSrc w A ks) (hwf : ∀ k ∈ ks, (Lit.int .i64 k.id).wf = true) (hw : (Lit.int .i64 id).wf = true) (hT : Lib.Utf8Tabs 1 2 w) :
    Calls Tryd.prog 13 #[.slice A ks.length c, .int .i64 id] w fun e w' => e = .returned (.bool true) ∧ Below w.heap.size w w' := by
  cases hok : okKs ks with
  | false => exact fits_no A c ks id w hc hS hA hl hwf hw hok
  | true => exact fits_yes A c ks id w hc hS hA hl hwf hw hok hT
end Go.Proofs.YtaejlgdmalhhnaaDoor
