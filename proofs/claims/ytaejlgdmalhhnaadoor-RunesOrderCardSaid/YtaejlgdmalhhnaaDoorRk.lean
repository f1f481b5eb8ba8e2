/- Layer 1: the walk of the statement RunesTexts. -/
import Derived.Test.YtaejlgdmalhhnaaDoorRj
namespace Go.Proofs.YtaejlgdmalhhnaaDoor
open Go.RowKit

theorem own_lit0 (W : World) (B : Nat) (e : TypeId) (k : IntKind) (hb : B ≤ W.heap.size) : (W.alloc (.cells #[] e)).ownsRow B e 1 (.slice (some ⟨W.heap.size, 0, none⟩) 0 0) 0 (nums k []) := by
  have h := World.ownsRow_lit (base := B) (e := e) (size := 1) W #[] 0 hb (by simp [maxLen]) (by simp)
  simpa [nums] using h
theorem Bs.own {w : World} {B : Nat} {e : TypeId} {v : Value} {l : List UInt8} {n : Nat} (h : w.ownsRow B e 1 v n (nums .u8 [] ++ nums .u8 (ints l))) : ∃ A c, v = .slice A l.length c ∧ l.length ≤ c ∧ Bs w A l := by
  have h2 := own_n h
  obtain ⟨A, c, e, hc, hn⟩ := OwnN.reads h2
  simp only [List.nil_append, ints_length] at e hc hn
  exact ⟨A, c, e, hc, hn⟩
theorem Nums.own {w : World} {B : Nat} {e : TypeId} {k : IntKind} {v : Value} {l : List Int} {n : Nat} (h : w.ownsRow B e 1 v n (nums k [] ++ nums k l)) : ∃ A c, v = .slice A l.length c ∧ l.length ≤ c ∧ Nums w k A l := by
  have h2 := own_n h
  obtain ⟨A, c, e, hc, hn⟩ := OwnN.reads h2
  simp only [List.nil_append] at e hc hn
  exact ⟨A, c, e, hc, hn⟩

set_option maxRecDepth 100000 in
set_option maxHeartbeats 4000000 in
theorem runesTexts_small (A B : Option Addr) (c d : Nat) (l : List Int) (b : List UInt8) (r : Int) (w : World) (hl : Nums w .i32 A l) (hb : Bs w B b) (_hc : l.length ≤ c) (hd : b.length ≤ d) (hT : Lib.Utf8Tabs 1 2 w)
    (h1 : l.length ≤ 3000) (h2 : b.length ≤ 3000) :
    Calls Tryd.prog 3 #[.slice A l.length c, .slice B b.length d, .int .i32 r] w fun e w' => e = .returned (.bool true) ∧ Below w.heap.size w w' := by
  have HL := Aside.mk hl
  have HB := Aside.mk hb
  have HT := Aside.mk hT
  have g1 : ¬ ((3000 : Int) < (l.length : Int)) := by omega
  have g2 : ¬ ((3000 : Int) < (b.length : Int)) := by omega
  clear hl hb hT
  go_enter Tryd.func3, Tryd.ntmps3
  go_wp2_with (at_builtin; go_must (refine app_src (w0 := w) w.heap.size rfl (.tmp 26) (.tmp 27) 22 21 (.int .i32 0) 1 4 rfl Tryd.underlying22 info21 rfl (by decide) _ 0 l.length c A (nums .i32 []) (nums .i32 l) rfl rfl (by rw [nums_length, Nat.mul_one]) (nums_one _ _) (own_lit0 w w.heap.size 21 .i32 (Nat.le_refl _)) (HL.out.below (below_alloc (below_refl w) _)).cells (below_alloc (below_refl w) _) (below_alloc (below_refl w) (Obj.cells #[] 21)).size (by omega) (by omega) ?_))
  intro v1 w1 hown1 hb1 hg1 _
  obtain ⟨A1, n1, hv1, hn1, hr1⟩ := Nums.own hown1
  rw [hv1]
  have HR1 := Aside.mk hr1
  have Hb1 := Aside.mk hb1
  clear hown1 hb1 hg1 hv1 hr1
  go_wp2_with (at_builtin; go_must (refine app_src (w0 := w1) w1.heap.size rfl (.tmp 29) (.tmp 30) 23 5 (.int .u8 0) 1 1 rfl Tryd.underlying23 info5 rfl (by decide) _ 0 b.length d B (nums .u8 []) (nums .u8 (ints b)) rfl rfl (by rw [nums_length, ints_length, Nat.mul_one]) (nums_one _ _) (own_lit0 w1 w1.heap.size 5 .u8 (Nat.le_refl _)) (HB.out.below (below_alloc Hb1.out _)).cells (below_alloc (below_refl w1) _) (below_alloc (below_refl w1) (Obj.cells #[] 5)).size (by omega) (by omega) ?_))
  intro v2 w2 hown2 hb2 hg2 _
  obtain ⟨A2, n2, hv2, hn2, hr2⟩ := Bs.own hown2
  rw [hv2]
  have HR2 := Aside.mk hr2
  have HR1b := Aside.mk (HR1.out.below hb2)
  have Hb2 := Aside.mk (below_then Hb1.out hb2)
  clear hown2 hb2 hg2 hv2 hr2
  have C1 := Aside.mk (bytes_s A1 n1 l w2 HR1b.out (by omega))
  go_wp2_with fail
  (with_reducible refine C1.out.mono ?_)
  rintro e w3 ⟨A3, n3, rfl, hn3, hr3, hb3⟩
  have Hb3 := Aside.mk (below_then Hb2.out hb3)
  have HR3 := Aside.mk hr3
  have HI3 := Aside.mk (HR1b.out.below hb3)
  have HX3 := Aside.mk (HR2.out.below hb3)
  clear hr3 hb3
  have C2 := Aside.mk (refBytes_s A c l w3 (HL.out.below Hb3.out) (by omega))
  go_wp2_with fail
  (with_reducible refine C2.out.mono ?_)
  rintro e w4 ⟨A4, n4, rfl, hn4, hr4, hb4⟩
  have Hb4 := Aside.mk (below_then Hb3.out hb4)
  have HR4 := Aside.mk hr4
  have HI4 := Aside.mk (HI3.out.below hb4)
  have HX4 := Aside.mk (HX3.out.below hb4)
  have HR3b := Aside.mk (HR3.out.below hb4)
  clear hr4 hb4
  have C3 := Aside.mk (read_s A2 n2 b w4 HX4.out hn2 (by omega) (tabs_below HT.out Hb4.out))
  go_wp2_with fail
  (with_reducible refine C3.out.mono ?_)
  rintro e w5 ⟨A5, n5, rfl, hn5, hr5, hb5⟩
  have Hb5 := Aside.mk (below_then Hb4.out hb5)
  have HR5 := Aside.mk hr5
  have HI5 := Aside.mk (HI4.out.below hb5)
  have HX5 := Aside.mk (HX4.out.below hb5)
  have HR3c := Aside.mk (HR3b.out.below hb5)
  have HR4c := Aside.mk (HR4.out.below hb5)
  clear hr5 hb5
  have C4 := Aside.mk (refRead_s B d b w5 (HB.out.below Hb5.out) hd (by omega))
  go_wp2_with fail
  (with_reducible refine C4.out.mono ?_)
  rintro e w6 ⟨A6, n6, rfl, hn6, hr6, hb6⟩
  have Hb6 := Aside.mk (below_then Hb5.out hb6)
  have HI6 := Aside.mk (HI5.out.below hb6)
  have HX6 := Aside.mk (HX5.out.below hb6)
  have hcx := conv_bs (HR3c.out.below hb6) n3
  have hcy := conv_bs (HR4c.out.below hb6) n4
  have hsame := same_any A5 A6 n5 n6 (readF b).1 (readF b).1 w6 (HR5.out.below hb6) hr6
  rw [decide_eq_true rfl] at hsame
  have HS := Aside.mk hsame
  have HM := Aside.mk (fun W => may_any r W)
  have HM2 := Aside.mk (fun W => refMay_any r W)
  clear hr6 hb6 hsame
  generalize (⟨(bytesU l).toArray⟩ : ByteArray) = S at hcx hcy
  generalize (bytesU l).length = nU at hcx hcy ⊢
  generalize bytesE l = eU
  generalize (readF b).2 = eR
  generalize (readF b).1.length = nR at HS ⊢
  generalize may r = mr at HM HM2
  have hmr : (mr == mr) = true := by simp
  go_wp2_with fail
  (with_reducible refine HS.out.mono ?_)
  rintro e w7 ⟨rfl, hb7⟩
  have Hb7 := Aside.mk (below_then Hb6.out hb7)
  have HI7 := Aside.mk (HI6.out.below hb7)
  have HX7 := Aside.mk (HX6.out.below hb7)
  clear hb7 hcx hcy
  have HN1 := Aside.mk (newlines_any A c l w7 (HL.out.below Hb7.out))
  have HN2 := Aside.mk (refNewlines_any A c l w7 (HL.out.below Hb7.out))
  generalize cnt l = cn at HN1 HN2
  have hs2 := same_any A1 A n1 c l l w7 HI7.out (HL.out.below Hb7.out)
  rw [decide_eq_true rfl] at hs2
  have HS2 := Aside.mk hs2
  clear hs2
  go_wp2_with (first | (go_at_call 26; go_must (refine (HM.out _).mono ?_; rintro e w' ⟨rfl, rfl⟩)) | (go_at_call 27; go_must (refine (HM2.out _).mono ?_; rintro e w' ⟨rfl, rfl⟩)) | (go_at_call 28; go_must (refine HN1.out.mono ?_; rintro e w' ⟨rfl, rfl⟩)) | (go_at_call 29; go_must (refine HN2.out.mono ?_; rintro e w' ⟨rfl, rfl⟩)))
  (with_reducible refine HS2.out.mono ?_)
  rintro e w8 ⟨rfl, hb8⟩
  have Hb8 := Aside.mk (below_then Hb7.out hb8)
  have hcx := conv_bs (HX7.out.below hb8) n2
  have hcy := conv_bs (HB.out.below Hb8.out) d
  clear hb8
  generalize (⟨b.toArray⟩ : ByteArray) = S2 at hcx hcy
  have HK := Aside.mk (known1_any w8 (tabs_below HT.out Hb8.out))
  go_wp2_with (go_at_call 20; go_must (refine HK.out.mono ?_; rintro e w' ⟨rfl, hb9⟩))
  go_ret
  exact ⟨rfl, below_then Hb8.out hb9⟩
end Go.Proofs.YtaejlgdmalhhnaaDoor
namespace Go.Proofs.YtaejlgdmalhhnaaDoor
open Go.RowKit
set_option maxRecDepth 100000 in
theorem runesTexts_walk (A : Option Addr) (c : Nat) (l : List Int) (B : Option Addr) (d : Nat) (b : List UInt8) (r : Int) (w : World) (hl : Nums w .i32 A l) (hc : l.length ≤ c) (_hw : ∀ x ∈ l, (Lit.int .i32 x).wf = true) (hb : Bs w B b) (hd : b.length ≤ d)
    (_hr : (Lit.int .i32 r).wf = true) (hT : Lib.Utf8Tabs 1 2 w) :
    Calls Tryd.prog 3 #[.slice A l.length c, .slice B b.length d, .int .i32 r] w fun e w' => e = .returned (.bool true) ∧ Below w.heap.size w w' := by
  by_cases h1 : l.length ≤ 3000
  · by_cases h2 : b.length ≤ 3000
    · exact runesTexts_small A B c d l b r w hl hb hc hd hT h1 h2
    · have g1 : ¬ ((3000 : Int) < (l.length : Int)) := by omega
      have g2 : (3000 : Int) < (b.length : Int) := by omega
      have HK := Aside.mk (known1_any w hT)
      clear hl hb hT
      go_enter Tryd.func3, Tryd.ntmps3
      go_wp2_with (go_at_call 20; go_must (refine HK.out.mono ?_; rintro e w' ⟨rfl, hb9⟩))
      go_ret
      exact ⟨rfl, hb9⟩
  · have g1 : (3000 : Int) < (l.length : Int) := by omega
    have HK := Aside.mk (known1_any w hT)
    clear hl hb hT
    go_enter Tryd.func3, Tryd.ntmps3
    go_wp2_with (go_at_call 20; go_must (refine HK.out.mono ?_; rintro e w' ⟨rfl, hb9⟩))
    go_ret
    exact ⟨rfl, hb9⟩
end Go.Proofs.YtaejlgdmalhhnaaDoor
