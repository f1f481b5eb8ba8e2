/- Layer 1: the walk of the statement RunesOrder. -/
import Derived.Test.YtaejlgdmalhhnaaDoorRr
import Derived.Test.YtaejlgdmalhhnaaDoorRk
namespace Go.Proofs.YtaejlgdmalhhnaaDoor
open Go.RowKit

theorem toList_mk (l : List UInt8) : (⟨l.toArray⟩ : ByteArray).toList = l := by rw [ByteArray.toList_eq]
/-- How far the search for the first place that differs has come. -/
def AlikeTo (a b : List Int) (k : Nat) : Prop := ∀ j, j < k → a.getD j 0 = b.getD j 0
theorem AlikeTo.succ {a b : List Int} {k : Nat} (h : AlikeTo a b k) (e : a.getD k 0 = b.getD k 0) : AlikeTo a b (k + 1) := fun j hj => by
  rcases Nat.lt_or_ge j k with h' | h'
  · exact h j h'
  · obtain rfl : j = k := by omega
    exact e

set_option maxRecDepth 100000 in
set_option maxHeartbeats 4000000 in
theorem runesOrder_both (A B : Option Addr) (c d : Nat) (a b : List Int) (w : World) (ha : Nums w .i32 A a) (hb : Nums w .i32 B b) (hma : a.all may = true) (hmb : b.all may = true) (hT : Lib.Utf8Tabs 1 2 w)
    (h1 : a.length ≤ 1000) (h2 : b.length ≤ 1000) :
    Calls Tryd.prog 6 #[.slice A a.length c, .slice B b.length d] w fun e w' => e = .returned (.bool true) ∧ Below w.heap.size w w' := by
  have HA := Aside.mk ha
  have HB := Aside.mk hb
  have HT := Aside.mk hT
  have g1 : ¬ ((1000 : Int) < (a.length : Int)) := by omega
  have g2 : ¬ ((1000 : Int) < (b.length : Int)) := by omega
  have C1 := bytes_s A c a w ha (by omega)
  have hsz := sizes_U hma
  have hlr := less_runes hma hmb
  have heb := (bytesU_t hmb).2
  rw [(bytesU_t hma).2] at C1
  obtain ⟨x, hx⟩ : ∃ x, bytesU a = x := ⟨_, rfl⟩
  obtain ⟨y, hy⟩ : ∃ y, bytesU b = y := ⟨_, rfl⟩
  rw [hx] at C1 hsz hlr
  rw [hy] at hlr
  have C1 := Aside.mk C1
  have Hsz := Aside.mk hsz
  have Hlr := Aside.mk hlr
  have Hy := Aside.mk (And.intro hy heb)
  clear ha hb hT hsz hlr hx hy heb
  go_enter Tryd.func6, Tryd.ntmps6
  go_wp2_with fail
  (with_reducible refine C1.out.mono ?_)
  rintro e w1 ⟨A1, n1, rfl, hn1, hr1, hb1⟩
  have Hb1 := Aside.mk hb1
  have HR1 := Aside.mk hr1
  have C2 := Aside.mk (show Calls Tryd.prog 21 #[.slice B b.length d] w1 (BytesRes w1 y 0) by
    have h := bytes_s B d b w1 (HB.out.below hb1) (by omega)
    rw [Hy.out.1, Hy.out.2] at h
    exact h)
  clear hr1 hb1
  go_wp2_with fail
  (with_reducible refine C2.out.mono ?_)
  rintro e w2 ⟨A2, n2, rfl, hn2, hr2, hb2⟩
  have Hb2 := Aside.mk (below_then Hb1.out hb2)
  have HR1 := Aside.mk (HR1.out.below hb2)
  have HR2 := Aside.mk hr2
  clear hr2 hb2
  go_wp2
  go_loop [9, 41] (fun n i => ∃ k : Nat, k ≤ a.length ∧ i = .int .i64 k ∧ n = .int .i64 (sizes (a.take k))) (fun _ i => a.length - (intOf i).toNat)
  case atStart => exact ⟨0, Nat.zero_le _, rfl, rfl⟩
  case round =>
    obtain ⟨k, hk, rfl, rfl⟩ := hrel
    obtain ⟨q0, q1⟩ := sizes_bd (a.take k)
    rw [List.length_take] at q1
    by_cases hlt : k < a.length
    · obtain ⟨ad, rfl, hc⟩ := (HA.out.below Hb2.out).at_ hlt
      have hs := sizes_snoc (a.take k) (a.getD k 0)
      rw [← take_succ_getD a k hlt] at hs
      obtain ⟨z, hz⟩ : ∃ z, a.getD k 0 = z := ⟨_, rfl⟩
      rw [hz] at hc hs
      have Hs := Aside.mk hs
      clear hs hz
      by_cases t1 : 128 ≤ z
      · by_cases t2 : 2048 ≤ z
        · by_cases t3 : 65536 ≤ z
          · go_wp2
            go_round
            case rel => exact ⟨k + 1, by omega, by go_num, by rw [Hs.out]; unfold sizeOne; rw [if_pos t1, if_pos t2, if_pos t3]; go_num⟩
            case measure => simp [intOf]; omega
          · go_wp2
            go_round
            case rel => exact ⟨k + 1, by omega, by go_num, by rw [Hs.out]; unfold sizeOne; rw [if_pos t1, if_pos t2, if_neg t3]; go_num⟩
            case measure => simp [intOf]; omega
        · have t3 : ¬ 65536 ≤ z := by omega
          go_wp2
          go_round
          case rel => exact ⟨k + 1, by omega, by go_num, by rw [Hs.out]; unfold sizeOne; rw [if_pos t1, if_neg t2, if_neg t3]; go_num⟩
          case measure => simp [intOf]; omega
      · have t2 : ¬ 2048 ≤ z := by omega
        have t3 : ¬ 65536 ≤ z := by omega
        go_wp2
        go_round
        case rel => exact ⟨k + 1, by omega, by go_num, by rw [Hs.out]; unfold sizeOne; rw [if_neg t1, if_neg t2, if_neg t3]; go_num⟩
        case measure => simp [intOf]; omega
    · obtain rfl : k = a.length := by omega
      have hfin : sizes (a.take a.length) = sizes a := by rw [List.take_length]
      rw [hfin] at q0 q1 ⊢
      clear hfin
      obtain ⟨sz, hsz⟩ : ∃ sz, sizes a = sz := ⟨_, rfl⟩
      rw [hsz] at q0 q1 Hsz ⊢
      clear hsz
      go_wp2
      go_loopw [11] (fun i wr => ∃ k : Nat, k ≤ a.length ∧ k ≤ b.length ∧ i = .int .i64 k ∧ Aside (AlikeTo a b k) ∧ Aside (Below w2.heap.size w2 wr)) (fun i _ => a.length - (intOf i).toNat)
      case atStart => exact ⟨0, Nat.zero_le _, Nat.zero_le _, rfl, ⟨fun j hj => absurd hj (by omega)⟩, ⟨below_refl _⟩⟩
      case round =>
        obtain ⟨k, hka, hkb, rfl, HP, HBW⟩ := hrel
        by_cases ta : k < a.length
        · have taz : (k : Int) < (a.length : Int) := by omega
          by_cases tb : k < b.length
          · have tbz : (k : Int) < (b.length : Int) := by omega
            have tne : ((k : Int) == (a.length : Int)) = false := by rw [beq_eq_false_iff_ne]; omega
            obtain ⟨ad, rfl, hca⟩ := (HA.out.below (below_then Hb2.out HBW.out)).at_ ta
            obtain ⟨bd, rfl, hcb⟩ := (HB.out.below (below_then Hb2.out HBW.out)).at_ tb
            obtain ⟨p, hp⟩ : ∃ p, a.getD k 0 = p := ⟨_, rfl⟩
            obtain ⟨q, hq⟩ : ∃ q, b.getD k 0 = q := ⟨_, rfl⟩
            rw [hp] at hca
            rw [hq] at hcb
            have Hp := Aside.mk hp
            have Hq := Aside.mk hq
            clear hp hq
            by_cases hpq : p = q
            · have e1 : (p == q) = true := by simp [hpq]
              have He := Aside.mk hpq
              clear hpq
              go_wp2
              go_big_quiet (fail)
              go_wp2
              go_roundw
              case rel => exact ⟨k + 1, by omega, by omega, by go_num, ⟨HP.out.succ (by rw [Hp.out, Hq.out, He.out])⟩, ⟨below_drewN HBW.out _⟩⟩
              case measure => simp [intOf]; omega
            · have e1 : (p == q) = false := by simp [hpq]
              have HD := Aside.mk (show k < a.length → k < b.length → a.getD k 0 ≠ b.getD k 0 from fun _ _ => by rw [Hp.out, Hq.out]; exact hpq)
              clear hpq
              by_cases hlt2 : p < q
              · have hl2b : decide (p < q) = true := decide_eq_true hlt2
                have HL := Aside.mk (show Op.bytesLess x y = true by rw [Hlr.out, runeLess_at k a b hka hkb HP.out HD.out]; rw [Hp.out, Hq.out]; simp [tb, hlt2])
                go_wp2
                go_big_quiet (fail)
                have hbq := below_drewN HBW.out nq
                replace hca : (wr.drewN nq).cell? _ = _ := hca
                replace hcb : (wr.drewN nq).cell? _ = _ := hcb
                generalize wr.drewN nq = wq at hbq hca hcb ⊢
                have HBQ := Aside.mk hbq
                clear hbq
                go_wp2
                go_big_quiet (fail)
                have hbq2 := below_drewN HBQ.out nq
                generalize wq.drewN nq = wz at hbq2 ⊢
                have HBZ := Aside.mk (below_then Hb2.out hbq2)
                have hcx := conv_bs (HR1.out.below hbq2) n1
                have hcy := conv_bs (HR2.out.below hbq2) n2
                have hless : Op.bytesLess (⟨x.toArray⟩ : ByteArray).toList (⟨y.toArray⟩ : ByteArray).toList = true := by rw [toList_mk, toList_mk]; exact HL.out
                have hszb : ((x.length : Int) == sz) = true := by rw [beq_iff_eq]; exact Hsz.out
                have HK := Aside.mk (known1_any wz (tabs_below HT.out HBZ.out))
                clear hbq2
                generalize (⟨x.toArray⟩ : ByteArray) = S1 at hcx hless
                generalize (⟨y.toArray⟩ : ByteArray) = S2 at hcy hless
                go_wp2_with (go_at_call 20; go_must (refine HK.out.mono ?_; rintro e w' ⟨rfl, hb9⟩))
                go_ret
                exact ⟨rfl, below_then HBZ.out hb9⟩
              · have hl2b : decide (p < q) = false := decide_eq_false hlt2
                have HL := Aside.mk (show Op.bytesLess x y = false by rw [Hlr.out, runeLess_at k a b hka hkb HP.out HD.out]; rw [Hp.out, Hq.out]; simp [hlt2]; omega)
                go_wp2
                go_big_quiet (fail)
                have hbq := below_drewN HBW.out nq
                replace hca : (wr.drewN nq).cell? _ = _ := hca
                replace hcb : (wr.drewN nq).cell? _ = _ := hcb
                generalize wr.drewN nq = wq at hbq hca hcb ⊢
                have HBQ := Aside.mk hbq
                clear hbq
                go_wp2
                go_big_quiet (fail)
                have hbq2 := below_drewN HBQ.out nq
                generalize wq.drewN nq = wz at hbq2 ⊢
                have HBZ := Aside.mk (below_then Hb2.out hbq2)
                have hcx := conv_bs (HR1.out.below hbq2) n1
                have hcy := conv_bs (HR2.out.below hbq2) n2
                have hless : Op.bytesLess (⟨x.toArray⟩ : ByteArray).toList (⟨y.toArray⟩ : ByteArray).toList = false := by rw [toList_mk, toList_mk]; exact HL.out
                have hszb : ((x.length : Int) == sz) = true := by rw [beq_iff_eq]; exact Hsz.out
                have HK := Aside.mk (known1_any wz (tabs_below HT.out HBZ.out))
                clear hbq2
                generalize (⟨x.toArray⟩ : ByteArray) = S1 at hcx hless
                generalize (⟨y.toArray⟩ : ByteArray) = S2 at hcy hless
                go_wp2_with (go_at_call 20; go_must (refine HK.out.mono ?_; rintro e w' ⟨rfl, hb9⟩))
                go_ret
                exact ⟨rfl, below_then HBZ.out hb9⟩
          · have tbz : ¬ ((k : Int) < (b.length : Int)) := by omega
            have tbd : decide ((k : Int) < (b.length : Int)) = false := decide_eq_false tbz
            have HD := Aside.mk (show k < a.length → k < b.length → a.getD k 0 ≠ b.getD k 0 from fun _ h => absurd h tb)
            have HL := Aside.mk (show Op.bytesLess x y = false by rw [Hlr.out, runeLess_at k a b hka hkb HP.out HD.out]; simp [tb])
            go_wp2
            go_big_quiet (fail)
            have hbq := below_drewN HBW.out nq
            generalize wr.drewN nq = wq at hbq ⊢
            have HBQ := Aside.mk hbq
            clear hbq
            go_wp2
            go_big_quiet (fail)
            have hbq2 := below_drewN HBQ.out nq
            generalize wq.drewN nq = wz at hbq2 ⊢
            have HBZ := Aside.mk (below_then Hb2.out hbq2)
            have hcx := conv_bs (HR1.out.below hbq2) n1
            have hcy := conv_bs (HR2.out.below hbq2) n2
            have hless : Op.bytesLess (⟨x.toArray⟩ : ByteArray).toList (⟨y.toArray⟩ : ByteArray).toList = false := by rw [toList_mk, toList_mk]; exact HL.out
            have hszb : ((x.length : Int) == sz) = true := by rw [beq_iff_eq]; exact Hsz.out
            have HK := Aside.mk (known1_any wz (tabs_below HT.out HBZ.out))
            clear hbq2
            generalize (⟨x.toArray⟩ : ByteArray) = S1 at hcx hless
            generalize (⟨y.toArray⟩ : ByteArray) = S2 at hcy hless
            go_wp2_with (go_at_call 20; go_must (refine HK.out.mono ?_; rintro e w' ⟨rfl, hb9⟩))
            go_ret
            exact ⟨rfl, below_then HBZ.out hb9⟩
        · have taz : ¬ ((k : Int) < (a.length : Int)) := by omega
          have tad : decide ((k : Int) < (a.length : Int)) = false := decide_eq_false taz
          have hke : k = a.length := by omega
          have teq : ((k : Int) == (a.length : Int)) = true := by rw [beq_iff_eq]; omega
          have Hke := Aside.mk hke
          have HD := Aside.mk (show k < a.length → k < b.length → a.getD k 0 ≠ b.getD k 0 from fun h _ => absurd h ta)
          clear hke
          by_cases tb : k < b.length
          · have tbz : (k : Int) < (b.length : Int) := by omega
            have HL := Aside.mk (show Op.bytesLess x y = true by rw [Hlr.out, runeLess_at k a b hka hkb HP.out HD.out]; rw [decide_eq_true tb, decide_eq_true Hke.out]; rfl)
            go_wp2
            go_big_quiet (fail)
            have hbq := below_drewN HBW.out nq
            generalize wr.drewN nq = wq at hbq ⊢
            have HBQ := Aside.mk hbq
            clear hbq
            go_wp2
            go_big_quiet (fail)
            have hbq2 := below_drewN HBQ.out nq
            generalize wq.drewN nq = wz at hbq2 ⊢
            have HBZ := Aside.mk (below_then Hb2.out hbq2)
            have hcx := conv_bs (HR1.out.below hbq2) n1
            have hcy := conv_bs (HR2.out.below hbq2) n2
            have hless : Op.bytesLess (⟨x.toArray⟩ : ByteArray).toList (⟨y.toArray⟩ : ByteArray).toList = true := by rw [toList_mk, toList_mk]; exact HL.out
            have hszb : ((x.length : Int) == sz) = true := by rw [beq_iff_eq]; exact Hsz.out
            have HK := Aside.mk (known1_any wz (tabs_below HT.out HBZ.out))
            clear hbq2
            generalize (⟨x.toArray⟩ : ByteArray) = S1 at hcx hless
            generalize (⟨y.toArray⟩ : ByteArray) = S2 at hcy hless
            go_wp2_with (go_at_call 20; go_must (refine HK.out.mono ?_; rintro e w' ⟨rfl, hb9⟩))
            go_ret
            exact ⟨rfl, below_then HBZ.out hb9⟩
          · have tbz : ¬ ((k : Int) < (b.length : Int)) := by omega
            have tbd : decide ((k : Int) < (b.length : Int)) = false := decide_eq_false tbz
            have HL := Aside.mk (show Op.bytesLess x y = false by rw [Hlr.out, runeLess_at k a b hka hkb HP.out HD.out]; simp [tb])
            go_wp2
            go_big_quiet (fail)
            have hbq := below_drewN HBW.out nq
            generalize wr.drewN nq = wq at hbq ⊢
            have HBQ := Aside.mk hbq
            clear hbq
            go_wp2
            go_big_quiet (fail)
            have hbq2 := below_drewN HBQ.out nq
            generalize wq.drewN nq = wz at hbq2 ⊢
            have HBZ := Aside.mk (below_then Hb2.out hbq2)
            have hcx := conv_bs (HR1.out.below hbq2) n1
            have hcy := conv_bs (HR2.out.below hbq2) n2
            have hless : Op.bytesLess (⟨x.toArray⟩ : ByteArray).toList (⟨y.toArray⟩ : ByteArray).toList = false := by rw [toList_mk, toList_mk]; exact HL.out
            have hszb : ((x.length : Int) == sz) = true := by rw [beq_iff_eq]; exact Hsz.out
            have HK := Aside.mk (known1_any wz (tabs_below HT.out HBZ.out))
            clear hbq2
            generalize (⟨x.toArray⟩ : ByteArray) = S1 at hcx hless
            generalize (⟨y.toArray⟩ : ByteArray) = S2 at hcy hless
            go_wp2_with (go_at_call 20; go_must (refine HK.out.mono ?_; rintro e w' ⟨rfl, hb9⟩))
            go_ret
            exact ⟨rfl, below_then HBZ.out hb9⟩
end Go.Proofs.YtaejlgdmalhhnaaDoor
namespace Go.Proofs.YtaejlgdmalhhnaaDoor
open Go.RowKit
set_option maxRecDepth 100000 in
set_option maxHeartbeats 1000000 in
theorem runesOrder_none (A B : Option Addr) (c d : Nat) (a b : List Int) (w : World) (ha : Nums w .i32 A a) (hb : Nums w .i32 B b) (hno : ¬ (a.all may = true ∧ b.all may = true)) (hT : Lib.Utf8Tabs 1 2 w)
    (h1 : a.length ≤ 1000) (h2 : b.length ≤ 1000) :
    Calls Tryd.prog 6 #[.slice A a.length c, .slice B b.length d] w fun e w' => e = .returned (.bool true) ∧ Below w.heap.size w w' := by
  have HB := Aside.mk hb
  have HT := Aside.mk hT
  have g1 : ¬ ((1000 : Int) < (a.length : Int)) := by omega
  have g2 : ¬ ((1000 : Int) < (b.length : Int)) := by omega
  have C1 := bytes_s A c a w ha (by omega)
  rcases bytesE_cases a with ⟨hm, he⟩ | ⟨hm, he⟩
  · have hmb : b.all may = false := by
      rcases h : b.all may with _ | _
      · rfl
      · exact absurd ⟨hm, h⟩ hno
    have Hb := Aside.mk (bytesU_f hmb)
    rw [he] at C1
    have C1 := Aside.mk C1
    clear ha hb hT he hm hno hmb
    go_enter Tryd.func6, Tryd.ntmps6
    go_wp2_with fail
    (with_reducible refine C1.out.mono ?_)
    rintro e w1 ⟨A1, n1, rfl, hn1, hr1, hb1⟩
    have Hb1 := Aside.mk hb1
    have C2 := Aside.mk (show Calls Tryd.prog 21 #[.slice B b.length d] w1 (BytesRes w1 [] 3) by
      have h := bytes_s B d b w1 (HB.out.below hb1) (by omega)
      rw [Hb.out.1, Hb.out.2] at h
      exact h)
    clear hr1 hb1
    go_wp2_with fail
    (with_reducible refine C2.out.mono ?_)
    rintro e w2 ⟨A2, n2, rfl, hn2, hr2, hb2⟩
    have Hb2 := Aside.mk (below_then Hb1.out hb2)
    have HK := Aside.mk (known1_any w2 (tabs_below HT.out Hb2.out))
    clear hr2 hb2
    go_wp2_with (go_at_call 20; go_must (refine HK.out.mono ?_; rintro e w' ⟨rfl, hb9⟩))
    go_ret
    exact ⟨rfl, below_then Hb2.out hb9⟩
  · rw [he] at C1
    have C1 := Aside.mk C1
    clear ha hb hT he hm hno
    go_enter Tryd.func6, Tryd.ntmps6
    go_wp2_with fail
    (with_reducible refine C1.out.mono ?_)
    rintro e w1 ⟨A1, n1, rfl, hn1, hr1, hb1⟩
    have Hb1 := Aside.mk hb1
    have C2 := Aside.mk (bytes_s B d b w1 (HB.out.below hb1) (by omega))
    clear hr1 hb1
    go_wp2_with fail
    (with_reducible refine C2.out.mono ?_)
    rintro e w2 ⟨A2, n2, rfl, hn2, hr2, hb2⟩
    have Hb2 := Aside.mk (below_then Hb1.out hb2)
    have HK := Aside.mk (known1_any w2 (tabs_below HT.out Hb2.out))
    clear hr2 hb2
    go_wp2_with (go_at_call 20; go_must (refine HK.out.mono ?_; rintro e w' ⟨rfl, hb9⟩))
    go_ret
    exact ⟨rfl, below_then Hb2.out hb9⟩
set_option maxRecDepth 100000 in
theorem runesOrder_walk (A : Option Addr) (c : Nat) (a : List Int) (B : Option Addr) (d : Nat) (b : List Int) (w : World) (ha : Nums w .i32 A a) (_hc : a.length ≤ c) (_hw : ∀ x ∈ a, (Lit.int .i32 x).wf = true)
    (hb : Nums w .i32 B b) (_hd : b.length ≤ d) (_hwb : ∀ x ∈ b, (Lit.int .i32 x).wf = true) (hT : Lib.Utf8Tabs 1 2 w) :
    Calls Tryd.prog 6 #[.slice A a.length c, .slice B b.length d] w fun e w' => e = .returned (.bool true) ∧ Below w.heap.size w w' := by
  by_cases h1 : a.length ≤ 1000
  · by_cases h2 : b.length ≤ 1000
    · by_cases hm : a.all may = true ∧ b.all may = true
      · exact runesOrder_both A B c d a b w ha hb hm.1 hm.2 hT h1 h2
      · exact runesOrder_none A B c d a b w ha hb hm hT h1 h2
    · have g1 : ¬ ((1000 : Int) < (a.length : Int)) := by omega
      have g2 : (1000 : Int) < (b.length : Int) := by omega
      have HK := Aside.mk (known1_any w hT)
      clear ha hb hT
      go_enter Tryd.func6, Tryd.ntmps6
      go_wp2_with (go_at_call 20; go_must (refine HK.out.mono ?_; rintro e w' ⟨rfl, hb9⟩))
      go_ret
      exact ⟨rfl, hb9⟩
  · have g1 : (1000 : Int) < (a.length : Int) := by omega
    have HK := Aside.mk (known1_any w hT)
    clear ha hb hT
    go_enter Tryd.func6, Tryd.ntmps6
    go_wp2_with (go_at_call 20; go_must (refine HK.out.mono ?_; rintro e w' ⟨rfl, hb9⟩))
    go_ret
    exact ⟨rfl, hb9⟩
end Go.Proofs.YtaejlgdmalhhnaaDoor
