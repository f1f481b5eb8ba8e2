/- Layer 1: the walk of the statement RunesBack. -/
import Derived.Test.YtaejlgdmalhhnaaDoorRr
import Derived.Test.YtaejlgdmalhhnaaDoorRk
namespace Go.Proofs.YtaejlgdmalhhnaaDoor
open Go.RowKit

set_option maxRecDepth 100000 in
set_option maxHeartbeats 4000000 in
theorem runesBack_small (A B : Option Addr) (c d : Nat) (l : List Int) (b : List UInt8) (w : World) (hl : Nums w .i32 A l) (hb : Bs w B b) (hd : b.length ≤ d) (hT : Lib.Utf8Tabs 1 2 w)
    (h1 : l.length ≤ 3000) (h2 : b.length ≤ 3000) :
    Calls Tryd.prog 4 #[.slice A l.length c, .slice B b.length d] w fun e w' => e = .returned (.bool true) ∧ Below w.heap.size w w' := by
  have HL := Aside.mk hl
  have HB := Aside.mk hb
  have HT := Aside.mk hT
  have g1 : ¬ ((3000 : Int) < (l.length : Int)) := by omega
  have g2 : ¬ ((3000 : Int) < (b.length : Int)) := by omega
  clear hl hb hT
  have C1 := bytes_s A c l w HL.out (by omega)
  rcases bytesE_cases l with ⟨hm, he⟩ | ⟨hm, he⟩
  · have hbk := back_bytes hm
    have hlen : (bytesU l).length ≤ 4 * l.length := by rw [(bytesU_t hm).1, toU_length]; exact flatMap_enc_length l
    obtain ⟨x, hx⟩ : ∃ x, bytesU l = x := ⟨_, rfl⟩
    rw [he, hx] at C1
    rw [hx] at hbk hlen
    have C1 := Aside.mk C1
    have Hbk := Aside.mk hbk
    clear hbk hx he hm
    go_enter Tryd.func4, Tryd.ntmps4
    go_wp2_with fail
    (with_reducible refine C1.out.mono ?_)
    rintro e w1 ⟨A1, n1, rfl, hn1, hr1, hb1⟩
    have C2 := Aside.mk (show Calls Tryd.prog 23 #[.slice A1 x.length n1] w1 (ReadRes w1 l 0) by
      have h := read_s A1 n1 x w1 hr1 hn1 (by omega) (tabs_below HT.out hb1)
      rw [Hbk.out] at h
      exact h)
    have Hb1 := Aside.mk hb1
    clear hr1 hb1
    go_wp2_with fail
    (with_reducible refine C2.out.mono ?_)
    rintro e w2 ⟨A2, n2, rfl, hn2, hr2, hb2⟩
    have Hb2 := Aside.mk (below_then Hb1.out hb2)
    have hs := same_any A2 A n2 c l l w2 hr2 (HL.out.below Hb2.out)
    rw [decide_eq_true rfl] at hs
    have HS := Aside.mk hs
    clear hs hr2 hb2
    go_wp2_with fail
    (with_reducible refine HS.out.mono ?_)
    rintro e w3 ⟨rfl, hb3⟩
    have Hb3 := Aside.mk (below_then Hb2.out hb3)
    clear hb3
    rcases readF_cases b with ⟨hv, he⟩ | ⟨hv, he, hu⟩
    · obtain ⟨hb1, hb2⟩ := back_runes hv
      have hul := readF_len b
      obtain ⟨u, hu⟩ : ∃ u, (readF b).1 = u := ⟨_, rfl⟩
      rw [hu] at hb1 hb2 hul
      have C3 := Aside.mk (show Calls Tryd.prog 23 #[.slice B b.length d] w3 (ReadRes w3 u 0) by rw [← hu, ← he]; exact read_s B d b w3 (HB.out.below Hb3.out) hd (by omega) (tabs_below HT.out Hb3.out))
      have HE := Aside.mk (And.intro hb1 hb2)
      clear hb1 hb2 hu hv he
      go_wp2_with fail
      (with_reducible refine C3.out.mono ?_)
      rintro e w5 ⟨A5, n5, rfl, hn5, hr5, hb5⟩
      have Hb5 := Aside.mk (below_then Hb3.out hb5)
      have C4 := Aside.mk (show Calls Tryd.prog 21 #[.slice A5 u.length n5] w5 (BytesRes w5 b 0) by
        have h := bytes_s A5 n5 u w5 hr5 (by omega)
        rw [HE.out.1, HE.out.2] at h
        exact h)
      clear hr5 hb5
      go_wp2_with fail
      (with_reducible refine C4.out.mono ?_)
      rintro e w6 ⟨A6, n6, rfl, hn6, hr6, hb6⟩
      have Hb6 := Aside.mk (below_then Hb5.out hb6)
      have hcx := conv_bs hr6 n6
      have hcy := conv_bs (HB.out.below Hb6.out) d
      have HK := Aside.mk (known1_any w6 (tabs_below HT.out Hb6.out))
      clear hr6 hb6
      generalize (⟨b.toArray⟩ : ByteArray) = S2 at hcx hcy
      go_wp2_with (go_at_call 20; go_must (refine HK.out.mono ?_; rintro e w' ⟨rfl, hb9⟩))
      go_ret
      exact ⟨rfl, below_then Hb6.out hb9⟩
    · have C3 := Aside.mk (show Calls Tryd.prog 23 #[.slice B b.length d] w3 (ReadRes w3 [] 3) by rw [← hu, ← he]; exact read_s B d b w3 (HB.out.below Hb3.out) hd (by omega) (tabs_below HT.out Hb3.out))
      clear hu hv he
      go_wp2_with fail
      (with_reducible refine C3.out.mono ?_)
      rintro e w5 ⟨A5, n5, rfl, hn5, hr5, hb5⟩
      have Hb5 := Aside.mk (below_then Hb3.out hb5)
      have HK := Aside.mk (known1_any w5 (tabs_below HT.out Hb5.out))
      clear hr5 hb5
      go_wp2_with (go_at_call 20; go_must (refine HK.out.mono ?_; rintro e w' ⟨rfl, hb9⟩))
      go_ret
      exact ⟨rfl, below_then Hb5.out hb9⟩
  · rw [(bytesU_f hm).1, he] at C1
    have C1 := Aside.mk C1
    clear hm he
    go_enter Tryd.func4, Tryd.ntmps4
    go_wp2_with fail
    (with_reducible refine C1.out.mono ?_)
    rintro e w1 ⟨A1, n1, rfl, hn1, hr1, hb1⟩
    have Hb1 := Aside.mk hb1
    clear hr1 hb1
    rcases readF_cases b with ⟨hv, he⟩ | ⟨hv, he, hu⟩
    · obtain ⟨hb1, hb2⟩ := back_runes hv
      have hul := readF_len b
      obtain ⟨u, hu⟩ : ∃ u, (readF b).1 = u := ⟨_, rfl⟩
      rw [hu] at hb1 hb2 hul
      have C3 := Aside.mk (show Calls Tryd.prog 23 #[.slice B b.length d] w1 (ReadRes w1 u 0) by rw [← hu, ← he]; exact read_s B d b w1 (HB.out.below Hb1.out) hd (by omega) (tabs_below HT.out Hb1.out))
      have HE := Aside.mk (And.intro hb1 hb2)
      clear hb1 hb2 hu hv he
      go_wp2_with fail
      (with_reducible refine C3.out.mono ?_)
      rintro e w5 ⟨A5, n5, rfl, hn5, hr5, hb5⟩
      have Hb5 := Aside.mk (below_then Hb1.out hb5)
      have C4 := Aside.mk (show Calls Tryd.prog 21 #[.slice A5 u.length n5] w5 (BytesRes w5 b 0) by
        have h := bytes_s A5 n5 u w5 hr5 (by omega)
        rw [HE.out.1, HE.out.2] at h
        exact h)
      clear hr5 hb5
      go_wp2_with fail
      (with_reducible refine C4.out.mono ?_)
      rintro e w6 ⟨A6, n6, rfl, hn6, hr6, hb6⟩
      have Hb6 := Aside.mk (below_then Hb5.out hb6)
      have hcx := conv_bs hr6 n6
      have hcy := conv_bs (HB.out.below Hb6.out) d
      have HK := Aside.mk (known1_any w6 (tabs_below HT.out Hb6.out))
      clear hr6 hb6
      generalize (⟨b.toArray⟩ : ByteArray) = S2 at hcx hcy
      go_wp2_with (go_at_call 20; go_must (refine HK.out.mono ?_; rintro e w' ⟨rfl, hb9⟩))
      go_ret
      exact ⟨rfl, below_then Hb6.out hb9⟩
    · have C3 := Aside.mk (show Calls Tryd.prog 23 #[.slice B b.length d] w1 (ReadRes w1 [] 3) by rw [← hu, ← he]; exact read_s B d b w1 (HB.out.below Hb1.out) hd (by omega) (tabs_below HT.out Hb1.out))
      clear hu hv he
      go_wp2_with fail
      (with_reducible refine C3.out.mono ?_)
      rintro e w5 ⟨A5, n5, rfl, hn5, hr5, hb5⟩
      have Hb5 := Aside.mk (below_then Hb1.out hb5)
      have HK := Aside.mk (known1_any w5 (tabs_below HT.out Hb5.out))
      clear hr5 hb5
      go_wp2_with (go_at_call 20; go_must (refine HK.out.mono ?_; rintro e w' ⟨rfl, hb9⟩))
      go_ret
      exact ⟨rfl, below_then Hb5.out hb9⟩

set_option maxRecDepth 100000 in
theorem runesBack_walk (A : Option Addr) (c : Nat) (l : List Int) (B : Option Addr) (d : Nat) (b : List UInt8) (w : World) (hl : Nums w .i32 A l) (_hc : l.length ≤ c) (_hw : ∀ x ∈ l, (Lit.int .i32 x).wf = true) (hb : Bs w B b) (hd : b.length ≤ d)
    (hT : Lib.Utf8Tabs 1 2 w) :
    Calls Tryd.prog 4 #[.slice A l.length c, .slice B b.length d] w fun e w' => e = .returned (.bool true) ∧ Below w.heap.size w w' := by
  by_cases h1 : l.length ≤ 3000
  · by_cases h2 : b.length ≤ 3000
    · exact runesBack_small A B c d l b w hl hb hd hT h1 h2
    · have g1 : ¬ ((3000 : Int) < (l.length : Int)) := by omega
      have g2 : (3000 : Int) < (b.length : Int) := by omega
      have HK := Aside.mk (known1_any w hT)
      clear hl hb hT
      go_enter Tryd.func4, Tryd.ntmps4
      go_wp2_with (go_at_call 20; go_must (refine HK.out.mono ?_; rintro e w' ⟨rfl, hb9⟩))
      go_ret
      exact ⟨rfl, hb9⟩
  · have g1 : (3000 : Int) < (l.length : Int) := by omega
    have HK := Aside.mk (known1_any w hT)
    clear hl hb hT
    go_enter Tryd.func4, Tryd.ntmps4
    go_wp2_with (go_at_call 20; go_must (refine HK.out.mono ?_; rintro e w' ⟨rfl, hb9⟩))
    go_ret
    exact ⟨rfl, hb9⟩
end Go.Proofs.YtaejlgdmalhhnaaDoor
