/- Layer 7: InternStays' walk (printed by gen_stays.py). -/
import Derived.Test.YtaejlgdmalhhnaaDoorJc
set_option linter.unusedVariables false
set_option linter.unusedSimpArgs false
namespace Go.Proofs.YtaejlgdmalhhnaaDoor
open Go.RowKit Go.Maps

theorem TabM.len {B : Nat} {O : Nat → Prop} {w : World} {tb : Nat} {sv : Value} {mb : Nat} {P : Ps} {free : List Int} {empty : Int} {cnt : Nat} (h : TabM B O w tb sv mb P free empty cnt) : P.length ≤ cnt := by
  obtain ⟨pv, fv, E, rfl, h⟩ := h
  rw [List.length_map]; exact h.inv.len
theorem Holds.wf {B : Nat} {O : Nat → Prop} {w : World} {tb : Nat} {sv : Value} {mb : Nat} {P : Ps} {free : List Int} {empty : Int} {cnt : Nat} {id : Int} {l : List At} (h : Holds P empty id l) (ht : TabM B O w tb sv mb P free empty cnt) (hc : cnt ≤ 100000) : (Lit.int .i64 id).wf = true := by
  have := ht.len
  rcases h with ⟨_, rfl, _⟩ | ⟨_, i, h, rfl, hi, _⟩
  · decide
  · have := (List.getElem?_eq_some_iff.1 hi).1
    exact WalkArith.wf_i64 (by omega)
theorem stay_later {w W W' : World} {tb : Nat} {so : Option Addr} {mb lo hi : Nat} {ks srt : List Ky} {id : Int} {l : List At} {k : Nat} (h : Stay w W tb so mb lo hi ks srt id l k) (hb : Below W.heap.size W W') : Stay w W' tb so mb lo hi ks srt id l k := by
  obtain ⟨P, free, empty, cnt, O, hR, hH, hc⟩ := h
  exact ⟨P, free, empty, cnt, O, hR.later hb, hH, hc⟩
theorem stay_mono {w W : World} {tb : Nat} {so : Option Addr} {mb lo hi : Nat} {ks srt : List Ky} {id : Int} {l : List At} {k k' : Nat} (h : Stay w W tb so mb lo hi ks srt id l k) (hk : k ≤ k') : Stay w W tb so mb lo hi ks srt id l k' := by
  obtain ⟨P, free, empty, cnt, O, hR, hH, hc⟩ := h
  exact ⟨P, free, empty, cnt, O, hR, hH, by omega⟩
theorem add_err0 {ks : List Ky} {P P' : Ps} {free free' : List Int} {empty empty' id e : Int} {l : List At} (hI : PInv P free empty) (ha : addP ks P free empty l = (P', free', empty', id, e)) : e = mayA ks l := by
  rcases add_cases (ks := ks) hI l with ⟨hm, h1⟩ | ⟨hm, ⟨hx, h1⟩ | ⟨hx0, ⟨j, hd, hj, hd1, h1⟩ | ⟨hno, ⟨fr, j, p, hfr, hj, hp0, h1⟩ | ⟨_, h1⟩⟩⟩⟩
  all_goals
    rw [h1] at ha
    simp only [Prod.mk.injEq] at ha
    omega
set_option maxRecDepth 100000 in
set_option maxHeartbeats 4000000 in
theorem stays_known (A : Option Addr) (c : Nat) (ks : List Ky) (s0 : Sl) (AL : Option Addr) (cL : Nat) (L : List Sl) (w : World) (hc : ks.length ≤ c) (hl : ks.length ≤ 9223372036854775807) (hA : A = none → c = 0) (hS : KSrc w A ks) (hwf : ∀ k ∈ ks, (Lit.int .i64 k.id).wf = true) (hT : Lib.Utf8Tabs 1 2 w) (h0 : s0.l.length ≤ 9223372036854775807) (hL : L.length ≤ 9223372036854775807)
    (hk : okKs ks = false ∨ 60 < L.length ∨ 70 < s0.l.length) : Calls Tryd.prog 18 #[.slice A ks.length c, .slice s0.A s0.l.length s0.c, .slice AL L.length cL] w fun e w' => e = .returned (.bool true) ∧ Below w.heap.size w w' := by
  have HK := Aside.mk (fun W (h : Below w.heap.size w W) => known7_any W (tabs_below hT h))
  have N := Aside.mk (new_any A c ks w hc hS hA hl hwf)
  cases hok : okKs ks with
  | false =>
    have HO := Aside.mk hok
    clear hc hl hA hS hwf hT hk hok h0 hL
    go_enter Tryd.func18, Tryd.ntmps18
    go_wp2_with fail
    (with_reducible refine N.out.mono ?_)
    rintro e w1 ⟨hb1, h1⟩
    rw [HO.out] at h1
    obtain rfl : e = .returned (.tuple #[.pointer none, .int .i64 3]) := h1
    have HB1 := Aside.mk hb1
    clear hb1
    go_wp2_with fail
    (with_reducible refine (HK.out _ HB1.out).mono ?_)
    rintro e w2 ⟨rfl, hb2⟩
    have HB := Aside.mk (below_then HB1.out hb2)
    clear hb2
    go_wp2
    go_ret
    exact ⟨rfl, HB.out⟩
  | true =>
    have HO := Aside.mk hok
    by_cases hL60 : 60 < L.length
    · have g1 : (60 : Int) < (L.length : Int) := by omega
      clear hc hl hA hS hwf hT hk hok hL60 h0 hL
      go_enter Tryd.func18, Tryd.ntmps18
      go_wp2_with fail
      (with_reducible refine N.out.mono ?_)
      rintro e w1 ⟨hb1, h1⟩
      rw [HO.out, if_pos rfl] at h1
      obtain ⟨v, srt, rfl, hS, hv, hp, hs⟩ := h1
      have hsp : ∃ so, v = .pointer so := by rcases hS with ⟨rfl, _⟩ | ⟨g, A, c, m, rfl, _⟩ <;> exact ⟨_, rfl⟩
      obtain ⟨so, rfl⟩ := hsp
      have HB1 := Aside.mk hb1
      clear hb1 hS hv hp hs
      go_wp2_with fail
      (with_reducible refine (HK.out _ HB1.out).mono ?_)
      rintro e w2 ⟨rfl, hb2⟩
      have HB := Aside.mk (below_then HB1.out hb2)
      clear hb2
      go_wp2
      go_ret
      exact ⟨rfl, HB.out⟩
    · have g1 : (L.length : Int) ≤ 60 := by omega
      have g2 : (70 : Int) < (s0.l.length : Int) := hk.elim (fun h => absurd h (by rw [hok]; decide)) (fun h => h.elim (fun h => by omega) (fun h => by omega))
      clear hc hl hA hS hwf hT hk hok hL60 h0 hL
      go_enter Tryd.func18, Tryd.ntmps18
      go_wp2_with fail
      (with_reducible refine N.out.mono ?_)
      rintro e w1 ⟨hb1, h1⟩
      rw [HO.out, if_pos rfl] at h1
      obtain ⟨v, srt, rfl, hS, hv, hp, hs⟩ := h1
      have hsp : ∃ so, v = .pointer so := by rcases hS with ⟨rfl, _⟩ | ⟨g, A, c, m, rfl, _⟩ <;> exact ⟨_, rfl⟩
      obtain ⟨so, rfl⟩ := hsp
      have HB1 := Aside.mk hb1
      clear hb1 hS hv hp hs
      go_wp2_with fail
      (with_reducible refine (HK.out _ HB1.out).mono ?_)
      rintro e w2 ⟨rfl, hb2⟩
      have HB := Aside.mk (below_then HB1.out hb2)
      clear hb2
      go_wp2
      go_ret
      exact ⟨rfl, HB.out⟩
set_option maxRecDepth 100000 in
set_option maxHeartbeats 8000000 in
theorem stays_in (A : Option Addr) (c : Nat) (ks : List Ky) (s0 : Sl) (AL : Option Addr) (cL : Nat) (L : List Sl) (w : World) (hc : ks.length ≤ c) (hl : ks.length ≤ 9223372036854775807) (hA : A = none → c = 0) (hS : KSrc w A ks) (hwf : ∀ k ∈ ks, (Lit.int .i64 k.id).wf = true) (hT : Lib.Utf8Tabs 1 2 w) (h0 : s0.ok w) (hcL : L.length ≤ cL) (hLS : LSrc w AL L) (hLo : ∀ s ∈ L, s.ok w)
    (hok : okKs ks = true) (hL : L.length ≤ 60) (hs0 : s0.l.length ≤ 70) : Calls Tryd.prog 18 #[.slice A ks.length c, .slice s0.A s0.l.length s0.c, .slice AL L.length cL] w fun e w' => e = .returned (.bool true) ∧ Below w.heap.size w w' := by
  have HT := Aside.mk hT
  have HK := Aside.mk (fun W (h : Below w.heap.size w W) => known7_any W (tabs_below hT h))
  have N := Aside.mk (new_any A c ks w hc hS hA hl hwf)
  have HO := Aside.mk hok
  have H0 := Aside.mk h0
  have HLS := Aside.mk hLS
  have HLo := Aside.mk hLo
  have HL0 := Aside.mk hs0
  have g1 : (L.length : Int) ≤ 60 := by omega
  have g2 : (s0.l.length : Int) ≤ 70 := by omega
  have g3 : (L.length : Int) ≤ (cL : Int) := by omega
  clear hc hl hA hS hwf hT hok hcL hLS hLo h0 hs0
  go_enter Tryd.func18, Tryd.ntmps18
  go_wp2_with fail
  (with_reducible refine N.out.mono ?_)
  rintro e w1 ⟨hb1, h1⟩
  rw [HO.out, if_pos rfl] at h1
  obtain ⟨v, srt, rfl, hS, hv, hp, hs⟩ := h1
  have hsp : ∃ so, v = .pointer so := by rcases hS with ⟨rfl, _⟩ | ⟨g, A, c, m, rfl, _⟩ <;> exact ⟨_, rfl⟩
  obtain ⟨so, rfl⟩ := hsp
  have R2 := Aside.mk (run_new (w := w) hb1 hS (Nat.le_refl _))
  clear hS hv hp hs hb1
  go_wp2_with fail
  (with_reducible refine (new7_any so w1).mono ?_)
  rintro e w2 ⟨rfl, rfl⟩
  obtain ⟨P', free', empty', id, err, ha, hcall⟩ := add_in s0 R2.out (by decide) HT.out H0.out
  have HCa := Aside.mk hcall
  have HAe := Aside.mk ha
  clear hcall ha
  go_wp2_with fail
  (with_reducible refine HCa.out.mono ?_)
  rintro e w3 ⟨rfl, O3, hr, _⟩
  by_cases herr : err = 0
  rotate_left
  · have q0 : ((err : Int) != 0) = true := by simpa using herr
    have HB := Aside.mk hr.below
    clear hr herr
    go_wp2_with fail
    (with_reducible refine (HK.out _ HB.out).mono ?_)
    rintro e w4 ⟨rfl, hb4⟩
    have HB4 := Aside.mk (below_then HB.out hb4)
    clear hb4
    go_wp2
    go_ret
    exact ⟨rfl, HB4.out⟩
  subst herr
  have hm0 := Aside.mk (add_err0 R2.out.tab.pinv HAe.out).symm
  have HS3 := Aside.mk (show Stay w w3 (w1.heap.size + 1) so w1.heap.size w.heap.size w1.heap.size ks srt id s0.l 0 from ⟨_, _, _, _, _, hr, Holds.new R2.out.tab.pinv HAe.out, by omega⟩)
  clear hr HCa HAe R2
  go_wp2_with fail
  go_loopw [53] (fun i wr => ∃ k : Nat, k ≤ L.length ∧ i = .int .i64 k ∧ Aside (Stay w wr (w1.heap.size + 1) so w1.heap.size w.heap.size w1.heap.size ks srt id s0.l k)) (fun i _ => L.length - (intOf i).toNat)
  case atStart => exact ⟨0, Nat.zero_le _, rfl, HS3⟩
  case round =>
    obtain ⟨k, hk, rfl, HN⟩ := hrel
    have HKL := Aside.mk (show k ≤ 60 by omega)
    by_cases hlt : k < L.length
    · have hkz : (k : Int) < (L.length : Int) := by omega
      rcases hAA : AL with _ | ad
      · exact absurd (HLS.out.1 hAA) (fun e => by rw [e] at hlt; exact absurd hlt (by simp))
      subst hAA
      obtain ⟨s, hx⟩ : ∃ s, L[k]? = some s := ⟨_, List.getElem?_eq_getElem hlt⟩
      have HSo := Aside.mk (HLo.out s (List.mem_of_getElem? hx))
      have hcell0 := HLS.out.2 ad rfl k s hx
      obtain ⟨P, free, empty, cnt, O, hR, hH, hcn⟩ := HN.out
      have hcell : wr.cell? (ad.add k) = some (.slice s.A s.l.length s.c) := cell_below hR.below hcell0
      have hsl : (s.l.length : Int) ≤ 9223372036854775807 := by have := HSo.out.2.1; omega
      by_cases h70 : 70 < s.l.length
      · have q : (70 : Int) < (s.l.length : Int) := by omega
        clear hx hR hH hcell0
        go_wp2
        go_roundw
        case rel => exact ⟨k + 1, by omega, by go_num, ⟨stay_mono HN.out (by omega)⟩⟩
        case measure => simp [intOf]; omega
      · have q : (s.l.length : Int) ≤ 70 := by omega
        obtain ⟨P2, free2, empty2, kid, er2, ha, hcall⟩ := add_in s hR (by omega) HT.out HSo.out
        have HCa := Aside.mk hcall
        have HR := Aside.mk hR
        have HH := Aside.mk hH
        have HAe := Aside.mk ha
        have HCn := Aside.mk hcn
        clear hcall ha hx hR hH hcell0 hcn
        go_wp2_with fail
        (with_reducible refine HCa.out.mono ?_)
        rintro e w5 ⟨rfl, O2, hr, _⟩
        clear hcell
        by_cases her : er2 = 0
        rotate_left
        · have q1 : ((er2 : Int) == 0) = false := by simpa using her
          have HSt := Aside.mk (show Stay w w5 (w1.heap.size + 1) so w1.heap.size w.heap.size w1.heap.size ks srt id s0.l (k + 1) from ⟨_, _, _, _, _, hr, HH.out.add HR.out.tab.pinv HAe.out, by have := HCn.out; omega⟩)
          clear hr her
          obtain ⟨P3, free3, empty3, cnt3, O3, hR3, hH3, hc3⟩ := HSt.out
          obtain ⟨d, hd1, hask, hset⟩ := hH3.ask
          have hidw := Holds.wf hH3 hR3.tab (by have := HKL.out; omega)
          have HSet := Aside.mk (show Calls Tryd.prog 54 #[.pointer (some ⟨w1.heap.size + 1, 0, none⟩), .int .i64 id] w5 (SetPost w5 s0.l 0) from by
            have h := setM id hR3.tab (by have := HKL.out; omega) hidw
            rw [hset, hask] at h
            exact h)
          have HHe := Aside.mk (fun (W : World) (hb : Below w5.heap.size w5 W) => show Calls Tryd.prog 56 #[.pointer (some ⟨w1.heap.size + 1, 0, none⟩), .int .i64 id] W fun e w' => e = .returned (.int .i64 d) ∧ Below W.heap.size W w' from by
            have h := heldM id (hR3.tab.below hb) (by have := HKL.out; omega) hidw
            rw [hask] at h
            exact h)
          have HBw := Aside.mk hR3.below
          clear hR3 hH3 hc3 hask hset hidw
          go_wp2_with fail
          (with_reducible refine HSet.out.mono ?_)
          rintro e w6 ⟨hb6, h6⟩
          rw [if_pos rfl] at h6
          obtain ⟨u, rfl, ho6⟩ := h6
          obtain ⟨uA, uc, rfl, huc, _, huS⟩ := src_of_own ho6
          have HB6 := Aside.mk hb6
          have HSm := Aside.mk (sameA_any uA s0.A uc s0.c s0.l s0.l w6 huS (H0.out.2.2.2.1.below (below_then HBw.out hb6)) huc H0.out.1 (by have := HL0.out; omega) H0.out.2.1)
          rw [decide_eq_true rfl] at HSm
          clear hb6 ho6 huc huS
          go_wp2_with fail
          (with_reducible refine HSm.out.mono ?_)
          rintro e w7 ⟨rfl, hb7⟩
          have HB7 := Aside.mk (below_then HB6.out hb7)
          clear hb7
          go_wp2_with fail
          (with_reducible refine (HHe.out _ HB7.out).mono ?_)
          rintro e w8 ⟨rfl, hb8⟩
          have HZ := Aside.mk (stay_later HSt.out (below_then HB7.out hb8))
          clear hb8
          go_wp2
          go_roundw
          case rel => exact ⟨k + 1, by omega, by go_num, HZ⟩
          case measure => simp [intOf]; omega

        · subst her
          by_cases hev : (k : Int) % 2 = 0
          · have q2 : ((k : Int) % 2 == 0) = true := by simpa using hev
            obtain ⟨P4, free4, empty4, hfr, hH4⟩ := HH.out.add_free HR.out.tab.pinv HAe.out
            have hkw : (Lit.int .i64 kid).wf = true := Holds.wf (Holds.new HR.out.tab.pinv HAe.out) hr.tab (by have := HCn.out; have := HKL.out; omega)
            have HFr := Aside.mk (run_free kid hr (by have := HCn.out; have := HKL.out; omega) hkw hfr)
            have HH4 := Aside.mk hH4
            clear hr hfr hH4 hkw hev
            go_wp2_with fail
            (with_reducible refine HFr.out.mono ?_)
            rintro e w9 ⟨rfl, hr, _⟩
            have HSt := Aside.mk (show Stay w w9 (w1.heap.size + 1) so w1.heap.size w.heap.size w1.heap.size ks srt id s0.l (k + 1) from ⟨_, _, _, _, _, hr, HH4.out, by have := HCn.out; omega⟩)
            clear hr
            obtain ⟨P3, free3, empty3, cnt3, O3, hR3, hH3, hc3⟩ := HSt.out
            obtain ⟨d, hd1, hask, hset⟩ := hH3.ask
            have hidw := Holds.wf hH3 hR3.tab (by have := HKL.out; omega)
            have HSet := Aside.mk (show Calls Tryd.prog 54 #[.pointer (some ⟨w1.heap.size + 1, 0, none⟩), .int .i64 id] w9 (SetPost w9 s0.l 0) from by
              have h := setM id hR3.tab (by have := HKL.out; omega) hidw
              rw [hset, hask] at h
              exact h)
            have HHe := Aside.mk (fun (W : World) (hb : Below w9.heap.size w9 W) => show Calls Tryd.prog 56 #[.pointer (some ⟨w1.heap.size + 1, 0, none⟩), .int .i64 id] W fun e w' => e = .returned (.int .i64 d) ∧ Below W.heap.size W w' from by
              have h := heldM id (hR3.tab.below hb) (by have := HKL.out; omega) hidw
              rw [hask] at h
              exact h)
            have HBw := Aside.mk hR3.below
            clear hR3 hH3 hc3 hask hset hidw
            go_wp2_with fail
            (with_reducible refine HSet.out.mono ?_)
            rintro e w6 ⟨hb6, h6⟩
            rw [if_pos rfl] at h6
            obtain ⟨u, rfl, ho6⟩ := h6
            obtain ⟨uA, uc, rfl, huc, _, huS⟩ := src_of_own ho6
            have HB6 := Aside.mk hb6
            have HSm := Aside.mk (sameA_any uA s0.A uc s0.c s0.l s0.l w6 huS (H0.out.2.2.2.1.below (below_then HBw.out hb6)) huc H0.out.1 (by have := HL0.out; omega) H0.out.2.1)
            rw [decide_eq_true rfl] at HSm
            clear hb6 ho6 huc huS
            go_wp2_with fail
            (with_reducible refine HSm.out.mono ?_)
            rintro e w7 ⟨rfl, hb7⟩
            have HB7 := Aside.mk (below_then HB6.out hb7)
            clear hb7
            go_wp2_with fail
            (with_reducible refine (HHe.out _ HB7.out).mono ?_)
            rintro e w8 ⟨rfl, hb8⟩
            have HZ := Aside.mk (stay_later HSt.out (below_then HB7.out hb8))
            clear hb8
            go_wp2
            go_roundw
            case rel => exact ⟨k + 1, by omega, by go_num, HZ⟩
            case measure => simp [intOf]; omega

          · have q2 : ((k : Int) % 2 == 0) = false := by simpa using hev
            have HSt := Aside.mk (show Stay w w5 (w1.heap.size + 1) so w1.heap.size w.heap.size w1.heap.size ks srt id s0.l (k + 1) from ⟨_, _, _, _, _, hr, HH.out.add HR.out.tab.pinv HAe.out, by have := HCn.out; omega⟩)
            clear hr hev
            obtain ⟨P3, free3, empty3, cnt3, O3, hR3, hH3, hc3⟩ := HSt.out
            obtain ⟨d, hd1, hask, hset⟩ := hH3.ask
            have hidw := Holds.wf hH3 hR3.tab (by have := HKL.out; omega)
            have HSet := Aside.mk (show Calls Tryd.prog 54 #[.pointer (some ⟨w1.heap.size + 1, 0, none⟩), .int .i64 id] w5 (SetPost w5 s0.l 0) from by
              have h := setM id hR3.tab (by have := HKL.out; omega) hidw
              rw [hset, hask] at h
              exact h)
            have HHe := Aside.mk (fun (W : World) (hb : Below w5.heap.size w5 W) => show Calls Tryd.prog 56 #[.pointer (some ⟨w1.heap.size + 1, 0, none⟩), .int .i64 id] W fun e w' => e = .returned (.int .i64 d) ∧ Below W.heap.size W w' from by
              have h := heldM id (hR3.tab.below hb) (by have := HKL.out; omega) hidw
              rw [hask] at h
              exact h)
            have HBw := Aside.mk hR3.below
            clear hR3 hH3 hc3 hask hset hidw
            go_wp2_with fail
            (with_reducible refine HSet.out.mono ?_)
            rintro e w6 ⟨hb6, h6⟩
            rw [if_pos rfl] at h6
            obtain ⟨u, rfl, ho6⟩ := h6
            obtain ⟨uA, uc, rfl, huc, _, huS⟩ := src_of_own ho6
            have HB6 := Aside.mk hb6
            have HSm := Aside.mk (sameA_any uA s0.A uc s0.c s0.l s0.l w6 huS (H0.out.2.2.2.1.below (below_then HBw.out hb6)) huc H0.out.1 (by have := HL0.out; omega) H0.out.2.1)
            rw [decide_eq_true rfl] at HSm
            clear hb6 ho6 huc huS
            go_wp2_with fail
            (with_reducible refine HSm.out.mono ?_)
            rintro e w7 ⟨rfl, hb7⟩
            have HB7 := Aside.mk (below_then HB6.out hb7)
            clear hb7
            go_wp2_with fail
            (with_reducible refine (HHe.out _ HB7.out).mono ?_)
            rintro e w8 ⟨rfl, hb8⟩
            have HZ := Aside.mk (stay_later HSt.out (below_then HB7.out hb8))
            clear hb8
            go_wp2
            go_roundw
            case rel => exact ⟨k + 1, by omega, by go_num, HZ⟩
            case measure => simp [intOf]; omega

    · obtain rfl : k = L.length := by omega
      obtain ⟨P, free, empty, cnt, O, hR, hH, hcn⟩ := HN.out
      obtain ⟨P2, free2, empty2, kid, er2, ha, hcall⟩ := add_in s0 hR (by omega) HT.out H0.out
      have her := add_err0 hR.tab.pinv ha
      rw [hm0.out] at her
      subst her
      have hH2 := hH.add hR.tab.pinv ha
      have hH3 := Holds.new hR.tab.pinv ha
      have HCa := Aside.mk hcall
      have HH2 := Aside.mk hH2
      have HH3 := Aside.mk hH3
      clear hcall ha hR hH hcn hH2 hH3
      go_wp2_with fail
      (with_reducible refine HCa.out.mono ?_)
      rintro e w5 ⟨rfl, O2, hr, _⟩
      obtain rfl : kid = id := HH3.out.one hr.tab.pinv HH2.out
      have HB5 := Aside.mk hr.below
      clear hr
      go_wp2_with fail
      (with_reducible refine (HK.out _ HB5.out).mono ?_)
      rintro e w6 ⟨rfl, hb6⟩
      have HB6 := Aside.mk (below_then HB5.out hb6)
      clear hb6
      go_wp2
      go_ret
      exact ⟨rfl, HB6.out⟩
theorem internStays_walk (A : Option Addr) (c : Nat) (ks : List Ky) (A0 : Option Addr) (c0 : Nat) (l0 : List At) (AL : Option Addr) (cL : Nat) (L : List Sl) (w : World) (hc : ks.length ≤ c) (hl : ks.length ≤ 9223372036854775807) (hA : A = none → c = 0) (hS : KSrc w A ks) (hwf : ∀ k ∈ ks, (Lit.int .i64 k.id).wf = true) (h0 : (Sl.mk A0 c0 l0).ok w) (hcL : L.length ≤ cL) (hLl : L.length ≤ 9223372036854775807) (hLS : LSrc w AL L) (hLo : ∀ s ∈ L, s.ok w) (hT : Lib.Utf8Tabs 1 2 w) :
    Calls Tryd.prog 18 #[.slice A ks.length c, .slice A0 l0.length c0, .slice AL L.length cL] w fun e w' => e = .returned (.bool true) ∧ Below w.heap.size w w' := by
  by_cases hk : okKs ks = false ∨ 60 < L.length ∨ 70 < l0.length
  · exact stays_known A c ks ⟨A0, c0, l0⟩ AL cL L w hc hl hA hS hwf hT h0.2.1 hLl hk
  · have h1 : okKs ks = true := by
      cases h : okKs ks with
      | false => exact absurd (.inl h) hk
      | true => rfl
    exact stays_in A c ks ⟨A0, c0, l0⟩ AL cL L w hc hl hA hS hwf hT h0 hcL hLS hLo h1 (by have := fun h => hk (.inr (.inl h)); omega) (by have := fun h => hk (.inr (.inr h)); show l0.length ≤ 70; omega)
end Go.Proofs.YtaejlgdmalhhnaaDoor
