/- Layer 7: InternPlays: the law's walk (printed by gen_plays.py). -/
import Derived.Test.YtaejlgdmalhhnaaDoorPkK
set_option linter.unusedVariables false
set_option linter.unusedSimpArgs false
namespace Go.Proofs.YtaejlgdmalhhnaaDoor
open Go.RowKit Go.Maps Go.Shelf

set_option maxRecDepth 100000 in
set_option maxHeartbeats 4000000 in
theorem plays_known (A : Option Addr) (c : Nat) (ks : List Ky) (AL : Option Addr) (cL n : Nat) (w : World) (hc : ks.length ≤ c) (hl : ks.length ≤ 9223372036854775807) (hA : A = none → c = 0) (hS : KSrc w A ks) (hwf : ∀ k ∈ ks, (Lit.int .i64 k.id).wf = true) (hT : Lib.Utf8Tabs 1 2 w) (hL : n ≤ 9223372036854775807)
    (hk : okKs ks = false ∨ 100 < n) : Calls Tryd.prog 7 #[.slice A ks.length c, .slice AL n cL] w fun e w' => e = .returned (.bool true) ∧ Below w.heap.size w w' := by
  have HK := Aside.mk (fun W (h : Below w.heap.size w W) => known7_any W (tabs_below hT h))
  have N := Aside.mk (new_any A c ks w hc hS hA hl hwf)
  have HM := Aside.mk (fun W (h : Below w.heap.size w W) => dMay_any A c ks W hc hl (hS.below h))
  cases hok : okKs ks with
  | false =>
    rw [hok] at HM
    have HO := Aside.mk hok
    clear hc hl hA hS hwf hT hk hok hL
    go_enter Tryd.func7, Tryd.ntmps7
    go_wp2_with fail
    (with_reducible refine N.out.mono ?_)
    rintro e w1 ⟨hb1, h1⟩
    rw [HO.out] at h1
    obtain rfl : e = .returned (.tuple #[.pointer none, .int .i64 3]) := h1
    have HB1 := Aside.mk hb1
    clear hb1
    go_wp2_with fail
    (with_reducible refine (HM.out _ HB1.out).mono ?_)
    rintro e w2 ⟨rfl, hb2⟩
    have HB2 := Aside.mk (below_then HB1.out hb2)
    clear hb2
    go_wp2_with fail
    (with_reducible refine (HK.out _ HB2.out).mono ?_)
    rintro e w3 ⟨rfl, hb3⟩
    have HB := Aside.mk (below_then HB2.out hb3)
    clear hb3
    go_wp2
    go_ret
    exact ⟨rfl, HB.out⟩
  | true =>
    rw [hok] at HM
    have HO := Aside.mk hok
    by_cases hL100 : 100 < n
    · have g1 : (100 : Int) < (n : Int) := by omega
      clear hc hl hA hS hwf hT hk hok hL100 hL
      go_enter Tryd.func7, Tryd.ntmps7
      go_wp2_with fail
      (with_reducible refine N.out.mono ?_)
      rintro e w1 ⟨hb1, h1⟩
      rw [HO.out, if_pos rfl] at h1
      obtain ⟨v, srt, rfl, hS, hv, hp, hs⟩ := h1
      have hsp : ∃ so, v = .pointer so := by rcases hS with ⟨rfl, _⟩ | ⟨g, A, c, m, rfl, _⟩ <;> exact ⟨_, rfl⟩
      obtain ⟨so, rfl⟩ := hsp
      have HB1 := Aside.mk hb1
      clear hb1 hS hv hp hs
      go_wp2_with fail
      (with_reducible refine (HM.out _ HB1.out).mono ?_)
      rintro e w2 ⟨rfl, hb2⟩
      have HB2 := Aside.mk (below_then HB1.out hb2)
      clear hb2
      go_wp2_with fail
      (with_reducible refine (HK.out _ HB2.out).mono ?_)
      rintro e w3 ⟨rfl, hb3⟩
      have HB := Aside.mk (below_then HB2.out hb3)
      clear hb3
      go_wp2
      go_ret
      exact ⟨rfl, HB.out⟩
    · exact absurd hk (by rw [hok]; simp; omega)
set_option maxRecDepth 100000 in
set_option maxHeartbeats 8000000 in
theorem plays_in (A : Option Addr) (c : Nat) (ks : List Ky) (AL : Option Addr) (cL : Nat) (L : List Opc) (w : World) (hc : ks.length ≤ c) (hl : ks.length ≤ 9223372036854775807) (hA : A = none → c = 0) (hS : KSrc w A ks) (hwf : ∀ k ∈ ks, (Lit.int .i64 k.id).wf = true) (hT : Lib.Utf8Tabs 1 2 w) (hcL : L.length ≤ cL) (hLS : OSrc w AL L)
    (hLo : ∀ x ∈ L, x.s.ok w ∧ okSz x.s.l ∧ (Lit.int .i64 x.id).wf = true) (hok : okKs ks = true) (hL : L.length ≤ 100) : Calls Tryd.prog 7 #[.slice A ks.length c, .slice AL L.length cL] w fun e w' => e = .returned (.bool true) ∧ Below w.heap.size w w' := by
  have HT := Aside.mk hT
  have HK := Aside.mk (fun W (h : Below w.heap.size w W) => known7_any W (tabs_below hT h))
  have N := Aside.mk (new_any A c ks w hc hS hA hl hwf)
  have HO := Aside.mk hok
  have HLS := Aside.mk hLS
  have HLo := Aside.mk hLo
  have HKS := Aside.mk hS
  have HKc := Aside.mk hc
  have HKl := Aside.mk hl
  have g1 : (L.length : Int) ≤ 100 := by omega
  have g3 : (L.length : Int) ≤ (cL : Int) := by omega
  clear hc hl hA hS hwf hT hok hcL hLS hLo
  go_enter Tryd.func7, Tryd.ntmps7
  go_wp2_with fail
  (with_reducible refine N.out.mono ?_)
  rintro e w1 ⟨hb1, h1⟩
  rw [HO.out, if_pos rfl] at h1
  obtain ⟨v, srt, rfl, hS, hv, hp, hs⟩ := h1
  have hsp : ∃ so, v = .pointer so := by rcases hS with ⟨rfl, _⟩ | ⟨g, A, c, m, rfl, _⟩ <;> exact ⟨_, rfl⟩
  obtain ⟨so, rfl⟩ := hsp
  have R2 := Aside.mk (run_new (w := w) hb1 hS (Nat.le_refl _))
  clear hS hv hp hs hb1
  go_wp2_with fail
  (with_reducible refine (new7_any so w1).mono ?_)
  rintro e w2 ⟨rfl, rfl⟩
  have H0 := Aside.mk (Lp.new (kc := c) (KA := A) R2.out)
  unfold docObj at H0
  go_wp2_with fail
  generalize (newW w1 (.pointer so)).alloc (.cells #[.slice A ks.length c, .slice none 0 0, .slice none 0 0, .slice none 0 0, .int .i64 0] 47) = w3 at H0 ⊢
  generalize (newW w1 (.pointer so)).heap.size = db at H0 ⊢
  go_loopw [47] (fun i wr => ∃ k : Nat, k ≤ L.length ∧ i = .int .i64 k ∧ Aside (Lp w wr (w1.heap.size + 1) db so A w1.heap.size w.heap.size w1.heap.size c ks srt k)) (fun i _ => L.length - (intOf i).toNat)
  case atStart => exact ⟨0, Nat.zero_le _, rfl, H0⟩
  case round =>
    obtain ⟨k, hk, rfl, HN⟩ := hrel
    by_cases hlt : k < L.length
    · have hkz : (k : Int) < (L.length : Int) := by omega
      rcases hAA : AL with _ | ad
      · exact absurd (HLS.out.1 hAA) (fun e => by rw [e] at hlt; exact absurd hlt (by simp))
      subst hAA
      obtain ⟨⟨kd, id, s⟩, hx⟩ : ∃ x, L[k]? = some x := ⟨_, List.getElem?_eq_getElem hlt⟩
      have HXo := Aside.mk (HLo.out _ (List.mem_of_getElem? hx))
      obtain ⟨q0, q1, q2⟩ := HLS.out.2 ad rfl k _ hx
      have s0 := cell_below HN.out.below q0
      have s1 := cell_below HN.out.below q1
      have s2 := cell_below HN.out.below q2
      simp only [Sl.v] at s0 s1 s2 HXo
      have HKL : k ≤ 100 := by omega
      have gm : (s.l.length : Int) ≤ 9223372036854775807 := by have := HXo.out.1.2.1; omega
      obtain ⟨P, f, e0, cnt, O, ⟨D, O2, hp, hr⟩, hcn⟩ := HN.out
      have HXn := Aside.mk (show ¬ O wr.heap.size ∧ ¬ O2 wr.heap.size from ⟨fun h => by have := (hp.run.tab.lt _ h).2; omega, fun h => by have := (hp.doc.top.1 _ h).2; omega⟩)
      have HP := Aside.mk (hp.later (below_alloc (below_refl wr) (.cells #[.int .i64 kd, .int .i64 id, .slice s.A s.l.length s.c] 50)))
      have HR := Aside.mk hr
      have HLb := Aside.mk (HN.out.later (below_alloc (below_refl wr) (.cells #[.int .i64 kd, .int .i64 id, .slice s.A s.l.length s.c] 50)))
      have HBb := Aside.mk HP.out.run.below
      have HXb := Aside.mk (show (wr.alloc (.cells #[.int .i64 kd, .int .i64 id, .slice s.A s.l.length s.c] 50)).heap[wr.heap.size]? = some (.cells #[.int .i64 kd, .int .i64 id, .slice s.A s.l.length s.c] 50) from heap_alloc_new wr _)
      have HHas := Aside.mk (play_has id HP.out (TabM.bd HP.out.run.tab HR.out (by omega)).len HXo.out.2.2)
      rw [hr.has hp.run.tab.pinv.nn id (empty := e0)] at HHas
      have b1 := cell_at (i := 1) HXb.out rfl
      clear hx q0 q1 q2 hp hr hlt
      rcases askP_or P e0 id with h5 | h5
      · rw [h5, show ((0 : Int) == 0) = true from rfl] at HHas
        go_wp2_with fail
        generalize wr.alloc (.cells #[.int .i64 kd, .int .i64 id, .slice s.A s.l.length s.c] 50) = wb0 at HP HLb HBb HXb HHas b1 ⊢
        (with_reducible refine HHas.out.mono ?_)
        rintro e wb ⟨rfl, rfl⟩
        clear HHas b1 s0 s1 s2
        have b0 := cell_at (i := 0) HXb.out rfl
        by_cases k1 : kd = 1
        · subst k1
          have b2 := cell_at (i := 2) HXb.out rfl
          by_cases h70 : 70 < s.l.length
          · have q : (70 : Int) < (s.l.length : Int) := by omega
            have HLm := Aside.mk (HLb.out.mono (Nat.le_succ k))
            clear h70
            go_wp2
            go_roundw
            case rel => exact ⟨k + 1, by omega, by go_num, HLm⟩
            case measure => simp [intOf]; omega
          · have q : ¬ ((70 : Int) < (s.l.length : Int)) := by omega
            have gl : s.l.length ≤ 70 := by omega
            clear h70
            have b2' := cell_below (below_alloc (below_refl wb) (.cells #[] 58)) b2
            have HC := Aside.mk (((HXo.out.1.2.2.2.1).below (below_alloc HBb.out (.cells #[] 58))).cells)
            go_wp2_with (at_builtin; go_must (refine app_src (w0 := wb) wb.heap.size rfl (.tmp 64) (.tmp 66) 48 58 (.agg #[.int .i64 0, .int .u8 0, .int .i64 0, .int .u64 0, .string ⟨#[]⟩]) 5 48 rfl Tryd.underlying48 info58 rfl (by decide) _ 0 s.l.length s.c s.A (acells []) (acells s.l) rfl rfl (acells_length s.l) (acells_one s.l) (own_lit5 wb wb.heap.size (Nat.le_refl _)) HC.out (below_alloc (below_refl wb) _) (below_alloc (below_refl wb) _).size (by omega) (by omega) ?_))
            intro v1 w5 hown hbel hg hat
            rw [show acells [] = [] from rfl, List.nil_append] at hown
            clear hg hat b2 b2' HC
            obtain ⟨iA, ic, rfl, hic, hin, hiS⟩ := src_of_own hown
            have HOw := Aside.mk hown
            have HB5 := Aside.mk hbel
            have HIc := Aside.mk hic
            have HX5 := Aside.mk (below_heap hbel HXb.out)
            obtain ⟨P1, f1, e1, kid, er, D1, ha1, ha2, hr1⟩ := add_sync HR.out ks f e0 s.l
            have HR1 := Aside.mk hr1
            have HA2 := Aside.mk ha2
            have HA1 := Aside.mk (calls_add1 iA ic s.l (HP.out.later hbel) (by omega) HT.out hiS hic (by omega) hin (fun a ea ho => by subst ea; have h1 := own_base hown _ rfl; have := (HP.out.run.tab.lt _ ho).2; omega) HXo.out.1.2.2.2.2 ha1)
            clear hown hbel hic hin hiS ha1 ha2 hr1
            go_wp2_with fail
            (with_reducible refine HA1.out.mono ?_)
            rintro e w6 ⟨rfl, hp6, ht6⟩
            have HX6 := Aside.mk (box_kept ht6 HX5.out HXn.out.1)
            have HT6 := Aside.mk ht6
            have b2 := cell_at (i := 2) HX6.out rfl
            have HA2 := Aside.mk (calls_add2 s.A s.c s.l hp6 (HKS.out.below hp6.run.below) HKc.out HKl.out (TabM.bd HP.out.run.tab HR.out (by omega)) ⟨(HXo.out.1.2.2.2.1).below hp6.run.below, HXo.out.1.1, by omega, HXo.out.1.2.2.2.2, HXo.out.2.1⟩ (asrc_far HXo.out.1.2.2.2.1) (fr_len HP.out.run.tab.pinv HR.out) HA2.out)
            clear hp6 ht6
            go_wp2_with fail
            (with_reducible refine HA2.out.mono ?_)
            rintro e w7 ⟨rfl, hp7, ht7⟩
            have HX7 := Aside.mk (box_kept ht7 HX6.out HXn.out.2)
            have HTi := Aside.mk (show TInc wb.heap.size w7 w7 iA ic s.l.length from ⟨Turn.of_below (below_refl w7), s.l, rfl, own_add HP.out HOw.out HT6.out ht7⟩)
            have HLz := Aside.mk (fun (wz : World) (hT : TInc wb.heap.size w7 wz iA ic s.l.length) => lp_add HP.out HB5.out HOw.out hp7 HR1.out HT6.out.size (show cnt + 1 ≤ k + 1 by omega) hT)
            have HBl := Aside.mk (show ∀ a, iA = some a → a.block ≠ wr.heap.size from fun a ea => by subst ea; have h1 := own_base HOw.out _ rfl; have := (Array.getElem?_eq_some_iff.1 HXb.out).1; omega)
            have gic : (s.l.length : Int) ≤ (ic : Int) := by have := HIc.out; omega
            have gl2 : (s.l.length : Int) ≤ 70 := by omega
            clear hp7 ht7 b2
            go_wp2_with fail
            go_loopw [91] (fun i wz => ∃ q : Nat, q ≤ s.l.length ∧ i = .int .i64 q ∧ Aside (TInc wb.heap.size w7 wz iA ic s.l.length)) (fun i _ => s.l.length - (intOf i).toNat)
            case atStart => exact ⟨0, Nat.zero_le _, rfl, HTi⟩
            case round =>
              obtain ⟨q, hq, rfl, HN2⟩ := hrel
              by_cases hlt2 : q < s.l.length
              · have hqz : (q : Int) < (s.l.length : Int) := by omega
                obtain ⟨l', hln, hrow⟩ := HN2.out.row
                rcases hAA : iA with _ | aa
                · rw [hAA] at hrow; exact absurd (nil_own hrow) (by omega)
                subst hAA
                obtain ⟨y, hy⟩ : ∃ y, l'[q]? = some y := ⟨_, List.getElem?_eq_getElem (by omega)⟩
                have y0 := AInc.cell hln hrow hy
                have yz := row_fz0 hrow (q * 5)
                have HPt := Aside.mk (HN2.out.put hln hrow hy)
                clear hy hrow hln
                go_wp2
                go_roundw
                case rel => exact ⟨q + 1, by omega, by go_num, ⟨HPt.out _⟩⟩
                case measure => simp [intOf]; omega
              · have hqn : ¬ ((q : Int) < (s.l.length : Int)) := by omega
                clear hlt2
                have HLp := Aside.mk (HLz.out wr HN2.out)
                have HXw := Aside.mk (box_kept HN2.out.turn HX7.out (fun ⟨a, ea, hk⟩ => HBl.out a ea hk.symm))
                have b1 := cell_at (i := 1) HXw.out rfl
                have HLo := Aside.mk (HLp.out.looked id (by omega) HXo.out.2.2)
                have HNx := Aside.mk (fun (W' : World) (hb : Below wr.heap.size wr W') => HLp.out.later hb)
                go_wp2_with fail
                (with_reducible refine HLo.out.mono ?_)
                rintro e wl ⟨rfl, hbl⟩
                have HNn := Aside.mk (HNx.out wl hbl)
                clear hbl b1
                go_wp2
                go_roundw
                case rel => exact ⟨k + 1, by omega, by go_num, HNn⟩
                case measure => simp [intOf]; omega
        have n1 : (kd == 1) = false := by simpa using k1
        clear k1
        by_cases k2 : kd = 2
        · subst k2
          clear n1
          have b1 := cell_at (i := 1) HXb.out rfl
          have HF := Aside.mk (play_free1 id HP.out (by omega) HXo.out.2.2)
          rw [h5] at HF
          go_wp2_with fail
          (with_reducible refine HF.out.mono ?_)
          rintro e w5 ⟨rfl, hp5, ht5⟩
          have HX5 := Aside.mk (box_kept ht5 HXb.out HXn.out.1)
          have HF2 := Aside.mk (play_free2 id hp5 (TabM.bd HP.out.run.tab HR.out (by omega)) HR.out HP.out.run.tab.pinv h5)
          clear hp5 ht5 b1
          have b1 := cell_at (i := 1) HX5.out rfl
          go_wp2_with fail
          (with_reducible refine HF2.out.mono ?_)
          rintro e w6 ⟨rfl, hp6, ht6⟩
          have HXw := Aside.mk (box_kept ht6 HX5.out HXn.out.2)
          have HLp := Aside.mk (lp_free hp6 (show cnt + 1 ≤ k + 1 by omega))
          clear hp6 ht6 b1
          have b1 := cell_at (i := 1) HXw.out rfl
          have HLo := Aside.mk (HLp.out.looked id (by omega) HXo.out.2.2)
          have HNx := Aside.mk (fun (W' : World) (hb : Below w6.heap.size w6 W') => HLp.out.later hb)
          go_wp2_with fail
          (with_reducible refine HLo.out.mono ?_)
          rintro e wl ⟨rfl, hbl⟩
          have HNn := Aside.mk (HNx.out wl hbl)
          clear hbl b1
          go_wp2
          go_roundw
          case rel => exact ⟨k + 1, by omega, by go_num, HNn⟩
          case measure => simp [intOf]; omega
        have n2 : (kd == 2) = false := by simpa using k2
        clear k2
        by_cases k3 : kd = 3
        · subst k3
          clear n1 n2
          have b1 := cell_at (i := 1) HXb.out rfl
          have HF := Aside.mk (play_hold1 id HP.out (by omega) HXo.out.2.2)
          rw [h5] at HF
          go_wp2_with fail
          (with_reducible refine HF.out.mono ?_)
          rintro e w5 ⟨rfl, hp5, ht5⟩
          have HX5 := Aside.mk (box_kept ht5 HXb.out HXn.out.1)
          have HF2 := Aside.mk (play_hold2 id hp5 (TabM.bd HP.out.run.tab HR.out (by omega)) HR.out h5)
          clear hp5 ht5 b1
          have b1 := cell_at (i := 1) HX5.out rfl
          go_wp2_with fail
          (with_reducible refine HF2.out.mono ?_)
          rintro e w6 ⟨rfl, hp6, ht6⟩
          have HXw := Aside.mk (box_kept ht6 HX5.out HXn.out.2)
          have HLp := Aside.mk (lp_free hp6 (show cnt + 1 ≤ k + 1 by omega))
          clear hp6 ht6 b1
          have b1 := cell_at (i := 1) HXw.out rfl
          have HLo := Aside.mk (HLp.out.looked id (by omega) HXo.out.2.2)
          have HNx := Aside.mk (fun (W' : World) (hb : Below w6.heap.size w6 W') => HLp.out.later hb)
          go_wp2_with fail
          (with_reducible refine HLo.out.mono ?_)
          rintro e wl ⟨rfl, hbl⟩
          have HNn := Aside.mk (HNx.out wl hbl)
          clear hbl b1
          go_wp2
          go_roundw
          case rel => exact ⟨k + 1, by omega, by go_num, HNn⟩
          case measure => simp [intOf]; omega
        have n3 : (kd == 3) = false := by simpa using k3
        clear k3
        have HXw := HXb
        have HLp := Aside.mk (HLb.out.mono (Nat.le_succ k))
        have b1 := cell_at (i := 1) HXw.out rfl
        have HLo := Aside.mk (HLp.out.looked id (by omega) HXo.out.2.2)
        have HNx := Aside.mk (fun (W' : World) (hb : Below wb.heap.size wb W') => HLp.out.later hb)
        go_wp2_with fail
        (with_reducible refine HLo.out.mono ?_)
        rintro e wl ⟨rfl, hbl⟩
        have HNn := Aside.mk (HNx.out wl hbl)
        clear hbl b1
        go_wp2
        go_roundw
        case rel => exact ⟨k + 1, by omega, by go_num, HNn⟩
        case measure => simp [intOf]; omega
      · rw [h5, show ((0, 5) : Int × Int).2 = 5 from rfl, show ((5 : Int) == 0) = false from rfl] at HHas
        go_wp2_with fail
        generalize wr.alloc (.cells #[.int .i64 kd, .int .i64 id, .slice s.A s.l.length s.c] 50) = wb0 at HP HLb HBb HXb HHas b1 ⊢
        (with_reducible refine HHas.out.mono ?_)
        rintro e wb ⟨rfl, rfl⟩
        clear HHas b1 s0 s1 s2
        have b0 := cell_at (i := 0) HXb.out rfl
        by_cases k1 : kd = 1
        · subst k1
          have b2 := cell_at (i := 2) HXb.out rfl
          by_cases h70 : 70 < s.l.length
          · have q : (70 : Int) < (s.l.length : Int) := by omega
            have HLm := Aside.mk (HLb.out.mono (Nat.le_succ k))
            clear h70
            go_wp2
            go_roundw
            case rel => exact ⟨k + 1, by omega, by go_num, HLm⟩
            case measure => simp [intOf]; omega
          · have q : ¬ ((70 : Int) < (s.l.length : Int)) := by omega
            have gl : s.l.length ≤ 70 := by omega
            clear h70
            have b2' := cell_below (below_alloc (below_refl wb) (.cells #[] 58)) b2
            have HC := Aside.mk (((HXo.out.1.2.2.2.1).below (below_alloc HBb.out (.cells #[] 58))).cells)
            go_wp2_with (at_builtin; go_must (refine app_src (w0 := wb) wb.heap.size rfl (.tmp 64) (.tmp 66) 48 58 (.agg #[.int .i64 0, .int .u8 0, .int .i64 0, .int .u64 0, .string ⟨#[]⟩]) 5 48 rfl Tryd.underlying48 info58 rfl (by decide) _ 0 s.l.length s.c s.A (acells []) (acells s.l) rfl rfl (acells_length s.l) (acells_one s.l) (own_lit5 wb wb.heap.size (Nat.le_refl _)) HC.out (below_alloc (below_refl wb) _) (below_alloc (below_refl wb) _).size (by omega) (by omega) ?_))
            intro v1 w5 hown hbel hg hat
            rw [show acells [] = [] from rfl, List.nil_append] at hown
            clear hg hat b2 b2' HC
            obtain ⟨iA, ic, rfl, hic, hin, hiS⟩ := src_of_own hown
            have HOw := Aside.mk hown
            have HB5 := Aside.mk hbel
            have HIc := Aside.mk hic
            have HX5 := Aside.mk (below_heap hbel HXb.out)
            obtain ⟨P1, f1, e1, kid, er, D1, ha1, ha2, hr1⟩ := add_sync HR.out ks f e0 s.l
            have HR1 := Aside.mk hr1
            have HA2 := Aside.mk ha2
            have HA1 := Aside.mk (calls_add1 iA ic s.l (HP.out.later hbel) (by omega) HT.out hiS hic (by omega) hin (fun a ea ho => by subst ea; have h1 := own_base hown _ rfl; have := (HP.out.run.tab.lt _ ho).2; omega) HXo.out.1.2.2.2.2 ha1)
            clear hown hbel hic hin hiS ha1 ha2 hr1
            go_wp2_with fail
            (with_reducible refine HA1.out.mono ?_)
            rintro e w6 ⟨rfl, hp6, ht6⟩
            have HX6 := Aside.mk (box_kept ht6 HX5.out HXn.out.1)
            have HT6 := Aside.mk ht6
            have b2 := cell_at (i := 2) HX6.out rfl
            have HA2 := Aside.mk (calls_add2 s.A s.c s.l hp6 (HKS.out.below hp6.run.below) HKc.out HKl.out (TabM.bd HP.out.run.tab HR.out (by omega)) ⟨(HXo.out.1.2.2.2.1).below hp6.run.below, HXo.out.1.1, by omega, HXo.out.1.2.2.2.2, HXo.out.2.1⟩ (asrc_far HXo.out.1.2.2.2.1) (fr_len HP.out.run.tab.pinv HR.out) HA2.out)
            clear hp6 ht6
            go_wp2_with fail
            (with_reducible refine HA2.out.mono ?_)
            rintro e w7 ⟨rfl, hp7, ht7⟩
            have HX7 := Aside.mk (box_kept ht7 HX6.out HXn.out.2)
            have HTi := Aside.mk (show TInc wb.heap.size w7 w7 iA ic s.l.length from ⟨Turn.of_below (below_refl w7), s.l, rfl, own_add HP.out HOw.out HT6.out ht7⟩)
            have HLz := Aside.mk (fun (wz : World) (hT : TInc wb.heap.size w7 wz iA ic s.l.length) => lp_add HP.out HB5.out HOw.out hp7 HR1.out HT6.out.size (show cnt + 1 ≤ k + 1 by omega) hT)
            have HBl := Aside.mk (show ∀ a, iA = some a → a.block ≠ wr.heap.size from fun a ea => by subst ea; have h1 := own_base HOw.out _ rfl; have := (Array.getElem?_eq_some_iff.1 HXb.out).1; omega)
            have gic : (s.l.length : Int) ≤ (ic : Int) := by have := HIc.out; omega
            have gl2 : (s.l.length : Int) ≤ 70 := by omega
            clear hp7 ht7 b2
            go_wp2_with fail
            go_loopw [91] (fun i wz => ∃ q : Nat, q ≤ s.l.length ∧ i = .int .i64 q ∧ Aside (TInc wb.heap.size w7 wz iA ic s.l.length)) (fun i _ => s.l.length - (intOf i).toNat)
            case atStart => exact ⟨0, Nat.zero_le _, rfl, HTi⟩
            case round =>
              obtain ⟨q, hq, rfl, HN2⟩ := hrel
              by_cases hlt2 : q < s.l.length
              · have hqz : (q : Int) < (s.l.length : Int) := by omega
                obtain ⟨l', hln, hrow⟩ := HN2.out.row
                rcases hAA : iA with _ | aa
                · rw [hAA] at hrow; exact absurd (nil_own hrow) (by omega)
                subst hAA
                obtain ⟨y, hy⟩ : ∃ y, l'[q]? = some y := ⟨_, List.getElem?_eq_getElem (by omega)⟩
                have y0 := AInc.cell hln hrow hy
                have yz := row_fz0 hrow (q * 5)
                have HPt := Aside.mk (HN2.out.put hln hrow hy)
                clear hy hrow hln
                go_wp2
                go_roundw
                case rel => exact ⟨q + 1, by omega, by go_num, ⟨HPt.out _⟩⟩
                case measure => simp [intOf]; omega
              · have hqn : ¬ ((q : Int) < (s.l.length : Int)) := by omega
                clear hlt2
                have HLp := Aside.mk (HLz.out wr HN2.out)
                have HXw := Aside.mk (box_kept HN2.out.turn HX7.out (fun ⟨a, ea, hk⟩ => HBl.out a ea hk.symm))
                have b1 := cell_at (i := 1) HXw.out rfl
                have HLo := Aside.mk (HLp.out.looked id (by omega) HXo.out.2.2)
                have HNx := Aside.mk (fun (W' : World) (hb : Below wr.heap.size wr W') => HLp.out.later hb)
                go_wp2_with fail
                (with_reducible refine HLo.out.mono ?_)
                rintro e wl ⟨rfl, hbl⟩
                have HNn := Aside.mk (HNx.out wl hbl)
                clear hbl b1
                go_wp2
                go_roundw
                case rel => exact ⟨k + 1, by omega, by go_num, HNn⟩
                case measure => simp [intOf]; omega
        have n1 : (kd == 1) = false := by simpa using k1
        clear k1
        by_cases k2 : kd = 2
        · subst k2
          clear n1
          have b1 := cell_at (i := 1) HXb.out rfl
          have HF := Aside.mk (play_free1 id HP.out (by omega) HXo.out.2.2)
          rw [h5] at HF
          go_wp2_with fail
          (with_reducible refine HF.out.mono ?_)
          rintro e w5 ⟨rfl, hp5, ht5⟩
          have HX5 := Aside.mk (box_kept ht5 HXb.out HXn.out.1)
          rw [freeP_no (by rw [h5]; decide)] at hp5
          have HXw := HX5
          have HLp := Aside.mk (lp_free (show Stepped w w5 (w1.heap.size + 1) db so A w1.heap.size w.heap.size w1.heap.size c ks srt P f e0 (cnt + 1) _ from ⟨D, O2, hp5, HR.out⟩) (show cnt + 1 ≤ k + 1 by omega))
          clear hp5 ht5 b1
          have b1 := cell_at (i := 1) HXw.out rfl
          have HLo := Aside.mk (HLp.out.looked id (by omega) HXo.out.2.2)
          have HNx := Aside.mk (fun (W' : World) (hb : Below w5.heap.size w5 W') => HLp.out.later hb)
          go_wp2_with fail
          (with_reducible refine HLo.out.mono ?_)
          rintro e wl ⟨rfl, hbl⟩
          have HNn := Aside.mk (HNx.out wl hbl)
          clear hbl b1
          go_wp2
          go_roundw
          case rel => exact ⟨k + 1, by omega, by go_num, HNn⟩
          case measure => simp [intOf]; omega
        have n2 : (kd == 2) = false := by simpa using k2
        clear k2
        by_cases k3 : kd = 3
        · subst k3
          clear n1 n2
          have b1 := cell_at (i := 1) HXb.out rfl
          have HF := Aside.mk (play_hold1 id HP.out (by omega) HXo.out.2.2)
          rw [h5] at HF
          go_wp2_with fail
          (with_reducible refine HF.out.mono ?_)
          rintro e w5 ⟨rfl, hp5, ht5⟩
          have HX5 := Aside.mk (box_kept ht5 HXb.out HXn.out.1)
          rw [holdP_no (by rw [h5]; decide)] at hp5
          have HXw := HX5
          have HLp := Aside.mk (lp_free (show Stepped w w5 (w1.heap.size + 1) db so A w1.heap.size w.heap.size w1.heap.size c ks srt P f e0 (cnt + 1) _ from ⟨D, O2, hp5, HR.out⟩) (show cnt + 1 ≤ k + 1 by omega))
          clear hp5 ht5 b1
          have b1 := cell_at (i := 1) HXw.out rfl
          have HLo := Aside.mk (HLp.out.looked id (by omega) HXo.out.2.2)
          have HNx := Aside.mk (fun (W' : World) (hb : Below w5.heap.size w5 W') => HLp.out.later hb)
          go_wp2_with fail
          (with_reducible refine HLo.out.mono ?_)
          rintro e wl ⟨rfl, hbl⟩
          have HNn := Aside.mk (HNx.out wl hbl)
          clear hbl b1
          go_wp2
          go_roundw
          case rel => exact ⟨k + 1, by omega, by go_num, HNn⟩
          case measure => simp [intOf]; omega
        have n3 : (kd == 3) = false := by simpa using k3
        clear k3
        have HXw := HXb
        have HLp := Aside.mk (HLb.out.mono (Nat.le_succ k))
        have b1 := cell_at (i := 1) HXw.out rfl
        have HLo := Aside.mk (HLp.out.looked id (by omega) HXo.out.2.2)
        have HNx := Aside.mk (fun (W' : World) (hb : Below wb.heap.size wb W') => HLp.out.later hb)
        go_wp2_with fail
        (with_reducible refine HLo.out.mono ?_)
        rintro e wl ⟨rfl, hbl⟩
        have HNn := Aside.mk (HNx.out wl hbl)
        clear hbl b1
        go_wp2
        go_roundw
        case rel => exact ⟨k + 1, by omega, by go_num, HNn⟩
        case measure => simp [intOf]; omega
    · have hkn : ¬ ((k : Int) < (L.length : Int)) := by omega
      have HKn := Aside.mk (HK.out wr HN.out.below)
      have HBn := Aside.mk HN.out.below
      clear hlt
      go_wp2_with fail
      (with_reducible refine HKn.out.mono ?_)
      rintro e w9 ⟨rfl, hb⟩
      have HB := Aside.mk (below_then HBn.out hb)
      clear hb
      go_wp2
      go_ret
      exact ⟨rfl, HB.out⟩
end Go.Proofs.YtaejlgdmalhhnaaDoor
