/- SchemaGroups' walk. -/
import Derived.Test.YtaejlgdmalhhnaaTa
set_option linter.unusedVariables false
set_option linter.unusedSimpArgs false
namespace Go.Proofs.Ytaejlgdmalhhnaa
open Go.RowKit Go.Maps

theorem src_of_ownK {w : World} {B : Nat} {v : Value} {l : List Ky} (h : w.ownsRow B 25 6 v l.length (kcells l)) : ∃ A c, v = .slice A l.length c ∧ l.length ≤ c ∧ (A = none → c = 0) ∧ KSrc w A l := by
  rcases h.2 with ⟨rfl, h0⟩ | ⟨g, c, cur, rfl, _, _, hc, _⟩
  · obtain rfl := List.eq_nil_of_length_eq_zero h0
    exact ⟨none, 0, rfl, Nat.le_refl _, fun _ => rfl, fun _ => rfl, fun ad e => (by cases e)⟩
  · exact ⟨_, c, rfl, hc, fun e => (by cases e), src_of_row (row_of_own h)⟩
theorem okPre_rev {ks : List Ky} : okPre ks.reverse ↔ okPre ks := by
  unfold okPre
  constructor
  · rintro ⟨h1, h2⟩
    exact ⟨fun k hk => h1 k (List.mem_reverse.2 hk), (List.pairwise_reverse.1 h2).imp (fun h e => h e.symm)⟩
  · rintro ⟨h1, h2⟩
    exact ⟨fun k hk => h1 k (List.mem_reverse.1 hk), List.pairwise_reverse.2 (h2.imp (fun h e => h e.symm))⟩
theorem okKs_rev (ks : List Ky) : okKs ks.reverse = okKs ks := by
  unfold okKs
  rw [List.length_reverse]
  congr 1
  exact decide_eq_decide.2 okPre_rev
theorem kcells_snoc (l : List Ky) (k : Ky) : kcells (l ++ [k]) = kcells l ++ k.cells := by simp [kcells, List.flatMap_append]
/-- The keys backwards, so far. -/
structure BackAt (w wr : World) (ks : List Ky) (v : Value) (k : Nat) : Prop where
  below : Below w.heap.size w wr
  own : wr.ownsRow w.heap.size 25 6 v k (kcells (ks.reverse.take k))
theorem BackAt.put {w wr : World} {ks : List Ky} {v : Value} {k : Nat} {x : Ky} (hb : Below w.heap.size w wr) (hx : ks.reverse[k]? = some x) (h : wr.ownsRow w.heap.size 25 6 v (k + 1) (kcells (ks.reverse.take k) ++ x.cells)) : BackAt w wr ks v (k + 1) := by
  refine ⟨hb, ?_⟩
  rw [List.take_add_one, hx, Option.toList_some, kcells_snoc]
  exact h
theorem ne_key_self (k : Ky) (w : World) : (binOp .neq 25 (.agg #[.int .i64 k.id, .bool k.bl, .int .u8 k.kd, .bool k.af, .bool k.be, .int .i64 k.gr]) (.agg #[.int .i64 k.id, .bool k.bl, .int .u8 k.kd, .bool k.af, .bool k.be, .int .i64 k.gr])).run Try.prog w = .ok (.bool false) w := by
  simp [binOp, Op.equal, Op.maxDepth, go_sem]
/-- What the law has while it looks at all groups. -/
structure GAt (w W : World) (lo hi : Nat) (so : Option Addr) (lA mA : Option Addr) (ks srt : List Ky) : Prop where
  below : Below w.heap.size w W
  sch : Sch lo hi W (.pointer so) ks srt
  l : KSrc W lA srt
  m : KSrc W mA srt
theorem GAt.later {w W W' : World} {lo hi : Nat} {so lA mA : Option Addr} {ks srt : List Ky} (h : GAt w W lo hi so lA mA ks srt) (hb : Below W.heap.size W W') : GAt w W' lo hi so lA mA ks srt :=
  ⟨below_then h.below hb, h.sch.below hb, h.l.below hb, h.m.below hb⟩
theorem groupK_len {ks l : List Ky} {id : Int} (h : l.length ≤ 64) : (groupK ks l id).length ≤ 100000 := by
  unfold groupK
  split
  · simp
  · split
    · simp
    · exact Nat.le_trans (groupOf_len _ _ _) (by omega)
set_option maxRecDepth 100000 in
set_option maxHeartbeats 40000000 in
theorem groups_in (A : Option Addr) (c : Nat) (ks : List Ky) (w : World) (hc : ks.length ≤ c) (hS : KSrc w A ks) (hA : A = none → c = 0) (hwf : ∀ k ∈ ks, (Lit.int .i64 k.id).wf = true) (h64 : ks.length ≤ 64) :
    Calls Try.prog 3 #[.slice A ks.length c] w fun e w' => e = .returned (.bool true) ∧ Below w.heap.size w w' := by
  have HS := Aside.mk hS
  have HK := Aside.mk known4_any
  have HW := Aside.mk hwf
  have HA := Aside.mk hA
  have g1 : (ks.length : Int) ≤ 64 := by omega
  have g2 : (ks.length : Int) ≤ (c : Int) := by omega
  have HC := Aside.mk hc
  clear hS hwf hA hc
  go_enter Try.func3, Try.ntmps3
  go_wp2_with fail
  go_loopw [3, 19] (fun v i wr => ∃ k : Nat, k ≤ ks.length ∧ i = .int .i64 k ∧ Aside (BackAt w wr ks v k)) (fun _ i _ => ks.length - (intOf i).toNat)
  case atStart => exact ⟨0, Nat.zero_le _, rfl, ⟨below_refl _, ⟨rfl, .inl ⟨rfl, rfl⟩⟩⟩⟩
  case round =>
    obtain ⟨k, hk, rfl, HN⟩ := hrel
    by_cases hlt : k < ks.length
    · have hkz : (k : Int) < (ks.length : Int) := by omega
      obtain ⟨j, hj⟩ : ∃ j : Nat, ks.length = k + 1 + j := ⟨ks.length - 1 - k, by omega⟩
      obtain ⟨⟨xi, xb, xk, xa, xe, xg⟩, hx⟩ : ∃ x, ks[j]? = some x := ⟨_, List.getElem?_eq_getElem (by omega)⟩
      have HX := Aside.mk (show ks.reverse[k]? = some ⟨xi, xb, xk, xa, xe, xg⟩ by rw [List.getElem?_reverse hlt, ← hx]; congr 1; omega)
      rcases hAA : A with _ | ad
      · have h0 := HS.out.1 hAA; subst h0; exact absurd hlt (by simp)
      subst hAA
      obtain ⟨s0, s1, s2, s3, s4, s5⟩ := (HS.out.below HN.out.below).six hx
      have hjz : (ks.length : Int) - 1 - (k : Int) = (j : Int) := by omega
      have hjr : 0 ≤ (ks.length : Int) - 1 - (k : Int) ∧ (ks.length : Int) - 1 - (k : Int) < (ks.length : Int) := by omega
      have hjl : (j : Int) < (ks.length : Int) := by omega
      have HL := Aside.mk (show k ≤ 63 by omega)
      clear hx hj
      simp only at s0 s1 s2 s3 s4 s5
      go_wp2_with (at_builtin; go_must (refine app_lit (w0 := w) w.heap.size rfl (.tmp 22) (.tmp 31) 22 25 (Ky.v ⟨0, false, 0, false, false, 0⟩) 6 24 _ rfl Try.underlying22 info97 rfl (by decide) u3 k 1 (kcells (ks.reverse.take k)) (Ky.cells ⟨xi, xb, xk, xa, xe, xg⟩) rfl rfl rfl rfl (by intro u hu; simp only [Ky.cells, List.mem_cons, List.mem_nil_iff, or_false] at hu; rcases hu with rfl | rfl | rfl | rfl | rfl | rfl <;> rfl) HN.out.own HN.out.below HN.out.below.size (by have := HL.out; omega) (by have := HL.out; omega) ?_))
      intro v1 w6 o1 hb6 gr1 at1
      have HZ := Aside.mk (BackAt.put hb6 HX.out o1)
      clear o1 hb6 gr1 at1 s0 s1 s2 s3 s4 s5
      go_wp2
      go_roundw
      case rel => exact ⟨k + 1, by omega, by go_num, HZ⟩
      case measure => simp [intOf]; omega
    · obtain rfl : k = ks.length := by omega
      have hO : wr.ownsRow w.heap.size 25 6 u3 ks.reverse.length (kcells ks.reverse) := by
        have h := HN.out.own
        rw [List.take_of_length_le (by rw [List.length_reverse]; exact Nat.le_refl _)] at h
        rw [List.length_reverse]
        exact h
      obtain ⟨B1, d1, rfl, hd1, hB1, hS1⟩ := src_of_ownK hO
      rw [List.length_reverse] at hd1
      have N1 := Aside.mk (new_any A c ks wr HC.out (HS.out.below HN.out.below) HA.out (by omega) HW.out)
      have N2 := Aside.mk (fun (W : World) (hb : Below wr.heap.size wr W) => show Calls Try.prog 5 #[.slice B1 ks.length d1] W (NewPost W ks.reverse) from by
        have h := new_any B1 d1 ks.reverse W (by rw [List.length_reverse]; exact hd1) (hS1.below hb) hB1 (by rw [List.length_reverse]; omega) (fun k hk => HW.out k (List.mem_reverse.1 hk))
        rw [List.length_reverse] at h
        exact h)
      have HB := Aside.mk HN.out.below
      rw [List.length_reverse]
      clear hO hd1 hB1 hS1 HN hk
      go_wp2_with fail
      (with_reducible refine N1.out.mono ?_)
      rintro e w1 ⟨hb1, h1⟩
      have HB1 := Aside.mk hb1
      clear hb1
      cases hok : okKs ks with
      | false =>
        rw [hok] at h1
        obtain rfl : e = .returned (.tuple #[.pointer none, .int .i64 3]) := h1
        have HO := Aside.mk hok
        clear hok
        go_wp2_with fail
        (with_reducible refine (N2.out _ HB1.out).mono ?_)
        rintro e w2 ⟨hb2, h2⟩
        rw [okKs_rev, HO.out] at h2
        obtain rfl : e = .returned (.tuple #[.pointer none, .int .i64 3]) := h2
        have HB2 := Aside.mk hb2
        clear hb2
        go_wp2_with fail
        (with_reducible refine (HK.out _).mono ?_)
        rintro e w3 ⟨rfl, hb3⟩
        have HB3 := Aside.mk (below_then HB.out (below_then HB1.out (below_then HB2.out hb3)))
        clear hb3
        go_wp2
        go_ret
        exact ⟨rfl, HB3.out⟩
      | true =>
        rw [hok, if_pos rfl] at h1
        obtain ⟨v, srt, rfl, hSc, hv, hp, hs⟩ := h1
        have hsp : ∃ so, v = .pointer so := by rcases hSc with ⟨rfl, _⟩ | ⟨g, A, c, m, rfl, _⟩ <;> exact ⟨_, rfl⟩
        obtain ⟨so, rfl⟩ := hsp
        have HO := Aside.mk hok
        have HSc := Aside.mk hSc
        have HP := Aside.mk hp
        have HSo := Aside.mk hs
        clear hok hSc hv hp hs
        go_wp2_with fail
        (with_reducible refine (N2.out _ HB1.out).mono ?_)
        rintro e w2 ⟨hb2, h2⟩
        rw [okKs_rev, HO.out, if_pos rfl] at h2
        obtain ⟨v, srt2, rfl, hSc2, hv, hp, hs⟩ := h2
        have hsp : ∃ so, v = .pointer so := by rcases hSc2 with ⟨rfl, _⟩ | ⟨g, A, c, m, rfl, _⟩ <;> exact ⟨_, rfl⟩
        obtain ⟨so2, rfl⟩ := hsp
        have hpw : ks.Pairwise (fun a b => a.id ≠ b.id) := by
          have h := HO.out
          unfold okKs at h
          rw [Bool.and_eq_true, decide_eq_true_iff, decide_eq_true_iff] at h
          exact h.2.2
        have HPw := Aside.mk hpw
        have HR := Aside.mk (rises_of HP.out HSo.out hpw)
        obtain rfl : srt2 = srt := rises_unique ((hp.trans (List.reverse_perm ks)).trans HP.out.symm) (rises_of (hp.trans (List.reverse_perm ks)) hs hpw) HR.out
        have HSc2 := Aside.mk hSc2
        have HB2 := Aside.mk hb2
        have hln := HP.out.length_eq
        have K1 := Aside.mk (keys_any w2 (HSc.out.below hb2) (by omega))
        have K2 := Aside.mk (fun (W : World) (hb : Below w2.heap.size w2 W) => keys_any W (HSc2.out.below hb) (by omega))
        clear hb2 hSc2 hv hp hs hpw
        go_wp2_with fail
        (with_reducible refine K1.out.mono ?_)
        rintro e w3 ⟨lv, rfl, hl3, hb3⟩
        have HB3 := Aside.mk hb3
        have HL3 := Aside.mk hl3
        clear hb3 hl3
        go_wp2_with fail
        (with_reducible refine (K2.out _ HB3.out).mono ?_)
        rintro e w4 ⟨mv, rfl, hm4, hb4⟩
        obtain ⟨lA, lc, rfl, hlc, _, hlS⟩ := src_of_ownK HL3.out
        obtain ⟨mA, mc, rfl, hmc, _, hmS⟩ := src_of_ownK hm4
        obtain ⟨lo, hi, HG⟩ : ∃ lo hi, Aside (GAt w w4 lo hi so lA mA ks srt2) := ⟨wr.heap.size, w1.heap.size, ⟨⟨below_then HB.out (below_then HB1.out (below_then HB2.out (below_then HB3.out hb4))), HSc.out.below (below_then HB2.out (below_then HB3.out hb4)), hlS.below hb4, hmS⟩⟩⟩
        have HLm := Aside.mk (show lA = none → mA = none → srt2 = [] from fun h _ => hlS.1 h)
        rw [hln] at hlc hmc ⊢
        have g3 : (ks.length : Int) ≤ (lc : Int) := by omega
        have g4 : (ks.length : Int) ≤ (mc : Int) := by omega
        have HLn := Aside.mk hln
        clear hm4 hb4 hlS hmS hlc hmc hln
        go_wp2_with fail
        go_loopw [68] (fun i wx => ∃ k : Nat, k ≤ ks.length ∧ i = .int .i64 k ∧ Aside (GAt w wx lo hi so lA mA ks srt2)) (fun i _ => ks.length - (intOf i).toNat)
        case atStart => exact ⟨0, Nat.zero_le _, rfl, HG⟩
        case round =>
          obtain ⟨k, hk, rfl, HN⟩ := hrel
          by_cases hlt : k < ks.length
          · have hkz : (k : Int) < (ks.length : Int) := by omega
            obtain ⟨x, hx⟩ : ∃ x, srt2[k]? = some x := ⟨_, List.getElem?_eq_getElem (by rw [HLn.out]; exact hlt)⟩
            have hne : srt2 ≠ [] := fun e => by rw [e] at hx; cases hx
            rcases hAA : lA with _ | la
            · exact absurd (HN.out.l.1 hAA) hne
            rcases hBB : mA with _ | ma
            · exact absurd (HN.out.m.1 hBB) hne
            subst hAA hBB
            have HX := Aside.mk hx
            obtain ⟨xi, xb, xk, xa, xe, xg⟩ := x
            obtain ⟨s0, s1, s2, s3, s4, s5⟩ := HN.out.l.six hx
            obtain ⟨t0, t1, t2, t3, t4, t5⟩ := HN.out.m.six hx
            have hq := fun (W : World) => ne_key_self ⟨xi, xb, xk, xa, xe, xg⟩ W
            simp only at s0 s1 s2 s3 s4 s5 t0 t1 t2 t3 t4 t5 hq
            by_cases hk0 : k = 0
            · have hd1 : decide (0 < k) = false := decide_eq_false (by omega)
              clear hx hne hk0
              go_wp2_with fail
              go_quiet (fail)
              have HD := Aside.mk (HN.out.later (below_drewN (below_refl wr) nq))
              generalize wr.drewN nq = w7 at HD ⊢
              clear s0 s1 s2 s3 s4 s5 t0 t1 t2 t3 t4 t5 hq hd1
              go_wp2_with fail
              go_loopw [100] (fun i wx => ∃ m : Nat, m ≤ ks.length ∧ i = .int .i64 m ∧ Aside (GAt w wx lo hi so (some la) (some ma) ks srt2)) (fun i _ => ks.length - (intOf i).toNat)
              case atStart => exact ⟨0, Nat.zero_le _, rfl, HD⟩
              case round =>
                obtain ⟨m, hm, rfl, HM⟩ := hrel
                by_cases hlm : m < ks.length
                · have hmz : (m : Int) < (ks.length : Int) := by omega
                  obtain ⟨⟨yi, yb, yk, ya, ye, yg⟩, hy'⟩ : ∃ y, srt2[m]? = some y := ⟨_, List.getElem?_eq_getElem (by rw [HLn.out]; exact hlm)⟩
                  obtain ⟨c0, _⟩ := HM.out.l.six HX.out
                  obtain ⟨c1, _⟩ := HM.out.l.six hy'
                  have hxm := List.mem_of_getElem? HX.out
                  have hym := List.mem_of_getElem? hy'
                  have hsym := group_sym HP.out HPw.out hxm hym
                  have hself := group_self HP.out HPw.out hxm
                  have hxw := HW.out _ (HP.out.mem_iff.1 hxm)
                  have hyw := HW.out _ (HP.out.mem_iff.1 hym)
                  simp only at c0 c1 hsym hself hxw hyw
                  have Gk := Aside.mk (fun (W : World) (h : GAt w W lo hi so (some la) (some ma) ks srt2) => group_any xi W h.sch hxw (by have := HLn.out; omega))
                  have Gm := Aside.mk (fun (W : World) (h : GAt w W lo hi so (some la) (some ma) ks srt2) => group_any yi W h.sch hyw (by have := HLn.out; omega))
                  by_cases hkm : k = m
                  · subst hkm
                    have hxy := hy'
                    rw [HX.out] at hxy
                    injection hxy with hxy
                    injection hxy with e0 e1 e2 e3 e4 e5
                    subst e0 e1 e2 e3 e4 e5
                    have HSF := Aside.mk hself
                    clear hsym hself hy' hxm hym
                    go_wp2_with fail
                    refine wp_region_noPanic ?_
                    refine wp_region_held_drew (S := fun W => W.cell? (la.add (k * 6)) = some (.int .i64 xi) ∧ W.cell? (la.add (k * 6)) = some (.int .i64 xi) ∧ GAt w W lo hi so (some la) (some ma) ks srt2) (by kernel_rfl) (⟨c0, c1, HM.out.later (below_drewN (below_refl wr) 1)⟩) (fun hHeld => ?_)
                    refine take_at (i := 0) (d := some 103) (v := ?ve10) rfl rfl (by kernel_rfl) (by kernel_rfl) (by kernel_rfl) (fun _ _ _ h => h) (Or.inl ⟨by rfl, ?hye10⟩) hHeld ?reste10
                    case hye10 => (intro w hSw; (try dsimp only at hSw); go_simp; try with_reducible rfl)
                    try simp only [Act.put, List.setIfInBounds_toArray, List.set_cons_zero, List.set_cons_succ]
                    refine take_at (i := 1) (d := some 104) (v := ?ve11) rfl rfl (by kernel_rfl) (by kernel_rfl) (by kernel_rfl) (fun _ _ _ h => h) (Or.inl ⟨by rfl, ?hye11⟩) hHeld ?reste11
                    case hye11 => (intro w hSw; (try dsimp only at hSw); go_simp; try with_reducible rfl)
                    try simp only [Act.put, List.setIfInBounds_toArray, List.set_cons_zero, List.set_cons_succ]
                    refine take_at (i := 2) (d := some 105) (v := ?ve12) rfl rfl (by kernel_rfl) (by kernel_rfl) (by kernel_rfl) (fun _ _ _ h => h) (Or.inl ⟨by rfl, ?hye12⟩) hHeld ?reste12
                    case hye12 => (intro w hSw; (try dsimp only at hSw); go_simp; try with_reducible rfl)
                    try simp only [Act.put, List.setIfInBounds_toArray, List.set_cons_zero, List.set_cons_succ]
                    refine take_at (i := 3) (d := some 106) (v := ?ve13) rfl rfl (by kernel_rfl) (by kernel_rfl) (by kernel_rfl) (fun _ _ _ h => h) (Or.inl ⟨by rfl, ?hye13⟩) hHeld ?reste13
                    case hye13 => (intro w hSw; (try dsimp only at hSw); go_simp; try with_reducible rfl)
                    try simp only [Act.put, List.setIfInBounds_toArray, List.set_cons_zero, List.set_cons_succ]
                    refine take_at (i := 4) (d := some 107) (v := ?ve14) rfl rfl (by kernel_rfl) (by kernel_rfl) (by kernel_rfl) (fun _ _ _ h => h) (Or.inl ⟨by rfl, ?hye14⟩) hHeld ?reste14
                    case hye14 => (intro w hSw; (try dsimp only at hSw); go_simp; try with_reducible rfl)
                    try simp only [Act.put, List.setIfInBounds_toArray, List.set_cons_zero, List.set_cons_succ]
                    refine take_at (i := 5) (d := some 108) (v := ?ve15) rfl rfl (by kernel_rfl) (by kernel_rfl) (by kernel_rfl) (fun _ _ _ h => h) (Or.inl ⟨by rfl, ?hye15⟩) hHeld ?reste15
                    case hye15 => (intro w hSw; (try dsimp only at hSw); go_simp; try with_reducible rfl)
                    try simp only [Act.put, List.setIfInBounds_toArray, List.set_cons_zero, List.set_cons_succ]
                    refine take_at (i := 7) (d := some 110) (v := ?ve17) rfl rfl (by kernel_rfl) (by kernel_rfl) (by kernel_rfl) (fun _ _ _ h => h) (Or.inl ⟨by rfl, ?hye17⟩) hHeld ?reste17
                    case hye17 => (intro w hSw; (try dsimp only at hSw); go_simp; try with_reducible rfl)
                    try simp only [Act.put, List.setIfInBounds_toArray, List.set_cons_zero, List.set_cons_succ]
                    refine take_at (i := 8) (d := some 111) (v := ?ve18) rfl rfl (by kernel_rfl) (by kernel_rfl) (by kernel_rfl) (fun _ _ _ h => h) (Or.inl ⟨by rfl, ?hye18⟩) hHeld ?reste18
                    case hye18 => (intro w hSw; (try dsimp only at hSw); go_simp; try with_reducible rfl)
                    try simp only [Act.put, List.setIfInBounds_toArray, List.set_cons_zero, List.set_cons_succ]
                    refine take_at (i := 9) (d := some 112) (v := ?ve19) rfl rfl (by kernel_rfl) (by kernel_rfl) (by kernel_rfl) (fun _ _ _ h => h) (Or.inl ⟨by rfl, ?hye19⟩) hHeld ?reste19
                    case hye19 => (intro w hSw; (try dsimp only at hSw); go_simp; try with_reducible rfl)
                    try simp only [Act.put, List.setIfInBounds_toArray, List.set_cons_zero, List.set_cons_succ]
                    refine take_at (i := 10) (d := some 113) (v := ?ve110) rfl rfl (by kernel_rfl) (by kernel_rfl) (by kernel_rfl) (fun _ _ _ h => h) (Or.inl ⟨by rfl, ?hye110⟩) hHeld ?reste110
                    case hye110 => (intro w hSw; (try dsimp only at hSw); go_simp; try with_reducible rfl)
                    try simp only [Act.put, List.setIfInBounds_toArray, List.set_cons_zero, List.set_cons_succ]
                    refine take_at (i := 11) (d := some 114) (v := ?ve111) rfl rfl (by kernel_rfl) (by kernel_rfl) (by kernel_rfl) (fun _ _ _ h => h) (Or.inl ⟨by rfl, ?hye111⟩) hHeld ?reste111
                    case hye111 => (intro w hSw; (try dsimp only at hSw); go_simp; try with_reducible rfl)
                    try simp only [Act.put, List.setIfInBounds_toArray, List.set_cons_zero, List.set_cons_succ]
                    refine take_at (i := 13) (d := some 116) (v := ?ve113) rfl rfl (by kernel_rfl) (by kernel_rfl) (by kernel_rfl) (fun _ _ _ h => h) (Or.inl ⟨by rfl, ?hye113⟩) hHeld ?reste113
                    case hye113 => (intro w hSw; (try dsimp only at hSw); go_simp; try with_reducible rfl)
                    try simp only [Act.put, List.setIfInBounds_toArray, List.set_cons_zero, List.set_cons_succ]
                    refine take_at (i := 14) (d := some 117) (v := ?ve114) rfl rfl (by kernel_rfl) (by kernel_rfl) (by kernel_rfl) (fun _ _ _ h => h) (Or.inl ⟨by rfl, ?hye114⟩) hHeld ?reste114
                    case hye114 => (intro w hSw; (try dsimp only at hSw); go_simp; try with_reducible rfl)
                    try simp only [Act.put, List.setIfInBounds_toArray, List.set_cons_zero, List.set_cons_succ]
                    refine take_at (i := 15) (d := some 118) (v := ?ve115) rfl rfl (by kernel_rfl) (by kernel_rfl) (by kernel_rfl) (fun _ _ _ h => h) (Or.inl ⟨by rfl, ?hye115⟩) hHeld ?reste115
                    case hye115 => (intro w hSw; (try dsimp only at hSw); go_simp; try with_reducible rfl)
                    try simp only [Act.put, List.setIfInBounds_toArray, List.set_cons_zero, List.set_cons_succ]
                    refine take_at (i := 16) (d := some 119) (v := ?ve116) rfl rfl (by kernel_rfl) (by kernel_rfl) (by kernel_rfl) (fun _ _ _ h => h) (Or.inl ⟨by rfl, ?hye116⟩) hHeld ?reste116
                    case hye116 => (intro w hSw; (try dsimp only at hSw); go_simp; try with_reducible rfl)
                    try simp only [Act.put, List.setIfInBounds_toArray, List.set_cons_zero, List.set_cons_succ]
                    refine take_at (i := 17) (d := some 120) (v := ?ve117) rfl rfl (by kernel_rfl) (by kernel_rfl) (by kernel_rfl) (fun _ _ _ h => h) (Or.inl ⟨by rfl, ?hye117⟩) hHeld ?reste117
                    case hye117 => (intro w hSw; (try dsimp only at hSw); go_simp; try with_reducible rfl)
                    try simp only [Act.put, List.setIfInBounds_toArray, List.set_cons_zero, List.set_cons_succ]
                    refine take_at (i := 18) (d := some 121) (v := ?ve118) rfl rfl (by kernel_rfl) (by kernel_rfl) (by kernel_rfl) (fun _ _ _ h => h) (Or.inl ⟨by rfl, ?hye118⟩) hHeld ?reste118
                    case hye118 => (intro w hSw; (try dsimp only at hSw); go_simp; try with_reducible rfl)
                    try simp only [Act.put, List.setIfInBounds_toArray, List.set_cons_zero, List.set_cons_succ]
                    refine take_at (i := 20) (d := some 123) (v := ?ve120) rfl rfl (by kernel_rfl) (by kernel_rfl) (by kernel_rfl) (fun _ _ _ h => h) (Or.inl ⟨by rfl, ?hye120⟩) hHeld ?reste120
                    case hye120 => (intro w hSw; (try dsimp only at hSw); go_simp; try with_reducible rfl)
                    try simp only [Act.put, List.setIfInBounds_toArray, List.set_cons_zero, List.set_cons_succ]
                    refine take_at (i := 21) (d := some 124) (v := ?ve121) rfl rfl (by kernel_rfl) (by kernel_rfl) (by kernel_rfl) (fun _ _ _ h => h) (Or.inl ⟨by rfl, ?hye121⟩) hHeld ?reste121
                    case hye121 => (intro w hSw; (try dsimp only at hSw); go_simp; try with_reducible rfl)
                    try simp only [Act.put, List.setIfInBounds_toArray, List.set_cons_zero, List.set_cons_succ]
                    refine take_at (i := 22) (d := some 125) (v := ?ve122) rfl rfl (by kernel_rfl) (by kernel_rfl) (by kernel_rfl) (fun _ _ _ h => h) (Or.inl ⟨by rfl, ?hye122⟩) hHeld ?reste122
                    case hye122 => (intro w hSw; (try dsimp only at hSw); go_simp; try with_reducible rfl)
                    try simp only [Act.put, List.setIfInBounds_toArray, List.set_cons_zero, List.set_cons_succ]
                    refine take_at (i := 23) (d := some 126) (v := ?ve123) rfl rfl (by kernel_rfl) (by kernel_rfl) (by kernel_rfl) (fun _ _ _ h => h) (Or.inl ⟨by rfl, ?hye123⟩) hHeld ?reste123
                    case hye123 => (intro w hSw; (try dsimp only at hSw); go_simp; try with_reducible rfl)
                    try simp only [Act.put, List.setIfInBounds_toArray, List.set_cons_zero, List.set_cons_succ]
                    refine take_at (i := 24) (d := some 127) (v := ?ve124) rfl rfl (by kernel_rfl) (by kernel_rfl) (by kernel_rfl) (fun _ _ _ h => h) (Or.inl ⟨by rfl, ?hye124⟩) hHeld ?reste124
                    case hye124 => (intro w hSw; (try dsimp only at hSw); go_simp; try with_reducible rfl)
                    try simp only [Act.put, List.setIfInBounds_toArray, List.set_cons_zero, List.set_cons_succ]
                    refine wpAnyH_ready (rs := [6]) (by kernel_rfl) (by simp) ?_
                    refine AllReadyH.cons rfl (fun K hK => ?_) AllReadyH.nil
                    go_simp
                    (with_reducible refine (Gk.out _ hHeld.2.2).mono ?_)
                    rintro e w' ⟨u, rfl, ho, hb⟩
                    obtain ⟨A1, c1, rfl, hc1, hn1, hC1⟩ := Cells.of_own ho
                    have hh1 := has_any A1 c1 _ xi _ hC1 hc1 (groupK_len (by have := HLn.out; omega))
                    rw [HSF.out] at hh1
                    have HH1 := Aside.mk hh1
                    refine hK.out _ _ (⟨cell_below hb hHeld.1, cell_below hb hHeld.2.1, hHeld.2.2.later hb⟩) (fun hHeld' => ?_)
                    clear hK K hHeld ho hb hc1 hn1 hC1 hh1
                    have hHeld := hHeld'
                    clear hHeld'
                    try simp only [Act.put, List.setIfInBounds_toArray, List.set_cons_zero, List.set_cons_succ]
                    refine wpAnyH_ready (rs := [12]) (by kernel_rfl) (by simp) ?_
                    refine AllReadyH.cons rfl (fun K hK => ?_) AllReadyH.nil
                    go_simp
                    (with_reducible refine HH1.out.mono ?_)
                    rintro e w' ⟨rfl, rfl⟩
                    refine hK.out _ _ (hHeld) (fun hHeld' => ?_)
                    clear hK K hHeld
                    have hHeld := hHeld'
                    clear hHeld'
                    try simp only [Act.put, List.setIfInBounds_toArray, List.set_cons_zero, List.set_cons_succ]
                    refine wpAnyH_ready (rs := [19]) (by kernel_rfl) (by simp) ?_
                    refine AllReadyH.cons rfl (fun K hK => ?_) AllReadyH.nil
                    go_simp
                    (with_reducible refine (Gk.out _ hHeld.2.2).mono ?_)
                    rintro e w' ⟨u, rfl, ho, hb⟩
                    obtain ⟨A2, c2, rfl, hc2, hn2, hC2⟩ := Cells.of_own ho
                    have hh2 := has_any A2 c2 _ xi _ hC2 hc2 (groupK_len (by have := HLn.out; omega))
                    rw [HSF.out] at hh2
                    have HH2 := Aside.mk hh2
                    refine hK.out _ _ (⟨cell_below hb hHeld.1, cell_below hb hHeld.2.1, hHeld.2.2.later hb⟩) (fun hHeld' => ?_)
                    clear hK K hHeld ho hb hc2 hn2 hC2 hh2
                    have hHeld := hHeld'
                    clear hHeld'
                    try simp only [Act.put, List.setIfInBounds_toArray, List.set_cons_zero, List.set_cons_succ]
                    refine wpAnyH_ready (rs := [25]) (by kernel_rfl) (by simp) ?_
                    refine AllReadyH.cons rfl (fun K hK => ?_) AllReadyH.nil
                    go_simp
                    (with_reducible refine HH2.out.mono ?_)
                    rintro e w' ⟨rfl, rfl⟩
                    refine hK.out _ _ (hHeld) (fun hHeld' => ?_)
                    clear hK K hHeld
                    have hHeld := hHeld'
                    clear hHeld'
                    try simp only [Act.put, List.setIfInBounds_toArray, List.set_cons_zero, List.set_cons_succ]
                    refine take_at (i := 26) (d := some 129) (v := ?ve126) rfl rfl (by kernel_rfl) (by kernel_rfl) (by kernel_rfl) (fun _ _ _ h => h) (Or.inl ⟨by rfl, ?hye126⟩) hHeld ?reste126
                    case hye126 => (intro w hSw; (try dsimp only at hSw); go_simp; try with_reducible rfl)
                    try simp only [Act.put, List.setIfInBounds_toArray, List.set_cons_zero, List.set_cons_succ]
                    refine take_at (i := 27) (d := some 130) (v := ?ve127) rfl rfl (by kernel_rfl) (by kernel_rfl) (by kernel_rfl) (fun _ _ _ h => h) (Or.inl ⟨by rfl, ?hye127⟩) hHeld ?reste127
                    case hye127 => (intro w hSw; (try dsimp only at hSw); go_simp; try with_reducible rfl)
                    try simp only [Act.put, List.setIfInBounds_toArray, List.set_cons_zero, List.set_cons_succ]
                    refine take_at (i := 28) (d := some 131) (v := ?ve128) rfl rfl (by kernel_rfl) (by kernel_rfl) (by kernel_rfl) (fun _ _ _ h => h) (Or.inl ⟨by rfl, ?hye128⟩) hHeld ?reste128
                    case hye128 => (intro w hSw; (try dsimp only at hSw); go_simp; try with_reducible rfl)
                    try simp only [Act.put, List.setIfInBounds_toArray, List.set_cons_zero, List.set_cons_succ]
                    refine take_at (i := 29) (d := some 132) (v := ?ve129) rfl rfl (by kernel_rfl) (by kernel_rfl) (by kernel_rfl) (fun _ _ _ h => h) (Or.inl ⟨by rfl, ?hye129⟩) hHeld ?reste129
                    case hye129 => (intro w hSw; (try dsimp only at hSw); go_simp; try with_reducible rfl)
                    try simp only [Act.put, List.setIfInBounds_toArray, List.set_cons_zero, List.set_cons_succ]
                    refine take_at (i := 30) (d := some 133) (v := ?ve130) rfl rfl (by kernel_rfl) (by kernel_rfl) (by kernel_rfl) (fun _ _ _ h => h) (Or.inl ⟨by rfl, ?hye130⟩) hHeld ?reste130
                    case hye130 => (intro w hSw; (try dsimp only at hSw); go_simp; try with_reducible rfl)
                    try simp only [Act.put, List.setIfInBounds_toArray, List.set_cons_zero, List.set_cons_succ]
                    refine take_at (i := 31) (d := some 134) (v := ?ve131) rfl rfl (by kernel_rfl) (by kernel_rfl) (by kernel_rfl) (fun _ _ _ h => h) (Or.inl ⟨by rfl, ?hye131⟩) hHeld ?reste131
                    case hye131 => (intro w hSw; (try dsimp only at hSw); go_simp; try with_reducible rfl)
                    try simp only [Act.put, List.setIfInBounds_toArray, List.set_cons_zero, List.set_cons_succ]
                    refine take_at (i := 32) (d := some 135) (v := ?ve132) rfl rfl (by kernel_rfl) (by kernel_rfl) (by kernel_rfl) (fun _ _ _ h => h) (Or.inl ⟨by rfl, ?hye132⟩) hHeld ?reste132
                    case hye132 => (intro w hSw; (try dsimp only at hSw); go_simp; try with_reducible rfl)
                    try simp only [Act.put, List.setIfInBounds_toArray, List.set_cons_zero, List.set_cons_succ]
                    refine take_at (i := 33) (d := some 136) (v := ?ve133) rfl rfl (by kernel_rfl) (by kernel_rfl) (by kernel_rfl) (fun _ _ _ h => h) (Or.inl ⟨by rfl, ?hye133⟩) hHeld ?reste133
                    case hye133 => (intro w hSw; (try dsimp only at hSw); go_simp; try with_reducible rfl)
                    try simp only [Act.put, List.setIfInBounds_toArray, List.set_cons_zero, List.set_cons_succ]
                    refine take_at (i := 34) (d := some 137) (v := ?ve134) rfl rfl (by kernel_rfl) (by kernel_rfl) (by kernel_rfl) (fun _ _ _ h => h) (Or.inl ⟨by rfl, ?hye134⟩) hHeld ?reste134
                    case hye134 => (intro w hSw; (try dsimp only at hSw); go_simp; try with_reducible rfl)
                    try simp only [Act.put, List.setIfInBounds_toArray, List.set_cons_zero, List.set_cons_succ]
                    refine take_at (i := 35) (d := some 138) (v := ?ve135) rfl rfl (by kernel_rfl) (by kernel_rfl) (by kernel_rfl) (fun _ _ _ h => h) (Or.inl ⟨by rfl, ?hye135⟩) hHeld ?reste135
                    case hye135 => (intro w hSw; (try dsimp only at hSw); go_simp; try with_reducible rfl)
                    try simp only [Act.put, List.setIfInBounds_toArray, List.set_cons_zero, List.set_cons_succ]
                    refine take_at (i := 36) (d := some 139) (v := ?ve136) rfl rfl (by kernel_rfl) (by kernel_rfl) (by kernel_rfl) (fun _ _ _ h => h) (Or.inl ⟨by rfl, ?hye136⟩) hHeld ?reste136
                    case hye136 => (intro w hSw; (try dsimp only at hSw); go_simp; try with_reducible rfl)
                    try simp only [Act.put, List.setIfInBounds_toArray, List.set_cons_zero, List.set_cons_succ]
                    refine take_at (i := 37) (d := some 140) (v := ?ve137) rfl rfl (by kernel_rfl) (by kernel_rfl) (by kernel_rfl) (fun _ _ _ h => h) (Or.inl ⟨by rfl, ?hye137⟩) hHeld ?reste137
                    case hye137 => (intro w hSw; (try dsimp only at hSw); go_simp; try with_reducible rfl)
                    try simp only [Act.put, List.setIfInBounds_toArray, List.set_cons_zero, List.set_cons_succ]
                    refine take_at (i := 39) (d := some 142) (v := ?ve139) rfl rfl (by kernel_rfl) (by kernel_rfl) (by kernel_rfl) (fun _ _ _ h => h) (Or.inl ⟨by rfl, ?hye139⟩) hHeld ?reste139
                    case hye139 => (intro w hSw; (try dsimp only at hSw); go_simp; try with_reducible rfl)
                    try simp only [Act.put, List.setIfInBounds_toArray, List.set_cons_zero, List.set_cons_succ]
                    refine take_at (i := 40) (d := some 143) (v := ?ve140) rfl rfl (by kernel_rfl) (by kernel_rfl) (by kernel_rfl) (fun _ _ _ h => h) (Or.inl ⟨by rfl, ?hye140⟩) hHeld ?reste140
                    case hye140 => (intro w hSw; (try dsimp only at hSw); go_simp; try with_reducible rfl)
                    try simp only [Act.put, List.setIfInBounds_toArray, List.set_cons_zero, List.set_cons_succ]
                    refine take_at (i := 41) (d := some 144) (v := ?ve141) rfl rfl (by kernel_rfl) (by kernel_rfl) (by kernel_rfl) (fun _ _ _ h => h) (Or.inl ⟨by rfl, ?hye141⟩) hHeld ?reste141
                    case hye141 => (intro w hSw; (try dsimp only at hSw); go_simp; try with_reducible rfl)
                    try simp only [Act.put, List.setIfInBounds_toArray, List.set_cons_zero, List.set_cons_succ]
                    refine take_at (i := 42) (d := some 145) (v := ?ve142) rfl rfl (by kernel_rfl) (by kernel_rfl) (by kernel_rfl) (fun _ _ _ h => h) (Or.inl ⟨by rfl, ?hye142⟩) hHeld ?reste142
                    case hye142 => (intro w hSw; (try dsimp only at hSw); go_simp; try with_reducible rfl)
                    try simp only [Act.put, List.setIfInBounds_toArray, List.set_cons_zero, List.set_cons_succ]
                    refine take_at (i := 43) (d := some 146) (v := ?ve143) rfl rfl (by kernel_rfl) (by kernel_rfl) (by kernel_rfl) (fun _ _ _ h => h) (Or.inl ⟨by rfl, ?hye143⟩) hHeld ?reste143
                    case hye143 => (intro w hSw; (try dsimp only at hSw); go_simp; try with_reducible rfl)
                    try simp only [Act.put, List.setIfInBounds_toArray, List.set_cons_zero, List.set_cons_succ]
                    refine wpAnyH_ready (rs := [38]) (by kernel_rfl) (by simp) ?_
                    refine AllReadyH.cons rfl (fun K hK => ?_) AllReadyH.nil
                    go_simp
                    (with_reducible refine (Gk.out _ hHeld.2.2).mono ?_)
                    rintro e w' ⟨u, rfl, ho, hb⟩
                    obtain ⟨A3, c3, rfl, hc3, hn3, hC3⟩ := Cells.of_own ho
                    have hh3 := has_any A3 c3 _ xi _ hC3 hc3 (groupK_len (by have := HLn.out; omega))
                    rw [HSF.out] at hh3
                    have HH3 := Aside.mk hh3
                    refine hK.out _ _ (⟨cell_below hb hHeld.1, cell_below hb hHeld.2.1, hHeld.2.2.later hb⟩) (fun hHeld' => ?_)
                    clear hK K hHeld ho hb hc3 hn3 hC3 hh3
                    have hHeld := hHeld'
                    clear hHeld'
                    try simp only [Act.put, List.setIfInBounds_toArray, List.set_cons_zero, List.set_cons_succ]
                    refine wpAnyH_ready (rs := [44]) (by kernel_rfl) (by simp) ?_
                    refine AllReadyH.cons rfl (fun K hK => ?_) AllReadyH.nil
                    go_simp
                    (with_reducible refine HH3.out.mono ?_)
                    rintro e w' ⟨rfl, rfl⟩
                    refine hK.out _ _ (hHeld) (fun hHeld' => ?_)
                    clear hK K hHeld
                    have hHeld := hHeld'
                    clear hHeld'
                    try simp only [Act.put, List.setIfInBounds_toArray, List.set_cons_zero, List.set_cons_succ]
                    refine take_at (i := 45) (d := some 148) (v := ?ve145) rfl rfl (by kernel_rfl) (by kernel_rfl) (by kernel_rfl) (fun _ _ _ h => h) (Or.inl ⟨by rfl, ?hye145⟩) hHeld ?reste145
                    case hye145 => (intro w hSw; (try dsimp only at hSw); go_simp; try with_reducible rfl)
                    try simp only [Act.put, List.setIfInBounds_toArray, List.set_cons_zero, List.set_cons_succ]
                    refine take_at (i := 46) (d := some 149) (v := ?ve146) rfl rfl (by kernel_rfl) (by kernel_rfl) (by kernel_rfl) (fun _ _ _ h => h) (Or.inl ⟨by rfl, ?hye146⟩) hHeld ?reste146
                    case hye146 => (intro w hSw; (try dsimp only at hSw); go_simp; try with_reducible rfl)
                    try simp only [Act.put, List.setIfInBounds_toArray, List.set_cons_zero, List.set_cons_succ]
                    refine wpAnyH_done (by kernel_rfl) ?_ _
                    refine NoPanic.normal ?_
                    have HM7 := Aside.mk hHeld.2.2
                    clear hHeld
                    go_wp2
                    go_roundw
                    case rel => exact ⟨k + 1, by omega, by go_num, HM7⟩
                    case measure => simp [intOf]; omega
                  · have hkm1 : ((k : Int) == (m : Int)) = false := beq_eq_false_iff_ne.2 (by omega)
                    obtain ⟨bb, hbb⟩ : ∃ b, (groupK ks srt2 xi).contains yi = b := ⟨_, rfl⟩
                    have HBB := Aside.mk hbb
                    have HBS := Aside.mk (hsym.symm.trans hbb)
                    clear hkm hsym hbb hself hy' hxm hym
                    go_wp2_with fail
                    refine wp_region_noPanic ?_
                    refine wp_region_held_drew (S := fun W => W.cell? (la.add (k * 6)) = some (.int .i64 xi) ∧ W.cell? (la.add (m * 6)) = some (.int .i64 yi) ∧ GAt w W lo hi so (some la) (some ma) ks srt2) (by kernel_rfl) (⟨c0, c1, HM.out.later (below_drewN (below_refl wr) 1)⟩) (fun hHeld => ?_)
                    refine take_at (i := 0) (d := some 103) (v := ?vn10) rfl rfl (by kernel_rfl) (by kernel_rfl) (by kernel_rfl) (fun _ _ _ h => h) (Or.inl ⟨by rfl, ?hyn10⟩) hHeld ?restn10
                    case hyn10 => (intro w hSw; (try dsimp only at hSw); go_simp; try with_reducible rfl)
                    try simp only [Act.put, List.setIfInBounds_toArray, List.set_cons_zero, List.set_cons_succ]
                    refine take_at (i := 1) (d := some 104) (v := ?vn11) rfl rfl (by kernel_rfl) (by kernel_rfl) (by kernel_rfl) (fun _ _ _ h => h) (Or.inl ⟨by rfl, ?hyn11⟩) hHeld ?restn11
                    case hyn11 => (intro w hSw; (try dsimp only at hSw); go_simp; try with_reducible rfl)
                    try simp only [Act.put, List.setIfInBounds_toArray, List.set_cons_zero, List.set_cons_succ]
                    refine take_at (i := 2) (d := some 105) (v := ?vn12) rfl rfl (by kernel_rfl) (by kernel_rfl) (by kernel_rfl) (fun _ _ _ h => h) (Or.inl ⟨by rfl, ?hyn12⟩) hHeld ?restn12
                    case hyn12 => (intro w hSw; (try dsimp only at hSw); go_simp; try with_reducible rfl)
                    try simp only [Act.put, List.setIfInBounds_toArray, List.set_cons_zero, List.set_cons_succ]
                    refine take_at (i := 3) (d := some 106) (v := ?vn13) rfl rfl (by kernel_rfl) (by kernel_rfl) (by kernel_rfl) (fun _ _ _ h => h) (Or.inl ⟨by rfl, ?hyn13⟩) hHeld ?restn13
                    case hyn13 => (intro w hSw; (try dsimp only at hSw); go_simp; try with_reducible rfl)
                    try simp only [Act.put, List.setIfInBounds_toArray, List.set_cons_zero, List.set_cons_succ]
                    refine take_at (i := 4) (d := some 107) (v := ?vn14) rfl rfl (by kernel_rfl) (by kernel_rfl) (by kernel_rfl) (fun _ _ _ h => h) (Or.inl ⟨by rfl, ?hyn14⟩) hHeld ?restn14
                    case hyn14 => (intro w hSw; (try dsimp only at hSw); go_simp; try with_reducible rfl)
                    try simp only [Act.put, List.setIfInBounds_toArray, List.set_cons_zero, List.set_cons_succ]
                    refine take_at (i := 5) (d := some 108) (v := ?vn15) rfl rfl (by kernel_rfl) (by kernel_rfl) (by kernel_rfl) (fun _ _ _ h => h) (Or.inl ⟨by rfl, ?hyn15⟩) hHeld ?restn15
                    case hyn15 => (intro w hSw; (try dsimp only at hSw); go_simp; try with_reducible rfl)
                    try simp only [Act.put, List.setIfInBounds_toArray, List.set_cons_zero, List.set_cons_succ]
                    refine take_at (i := 7) (d := some 110) (v := ?vn17) rfl rfl (by kernel_rfl) (by kernel_rfl) (by kernel_rfl) (fun _ _ _ h => h) (Or.inl ⟨by rfl, ?hyn17⟩) hHeld ?restn17
                    case hyn17 => (intro w hSw; (try dsimp only at hSw); go_simp; try with_reducible rfl)
                    try simp only [Act.put, List.setIfInBounds_toArray, List.set_cons_zero, List.set_cons_succ]
                    refine take_at (i := 8) (d := some 111) (v := ?vn18) rfl rfl (by kernel_rfl) (by kernel_rfl) (by kernel_rfl) (fun _ _ _ h => h) (Or.inl ⟨by rfl, ?hyn18⟩) hHeld ?restn18
                    case hyn18 => (intro w hSw; (try dsimp only at hSw); go_simp; try with_reducible rfl)
                    try simp only [Act.put, List.setIfInBounds_toArray, List.set_cons_zero, List.set_cons_succ]
                    refine take_at (i := 9) (d := some 112) (v := ?vn19) rfl rfl (by kernel_rfl) (by kernel_rfl) (by kernel_rfl) (fun _ _ _ h => h) (Or.inl ⟨by rfl, ?hyn19⟩) hHeld ?restn19
                    case hyn19 => (intro w hSw; (try dsimp only at hSw); go_simp; try with_reducible rfl)
                    try simp only [Act.put, List.setIfInBounds_toArray, List.set_cons_zero, List.set_cons_succ]
                    refine take_at (i := 10) (d := some 113) (v := ?vn110) rfl rfl (by kernel_rfl) (by kernel_rfl) (by kernel_rfl) (fun _ _ _ h => h) (Or.inl ⟨by rfl, ?hyn110⟩) hHeld ?restn110
                    case hyn110 => (intro w hSw; (try dsimp only at hSw); go_simp; try with_reducible rfl)
                    try simp only [Act.put, List.setIfInBounds_toArray, List.set_cons_zero, List.set_cons_succ]
                    refine take_at (i := 11) (d := some 114) (v := ?vn111) rfl rfl (by kernel_rfl) (by kernel_rfl) (by kernel_rfl) (fun _ _ _ h => h) (Or.inl ⟨by rfl, ?hyn111⟩) hHeld ?restn111
                    case hyn111 => (intro w hSw; (try dsimp only at hSw); go_simp; try with_reducible rfl)
                    try simp only [Act.put, List.setIfInBounds_toArray, List.set_cons_zero, List.set_cons_succ]
                    refine take_at (i := 13) (d := some 116) (v := ?vn113) rfl rfl (by kernel_rfl) (by kernel_rfl) (by kernel_rfl) (fun _ _ _ h => h) (Or.inl ⟨by rfl, ?hyn113⟩) hHeld ?restn113
                    case hyn113 => (intro w hSw; (try dsimp only at hSw); go_simp; try with_reducible rfl)
                    try simp only [Act.put, List.setIfInBounds_toArray, List.set_cons_zero, List.set_cons_succ]
                    refine take_at (i := 14) (d := some 117) (v := ?vn114) rfl rfl (by kernel_rfl) (by kernel_rfl) (by kernel_rfl) (fun _ _ _ h => h) (Or.inl ⟨by rfl, ?hyn114⟩) hHeld ?restn114
                    case hyn114 => (intro w hSw; (try dsimp only at hSw); go_simp; try with_reducible rfl)
                    try simp only [Act.put, List.setIfInBounds_toArray, List.set_cons_zero, List.set_cons_succ]
                    refine take_at (i := 15) (d := some 118) (v := ?vn115) rfl rfl (by kernel_rfl) (by kernel_rfl) (by kernel_rfl) (fun _ _ _ h => h) (Or.inl ⟨by rfl, ?hyn115⟩) hHeld ?restn115
                    case hyn115 => (intro w hSw; (try dsimp only at hSw); go_simp; try with_reducible rfl)
                    try simp only [Act.put, List.setIfInBounds_toArray, List.set_cons_zero, List.set_cons_succ]
                    refine take_at (i := 16) (d := some 119) (v := ?vn116) rfl rfl (by kernel_rfl) (by kernel_rfl) (by kernel_rfl) (fun _ _ _ h => h) (Or.inl ⟨by rfl, ?hyn116⟩) hHeld ?restn116
                    case hyn116 => (intro w hSw; (try dsimp only at hSw); go_simp; try with_reducible rfl)
                    try simp only [Act.put, List.setIfInBounds_toArray, List.set_cons_zero, List.set_cons_succ]
                    refine take_at (i := 17) (d := some 120) (v := ?vn117) rfl rfl (by kernel_rfl) (by kernel_rfl) (by kernel_rfl) (fun _ _ _ h => h) (Or.inl ⟨by rfl, ?hyn117⟩) hHeld ?restn117
                    case hyn117 => (intro w hSw; (try dsimp only at hSw); go_simp; try with_reducible rfl)
                    try simp only [Act.put, List.setIfInBounds_toArray, List.set_cons_zero, List.set_cons_succ]
                    refine take_at (i := 18) (d := some 121) (v := ?vn118) rfl rfl (by kernel_rfl) (by kernel_rfl) (by kernel_rfl) (fun _ _ _ h => h) (Or.inl ⟨by rfl, ?hyn118⟩) hHeld ?restn118
                    case hyn118 => (intro w hSw; (try dsimp only at hSw); go_simp; try with_reducible rfl)
                    try simp only [Act.put, List.setIfInBounds_toArray, List.set_cons_zero, List.set_cons_succ]
                    refine take_at (i := 20) (d := some 123) (v := ?vn120) rfl rfl (by kernel_rfl) (by kernel_rfl) (by kernel_rfl) (fun _ _ _ h => h) (Or.inl ⟨by rfl, ?hyn120⟩) hHeld ?restn120
                    case hyn120 => (intro w hSw; (try dsimp only at hSw); go_simp; try with_reducible rfl)
                    try simp only [Act.put, List.setIfInBounds_toArray, List.set_cons_zero, List.set_cons_succ]
                    refine take_at (i := 21) (d := some 124) (v := ?vn121) rfl rfl (by kernel_rfl) (by kernel_rfl) (by kernel_rfl) (fun _ _ _ h => h) (Or.inl ⟨by rfl, ?hyn121⟩) hHeld ?restn121
                    case hyn121 => (intro w hSw; (try dsimp only at hSw); go_simp; try with_reducible rfl)
                    try simp only [Act.put, List.setIfInBounds_toArray, List.set_cons_zero, List.set_cons_succ]
                    refine take_at (i := 22) (d := some 125) (v := ?vn122) rfl rfl (by kernel_rfl) (by kernel_rfl) (by kernel_rfl) (fun _ _ _ h => h) (Or.inl ⟨by rfl, ?hyn122⟩) hHeld ?restn122
                    case hyn122 => (intro w hSw; (try dsimp only at hSw); go_simp; try with_reducible rfl)
                    try simp only [Act.put, List.setIfInBounds_toArray, List.set_cons_zero, List.set_cons_succ]
                    refine take_at (i := 23) (d := some 126) (v := ?vn123) rfl rfl (by kernel_rfl) (by kernel_rfl) (by kernel_rfl) (fun _ _ _ h => h) (Or.inl ⟨by rfl, ?hyn123⟩) hHeld ?restn123
                    case hyn123 => (intro w hSw; (try dsimp only at hSw); go_simp; try with_reducible rfl)
                    try simp only [Act.put, List.setIfInBounds_toArray, List.set_cons_zero, List.set_cons_succ]
                    refine take_at (i := 24) (d := some 127) (v := ?vn124) rfl rfl (by kernel_rfl) (by kernel_rfl) (by kernel_rfl) (fun _ _ _ h => h) (Or.inl ⟨by rfl, ?hyn124⟩) hHeld ?restn124
                    case hyn124 => (intro w hSw; (try dsimp only at hSw); go_simp; try with_reducible rfl)
                    try simp only [Act.put, List.setIfInBounds_toArray, List.set_cons_zero, List.set_cons_succ]
                    refine wpAnyH_ready (rs := [6]) (by kernel_rfl) (by simp) ?_
                    refine AllReadyH.cons rfl (fun K hK => ?_) AllReadyH.nil
                    go_simp
                    (with_reducible refine (Gk.out _ hHeld.2.2).mono ?_)
                    rintro e w' ⟨u, rfl, ho, hb⟩
                    obtain ⟨A1, c1, rfl, hc1, hn1, hC1⟩ := Cells.of_own ho
                    have hh1 := has_any A1 c1 _ yi _ hC1 hc1 (groupK_len (by have := HLn.out; omega))
                    rw [HBB.out] at hh1
                    have HH1 := Aside.mk hh1
                    refine hK.out _ _ (⟨cell_below hb hHeld.1, cell_below hb hHeld.2.1, hHeld.2.2.later hb⟩) (fun hHeld' => ?_)
                    clear hK K hHeld ho hb hc1 hn1 hC1 hh1
                    have hHeld := hHeld'
                    clear hHeld'
                    try simp only [Act.put, List.setIfInBounds_toArray, List.set_cons_zero, List.set_cons_succ]
                    refine wpAnyH_ready (rs := [12]) (by kernel_rfl) (by simp) ?_
                    refine AllReadyH.cons rfl (fun K hK => ?_) AllReadyH.nil
                    go_simp
                    (with_reducible refine HH1.out.mono ?_)
                    rintro e w' ⟨rfl, rfl⟩
                    refine hK.out _ _ (hHeld) (fun hHeld' => ?_)
                    clear hK K hHeld
                    have hHeld := hHeld'
                    clear hHeld'
                    try simp only [Act.put, List.setIfInBounds_toArray, List.set_cons_zero, List.set_cons_succ]
                    refine wpAnyH_ready (rs := [19]) (by kernel_rfl) (by simp) ?_
                    refine AllReadyH.cons rfl (fun K hK => ?_) AllReadyH.nil
                    go_simp
                    (with_reducible refine (Gm.out _ hHeld.2.2).mono ?_)
                    rintro e w' ⟨u, rfl, ho, hb⟩
                    obtain ⟨A2, c2, rfl, hc2, hn2, hC2⟩ := Cells.of_own ho
                    have hh2 := has_any A2 c2 _ xi _ hC2 hc2 (groupK_len (by have := HLn.out; omega))
                    rw [HBS.out] at hh2
                    have HH2 := Aside.mk hh2
                    refine hK.out _ _ (⟨cell_below hb hHeld.1, cell_below hb hHeld.2.1, hHeld.2.2.later hb⟩) (fun hHeld' => ?_)
                    clear hK K hHeld ho hb hc2 hn2 hC2 hh2
                    have hHeld := hHeld'
                    clear hHeld'
                    try simp only [Act.put, List.setIfInBounds_toArray, List.set_cons_zero, List.set_cons_succ]
                    refine wpAnyH_ready (rs := [25]) (by kernel_rfl) (by simp) ?_
                    refine AllReadyH.cons rfl (fun K hK => ?_) AllReadyH.nil
                    go_simp
                    (with_reducible refine HH2.out.mono ?_)
                    rintro e w' ⟨rfl, rfl⟩
                    refine hK.out _ _ (hHeld) (fun hHeld' => ?_)
                    clear hK K hHeld
                    have hHeld := hHeld'
                    clear hHeld'
                    try simp only [Act.put, List.setIfInBounds_toArray, List.set_cons_zero, List.set_cons_succ]
                    refine take_at (i := 26) (d := some 129) (v := ?vn126) rfl rfl (by kernel_rfl) (by kernel_rfl) (by kernel_rfl) (fun _ _ _ h => h) (Or.inl ⟨by rfl, ?hyn126⟩) hHeld ?restn126
                    case hyn126 => (intro w hSw; (try dsimp only at hSw); go_simp; try with_reducible rfl)
                    try simp only [Act.put, List.setIfInBounds_toArray, List.set_cons_zero, List.set_cons_succ]
                    refine take_at (i := 27) (d := some 130) (v := ?vn127) rfl rfl (by kernel_rfl) (by kernel_rfl) (by kernel_rfl) (fun _ _ _ h => h) (Or.inl ⟨by rfl, ?hyn127⟩) hHeld ?restn127
                    case hyn127 => (intro w hSw; (try dsimp only at hSw); go_simp; try with_reducible rfl)
                    try simp only [Act.put, List.setIfInBounds_toArray, List.set_cons_zero, List.set_cons_succ]
                    refine take_at (i := 28) (d := some 131) (v := ?vn128) rfl rfl (by kernel_rfl) (by kernel_rfl) (by kernel_rfl) (fun _ _ _ h => h) (Or.inl ⟨by rfl, ?hyn128⟩) hHeld ?restn128
                    case hyn128 => (intro w hSw; (try dsimp only at hSw); go_simp; try with_reducible rfl)
                    try simp only [Act.put, List.setIfInBounds_toArray, List.set_cons_zero, List.set_cons_succ]
                    refine take_at (i := 29) (d := some 132) (v := ?vn129) rfl rfl (by kernel_rfl) (by kernel_rfl) (by kernel_rfl) (fun _ _ _ h => h) (Or.inl ⟨by rfl, ?hyn129⟩) hHeld ?restn129
                    case hyn129 => (intro w hSw; (try dsimp only at hSw); go_simp; try with_reducible rfl)
                    try simp only [Act.put, List.setIfInBounds_toArray, List.set_cons_zero, List.set_cons_succ]
                    refine take_at (i := 30) (d := some 133) (v := ?vn130) rfl rfl (by kernel_rfl) (by kernel_rfl) (by kernel_rfl) (fun _ _ _ h => h) (Or.inl ⟨by rfl, ?hyn130⟩) hHeld ?restn130
                    case hyn130 => (intro w hSw; (try dsimp only at hSw); go_simp; try with_reducible rfl)
                    try simp only [Act.put, List.setIfInBounds_toArray, List.set_cons_zero, List.set_cons_succ]
                    refine take_at (i := 31) (d := some 134) (v := ?vn131) rfl rfl (by kernel_rfl) (by kernel_rfl) (by kernel_rfl) (fun _ _ _ h => h) (Or.inl ⟨by rfl, ?hyn131⟩) hHeld ?restn131
                    case hyn131 => (intro w hSw; (try dsimp only at hSw); go_simp; try with_reducible rfl)
                    try simp only [Act.put, List.setIfInBounds_toArray, List.set_cons_zero, List.set_cons_succ]
                    refine take_at (i := 32) (d := some 135) (v := undef) rfl rfl (by kernel_rfl) (by kernel_rfl) (by kernel_rfl) (fun _ _ _ h => h) (Or.inr ⟨by rfl, rfl⟩) hHeld ?restn132
                    try simp only [Act.put, List.setIfInBounds_toArray, List.set_cons_zero, List.set_cons_succ]
                    refine take_at (i := 33) (d := some 136) (v := undef) rfl rfl (by kernel_rfl) (by kernel_rfl) (by kernel_rfl) (fun _ _ _ h => h) (Or.inr ⟨by rfl, rfl⟩) hHeld ?restn133
                    try simp only [Act.put, List.setIfInBounds_toArray, List.set_cons_zero, List.set_cons_succ]
                    refine take_at (i := 34) (d := some 137) (v := undef) rfl rfl (by kernel_rfl) (by kernel_rfl) (by kernel_rfl) (fun _ _ _ h => h) (Or.inr ⟨by rfl, rfl⟩) hHeld ?restn134
                    try simp only [Act.put, List.setIfInBounds_toArray, List.set_cons_zero, List.set_cons_succ]
                    refine take_at (i := 35) (d := some 138) (v := undef) rfl rfl (by kernel_rfl) (by kernel_rfl) (by kernel_rfl) (fun _ _ _ h => h) (Or.inr ⟨by rfl, rfl⟩) hHeld ?restn135
                    try simp only [Act.put, List.setIfInBounds_toArray, List.set_cons_zero, List.set_cons_succ]
                    refine take_at (i := 36) (d := some 139) (v := undef) rfl rfl (by kernel_rfl) (by kernel_rfl) (by kernel_rfl) (fun _ _ _ h => h) (Or.inr ⟨by rfl, rfl⟩) hHeld ?restn136
                    try simp only [Act.put, List.setIfInBounds_toArray, List.set_cons_zero, List.set_cons_succ]
                    refine take_at (i := 37) (d := some 140) (v := undef) rfl rfl (by kernel_rfl) (by kernel_rfl) (by kernel_rfl) (fun _ _ _ h => h) (Or.inr ⟨by rfl, rfl⟩) hHeld ?restn137
                    try simp only [Act.put, List.setIfInBounds_toArray, List.set_cons_zero, List.set_cons_succ]
                    refine take_at (i := 38) (d := some 141) (v := undef) rfl rfl (by kernel_rfl) (by kernel_rfl) (by kernel_rfl) (fun _ _ _ h => h) (Or.inr ⟨by rfl, rfl⟩) hHeld ?restn138
                    try simp only [Act.put, List.setIfInBounds_toArray, List.set_cons_zero, List.set_cons_succ]
                    refine take_at (i := 39) (d := some 142) (v := undef) rfl rfl (by kernel_rfl) (by kernel_rfl) (by kernel_rfl) (fun _ _ _ h => h) (Or.inr ⟨by rfl, rfl⟩) hHeld ?restn139
                    try simp only [Act.put, List.setIfInBounds_toArray, List.set_cons_zero, List.set_cons_succ]
                    refine take_at (i := 40) (d := some 143) (v := undef) rfl rfl (by kernel_rfl) (by kernel_rfl) (by kernel_rfl) (fun _ _ _ h => h) (Or.inr ⟨by rfl, rfl⟩) hHeld ?restn140
                    try simp only [Act.put, List.setIfInBounds_toArray, List.set_cons_zero, List.set_cons_succ]
                    refine take_at (i := 41) (d := some 144) (v := undef) rfl rfl (by kernel_rfl) (by kernel_rfl) (by kernel_rfl) (fun _ _ _ h => h) (Or.inr ⟨by rfl, rfl⟩) hHeld ?restn141
                    try simp only [Act.put, List.setIfInBounds_toArray, List.set_cons_zero, List.set_cons_succ]
                    refine take_at (i := 42) (d := some 145) (v := undef) rfl rfl (by kernel_rfl) (by kernel_rfl) (by kernel_rfl) (fun _ _ _ h => h) (Or.inr ⟨by rfl, rfl⟩) hHeld ?restn142
                    try simp only [Act.put, List.setIfInBounds_toArray, List.set_cons_zero, List.set_cons_succ]
                    refine take_at (i := 43) (d := some 146) (v := undef) rfl rfl (by kernel_rfl) (by kernel_rfl) (by kernel_rfl) (fun _ _ _ h => h) (Or.inr ⟨by rfl, rfl⟩) hHeld ?restn143
                    try simp only [Act.put, List.setIfInBounds_toArray, List.set_cons_zero, List.set_cons_succ]
                    refine take_at (i := 44) (d := some 147) (v := undef) rfl rfl (by kernel_rfl) (by kernel_rfl) (by kernel_rfl) (fun _ _ _ h => h) (Or.inr ⟨by rfl, rfl⟩) hHeld ?restn144
                    try simp only [Act.put, List.setIfInBounds_toArray, List.set_cons_zero, List.set_cons_succ]
                    refine take_at (i := 45) (d := some 148) (v := ?vn145) rfl rfl (by kernel_rfl) (by kernel_rfl) (by kernel_rfl) (fun _ _ _ h => h) (Or.inl ⟨by rfl, ?hyn145⟩) hHeld ?restn145
                    case hyn145 => (intro w hSw; (try dsimp only at hSw); go_simp; try with_reducible rfl)
                    try simp only [Act.put, List.setIfInBounds_toArray, List.set_cons_zero, List.set_cons_succ]
                    refine take_at (i := 46) (d := some 149) (v := ?vn146) rfl rfl (by kernel_rfl) (by kernel_rfl) (by kernel_rfl) (fun _ _ _ h => h) (Or.inl ⟨by rfl, ?hyn146⟩) hHeld ?restn146
                    case hyn146 => (intro w hSw; (try dsimp only at hSw); go_simp; try with_reducible rfl)
                    try simp only [Act.put, List.setIfInBounds_toArray, List.set_cons_zero, List.set_cons_succ]
                    refine wpAnyH_done (by kernel_rfl) ?_ _
                    refine NoPanic.normal ?_
                    have HM7 := Aside.mk hHeld.2.2
                    clear hHeld
                    go_wp2
                    go_roundw
                    case rel => exact ⟨m + 1, by omega, by go_num, HM7⟩
                    case measure => simp [intOf]; omega
                · have hmk : ks.length = m := by omega
                  subst hmk
                  go_wp2
                  go_roundw
                  case rel => exact ⟨k + 1, by omega, by go_num, HM⟩
                  case measure => simp [intOf]; omega
            · obtain ⟨j, hj⟩ : ∃ j, k = j + 1 := ⟨k - 1, by omega⟩
              obtain ⟨y, hy⟩ : ∃ y, srt2[j]? = some y := ⟨_, List.getElem?_eq_getElem (by rw [HLn.out]; omega)⟩
              obtain ⟨r0, _⟩ := HN.out.l.six hy
              have hd1 : decide (0 < k) = true := decide_eq_true (by omega)
              have hjz : (k : Int) - 1 = (j : Int) := by omega
              have hjl : (j : Int) < (ks.length : Int) := by omega
              have hyx : y.id < xi := by
                have h := List.pairwise_iff_getElem.1 HR.out j k (by rw [HLn.out]; omega) (by rw [HLn.out]; exact hlt) (by omega)
                rw [List.getElem?_eq_some_iff] at hx hy
                obtain ⟨_, hx⟩ := hx
                obtain ⟨_, hy⟩ := hy
                rw [hx, hy] at h
                exact h
              have hge : decide (xi ≤ y.id) = false := decide_eq_false (by omega)
              clear hx hne hy hj hk0
              go_wp2_with fail
              go_quiet (fail)
              have HD := Aside.mk (HN.out.later (below_drewN (below_refl wr) nq))
              generalize wr.drewN nq = w7 at HD ⊢
              clear s0 s1 s2 s3 s4 s5 t0 t1 t2 t3 t4 t5 hq hd1 r0 hjz hjl
              go_wp2_with fail
              go_loopw [100] (fun i wx => ∃ m : Nat, m ≤ ks.length ∧ i = .int .i64 m ∧ Aside (GAt w wx lo hi so (some la) (some ma) ks srt2)) (fun i _ => ks.length - (intOf i).toNat)
              case atStart => exact ⟨0, Nat.zero_le _, rfl, HD⟩
              case round =>
                obtain ⟨m, hm, rfl, HM⟩ := hrel
                by_cases hlm : m < ks.length
                · have hmz : (m : Int) < (ks.length : Int) := by omega
                  obtain ⟨⟨yi, yb, yk, ya, ye, yg⟩, hy'⟩ : ∃ y, srt2[m]? = some y := ⟨_, List.getElem?_eq_getElem (by rw [HLn.out]; exact hlm)⟩
                  obtain ⟨c0, _⟩ := HM.out.l.six HX.out
                  obtain ⟨c1, _⟩ := HM.out.l.six hy'
                  have hxm := List.mem_of_getElem? HX.out
                  have hym := List.mem_of_getElem? hy'
                  have hsym := group_sym HP.out HPw.out hxm hym
                  have hself := group_self HP.out HPw.out hxm
                  have hxw := HW.out _ (HP.out.mem_iff.1 hxm)
                  have hyw := HW.out _ (HP.out.mem_iff.1 hym)
                  simp only at c0 c1 hsym hself hxw hyw
                  have Gk := Aside.mk (fun (W : World) (h : GAt w W lo hi so (some la) (some ma) ks srt2) => group_any xi W h.sch hxw (by have := HLn.out; omega))
                  have Gm := Aside.mk (fun (W : World) (h : GAt w W lo hi so (some la) (some ma) ks srt2) => group_any yi W h.sch hyw (by have := HLn.out; omega))
                  by_cases hkm : k = m
                  · subst hkm
                    have hxy := hy'
                    rw [HX.out] at hxy
                    injection hxy with hxy
                    injection hxy with e0 e1 e2 e3 e4 e5
                    subst e0 e1 e2 e3 e4 e5
                    have HSF := Aside.mk hself
                    clear hsym hself hy' hxm hym
                    go_wp2_with fail
                    refine wp_region_noPanic ?_
                    refine wp_region_held_drew (S := fun W => W.cell? (la.add (k * 6)) = some (.int .i64 xi) ∧ W.cell? (la.add (k * 6)) = some (.int .i64 xi) ∧ GAt w W lo hi so (some la) (some ma) ks srt2) (by kernel_rfl) (⟨c0, c1, HM.out.later (below_drewN (below_refl wr) 1)⟩) (fun hHeld => ?_)
                    refine take_at (i := 0) (d := some 103) (v := ?ve20) rfl rfl (by kernel_rfl) (by kernel_rfl) (by kernel_rfl) (fun _ _ _ h => h) (Or.inl ⟨by rfl, ?hye20⟩) hHeld ?reste20
                    case hye20 => (intro w hSw; (try dsimp only at hSw); go_simp; try with_reducible rfl)
                    try simp only [Act.put, List.setIfInBounds_toArray, List.set_cons_zero, List.set_cons_succ]
                    refine take_at (i := 1) (d := some 104) (v := ?ve21) rfl rfl (by kernel_rfl) (by kernel_rfl) (by kernel_rfl) (fun _ _ _ h => h) (Or.inl ⟨by rfl, ?hye21⟩) hHeld ?reste21
                    case hye21 => (intro w hSw; (try dsimp only at hSw); go_simp; try with_reducible rfl)
                    try simp only [Act.put, List.setIfInBounds_toArray, List.set_cons_zero, List.set_cons_succ]
                    refine take_at (i := 2) (d := some 105) (v := ?ve22) rfl rfl (by kernel_rfl) (by kernel_rfl) (by kernel_rfl) (fun _ _ _ h => h) (Or.inl ⟨by rfl, ?hye22⟩) hHeld ?reste22
                    case hye22 => (intro w hSw; (try dsimp only at hSw); go_simp; try with_reducible rfl)
                    try simp only [Act.put, List.setIfInBounds_toArray, List.set_cons_zero, List.set_cons_succ]
                    refine take_at (i := 3) (d := some 106) (v := ?ve23) rfl rfl (by kernel_rfl) (by kernel_rfl) (by kernel_rfl) (fun _ _ _ h => h) (Or.inl ⟨by rfl, ?hye23⟩) hHeld ?reste23
                    case hye23 => (intro w hSw; (try dsimp only at hSw); go_simp; try with_reducible rfl)
                    try simp only [Act.put, List.setIfInBounds_toArray, List.set_cons_zero, List.set_cons_succ]
                    refine take_at (i := 4) (d := some 107) (v := ?ve24) rfl rfl (by kernel_rfl) (by kernel_rfl) (by kernel_rfl) (fun _ _ _ h => h) (Or.inl ⟨by rfl, ?hye24⟩) hHeld ?reste24
                    case hye24 => (intro w hSw; (try dsimp only at hSw); go_simp; try with_reducible rfl)
                    try simp only [Act.put, List.setIfInBounds_toArray, List.set_cons_zero, List.set_cons_succ]
                    refine take_at (i := 5) (d := some 108) (v := ?ve25) rfl rfl (by kernel_rfl) (by kernel_rfl) (by kernel_rfl) (fun _ _ _ h => h) (Or.inl ⟨by rfl, ?hye25⟩) hHeld ?reste25
                    case hye25 => (intro w hSw; (try dsimp only at hSw); go_simp; try with_reducible rfl)
                    try simp only [Act.put, List.setIfInBounds_toArray, List.set_cons_zero, List.set_cons_succ]
                    refine take_at (i := 7) (d := some 110) (v := ?ve27) rfl rfl (by kernel_rfl) (by kernel_rfl) (by kernel_rfl) (fun _ _ _ h => h) (Or.inl ⟨by rfl, ?hye27⟩) hHeld ?reste27
                    case hye27 => (intro w hSw; (try dsimp only at hSw); go_simp; try with_reducible rfl)
                    try simp only [Act.put, List.setIfInBounds_toArray, List.set_cons_zero, List.set_cons_succ]
                    refine take_at (i := 8) (d := some 111) (v := ?ve28) rfl rfl (by kernel_rfl) (by kernel_rfl) (by kernel_rfl) (fun _ _ _ h => h) (Or.inl ⟨by rfl, ?hye28⟩) hHeld ?reste28
                    case hye28 => (intro w hSw; (try dsimp only at hSw); go_simp; try with_reducible rfl)
                    try simp only [Act.put, List.setIfInBounds_toArray, List.set_cons_zero, List.set_cons_succ]
                    refine take_at (i := 9) (d := some 112) (v := ?ve29) rfl rfl (by kernel_rfl) (by kernel_rfl) (by kernel_rfl) (fun _ _ _ h => h) (Or.inl ⟨by rfl, ?hye29⟩) hHeld ?reste29
                    case hye29 => (intro w hSw; (try dsimp only at hSw); go_simp; try with_reducible rfl)
                    try simp only [Act.put, List.setIfInBounds_toArray, List.set_cons_zero, List.set_cons_succ]
                    refine take_at (i := 10) (d := some 113) (v := ?ve210) rfl rfl (by kernel_rfl) (by kernel_rfl) (by kernel_rfl) (fun _ _ _ h => h) (Or.inl ⟨by rfl, ?hye210⟩) hHeld ?reste210
                    case hye210 => (intro w hSw; (try dsimp only at hSw); go_simp; try with_reducible rfl)
                    try simp only [Act.put, List.setIfInBounds_toArray, List.set_cons_zero, List.set_cons_succ]
                    refine take_at (i := 11) (d := some 114) (v := ?ve211) rfl rfl (by kernel_rfl) (by kernel_rfl) (by kernel_rfl) (fun _ _ _ h => h) (Or.inl ⟨by rfl, ?hye211⟩) hHeld ?reste211
                    case hye211 => (intro w hSw; (try dsimp only at hSw); go_simp; try with_reducible rfl)
                    try simp only [Act.put, List.setIfInBounds_toArray, List.set_cons_zero, List.set_cons_succ]
                    refine take_at (i := 13) (d := some 116) (v := ?ve213) rfl rfl (by kernel_rfl) (by kernel_rfl) (by kernel_rfl) (fun _ _ _ h => h) (Or.inl ⟨by rfl, ?hye213⟩) hHeld ?reste213
                    case hye213 => (intro w hSw; (try dsimp only at hSw); go_simp; try with_reducible rfl)
                    try simp only [Act.put, List.setIfInBounds_toArray, List.set_cons_zero, List.set_cons_succ]
                    refine take_at (i := 14) (d := some 117) (v := ?ve214) rfl rfl (by kernel_rfl) (by kernel_rfl) (by kernel_rfl) (fun _ _ _ h => h) (Or.inl ⟨by rfl, ?hye214⟩) hHeld ?reste214
                    case hye214 => (intro w hSw; (try dsimp only at hSw); go_simp; try with_reducible rfl)
                    try simp only [Act.put, List.setIfInBounds_toArray, List.set_cons_zero, List.set_cons_succ]
                    refine take_at (i := 15) (d := some 118) (v := ?ve215) rfl rfl (by kernel_rfl) (by kernel_rfl) (by kernel_rfl) (fun _ _ _ h => h) (Or.inl ⟨by rfl, ?hye215⟩) hHeld ?reste215
                    case hye215 => (intro w hSw; (try dsimp only at hSw); go_simp; try with_reducible rfl)
                    try simp only [Act.put, List.setIfInBounds_toArray, List.set_cons_zero, List.set_cons_succ]
                    refine take_at (i := 16) (d := some 119) (v := ?ve216) rfl rfl (by kernel_rfl) (by kernel_rfl) (by kernel_rfl) (fun _ _ _ h => h) (Or.inl ⟨by rfl, ?hye216⟩) hHeld ?reste216
                    case hye216 => (intro w hSw; (try dsimp only at hSw); go_simp; try with_reducible rfl)
                    try simp only [Act.put, List.setIfInBounds_toArray, List.set_cons_zero, List.set_cons_succ]
                    refine take_at (i := 17) (d := some 120) (v := ?ve217) rfl rfl (by kernel_rfl) (by kernel_rfl) (by kernel_rfl) (fun _ _ _ h => h) (Or.inl ⟨by rfl, ?hye217⟩) hHeld ?reste217
                    case hye217 => (intro w hSw; (try dsimp only at hSw); go_simp; try with_reducible rfl)
                    try simp only [Act.put, List.setIfInBounds_toArray, List.set_cons_zero, List.set_cons_succ]
                    refine take_at (i := 18) (d := some 121) (v := ?ve218) rfl rfl (by kernel_rfl) (by kernel_rfl) (by kernel_rfl) (fun _ _ _ h => h) (Or.inl ⟨by rfl, ?hye218⟩) hHeld ?reste218
                    case hye218 => (intro w hSw; (try dsimp only at hSw); go_simp; try with_reducible rfl)
                    try simp only [Act.put, List.setIfInBounds_toArray, List.set_cons_zero, List.set_cons_succ]
                    refine take_at (i := 20) (d := some 123) (v := ?ve220) rfl rfl (by kernel_rfl) (by kernel_rfl) (by kernel_rfl) (fun _ _ _ h => h) (Or.inl ⟨by rfl, ?hye220⟩) hHeld ?reste220
                    case hye220 => (intro w hSw; (try dsimp only at hSw); go_simp; try with_reducible rfl)
                    try simp only [Act.put, List.setIfInBounds_toArray, List.set_cons_zero, List.set_cons_succ]
                    refine take_at (i := 21) (d := some 124) (v := ?ve221) rfl rfl (by kernel_rfl) (by kernel_rfl) (by kernel_rfl) (fun _ _ _ h => h) (Or.inl ⟨by rfl, ?hye221⟩) hHeld ?reste221
                    case hye221 => (intro w hSw; (try dsimp only at hSw); go_simp; try with_reducible rfl)
                    try simp only [Act.put, List.setIfInBounds_toArray, List.set_cons_zero, List.set_cons_succ]
                    refine take_at (i := 22) (d := some 125) (v := ?ve222) rfl rfl (by kernel_rfl) (by kernel_rfl) (by kernel_rfl) (fun _ _ _ h => h) (Or.inl ⟨by rfl, ?hye222⟩) hHeld ?reste222
                    case hye222 => (intro w hSw; (try dsimp only at hSw); go_simp; try with_reducible rfl)
                    try simp only [Act.put, List.setIfInBounds_toArray, List.set_cons_zero, List.set_cons_succ]
                    refine take_at (i := 23) (d := some 126) (v := ?ve223) rfl rfl (by kernel_rfl) (by kernel_rfl) (by kernel_rfl) (fun _ _ _ h => h) (Or.inl ⟨by rfl, ?hye223⟩) hHeld ?reste223
                    case hye223 => (intro w hSw; (try dsimp only at hSw); go_simp; try with_reducible rfl)
                    try simp only [Act.put, List.setIfInBounds_toArray, List.set_cons_zero, List.set_cons_succ]
                    refine take_at (i := 24) (d := some 127) (v := ?ve224) rfl rfl (by kernel_rfl) (by kernel_rfl) (by kernel_rfl) (fun _ _ _ h => h) (Or.inl ⟨by rfl, ?hye224⟩) hHeld ?reste224
                    case hye224 => (intro w hSw; (try dsimp only at hSw); go_simp; try with_reducible rfl)
                    try simp only [Act.put, List.setIfInBounds_toArray, List.set_cons_zero, List.set_cons_succ]
                    refine wpAnyH_ready (rs := [6]) (by kernel_rfl) (by simp) ?_
                    refine AllReadyH.cons rfl (fun K hK => ?_) AllReadyH.nil
                    go_simp
                    (with_reducible refine (Gk.out _ hHeld.2.2).mono ?_)
                    rintro e w' ⟨u, rfl, ho, hb⟩
                    obtain ⟨A1, c1, rfl, hc1, hn1, hC1⟩ := Cells.of_own ho
                    have hh1 := has_any A1 c1 _ xi _ hC1 hc1 (groupK_len (by have := HLn.out; omega))
                    rw [HSF.out] at hh1
                    have HH1 := Aside.mk hh1
                    refine hK.out _ _ (⟨cell_below hb hHeld.1, cell_below hb hHeld.2.1, hHeld.2.2.later hb⟩) (fun hHeld' => ?_)
                    clear hK K hHeld ho hb hc1 hn1 hC1 hh1
                    have hHeld := hHeld'
                    clear hHeld'
                    try simp only [Act.put, List.setIfInBounds_toArray, List.set_cons_zero, List.set_cons_succ]
                    refine wpAnyH_ready (rs := [12]) (by kernel_rfl) (by simp) ?_
                    refine AllReadyH.cons rfl (fun K hK => ?_) AllReadyH.nil
                    go_simp
                    (with_reducible refine HH1.out.mono ?_)
                    rintro e w' ⟨rfl, rfl⟩
                    refine hK.out _ _ (hHeld) (fun hHeld' => ?_)
                    clear hK K hHeld
                    have hHeld := hHeld'
                    clear hHeld'
                    try simp only [Act.put, List.setIfInBounds_toArray, List.set_cons_zero, List.set_cons_succ]
                    refine wpAnyH_ready (rs := [19]) (by kernel_rfl) (by simp) ?_
                    refine AllReadyH.cons rfl (fun K hK => ?_) AllReadyH.nil
                    go_simp
                    (with_reducible refine (Gk.out _ hHeld.2.2).mono ?_)
                    rintro e w' ⟨u, rfl, ho, hb⟩
                    obtain ⟨A2, c2, rfl, hc2, hn2, hC2⟩ := Cells.of_own ho
                    have hh2 := has_any A2 c2 _ xi _ hC2 hc2 (groupK_len (by have := HLn.out; omega))
                    rw [HSF.out] at hh2
                    have HH2 := Aside.mk hh2
                    refine hK.out _ _ (⟨cell_below hb hHeld.1, cell_below hb hHeld.2.1, hHeld.2.2.later hb⟩) (fun hHeld' => ?_)
                    clear hK K hHeld ho hb hc2 hn2 hC2 hh2
                    have hHeld := hHeld'
                    clear hHeld'
                    try simp only [Act.put, List.setIfInBounds_toArray, List.set_cons_zero, List.set_cons_succ]
                    refine wpAnyH_ready (rs := [25]) (by kernel_rfl) (by simp) ?_
                    refine AllReadyH.cons rfl (fun K hK => ?_) AllReadyH.nil
                    go_simp
                    (with_reducible refine HH2.out.mono ?_)
                    rintro e w' ⟨rfl, rfl⟩
                    refine hK.out _ _ (hHeld) (fun hHeld' => ?_)
                    clear hK K hHeld
                    have hHeld := hHeld'
                    clear hHeld'
                    try simp only [Act.put, List.setIfInBounds_toArray, List.set_cons_zero, List.set_cons_succ]
                    refine take_at (i := 26) (d := some 129) (v := ?ve226) rfl rfl (by kernel_rfl) (by kernel_rfl) (by kernel_rfl) (fun _ _ _ h => h) (Or.inl ⟨by rfl, ?hye226⟩) hHeld ?reste226
                    case hye226 => (intro w hSw; (try dsimp only at hSw); go_simp; try with_reducible rfl)
                    try simp only [Act.put, List.setIfInBounds_toArray, List.set_cons_zero, List.set_cons_succ]
                    refine take_at (i := 27) (d := some 130) (v := ?ve227) rfl rfl (by kernel_rfl) (by kernel_rfl) (by kernel_rfl) (fun _ _ _ h => h) (Or.inl ⟨by rfl, ?hye227⟩) hHeld ?reste227
                    case hye227 => (intro w hSw; (try dsimp only at hSw); go_simp; try with_reducible rfl)
                    try simp only [Act.put, List.setIfInBounds_toArray, List.set_cons_zero, List.set_cons_succ]
                    refine take_at (i := 28) (d := some 131) (v := ?ve228) rfl rfl (by kernel_rfl) (by kernel_rfl) (by kernel_rfl) (fun _ _ _ h => h) (Or.inl ⟨by rfl, ?hye228⟩) hHeld ?reste228
                    case hye228 => (intro w hSw; (try dsimp only at hSw); go_simp; try with_reducible rfl)
                    try simp only [Act.put, List.setIfInBounds_toArray, List.set_cons_zero, List.set_cons_succ]
                    refine take_at (i := 29) (d := some 132) (v := ?ve229) rfl rfl (by kernel_rfl) (by kernel_rfl) (by kernel_rfl) (fun _ _ _ h => h) (Or.inl ⟨by rfl, ?hye229⟩) hHeld ?reste229
                    case hye229 => (intro w hSw; (try dsimp only at hSw); go_simp; try with_reducible rfl)
                    try simp only [Act.put, List.setIfInBounds_toArray, List.set_cons_zero, List.set_cons_succ]
                    refine take_at (i := 30) (d := some 133) (v := ?ve230) rfl rfl (by kernel_rfl) (by kernel_rfl) (by kernel_rfl) (fun _ _ _ h => h) (Or.inl ⟨by rfl, ?hye230⟩) hHeld ?reste230
                    case hye230 => (intro w hSw; (try dsimp only at hSw); go_simp; try with_reducible rfl)
                    try simp only [Act.put, List.setIfInBounds_toArray, List.set_cons_zero, List.set_cons_succ]
                    refine take_at (i := 31) (d := some 134) (v := ?ve231) rfl rfl (by kernel_rfl) (by kernel_rfl) (by kernel_rfl) (fun _ _ _ h => h) (Or.inl ⟨by rfl, ?hye231⟩) hHeld ?reste231
                    case hye231 => (intro w hSw; (try dsimp only at hSw); go_simp; try with_reducible rfl)
                    try simp only [Act.put, List.setIfInBounds_toArray, List.set_cons_zero, List.set_cons_succ]
                    refine take_at (i := 32) (d := some 135) (v := ?ve232) rfl rfl (by kernel_rfl) (by kernel_rfl) (by kernel_rfl) (fun _ _ _ h => h) (Or.inl ⟨by rfl, ?hye232⟩) hHeld ?reste232
                    case hye232 => (intro w hSw; (try dsimp only at hSw); go_simp; try with_reducible rfl)
                    try simp only [Act.put, List.setIfInBounds_toArray, List.set_cons_zero, List.set_cons_succ]
                    refine take_at (i := 33) (d := some 136) (v := ?ve233) rfl rfl (by kernel_rfl) (by kernel_rfl) (by kernel_rfl) (fun _ _ _ h => h) (Or.inl ⟨by rfl, ?hye233⟩) hHeld ?reste233
                    case hye233 => (intro w hSw; (try dsimp only at hSw); go_simp; try with_reducible rfl)
                    try simp only [Act.put, List.setIfInBounds_toArray, List.set_cons_zero, List.set_cons_succ]
                    refine take_at (i := 34) (d := some 137) (v := ?ve234) rfl rfl (by kernel_rfl) (by kernel_rfl) (by kernel_rfl) (fun _ _ _ h => h) (Or.inl ⟨by rfl, ?hye234⟩) hHeld ?reste234
                    case hye234 => (intro w hSw; (try dsimp only at hSw); go_simp; try with_reducible rfl)
                    try simp only [Act.put, List.setIfInBounds_toArray, List.set_cons_zero, List.set_cons_succ]
                    refine take_at (i := 35) (d := some 138) (v := ?ve235) rfl rfl (by kernel_rfl) (by kernel_rfl) (by kernel_rfl) (fun _ _ _ h => h) (Or.inl ⟨by rfl, ?hye235⟩) hHeld ?reste235
                    case hye235 => (intro w hSw; (try dsimp only at hSw); go_simp; try with_reducible rfl)
                    try simp only [Act.put, List.setIfInBounds_toArray, List.set_cons_zero, List.set_cons_succ]
                    refine take_at (i := 36) (d := some 139) (v := ?ve236) rfl rfl (by kernel_rfl) (by kernel_rfl) (by kernel_rfl) (fun _ _ _ h => h) (Or.inl ⟨by rfl, ?hye236⟩) hHeld ?reste236
                    case hye236 => (intro w hSw; (try dsimp only at hSw); go_simp; try with_reducible rfl)
                    try simp only [Act.put, List.setIfInBounds_toArray, List.set_cons_zero, List.set_cons_succ]
                    refine take_at (i := 37) (d := some 140) (v := ?ve237) rfl rfl (by kernel_rfl) (by kernel_rfl) (by kernel_rfl) (fun _ _ _ h => h) (Or.inl ⟨by rfl, ?hye237⟩) hHeld ?reste237
                    case hye237 => (intro w hSw; (try dsimp only at hSw); go_simp; try with_reducible rfl)
                    try simp only [Act.put, List.setIfInBounds_toArray, List.set_cons_zero, List.set_cons_succ]
                    refine take_at (i := 39) (d := some 142) (v := ?ve239) rfl rfl (by kernel_rfl) (by kernel_rfl) (by kernel_rfl) (fun _ _ _ h => h) (Or.inl ⟨by rfl, ?hye239⟩) hHeld ?reste239
                    case hye239 => (intro w hSw; (try dsimp only at hSw); go_simp; try with_reducible rfl)
                    try simp only [Act.put, List.setIfInBounds_toArray, List.set_cons_zero, List.set_cons_succ]
                    refine take_at (i := 40) (d := some 143) (v := ?ve240) rfl rfl (by kernel_rfl) (by kernel_rfl) (by kernel_rfl) (fun _ _ _ h => h) (Or.inl ⟨by rfl, ?hye240⟩) hHeld ?reste240
                    case hye240 => (intro w hSw; (try dsimp only at hSw); go_simp; try with_reducible rfl)
                    try simp only [Act.put, List.setIfInBounds_toArray, List.set_cons_zero, List.set_cons_succ]
                    refine take_at (i := 41) (d := some 144) (v := ?ve241) rfl rfl (by kernel_rfl) (by kernel_rfl) (by kernel_rfl) (fun _ _ _ h => h) (Or.inl ⟨by rfl, ?hye241⟩) hHeld ?reste241
                    case hye241 => (intro w hSw; (try dsimp only at hSw); go_simp; try with_reducible rfl)
                    try simp only [Act.put, List.setIfInBounds_toArray, List.set_cons_zero, List.set_cons_succ]
                    refine take_at (i := 42) (d := some 145) (v := ?ve242) rfl rfl (by kernel_rfl) (by kernel_rfl) (by kernel_rfl) (fun _ _ _ h => h) (Or.inl ⟨by rfl, ?hye242⟩) hHeld ?reste242
                    case hye242 => (intro w hSw; (try dsimp only at hSw); go_simp; try with_reducible rfl)
                    try simp only [Act.put, List.setIfInBounds_toArray, List.set_cons_zero, List.set_cons_succ]
                    refine take_at (i := 43) (d := some 146) (v := ?ve243) rfl rfl (by kernel_rfl) (by kernel_rfl) (by kernel_rfl) (fun _ _ _ h => h) (Or.inl ⟨by rfl, ?hye243⟩) hHeld ?reste243
                    case hye243 => (intro w hSw; (try dsimp only at hSw); go_simp; try with_reducible rfl)
                    try simp only [Act.put, List.setIfInBounds_toArray, List.set_cons_zero, List.set_cons_succ]
                    refine wpAnyH_ready (rs := [38]) (by kernel_rfl) (by simp) ?_
                    refine AllReadyH.cons rfl (fun K hK => ?_) AllReadyH.nil
                    go_simp
                    (with_reducible refine (Gk.out _ hHeld.2.2).mono ?_)
                    rintro e w' ⟨u, rfl, ho, hb⟩
                    obtain ⟨A3, c3, rfl, hc3, hn3, hC3⟩ := Cells.of_own ho
                    have hh3 := has_any A3 c3 _ xi _ hC3 hc3 (groupK_len (by have := HLn.out; omega))
                    rw [HSF.out] at hh3
                    have HH3 := Aside.mk hh3
                    refine hK.out _ _ (⟨cell_below hb hHeld.1, cell_below hb hHeld.2.1, hHeld.2.2.later hb⟩) (fun hHeld' => ?_)
                    clear hK K hHeld ho hb hc3 hn3 hC3 hh3
                    have hHeld := hHeld'
                    clear hHeld'
                    try simp only [Act.put, List.setIfInBounds_toArray, List.set_cons_zero, List.set_cons_succ]
                    refine wpAnyH_ready (rs := [44]) (by kernel_rfl) (by simp) ?_
                    refine AllReadyH.cons rfl (fun K hK => ?_) AllReadyH.nil
                    go_simp
                    (with_reducible refine HH3.out.mono ?_)
                    rintro e w' ⟨rfl, rfl⟩
                    refine hK.out _ _ (hHeld) (fun hHeld' => ?_)
                    clear hK K hHeld
                    have hHeld := hHeld'
                    clear hHeld'
                    try simp only [Act.put, List.setIfInBounds_toArray, List.set_cons_zero, List.set_cons_succ]
                    refine take_at (i := 45) (d := some 148) (v := ?ve245) rfl rfl (by kernel_rfl) (by kernel_rfl) (by kernel_rfl) (fun _ _ _ h => h) (Or.inl ⟨by rfl, ?hye245⟩) hHeld ?reste245
                    case hye245 => (intro w hSw; (try dsimp only at hSw); go_simp; try with_reducible rfl)
                    try simp only [Act.put, List.setIfInBounds_toArray, List.set_cons_zero, List.set_cons_succ]
                    refine take_at (i := 46) (d := some 149) (v := ?ve246) rfl rfl (by kernel_rfl) (by kernel_rfl) (by kernel_rfl) (fun _ _ _ h => h) (Or.inl ⟨by rfl, ?hye246⟩) hHeld ?reste246
                    case hye246 => (intro w hSw; (try dsimp only at hSw); go_simp; try with_reducible rfl)
                    try simp only [Act.put, List.setIfInBounds_toArray, List.set_cons_zero, List.set_cons_succ]
                    refine wpAnyH_done (by kernel_rfl) ?_ _
                    refine NoPanic.normal ?_
                    have HM7 := Aside.mk hHeld.2.2
                    clear hHeld
                    go_wp2
                    go_roundw
                    case rel => exact ⟨k + 1, by omega, by go_num, HM7⟩
                    case measure => simp [intOf]; omega
                  · have hkm1 : ((k : Int) == (m : Int)) = false := beq_eq_false_iff_ne.2 (by omega)
                    obtain ⟨bb, hbb⟩ : ∃ b, (groupK ks srt2 xi).contains yi = b := ⟨_, rfl⟩
                    have HBB := Aside.mk hbb
                    have HBS := Aside.mk (hsym.symm.trans hbb)
                    clear hkm hsym hbb hself hy' hxm hym
                    go_wp2_with fail
                    refine wp_region_noPanic ?_
                    refine wp_region_held_drew (S := fun W => W.cell? (la.add (k * 6)) = some (.int .i64 xi) ∧ W.cell? (la.add (m * 6)) = some (.int .i64 yi) ∧ GAt w W lo hi so (some la) (some ma) ks srt2) (by kernel_rfl) (⟨c0, c1, HM.out.later (below_drewN (below_refl wr) 1)⟩) (fun hHeld => ?_)
                    refine take_at (i := 0) (d := some 103) (v := ?vn20) rfl rfl (by kernel_rfl) (by kernel_rfl) (by kernel_rfl) (fun _ _ _ h => h) (Or.inl ⟨by rfl, ?hyn20⟩) hHeld ?restn20
                    case hyn20 => (intro w hSw; (try dsimp only at hSw); go_simp; try with_reducible rfl)
                    try simp only [Act.put, List.setIfInBounds_toArray, List.set_cons_zero, List.set_cons_succ]
                    refine take_at (i := 1) (d := some 104) (v := ?vn21) rfl rfl (by kernel_rfl) (by kernel_rfl) (by kernel_rfl) (fun _ _ _ h => h) (Or.inl ⟨by rfl, ?hyn21⟩) hHeld ?restn21
                    case hyn21 => (intro w hSw; (try dsimp only at hSw); go_simp; try with_reducible rfl)
                    try simp only [Act.put, List.setIfInBounds_toArray, List.set_cons_zero, List.set_cons_succ]
                    refine take_at (i := 2) (d := some 105) (v := ?vn22) rfl rfl (by kernel_rfl) (by kernel_rfl) (by kernel_rfl) (fun _ _ _ h => h) (Or.inl ⟨by rfl, ?hyn22⟩) hHeld ?restn22
                    case hyn22 => (intro w hSw; (try dsimp only at hSw); go_simp; try with_reducible rfl)
                    try simp only [Act.put, List.setIfInBounds_toArray, List.set_cons_zero, List.set_cons_succ]
                    refine take_at (i := 3) (d := some 106) (v := ?vn23) rfl rfl (by kernel_rfl) (by kernel_rfl) (by kernel_rfl) (fun _ _ _ h => h) (Or.inl ⟨by rfl, ?hyn23⟩) hHeld ?restn23
                    case hyn23 => (intro w hSw; (try dsimp only at hSw); go_simp; try with_reducible rfl)
                    try simp only [Act.put, List.setIfInBounds_toArray, List.set_cons_zero, List.set_cons_succ]
                    refine take_at (i := 4) (d := some 107) (v := ?vn24) rfl rfl (by kernel_rfl) (by kernel_rfl) (by kernel_rfl) (fun _ _ _ h => h) (Or.inl ⟨by rfl, ?hyn24⟩) hHeld ?restn24
                    case hyn24 => (intro w hSw; (try dsimp only at hSw); go_simp; try with_reducible rfl)
                    try simp only [Act.put, List.setIfInBounds_toArray, List.set_cons_zero, List.set_cons_succ]
                    refine take_at (i := 5) (d := some 108) (v := ?vn25) rfl rfl (by kernel_rfl) (by kernel_rfl) (by kernel_rfl) (fun _ _ _ h => h) (Or.inl ⟨by rfl, ?hyn25⟩) hHeld ?restn25
                    case hyn25 => (intro w hSw; (try dsimp only at hSw); go_simp; try with_reducible rfl)
                    try simp only [Act.put, List.setIfInBounds_toArray, List.set_cons_zero, List.set_cons_succ]
                    refine take_at (i := 7) (d := some 110) (v := ?vn27) rfl rfl (by kernel_rfl) (by kernel_rfl) (by kernel_rfl) (fun _ _ _ h => h) (Or.inl ⟨by rfl, ?hyn27⟩) hHeld ?restn27
                    case hyn27 => (intro w hSw; (try dsimp only at hSw); go_simp; try with_reducible rfl)
                    try simp only [Act.put, List.setIfInBounds_toArray, List.set_cons_zero, List.set_cons_succ]
                    refine take_at (i := 8) (d := some 111) (v := ?vn28) rfl rfl (by kernel_rfl) (by kernel_rfl) (by kernel_rfl) (fun _ _ _ h => h) (Or.inl ⟨by rfl, ?hyn28⟩) hHeld ?restn28
                    case hyn28 => (intro w hSw; (try dsimp only at hSw); go_simp; try with_reducible rfl)
                    try simp only [Act.put, List.setIfInBounds_toArray, List.set_cons_zero, List.set_cons_succ]
                    refine take_at (i := 9) (d := some 112) (v := ?vn29) rfl rfl (by kernel_rfl) (by kernel_rfl) (by kernel_rfl) (fun _ _ _ h => h) (Or.inl ⟨by rfl, ?hyn29⟩) hHeld ?restn29
                    case hyn29 => (intro w hSw; (try dsimp only at hSw); go_simp; try with_reducible rfl)
                    try simp only [Act.put, List.setIfInBounds_toArray, List.set_cons_zero, List.set_cons_succ]
                    refine take_at (i := 10) (d := some 113) (v := ?vn210) rfl rfl (by kernel_rfl) (by kernel_rfl) (by kernel_rfl) (fun _ _ _ h => h) (Or.inl ⟨by rfl, ?hyn210⟩) hHeld ?restn210
                    case hyn210 => (intro w hSw; (try dsimp only at hSw); go_simp; try with_reducible rfl)
                    try simp only [Act.put, List.setIfInBounds_toArray, List.set_cons_zero, List.set_cons_succ]
                    refine take_at (i := 11) (d := some 114) (v := ?vn211) rfl rfl (by kernel_rfl) (by kernel_rfl) (by kernel_rfl) (fun _ _ _ h => h) (Or.inl ⟨by rfl, ?hyn211⟩) hHeld ?restn211
                    case hyn211 => (intro w hSw; (try dsimp only at hSw); go_simp; try with_reducible rfl)
                    try simp only [Act.put, List.setIfInBounds_toArray, List.set_cons_zero, List.set_cons_succ]
                    refine take_at (i := 13) (d := some 116) (v := ?vn213) rfl rfl (by kernel_rfl) (by kernel_rfl) (by kernel_rfl) (fun _ _ _ h => h) (Or.inl ⟨by rfl, ?hyn213⟩) hHeld ?restn213
                    case hyn213 => (intro w hSw; (try dsimp only at hSw); go_simp; try with_reducible rfl)
                    try simp only [Act.put, List.setIfInBounds_toArray, List.set_cons_zero, List.set_cons_succ]
                    refine take_at (i := 14) (d := some 117) (v := ?vn214) rfl rfl (by kernel_rfl) (by kernel_rfl) (by kernel_rfl) (fun _ _ _ h => h) (Or.inl ⟨by rfl, ?hyn214⟩) hHeld ?restn214
                    case hyn214 => (intro w hSw; (try dsimp only at hSw); go_simp; try with_reducible rfl)
                    try simp only [Act.put, List.setIfInBounds_toArray, List.set_cons_zero, List.set_cons_succ]
                    refine take_at (i := 15) (d := some 118) (v := ?vn215) rfl rfl (by kernel_rfl) (by kernel_rfl) (by kernel_rfl) (fun _ _ _ h => h) (Or.inl ⟨by rfl, ?hyn215⟩) hHeld ?restn215
                    case hyn215 => (intro w hSw; (try dsimp only at hSw); go_simp; try with_reducible rfl)
                    try simp only [Act.put, List.setIfInBounds_toArray, List.set_cons_zero, List.set_cons_succ]
                    refine take_at (i := 16) (d := some 119) (v := ?vn216) rfl rfl (by kernel_rfl) (by kernel_rfl) (by kernel_rfl) (fun _ _ _ h => h) (Or.inl ⟨by rfl, ?hyn216⟩) hHeld ?restn216
                    case hyn216 => (intro w hSw; (try dsimp only at hSw); go_simp; try with_reducible rfl)
                    try simp only [Act.put, List.setIfInBounds_toArray, List.set_cons_zero, List.set_cons_succ]
                    refine take_at (i := 17) (d := some 120) (v := ?vn217) rfl rfl (by kernel_rfl) (by kernel_rfl) (by kernel_rfl) (fun _ _ _ h => h) (Or.inl ⟨by rfl, ?hyn217⟩) hHeld ?restn217
                    case hyn217 => (intro w hSw; (try dsimp only at hSw); go_simp; try with_reducible rfl)
                    try simp only [Act.put, List.setIfInBounds_toArray, List.set_cons_zero, List.set_cons_succ]
                    refine take_at (i := 18) (d := some 121) (v := ?vn218) rfl rfl (by kernel_rfl) (by kernel_rfl) (by kernel_rfl) (fun _ _ _ h => h) (Or.inl ⟨by rfl, ?hyn218⟩) hHeld ?restn218
                    case hyn218 => (intro w hSw; (try dsimp only at hSw); go_simp; try with_reducible rfl)
                    try simp only [Act.put, List.setIfInBounds_toArray, List.set_cons_zero, List.set_cons_succ]
                    refine take_at (i := 20) (d := some 123) (v := ?vn220) rfl rfl (by kernel_rfl) (by kernel_rfl) (by kernel_rfl) (fun _ _ _ h => h) (Or.inl ⟨by rfl, ?hyn220⟩) hHeld ?restn220
                    case hyn220 => (intro w hSw; (try dsimp only at hSw); go_simp; try with_reducible rfl)
                    try simp only [Act.put, List.setIfInBounds_toArray, List.set_cons_zero, List.set_cons_succ]
                    refine take_at (i := 21) (d := some 124) (v := ?vn221) rfl rfl (by kernel_rfl) (by kernel_rfl) (by kernel_rfl) (fun _ _ _ h => h) (Or.inl ⟨by rfl, ?hyn221⟩) hHeld ?restn221
                    case hyn221 => (intro w hSw; (try dsimp only at hSw); go_simp; try with_reducible rfl)
                    try simp only [Act.put, List.setIfInBounds_toArray, List.set_cons_zero, List.set_cons_succ]
                    refine take_at (i := 22) (d := some 125) (v := ?vn222) rfl rfl (by kernel_rfl) (by kernel_rfl) (by kernel_rfl) (fun _ _ _ h => h) (Or.inl ⟨by rfl, ?hyn222⟩) hHeld ?restn222
                    case hyn222 => (intro w hSw; (try dsimp only at hSw); go_simp; try with_reducible rfl)
                    try simp only [Act.put, List.setIfInBounds_toArray, List.set_cons_zero, List.set_cons_succ]
                    refine take_at (i := 23) (d := some 126) (v := ?vn223) rfl rfl (by kernel_rfl) (by kernel_rfl) (by kernel_rfl) (fun _ _ _ h => h) (Or.inl ⟨by rfl, ?hyn223⟩) hHeld ?restn223
                    case hyn223 => (intro w hSw; (try dsimp only at hSw); go_simp; try with_reducible rfl)
                    try simp only [Act.put, List.setIfInBounds_toArray, List.set_cons_zero, List.set_cons_succ]
                    refine take_at (i := 24) (d := some 127) (v := ?vn224) rfl rfl (by kernel_rfl) (by kernel_rfl) (by kernel_rfl) (fun _ _ _ h => h) (Or.inl ⟨by rfl, ?hyn224⟩) hHeld ?restn224
                    case hyn224 => (intro w hSw; (try dsimp only at hSw); go_simp; try with_reducible rfl)
                    try simp only [Act.put, List.setIfInBounds_toArray, List.set_cons_zero, List.set_cons_succ]
                    refine wpAnyH_ready (rs := [6]) (by kernel_rfl) (by simp) ?_
                    refine AllReadyH.cons rfl (fun K hK => ?_) AllReadyH.nil
                    go_simp
                    (with_reducible refine (Gk.out _ hHeld.2.2).mono ?_)
                    rintro e w' ⟨u, rfl, ho, hb⟩
                    obtain ⟨A1, c1, rfl, hc1, hn1, hC1⟩ := Cells.of_own ho
                    have hh1 := has_any A1 c1 _ yi _ hC1 hc1 (groupK_len (by have := HLn.out; omega))
                    rw [HBB.out] at hh1
                    have HH1 := Aside.mk hh1
                    refine hK.out _ _ (⟨cell_below hb hHeld.1, cell_below hb hHeld.2.1, hHeld.2.2.later hb⟩) (fun hHeld' => ?_)
                    clear hK K hHeld ho hb hc1 hn1 hC1 hh1
                    have hHeld := hHeld'
                    clear hHeld'
                    try simp only [Act.put, List.setIfInBounds_toArray, List.set_cons_zero, List.set_cons_succ]
                    refine wpAnyH_ready (rs := [12]) (by kernel_rfl) (by simp) ?_
                    refine AllReadyH.cons rfl (fun K hK => ?_) AllReadyH.nil
                    go_simp
                    (with_reducible refine HH1.out.mono ?_)
                    rintro e w' ⟨rfl, rfl⟩
                    refine hK.out _ _ (hHeld) (fun hHeld' => ?_)
                    clear hK K hHeld
                    have hHeld := hHeld'
                    clear hHeld'
                    try simp only [Act.put, List.setIfInBounds_toArray, List.set_cons_zero, List.set_cons_succ]
                    refine wpAnyH_ready (rs := [19]) (by kernel_rfl) (by simp) ?_
                    refine AllReadyH.cons rfl (fun K hK => ?_) AllReadyH.nil
                    go_simp
                    (with_reducible refine (Gm.out _ hHeld.2.2).mono ?_)
                    rintro e w' ⟨u, rfl, ho, hb⟩
                    obtain ⟨A2, c2, rfl, hc2, hn2, hC2⟩ := Cells.of_own ho
                    have hh2 := has_any A2 c2 _ xi _ hC2 hc2 (groupK_len (by have := HLn.out; omega))
                    rw [HBS.out] at hh2
                    have HH2 := Aside.mk hh2
                    refine hK.out _ _ (⟨cell_below hb hHeld.1, cell_below hb hHeld.2.1, hHeld.2.2.later hb⟩) (fun hHeld' => ?_)
                    clear hK K hHeld ho hb hc2 hn2 hC2 hh2
                    have hHeld := hHeld'
                    clear hHeld'
                    try simp only [Act.put, List.setIfInBounds_toArray, List.set_cons_zero, List.set_cons_succ]
                    refine wpAnyH_ready (rs := [25]) (by kernel_rfl) (by simp) ?_
                    refine AllReadyH.cons rfl (fun K hK => ?_) AllReadyH.nil
                    go_simp
                    (with_reducible refine HH2.out.mono ?_)
                    rintro e w' ⟨rfl, rfl⟩
                    refine hK.out _ _ (hHeld) (fun hHeld' => ?_)
                    clear hK K hHeld
                    have hHeld := hHeld'
                    clear hHeld'
                    try simp only [Act.put, List.setIfInBounds_toArray, List.set_cons_zero, List.set_cons_succ]
                    refine take_at (i := 26) (d := some 129) (v := ?vn226) rfl rfl (by kernel_rfl) (by kernel_rfl) (by kernel_rfl) (fun _ _ _ h => h) (Or.inl ⟨by rfl, ?hyn226⟩) hHeld ?restn226
                    case hyn226 => (intro w hSw; (try dsimp only at hSw); go_simp; try with_reducible rfl)
                    try simp only [Act.put, List.setIfInBounds_toArray, List.set_cons_zero, List.set_cons_succ]
                    refine take_at (i := 27) (d := some 130) (v := ?vn227) rfl rfl (by kernel_rfl) (by kernel_rfl) (by kernel_rfl) (fun _ _ _ h => h) (Or.inl ⟨by rfl, ?hyn227⟩) hHeld ?restn227
                    case hyn227 => (intro w hSw; (try dsimp only at hSw); go_simp; try with_reducible rfl)
                    try simp only [Act.put, List.setIfInBounds_toArray, List.set_cons_zero, List.set_cons_succ]
                    refine take_at (i := 28) (d := some 131) (v := ?vn228) rfl rfl (by kernel_rfl) (by kernel_rfl) (by kernel_rfl) (fun _ _ _ h => h) (Or.inl ⟨by rfl, ?hyn228⟩) hHeld ?restn228
                    case hyn228 => (intro w hSw; (try dsimp only at hSw); go_simp; try with_reducible rfl)
                    try simp only [Act.put, List.setIfInBounds_toArray, List.set_cons_zero, List.set_cons_succ]
                    refine take_at (i := 29) (d := some 132) (v := ?vn229) rfl rfl (by kernel_rfl) (by kernel_rfl) (by kernel_rfl) (fun _ _ _ h => h) (Or.inl ⟨by rfl, ?hyn229⟩) hHeld ?restn229
                    case hyn229 => (intro w hSw; (try dsimp only at hSw); go_simp; try with_reducible rfl)
                    try simp only [Act.put, List.setIfInBounds_toArray, List.set_cons_zero, List.set_cons_succ]
                    refine take_at (i := 30) (d := some 133) (v := ?vn230) rfl rfl (by kernel_rfl) (by kernel_rfl) (by kernel_rfl) (fun _ _ _ h => h) (Or.inl ⟨by rfl, ?hyn230⟩) hHeld ?restn230
                    case hyn230 => (intro w hSw; (try dsimp only at hSw); go_simp; try with_reducible rfl)
                    try simp only [Act.put, List.setIfInBounds_toArray, List.set_cons_zero, List.set_cons_succ]
                    refine take_at (i := 31) (d := some 134) (v := ?vn231) rfl rfl (by kernel_rfl) (by kernel_rfl) (by kernel_rfl) (fun _ _ _ h => h) (Or.inl ⟨by rfl, ?hyn231⟩) hHeld ?restn231
                    case hyn231 => (intro w hSw; (try dsimp only at hSw); go_simp; try with_reducible rfl)
                    try simp only [Act.put, List.setIfInBounds_toArray, List.set_cons_zero, List.set_cons_succ]
                    refine take_at (i := 32) (d := some 135) (v := undef) rfl rfl (by kernel_rfl) (by kernel_rfl) (by kernel_rfl) (fun _ _ _ h => h) (Or.inr ⟨by rfl, rfl⟩) hHeld ?restn232
                    try simp only [Act.put, List.setIfInBounds_toArray, List.set_cons_zero, List.set_cons_succ]
                    refine take_at (i := 33) (d := some 136) (v := undef) rfl rfl (by kernel_rfl) (by kernel_rfl) (by kernel_rfl) (fun _ _ _ h => h) (Or.inr ⟨by rfl, rfl⟩) hHeld ?restn233
                    try simp only [Act.put, List.setIfInBounds_toArray, List.set_cons_zero, List.set_cons_succ]
                    refine take_at (i := 34) (d := some 137) (v := undef) rfl rfl (by kernel_rfl) (by kernel_rfl) (by kernel_rfl) (fun _ _ _ h => h) (Or.inr ⟨by rfl, rfl⟩) hHeld ?restn234
                    try simp only [Act.put, List.setIfInBounds_toArray, List.set_cons_zero, List.set_cons_succ]
                    refine take_at (i := 35) (d := some 138) (v := undef) rfl rfl (by kernel_rfl) (by kernel_rfl) (by kernel_rfl) (fun _ _ _ h => h) (Or.inr ⟨by rfl, rfl⟩) hHeld ?restn235
                    try simp only [Act.put, List.setIfInBounds_toArray, List.set_cons_zero, List.set_cons_succ]
                    refine take_at (i := 36) (d := some 139) (v := undef) rfl rfl (by kernel_rfl) (by kernel_rfl) (by kernel_rfl) (fun _ _ _ h => h) (Or.inr ⟨by rfl, rfl⟩) hHeld ?restn236
                    try simp only [Act.put, List.setIfInBounds_toArray, List.set_cons_zero, List.set_cons_succ]
                    refine take_at (i := 37) (d := some 140) (v := undef) rfl rfl (by kernel_rfl) (by kernel_rfl) (by kernel_rfl) (fun _ _ _ h => h) (Or.inr ⟨by rfl, rfl⟩) hHeld ?restn237
                    try simp only [Act.put, List.setIfInBounds_toArray, List.set_cons_zero, List.set_cons_succ]
                    refine take_at (i := 38) (d := some 141) (v := undef) rfl rfl (by kernel_rfl) (by kernel_rfl) (by kernel_rfl) (fun _ _ _ h => h) (Or.inr ⟨by rfl, rfl⟩) hHeld ?restn238
                    try simp only [Act.put, List.setIfInBounds_toArray, List.set_cons_zero, List.set_cons_succ]
                    refine take_at (i := 39) (d := some 142) (v := undef) rfl rfl (by kernel_rfl) (by kernel_rfl) (by kernel_rfl) (fun _ _ _ h => h) (Or.inr ⟨by rfl, rfl⟩) hHeld ?restn239
                    try simp only [Act.put, List.setIfInBounds_toArray, List.set_cons_zero, List.set_cons_succ]
                    refine take_at (i := 40) (d := some 143) (v := undef) rfl rfl (by kernel_rfl) (by kernel_rfl) (by kernel_rfl) (fun _ _ _ h => h) (Or.inr ⟨by rfl, rfl⟩) hHeld ?restn240
                    try simp only [Act.put, List.setIfInBounds_toArray, List.set_cons_zero, List.set_cons_succ]
                    refine take_at (i := 41) (d := some 144) (v := undef) rfl rfl (by kernel_rfl) (by kernel_rfl) (by kernel_rfl) (fun _ _ _ h => h) (Or.inr ⟨by rfl, rfl⟩) hHeld ?restn241
                    try simp only [Act.put, List.setIfInBounds_toArray, List.set_cons_zero, List.set_cons_succ]
                    refine take_at (i := 42) (d := some 145) (v := undef) rfl rfl (by kernel_rfl) (by kernel_rfl) (by kernel_rfl) (fun _ _ _ h => h) (Or.inr ⟨by rfl, rfl⟩) hHeld ?restn242
                    try simp only [Act.put, List.setIfInBounds_toArray, List.set_cons_zero, List.set_cons_succ]
                    refine take_at (i := 43) (d := some 146) (v := undef) rfl rfl (by kernel_rfl) (by kernel_rfl) (by kernel_rfl) (fun _ _ _ h => h) (Or.inr ⟨by rfl, rfl⟩) hHeld ?restn243
                    try simp only [Act.put, List.setIfInBounds_toArray, List.set_cons_zero, List.set_cons_succ]
                    refine take_at (i := 44) (d := some 147) (v := undef) rfl rfl (by kernel_rfl) (by kernel_rfl) (by kernel_rfl) (fun _ _ _ h => h) (Or.inr ⟨by rfl, rfl⟩) hHeld ?restn244
                    try simp only [Act.put, List.setIfInBounds_toArray, List.set_cons_zero, List.set_cons_succ]
                    refine take_at (i := 45) (d := some 148) (v := ?vn245) rfl rfl (by kernel_rfl) (by kernel_rfl) (by kernel_rfl) (fun _ _ _ h => h) (Or.inl ⟨by rfl, ?hyn245⟩) hHeld ?restn245
                    case hyn245 => (intro w hSw; (try dsimp only at hSw); go_simp; try with_reducible rfl)
                    try simp only [Act.put, List.setIfInBounds_toArray, List.set_cons_zero, List.set_cons_succ]
                    refine take_at (i := 46) (d := some 149) (v := ?vn246) rfl rfl (by kernel_rfl) (by kernel_rfl) (by kernel_rfl) (fun _ _ _ h => h) (Or.inl ⟨by rfl, ?hyn246⟩) hHeld ?restn246
                    case hyn246 => (intro w hSw; (try dsimp only at hSw); go_simp; try with_reducible rfl)
                    try simp only [Act.put, List.setIfInBounds_toArray, List.set_cons_zero, List.set_cons_succ]
                    refine wpAnyH_done (by kernel_rfl) ?_ _
                    refine NoPanic.normal ?_
                    have HM7 := Aside.mk hHeld.2.2
                    clear hHeld
                    go_wp2
                    go_roundw
                    case rel => exact ⟨m + 1, by omega, by go_num, HM7⟩
                    case measure => simp [intOf]; omega
                · have hmk : ks.length = m := by omega
                  subst hmk
                  go_wp2
                  go_roundw
                  case rel => exact ⟨k + 1, by omega, by go_num, HM⟩
                  case measure => simp [intOf]; omega
          · have hkk : k = ks.length := by omega
            have HB5 := Aside.mk HN.out.below
            clear hkk
            go_wp2_with fail
            (with_reducible refine (HK.out _).mono ?_)
            rintro e w8 ⟨rfl, hb8⟩
            have HB8 := Aside.mk (below_then HB5.out hb8)
            clear hb8
            go_wp2
            go_ret
            exact ⟨rfl, HB8.out⟩
end Go.Proofs.Ytaejlgdmalhhnaa
