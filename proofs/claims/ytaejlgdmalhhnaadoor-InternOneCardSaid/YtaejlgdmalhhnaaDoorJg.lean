/- Layer 7: InternOne's walk. -/
import Derived.Test.YtaejlgdmalhhnaaDoorJf
import Derived.BigQuiet
set_option linter.unusedVariables false
set_option linter.unusedSimpArgs false
namespace Go.Proofs.YtaejlgdmalhhnaaDoor
open Go.RowKit Go.Maps

/-- An Add of a row that came in; what is the table's is told. -/
theorem add_inG {w W : World} {tb : Nat} {so : Option Addr} {mb lo hi : Nat} {ks srt : List Ky} {P : Ps} {free : List Int} {empty : Int} {cnt : Nat} {O : Nat → Prop} (s : Sl) (h : Run w W tb so mb lo hi ks srt P free empty cnt O) (hcn : cnt ≤ 100000) (hT : Lib.Utf8Tabs 1 2 w) (hs : s.ok w) :
    ∃ P' free' empty' id err, addP ks P free empty s.l = (P', free', empty', id, err) ∧ Calls Tryd.prog 35 #[.pointer (some ⟨tb, 0, none⟩), .slice s.A s.l.length s.c] W (RunPost w W tb so mb lo hi ks srt P' free' empty' (cnt + 1) O (.tuple #[.int .i64 id, .int .i64 err])) := by
  obtain ⟨⟨P', free', empty', id, err⟩, ha⟩ : ∃ r, addP ks P free empty s.l = r := ⟨_, rfl⟩
  refine ⟨P', free', empty', id, err, ha, ?_⟩
  obtain ⟨A, c, l⟩ := s
  obtain ⟨h1, h2, h3, h4, h5⟩ := hs
  by_cases hl : l = []
  · have ha' : addP ks P free empty [] = (P', free', empty', id, err) := by rw [← hl]; exact ha
    obtain ⟨pv, fv, E, hE, ht⟩ := h.tab
    subst hE
    have hm : mayA ks [] = 0 := by unfold mayA; simp
    have e0 : addP ks (E.map pr) free empty [] = (E.map pr, free, empty + 1, 0, 0) := by unfold addP; rw [if_neg (by rw [hm]; simp), if_pos rfl]
    rw [e0] at ha'
    simp only [Prod.mk.injEq] at ha'
    obtain ⟨rfl, rfl, rfl, rfl, rfl⟩ := ha'
    exact (add_empty A c l ht hcn h.sch (tabs_below hT h.below) (h4.below h.below) h1 hl).mono fun e W' hp => ⟨(h.step hp).1, (h.step hp).2, hp.2.2⟩
  · exact run_add A c l h hcn hT (h4.below h.below) h1 h2 h3 (arg_far h h4 hl) h5 ha
theorem One.grow {w W W' : World} {tb : Nat} {so : Option Addr} {mb lo hi : Nat} {ks srt : List Ky} {P : Ps} {free : List Int} {empty : Int} {cnt k : Nat} {O : Nat → Prop} {iv sv : Value} {E : List (Int × Sl)} (hR : Run w W' tb so mb lo hi ks srt P free empty cnt (Grow O W W')) (ht : Turn O W W') (hG : Got P empty (E.map fun q => (q.1, q.2.l))) (hB : Both w W hi O iv sv E) (hc : cnt ≤ k) (hE : E.length ≤ k) : One w W' tb so mb lo hi ks srt iv sv E k :=
  ⟨P, free, empty, cnt, _, hR, hG, hB.turn ht, hc, hE⟩
set_option maxRecDepth 100000 in
set_option maxHeartbeats 4000000 in
theorem one_known (A : Option Addr) (c : Nat) (ks : List Ky) (AL : Option Addr) (cL : Nat) (L : List Sl) (w : World) (hc : ks.length ≤ c) (hl : ks.length ≤ 9223372036854775807) (hA : A = none → c = 0) (hS : KSrc w A ks) (hwf : ∀ k ∈ ks, (Lit.int .i64 k.id).wf = true) (hT : Lib.Utf8Tabs 1 2 w) (hL : L.length ≤ 9223372036854775807)
    (hk : okKs ks = false ∨ 60 < L.length) : Calls Tryd.prog 17 #[.slice A ks.length c, .slice AL L.length cL] w fun e w' => e = .returned (.bool true) ∧ Below w.heap.size w w' := by
  have HK := Aside.mk (fun W (h : Below w.heap.size w W) => known7_any W (tabs_below hT h))
  have N := Aside.mk (new_any A c ks w hc hS hA hl hwf)
  cases hok : okKs ks with
  | false =>
    have HO := Aside.mk hok
    clear hc hl hA hS hwf hT hk hok hL
    go_enter Tryd.func17, Tryd.ntmps17
    go_wp2_with fail
    (with_reducible refine N.out.mono ?_)
    rintro e w1 ⟨hb1, h1⟩
    rw [HO.out] at h1
    obtain rfl : e = .returned (.tuple #[.pointer none, .int .i64 3]) := h1
    have HB1 := Aside.mk hb1
    clear hb1
    go_wp2_with fail
    (with_reducible refine (HK.out _ HB1.out).mono ?_)
    rintro e w2 ⟨rfl, hb2⟩
    have HB := Aside.mk (below_then HB1.out hb2)
    clear hb2
    go_wp2
    go_ret
    exact ⟨rfl, HB.out⟩
  | true =>
    have HO := Aside.mk hok
    by_cases hL60 : 60 < L.length
    · have g1 : (60 : Int) < (L.length : Int) := by omega
      clear hc hl hA hS hwf hT hk hok hL60 hL
      go_enter Tryd.func17, Tryd.ntmps17
      go_wp2_with fail
      (with_reducible refine N.out.mono ?_)
      rintro e w1 ⟨hb1, h1⟩
      rw [HO.out, if_pos rfl] at h1
      obtain ⟨v, srt, rfl, hS, hv, hp, hs⟩ := h1
      have hsp : ∃ so, v = .pointer so := by rcases hS with ⟨rfl, _⟩ | ⟨g, A, c, m, rfl, _⟩ <;> exact ⟨_, rfl⟩
      obtain ⟨so, rfl⟩ := hsp
      have HB1 := Aside.mk hb1
      clear hb1 hS hv hp hs
      go_wp2_with fail
      (with_reducible refine (HK.out _ HB1.out).mono ?_)
      rintro e w2 ⟨rfl, hb2⟩
      have HB := Aside.mk (below_then HB1.out hb2)
      clear hb2
      go_wp2
      go_ret
      exact ⟨rfl, HB.out⟩
    · exact absurd hk (by rw [hok]; simp; omega)
set_option maxRecDepth 100000 in
set_option maxHeartbeats 8000000 in
theorem one_in (A : Option Addr) (c : Nat) (ks : List Ky) (AL : Option Addr) (cL : Nat) (L : List Sl) (w : World) (hc : ks.length ≤ c) (hl : ks.length ≤ 9223372036854775807) (hA : A = none → c = 0) (hS : KSrc w A ks) (hwf : ∀ k ∈ ks, (Lit.int .i64 k.id).wf = true) (hT : Lib.Utf8Tabs 1 2 w) (hcL : L.length ≤ cL) (hLS : LSrc w AL L) (hLo : ∀ s ∈ L, s.ok w)
    (hok : okKs ks = true) (hL : L.length ≤ 60) : Calls Tryd.prog 17 #[.slice A ks.length c, .slice AL L.length cL] w fun e w' => e = .returned (.bool true) ∧ Below w.heap.size w w' := by
  have HT := Aside.mk hT
  have HK := Aside.mk (fun W (h : Below w.heap.size w W) => known7_any W (tabs_below hT h))
  have N := Aside.mk (new_any A c ks w hc hS hA hl hwf)
  have HO := Aside.mk hok
  have HLS := Aside.mk hLS
  have HLo := Aside.mk hLo
  have g1 : (L.length : Int) ≤ 60 := by omega
  have g3 : (L.length : Int) ≤ (cL : Int) := by omega
  clear hc hl hA hS hwf hT hok hcL hLS hLo
  go_enter Tryd.func17, Tryd.ntmps17
  go_wp2_with fail
  (with_reducible refine N.out.mono ?_)
  rintro e w1 ⟨hb1, h1⟩
  rw [HO.out, if_pos rfl] at h1
  obtain ⟨v, srt, rfl, hS, hv, hp, hs⟩ := h1
  have hsp : ∃ so, v = .pointer so := by rcases hS with ⟨rfl, _⟩ | ⟨g, A, c, m, rfl, _⟩ <;> exact ⟨_, rfl⟩
  obtain ⟨so, rfl⟩ := hsp
  have R2 := Aside.mk (run_new (w := w) hb1 hS (Nat.le_refl _))
  clear hS hv hp hs hb1
  go_wp2_with fail
  (with_reducible refine (new7_any so w1).mono ?_)
  rintro e w2 ⟨rfl, rfl⟩
  have H0 := Aside.mk (show One w (newW w1 (.pointer so)) (w1.heap.size + 1) so w1.heap.size w.heap.size w1.heap.size ks srt (.slice none 0 0) (.slice none 0 0) [] 0 from ⟨_, _, _, _, _, R2.out, Got.nil, Both.nil _ _ _ _, Nat.le_refl _, Nat.le_refl _⟩)
  go_wp2_with fail
  go_loopw [8, 9, 38] (fun iv sv i wr => ∃ (k : Nat) (E : List (Int × Sl)), k ≤ L.length ∧ i = .int .i64 k ∧ (∀ q ∈ E, q.2 ∈ L ∧ q.2.l.length ≤ 70) ∧ Aside (One w wr (w1.heap.size + 1) so w1.heap.size w.heap.size w1.heap.size ks srt iv sv E k)) (fun _ _ i _ => L.length - (intOf i).toNat)
  case atStart => exact ⟨0, [], Nat.zero_le _, rfl, fun q h => (by cases h), H0⟩
  case round =>
    obtain ⟨k, E, hk, rfl, hEL, HN⟩ := hrel
    have HKL := Aside.mk (show k ≤ 60 by omega)
    have HEL := Aside.mk hEL
    clear hEL
    by_cases hlt : k < L.length
    · have hkz : (k : Int) < (L.length : Int) := by omega
      rcases hAA : AL with _ | ad
      · exact absurd (HLS.out.1 hAA) (fun e => by rw [e] at hlt; exact absurd hlt (by simp))
      subst hAA
      obtain ⟨s, hx⟩ : ∃ s, L[k]? = some s := ⟨_, List.getElem?_eq_getElem hlt⟩
      have HSm := Aside.mk (List.mem_of_getElem? hx)
      have HSo := Aside.mk (HLo.out s (List.mem_of_getElem? hx))
      have hcell0 := HLS.out.2 ad rfl k s hx
      obtain ⟨P, free, empty, cnt, O, hR, hG, hB, hcn, hE⟩ := HN.out
      have hcell : wr.cell? (ad.add k) = some (.slice s.A s.l.length s.c) := cell_below hR.below hcell0
      have hsl : (s.l.length : Int) ≤ 9223372036854775807 := by have := HSo.out.2.1; omega
      by_cases h70 : 70 < s.l.length
      · have q : (70 : Int) < (s.l.length : Int) := by omega
        clear hx hR hG hB hcn hE hcell0
        go_wp2
        go_roundw
        case rel => exact ⟨k + 1, E, by omega, by go_num, HEL.out, ⟨HN.out.mono (by omega)⟩⟩
        case measure => simp [intOf]; omega
      · have q : (s.l.length : Int) ≤ 70 := by omega
        have H70 := Aside.mk h70
        obtain ⟨P2, free2, empty2, kid, er2, ha, hcall⟩ := add_inG s hR (by omega) HT.out HSo.out
        have HG := Aside.mk (hG.add hR.tab.pinv ha)
        have HCa := Aside.mk hcall
        have HR := Aside.mk hR
        have HB := Aside.mk hB
        have HCn := Aside.mk hcn
        have HE := Aside.mk hE
        clear hcall ha hx hR hG hB hcell0 hcn hE h70
        go_wp2_with fail
        (with_reducible refine HCa.out.mono ?_)
        rintro e w5 ⟨rfl, hr, ht⟩
        clear hcell
        by_cases her : er2 = 0
        rotate_left
        · have q1 : ((er2 : Int) == 0) = false := by simpa using her
          have HZ := Aside.mk (One.grow (k := k + 1) hr ht (by have h := HG.out; rw [if_neg her] at h; exact h) HB.out (by have := HCn.out; omega) (by have := HE.out; omega))
          clear hr ht her
          go_wp2
          go_roundw
          case rel => exact ⟨k + 1, E, by omega, by go_num, HEL.out, HZ⟩
          case measure => simp [intOf]; omega
        · subst her
          have HR5 := Aside.mk hr
          have HB5 := Aside.mk (HB.out.turn ht)
          have HG5 := Aside.mk (show Got P2 empty2 ((E ++ [(kid, s)]).map fun q => (q.1, q.2.l)) by have h := HG.out; rw [if_pos rfl] at h; rw [List.map_append]; exact h)
          have hEz : E.length ≤ 60 := by have := HE.out; have := HKL.out; omega
          have HBw := Aside.mk hr.below
          clear hr ht
          go_wp2_with (at_builtin; go_must (refine app_lit (w0 := w) w.heap.size rfl (.tmp 53) (.tmp 55) 45 3 (.int .i64 0) 1 8 _ rfl Tryd.underlying45 info3 rfl (by decide) u8 E.length 1 (nums .i64 (E.map (·.1))) (nums .i64 [kid]) rfl rfl rfl rfl (nums_one _ _) HB5.out.ids HBw.out HBw.out.size (by omega) (by omega) ?_))
          intro v1 w6 o1 hb6 gr1 at1
          have HG1 := Aside.mk gr1
          have HO1 := Aside.mk o1
          have HA1 := Aside.mk at1
          have HBw6 := Aside.mk hb6
          have HMid := Aside.mk (HB5.out.mid gr1)
          clear gr1 o1 at1 hb6
          go_wp2_with (at_builtin; go_must (refine app_lit (w0 := w) w.heap.size rfl (.tmp 57) (.tmp 59) 44 48 (.slice none 0 0) 1 24 _ rfl Tryd.underlying44 info48 rfl (by decide) u9 E.length 1 (E.map (·.2.v)) [s.v] rfl rfl rfl rfl (by intro u hu; simp only [List.mem_singleton] at hu; subst hu; rfl) HMid.out HBw6.out HBw6.out.size (by omega) (by omega) ?_))
          intro v2 w7 o2 hb7 gr2 at2
          have HZ := Aside.mk (One.push (k := k) HR5.out HG5.out HB5.out (by have := HCn.out; omega) HE.out HO1.out HG1.out HA1.out o2 gr2 at2)
          clear o2 hb7 gr2 at2
          go_wp2
          go_roundw
          case rel => exact ⟨k + 1, E ++ [(kid, s)], by omega, by go_num, fun q hq => (List.mem_append.1 hq).elim (HEL.out q) (fun h => by simp only [List.mem_singleton] at h; subst h; exact ⟨HSm.out, show s.l.length ≤ 70 by have := H70.out; omega⟩), HZ⟩
          case measure => simp [intOf]; omega
    · obtain rfl : k = L.length := by omega
      obtain ⟨iA, ic, sA, sc, hv1, hv2, hic, hsc⟩ : ∃ iA ic sA sc, u8 = .slice iA E.length ic ∧ u9 = .slice sA E.length sc ∧ E.length ≤ ic ∧ E.length ≤ sc := by
        obtain ⟨P, free, empty, cnt, O, hR, hG, hB, hcn, hE⟩ := HN.out
        obtain ⟨iA, ic, sA, sc, h1, h2, h3, h4, _⟩ := hB.reads
        exact ⟨iA, ic, sA, sc, h1, h2, h3, h4⟩
      subst hv1 hv2
      have g7 : (E.length : Int) ≤ 60 := by
        obtain ⟨P, free, empty, cnt, O, hR, hG, hB, hcn, hE⟩ := HN.out
        omega
      have g5 : (E.length : Int) ≤ (ic : Int) := by omega
      have g6 : (E.length : Int) ≤ (sc : Int) := by omega
      have HN2 := Aside.mk (HN.out.mono (show L.length ≤ 60 by omega))
      clear HN hic hsc hlt hk H0
      go_wp2_with fail
      go_loopw [64] (fun i wx => ∃ k : Nat, k ≤ E.length ∧ i = .int .i64 k ∧ Aside (One w wx (w1.heap.size + 1) so w1.heap.size w.heap.size w1.heap.size ks srt (.slice iA E.length ic) (.slice sA E.length sc) E 60)) (fun i _ => E.length - (intOf i).toNat)
      case atStart => exact ⟨0, Nat.zero_le _, rfl, HN2⟩
      case round =>
        obtain ⟨k, hk, rfl, HN⟩ := hrel
        by_cases hlt : k < E.length
        · have hkz : (k : Int) < (E.length : Int) := by omega
          obtain ⟨q, hx⟩ : ∃ q, E[k]? = some q := ⟨_, List.getElem?_eq_getElem hlt⟩
          obtain ⟨ia, sa, rfl, rfl, hci, hcs⟩ := HN.out.cell k q hx
          have hqm := List.mem_of_getElem? hx
          have HX := Aside.mk hx
          have HQo := Aside.mk (HLo.out q.2 (HEL.out q hqm).1)
          have HQl := Aside.mk (HEL.out q hqm).2
          have HSet := Aside.mk (HN.out.set (by omega) hqm)
          have hz := HN.out.zero hqm
          have hzz : (q.1 == 0) = ((q.2.l.length : Int) == 0) := by
            by_cases h : q.2.l = []
            · rw [h, hz.2 h]; rfl
            · have h1 : q.1 ≠ 0 := fun e => h (hz.1 e)
              have h2 : (q.2.l.length : Int) ≠ 0 := by have := List.length_pos_iff.2 h; omega
              rw [beq_eq_false_iff_ne.2 h1, beq_eq_false_iff_ne.2 h2]
          clear hx hz hqm
          go_wp2_with fail
          (with_reducible refine HSet.out.mono ?_)
          rintro e w6 ⟨hb6, h6⟩
          rw [if_pos rfl] at h6
          obtain ⟨u, rfl, ho6⟩ := h6
          obtain ⟨uA, uc, rfl, huc, _, huS⟩ := src_of_own ho6
          have HN6 := Aside.mk (HN.out.later hb6)
          have CF := Aside.mk (fun n => sameQ_any uA q.2.A uc q.2.c q.2.l q.2.l (w6.drewN n) (huS.below (below_drewN (below_refl w6) n)) (HQo.out.2.2.2.1.below (below_drewN HN6.out.below n)) huc HQo.out.1 (by have := HQl.out; omega) HQo.out.2.1)
          have e0 : decide (q.2.l = q.2.l) = true := decide_eq_true rfl
          simp only [e0] at CF
          have hci6 : w6.cell? (ia.add k) = some (.int .i64 q.1) := cell_below hb6 hci
          have hcs6 : w6.cell? (sa.add k) = some (.slice q.2.A q.2.l.length q.2.c) := cell_below hb6 hcs
          clear hb6 ho6 huc huS hci hcs e0
          go_wp2_with fail
          go_quiet ((go_at_call 71; refine Calls.quiet_of (CF.out _)))
          have HN7 := Aside.mk (HN6.out.later (below_drewN (below_refl w6) nq))
          generalize w6.drewN nq = w7 at HN7 ⊢
          clear hci6 hcs6 CF hzz
          go_wp2_with fail
          go_loopw [102] (fun i wx => ∃ m : Nat, m ≤ k ∧ i = .int .i64 m ∧ Aside (One w wx (w1.heap.size + 1) so w1.heap.size w.heap.size w1.heap.size ks srt (.slice (some ia) E.length ic) (.slice (some sa) E.length sc) E 60)) (fun i _ => k - (intOf i).toNat)
          case atStart => exact ⟨0, Nat.zero_le _, rfl, HN7⟩
          case round =>
            obtain ⟨m, hm, rfl, HN⟩ := hrel
            by_cases hlm : m < k
            · have hmz : (m : Int) < (k : Int) := by omega
              obtain ⟨q', hx'⟩ : ∃ q', E[m]? = some q' := ⟨_, List.getElem?_eq_getElem (by omega)⟩
              have hqm := List.mem_of_getElem? HX.out
              have hqm' := List.mem_of_getElem? hx'
              have HQo' := Aside.mk (HLo.out q'.2 (HEL.out q' hqm').1)
              have HQl' := Aside.mk (HEL.out q' hqm').2
              obtain ⟨ia1, sa1, h1, h2, hci, hcs⟩ := HN.out.cell k q HX.out
              obtain ⟨ia2, sa2, h3, h4, hdi, hds⟩ := HN.out.cell m q' hx'
              injection h1 with h1
              injection h2 with h2
              injection h3 with h3
              injection h4 with h4
              subst h1 h2 h3 h4
              have hmz2 : (m : Int) < (E.length : Int) := by omega
              have hsame := HN.out.same hqm hqm'
              have hee : (q.1 == q'.1) = decide (q.2.l = q'.2.l) := by
                by_cases h : q.2.l = q'.2.l
                · rw [decide_eq_true h, hsame.2 h]; simp
                · rw [decide_eq_false h, beq_eq_false_iff_ne.2 (fun e => h (hsame.1 e))]
              have CF := Aside.mk (fun n => sameQ_any q.2.A q'.2.A q.2.c q'.2.c q.2.l q'.2.l (wr.drewN n) (HQo.out.2.2.2.1.below (below_drewN HN.out.below n)) (HQo'.out.2.2.2.1.below (below_drewN HN.out.below n)) HQo.out.1 HQo'.out.1 (by have := HQl.out; omega) HQo'.out.2.1)
              clear hx' hqm hqm' hsame
              go_wp2_with fail
              go_quiet ((go_at_call 71; refine Calls.quiet_of (CF.out _)))
              have HN8 := Aside.mk (HN.out.later (below_drewN (below_refl wr) nq))
              generalize wr.drewN nq = w8 at HN8 ⊢
              clear hci hcs hdi hds CF hee
              go_wp2
              go_roundw
              case rel => exact ⟨m + 1, by omega, by go_num, HN8⟩
              case measure => simp [intOf]; omega
            · have hmk : k = m := by omega
              subst hmk
              go_wp2
              go_roundw
              case rel => exact ⟨k + 1, by omega, by go_num, HN⟩
              case measure => simp [intOf]; omega
        · have hke : E.length = k := by omega
          subst hke
          have HT0 := Aside.mk HN.out.two
          clear HN HN2
          go_wp2_with fail
          go_loopw [128] (fun i wx => ∃ k : Nat, k ≤ E.length ∧ i = .int .i64 k ∧ Aside (Two w wx (w1.heap.size + 1) so w1.heap.size w.heap.size w1.heap.size ks srt (.slice iA E.length ic) (.slice sA E.length sc) E k 60)) (fun i _ => E.length - (intOf i).toNat)
          case atStart => exact ⟨0, Nat.zero_le _, rfl, HT0⟩
          case round =>
            obtain ⟨k, hk, rfl, HN⟩ := hrel
            by_cases hlt : k < E.length
            · have hkz : (k : Int) < (E.length : Int) := by omega
              obtain ⟨q, hx⟩ : ∃ q, E[k]? = some q := ⟨_, List.getElem?_eq_getElem hlt⟩
              obtain ⟨ia, sa, rfl, rfl, hci, hcs⟩ := HN.out.cell k q hx
              have HFr := Aside.mk (HN.out.pop (by omega) hx)
              clear hx hcs
              go_wp2_with fail
              (with_reducible refine HFr.out.mono ?_)
              rintro e w9 ⟨rfl, h9⟩
              have HN9 := Aside.mk h9
              clear h9 hci
              go_wp2
              go_roundw
              case rel => exact ⟨k + 1, by omega, by go_num, HN9⟩
              case measure => simp [intOf]; omega
            · have hke : k = E.length := by omega
              obtain ⟨P, free, cnt, O, hR, hlen, hcn⟩ := HN.out.out hke
              have HLe := Aside.mk (show Calls Tryd.prog 57 #[.pointer (some ⟨w1.heap.size + 1, 0, none⟩)] wr fun e w' => e = .returned (.int .i64 1) ∧ Below wr.heap.size wr w' from by
                have h := lenM hR.tab (by omega)
                rw [show (1 + (P.length : Int) - (free.length : Int)) = 1 by omega] at h
                exact h)
              have HHe := Aside.mk (fun (W : World) (hb : Below wr.heap.size wr W) => show Calls Tryd.prog 56 #[.pointer (some ⟨w1.heap.size + 1, 0, none⟩), .int .i64 0] W fun e w' => e = .returned (.int .i64 0) ∧ Below W.heap.size W w' from
                heldM 0 (hR.tab.below hb) (by omega) (by decide))
              have HBw := Aside.mk hR.below
              clear hR hlen hcn hke
              go_wp2_with fail
              (with_reducible refine HLe.out.mono ?_)
              rintro e w10 ⟨rfl, hb10⟩
              have HB10 := Aside.mk hb10
              clear hb10
              go_wp2_with fail
              (with_reducible refine (HHe.out _ HB10.out).mono ?_)
              rintro e w11 ⟨rfl, hb11⟩
              have HB11 := Aside.mk (below_then HBw.out (below_then HB10.out hb11))
              clear hb11
              go_wp2_with fail
              (with_reducible refine (HK.out _ HB11.out).mono ?_)
              rintro e w12 ⟨rfl, hb12⟩
              have HB12 := Aside.mk (below_then HB11.out hb12)
              clear hb12
              go_wp2
              go_ret
              exact ⟨rfl, HB12.out⟩
theorem internOne_walk (A : Option Addr) (c : Nat) (ks : List Ky) (AL : Option Addr) (cL : Nat) (L : List Sl) (w : World) (hc : ks.length ≤ c) (hl : ks.length ≤ 9223372036854775807) (hA : A = none → c = 0) (hS : KSrc w A ks) (hwf : ∀ k ∈ ks, (Lit.int .i64 k.id).wf = true) (hcL : L.length ≤ cL) (hLl : L.length ≤ 9223372036854775807) (hLS : LSrc w AL L) (hLo : ∀ s ∈ L, s.ok w) (hT : Lib.Utf8Tabs 1 2 w) :
    Calls Tryd.prog 17 #[.slice A ks.length c, .slice AL L.length cL] w fun e w' => e = .returned (.bool true) ∧ Below w.heap.size w w' := by
  by_cases hk : okKs ks = false ∨ 60 < L.length
  · exact one_known A c ks AL cL L w hc hl hA hS hwf hT hLl hk
  · have h1 : okKs ks = true := by
      cases h : okKs ks with
      | false => exact absurd (.inl h) hk
      | true => rfl
    exact one_in A c ks AL cL L w hc hl hA hS hwf hT hcL hLS hLo h1 (by have := fun h => hk (.inr h); omega)
end Go.Proofs.YtaejlgdmalhhnaaDoor
