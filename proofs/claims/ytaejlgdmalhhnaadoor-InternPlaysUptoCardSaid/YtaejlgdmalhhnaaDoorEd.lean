/- Layer 7: what the law looks at (printed by gen_look.py). -/
import Derived.Test.YtaejlgdmalhhnaaDoorPkJ
set_option linter.unusedVariables false
set_option linter.unusedSimpArgs false
namespace Go.Proofs.YtaejlgdmalhhnaaDoor
open Go.RowKit Go.Maps Go.Shelf

theorem look_at {B n c n2 c2 : Nat} {O : Nat → Prop} {w : World} {db j : Nat} {kv lv : Value} {sA hA : Option Addr} {S : List (Value × List At)} {H free : List Int} {empty : Int} {P : Ps} (h : DocAt B O w db kv (.slice sA n c) (.slice hA n2 c2) lv S H free empty) (hp : DPl S H) (hR : Rel P (psOf S H)) (hu : isUp P j = true) :
    ∃ (sa ha : Addr) (vA : Option Addr) (vc : Nat) (pl : List At) (ph : Int), sA = some sa ∧ hA = some ha ∧ S[j]? = some (.slice vA pl.length vc, pl) ∧ H[j]? = some ph ∧ setP P ((j : Int) + 1) = pl ∧ askP P empty ((j : Int) + 1) = (ph, 0) ∧ pl.length ≤ 64 ∧ pl.length ≤ vc := by
  have hj : 0 < ((P[j]?).map (·.2)).getD 0 := of_decide_eq_true hu
  cases hP : P[j]? with
  | none => rw [hP] at hj; exact absurd hj (by decide)
  | some p =>
    rw [hP] at hj
    have hj' : 0 < p.2 := hj
    obtain ⟨q, hq, h1, h2⟩ := hR.at_ hP
    rw [psOf_at] at hq
    cases hs : S[j]? with
    | none => rw [hs] at hq; cases hq
    | some s =>
      cases hh : H[j]? with
      | none => rw [hs, hh] at hq; cases hq
      | some x =>
        rw [hs, hh] at hq
        obtain rfl := Option.some.inj hq
        obtain ⟨v, pl⟩ := s
        obtain ⟨vA, vc, e1, e2, _, _⟩ := src_of_own (h.each _ (List.mem_of_getElem? hs)).1
        simp only at e1 e2 h1 h2
        obtain ⟨A, c', e, _, _, h3⟩ := sets_slice h.sets
        obtain ⟨a, ea, _⟩ := h3 j _ hs
        obtain ⟨A', c'', e', _, _, h3'⟩ := nums_slice h.held
        obtain ⟨a', ea', _⟩ := h3' j _ hh
        injection e with e
        injection e' with e'
        refine ⟨a, a', vA, vc, pl, x, e.trans ea, e'.trans ea', by rw [e1], rfl, ?_, ?_, hp.sz _ (List.mem_of_getElem? hs), e2⟩
        · unfold setP
          rw [if_neg (by omega), show ((j : Int) + 1 - 1).toNat = j by omega, hP]
          exact h2 (by omega)
        · unfold askP
          rw [if_neg (by omega), if_neg (by omega), show ((j : Int) + 1 - 1).toNat = j by omega, hP]
          simp only
          rw [if_neg (by omega), h1]
theorem nil_own {B m c n : Nat} {w : World} {l : List Value} (h : w.ownsRow B 58 5 (.slice none m c) n l) : n = 0 := by
  rcases h.2 with ⟨_, h0⟩ | ⟨g, cap, cur, e, _⟩
  · exact h0
  · cases e
theorem askP_or (P : Ps) (empty id : Int) : (askP P empty id).2 = 0 ∨ askP P empty id = (0, 5) := by
  unfold askP
  split
  · exact .inl rfl
  · split
    · exact .inr rfl
    · split
      · exact .inr rfl
      · split
        · exact .inr rfl
        · exact .inl rfl
theorem look_src {B : Nat} {O : Nat → Prop} {w : World} {db j vc : Nat} {kv sv hv lv : Value} {vA : Option Addr} {pl : List At} {S : List (Value × List At)} {H free : List Int} {empty : Int} (h : DocAt B O w db kv sv hv lv S H free empty) (hi : S[j]? = some (.slice vA pl.length vc, pl)) : ASrc w vA pl := by
  obtain ⟨A, c, e, _, _, hs⟩ := src_of_own (h.each _ (List.mem_of_getElem? hi)).1
  simp only at e hs
  injection e with e1
  rw [e1]
  exact hs

attribute [local go_sem] Oper.semAt_some
set_option maxRecDepth 100000 in
set_option maxHeartbeats 8000000 in
theorem looked_any {B B2 : Nat} {O O2 : Nat → Prop} {w : World} {tb db : Nat} {sv kv : Value} {mb : Nat} {P D : Ps} {free : List Int} {empty : Int} {cnt : Nat} (ask : Int) (hT : TabM B O w tb sv mb P free empty cnt) (hc : cnt ≤ 100000) (hD : DocM B2 O2 w db kv D free empty) (hR : Rel P D) (hI : PInv P free empty) (hw : (Lit.int .i64 ask).wf = true) :
    Calls Tryd.prog 41 #[.pointer (some ⟨tb, 0, none⟩), .pointer (some ⟨db, 0, none⟩), .int .i64 ask] w fun e w' => e = .returned (.bool true) ∧ Below w.heap.size w w' := by
  have hPl := hT.len
  have HT := Aside.mk (fun (W : World) (hb : Below w.heap.size w W) => hT.below hb)
  have HD := Aside.mk (fun (W : World) (hb : Below w.heap.size w W) => hD.below hb)
  have HRel := Aside.mk hR
  have HI := Aside.mk hI
  have HW := Aside.mk hw
  have HC := Aside.mk hc
  have HPl := Aside.mk (show P.length ≤ 100000 by omega)
  obtain ⟨svv, hv, lv, S, H, hd, hp, hDe⟩ := hD
  have HDc := Aside.mk (fun (W : World) (hb : Below w.heap.size w W) => hd.below hb)
  have HPd := Aside.mk hp
  obtain ⟨sA, sc, hsv, s1, s2, _⟩ := sets_slice hd.sets
  obtain ⟨lA, lc, hlv, l1, l2, _⟩ := nums_slice hd.loose
  obtain ⟨hA, hcc, hhv, t1, t2, _⟩ := nums_slice hd.held
  subst hsv hlv hhv hDe
  have hlp := psOf_len S H hp.len
  have hrl := hR.len
  obtain ⟨m, hm⟩ : ∃ m, P.length = m := ⟨_, rfl⟩
  have hSm : S.length = m := by omega
  have hHm : H.length = m := by have := hp.len; omega
  rw [hSm, hHm] at HDc
  have HM := Aside.mk hm
  have HSm := Aside.mk hSm
  have HHm := Aside.mk hHm
  have hfl : free.length ≤ 100000 := by
    obtain ⟨pv, fv, E, _, ht⟩ := hT
    have := ht.inv.flen
    omega
  have g1 : (m : Int) ≤ 100000 := by omega
  have g2 : (free.length : Int) ≤ 100000 := by omega
  have g3 : (m : Int) ≤ (sc : Int) := by omega
  have g4 : (m : Int) ≤ (hcc : Int) := by omega
  have g5 : (free.length : Int) ≤ (lc : Int) := by omega
  have HLn := Aside.mk (fun (W : World) (hb : Below w.heap.size w W) => show Calls Tryd.prog 57 #[.pointer (some ⟨tb, 0, none⟩)] W fun e w' => e = .returned (.int .i64 (1 + (m : Int) - (free.length : Int))) ∧ Below W.heap.size W w' from by
    have h := lenM (hT.below hb) hc
    rw [hm] at h
    exact h)
  have HB1 := Aside.mk (show Below w.heap.size w (((w.alloc (.cells #[.pointer (some ⟨tb, 0, none⟩)] 41)).alloc (.cells #[.pointer (some ⟨db, 0, none⟩)] 43)).alloc (.cells #[.bool false] 4)) from below_alloc (below_alloc (below_alloc (below_refl w) _) _) _)
  have HX0 := Aside.mk (show (((w.alloc (.cells #[.pointer (some ⟨tb, 0, none⟩)] 41)).alloc (.cells #[.pointer (some ⟨db, 0, none⟩)] 43)).alloc (.cells #[.bool false] 4)).heap[w.heap.size]? = some (.cells #[.pointer (some ⟨tb, 0, none⟩)] 41) from below_heap (below_alloc (below_alloc (below_refl _) _) _) (heap_alloc_new w _))
  have HX1 := Aside.mk (show (((w.alloc (.cells #[.pointer (some ⟨tb, 0, none⟩)] 41)).alloc (.cells #[.pointer (some ⟨db, 0, none⟩)] 43)).alloc (.cells #[.bool false] 4)).heap[w.heap.size + 1]? = some (.cells #[.pointer (some ⟨db, 0, none⟩)] 43) from below_heap (below_alloc (below_refl _) _) (by have h := heap_alloc_new (w.alloc (.cells #[.pointer (some ⟨tb, 0, none⟩)] 41)) (.cells #[.pointer (some ⟨db, 0, none⟩)] 43); rw [World.size_alloc] at h; exact h))
  have HX2 := Aside.mk (show (((w.alloc (.cells #[.pointer (some ⟨tb, 0, none⟩)] 41)).alloc (.cells #[.pointer (some ⟨db, 0, none⟩)] 43)).alloc (.cells #[.bool false] 4)).heap[w.heap.size + 2]? = some (.cells #[.bool false] 4) from by have h := heap_alloc_new ((w.alloc (.cells #[.pointer (some ⟨tb, 0, none⟩)] 41)).alloc (.cells #[.pointer (some ⟨db, 0, none⟩)] 43)) (.cells #[.bool false] 4); rw [World.size_alloc, World.size_alloc] at h; exact h)
  clear hT hR hI hw hc hp hd s1 s2 l1 l2 t1 t2 hlp hrl hm hSm hHm hfl hPl
  refine (callsIn_wide (n := 4)).1 (callsIn_of_wp_marks Tryd.func41 rfl trivial (wpIn_wide.2 ?_))
  simp only [Tryd.ntmps41, List.size_toArray, List.length_cons, List.length_nil, Nat.reduceAdd, Nat.reduceSub, Array.replicate_succ, Array.replicate_zero, List.push_toArray, List.append_toArray, List.nil_append, List.cons_append]
  obtain ⟨Q, hQ⟩ : ∃ Q, bodyPostM Fence.wide 4 Tryd.prog Tryd.f41 (fun e w' => e = .returned (.bool true) ∧ Below w.heap.size w w') = Q := ⟨_, rfl⟩
  rw [hQ]
  have HQ := Aside.mk hQ
  clear hQ
  go_wp2_with fail
  generalize ((w.alloc (.cells #[.pointer (some ⟨tb, 0, none⟩)] 41)).alloc (.cells #[.pointer (some ⟨db, 0, none⟩)] 43)).alloc (.cells #[.bool false] 4) = w1 at HB1 HX0 HX1 HX2 ⊢
  have e0 := cell_at (i := 0) HX0.out rfl
  have e1 := cell_at (i := 0) HX1.out rfl
  have e2 := (HDc.out w1 HB1.out).f1
  have e3 := (HDc.out w1 HB1.out).f3
  have HLe := Aside.mk (fun (W : World) (hb : Below w1.heap.size w1 W) => HLn.out W (below_then HB1.out hb))
  have hw1 : IntKind.i64.wrap (1 + (m : Int)) = 1 + (m : Int) := by rw [IntKind.wrap_i64]; omega
  have hw2 : IntKind.i64.wrap (1 + (m : Int) - (free.length : Int)) = 1 + (m : Int) - (free.length : Int) := by rw [IntKind.wrap_i64]; omega
  refine wp_region_noPanic ?_
  refine wp_region_held_drew (S := fun W => (W.cell? ⟨w.heap.size, 0, none⟩ = some (.pointer (some ⟨tb, 0, none⟩)) ∧ W.cell? ⟨w.heap.size + 1, 0, none⟩ = some (.pointer (some ⟨db, 0, none⟩)) ∧ W.cell? ⟨db, 1, none⟩ = some (.slice sA m sc) ∧ W.cell? ⟨db, 3, none⟩ = some (.slice lA free.length lc)) ∧ Below w1.heap.size w1 W) (by kernel_rfl) (⟨⟨e0, e1, e2, e3⟩, below_drewN (below_refl w1) 1⟩) (fun hHeld => ?_)
  refine take_at (i := 0) (d := some 16) (v := ?va0) rfl rfl (by kernel_rfl) (by kernel_rfl) (by kernel_rfl) (fun _ _ _ h => h) (Or.inl ⟨by rfl, ?hya0⟩) hHeld ?resta0
  case hya0 => (intro w hSw; (try dsimp only at hSw); go_simp; try with_reducible rfl)
  try simp only [Act.put, List.setIfInBounds_toArray, List.set_cons_zero, List.set_cons_succ]
  refine take_at (i := 2) (d := some 18) (v := ?va2) rfl rfl (by kernel_rfl) (by kernel_rfl) (by kernel_rfl) (fun _ _ _ h => h) (Or.inl ⟨by rfl, ?hya2⟩) hHeld ?resta2
  case hya2 => (intro w hSw; (try dsimp only at hSw); go_simp; try with_reducible rfl)
  try simp only [Act.put, List.setIfInBounds_toArray, List.set_cons_zero, List.set_cons_succ]
  refine take_at (i := 3) (d := some 19) (v := ?va3) rfl rfl (by kernel_rfl) (by kernel_rfl) (by kernel_rfl) (fun _ _ _ h => h) (Or.inl ⟨by rfl, ?hya3⟩) hHeld ?resta3
  case hya3 => (intro w hSw; (try dsimp only at hSw); go_simp; try with_reducible rfl)
  try simp only [Act.put, List.setIfInBounds_toArray, List.set_cons_zero, List.set_cons_succ]
  refine take_at (i := 4) (d := some 20) (v := ?va4) rfl rfl (by kernel_rfl) (by kernel_rfl) (by kernel_rfl) (fun _ _ _ h => h) (Or.inl ⟨by rfl, ?hya4⟩) hHeld ?resta4
  case hya4 => (intro w hSw; (try dsimp only at hSw); go_simp; try with_reducible rfl)
  try simp only [Act.put, List.setIfInBounds_toArray, List.set_cons_zero, List.set_cons_succ]
  refine take_at (i := 5) (d := some 21) (v := ?va5) rfl rfl (by kernel_rfl) (by kernel_rfl) (by kernel_rfl) (fun _ _ _ h => h) (Or.inl ⟨by rfl, ?hya5⟩) hHeld ?resta5
  case hya5 => (intro w hSw; (try dsimp only at hSw); go_simp; try with_reducible rfl)
  try simp only [Act.put, List.setIfInBounds_toArray, List.set_cons_zero, List.set_cons_succ]
  refine take_at (i := 6) (d := some 22) (v := ?va6) rfl rfl (by kernel_rfl) (by kernel_rfl) (by kernel_rfl) (fun _ _ _ h => h) (Or.inl ⟨by rfl, ?hya6⟩) hHeld ?resta6
  case hya6 => (intro w hSw; (try dsimp only at hSw); go_simp; try with_reducible rfl)
  try simp only [Act.put, List.setIfInBounds_toArray, List.set_cons_zero, List.set_cons_succ]
  refine take_at (i := 7) (d := some 23) (v := ?va7) rfl rfl (by kernel_rfl) (by kernel_rfl) (by kernel_rfl) (fun _ _ _ h => h) (Or.inl ⟨by rfl, ?hya7⟩) hHeld ?resta7
  case hya7 => (intro w hSw; (try dsimp only at hSw); go_simp; try with_reducible rfl)
  try simp only [Act.put, List.setIfInBounds_toArray, List.set_cons_zero, List.set_cons_succ]
  refine take_at (i := 8) (d := some 24) (v := ?va8) rfl rfl (by kernel_rfl) (by kernel_rfl) (by kernel_rfl) (fun _ _ _ h => h) (Or.inl ⟨by rfl, ?hya8⟩) hHeld ?resta8
  case hya8 => (intro w hSw; (try dsimp only at hSw); go_simp; try with_reducible rfl)
  try simp only [Act.put, List.setIfInBounds_toArray, List.set_cons_zero, List.set_cons_succ]
  refine take_at (i := 9) (d := some 25) (v := ?va9) rfl rfl (by kernel_rfl) (by kernel_rfl) (by kernel_rfl) (fun _ _ _ h => h) (Or.inl ⟨by rfl, ?hya9⟩) hHeld ?resta9
  case hya9 => (intro w hSw; (try dsimp only at hSw); go_simp; try with_reducible rfl)
  try simp only [Act.put, List.setIfInBounds_toArray, List.set_cons_zero, List.set_cons_succ]
  refine take_at (i := 10) (d := some 26) (v := ?va10) rfl rfl (by kernel_rfl) (by kernel_rfl) (by kernel_rfl) (fun _ _ _ h => h) (Or.inl ⟨by rfl, ?hya10⟩) hHeld ?resta10
  case hya10 => (intro w hSw; (try dsimp only at hSw); go_simp; try with_reducible rfl)
  try simp only [Act.put, List.setIfInBounds_toArray, List.set_cons_zero, List.set_cons_succ]
  refine take_at (i := 11) (d := some 27) (v := ?va11) rfl rfl (by kernel_rfl) (by kernel_rfl) (by kernel_rfl) (fun _ _ _ h => h) (Or.inl ⟨by rfl, ?hya11⟩) hHeld ?resta11
  case hya11 => (intro w hSw; (try dsimp only at hSw); go_simp; try with_reducible rfl)
  try simp only [Act.put, List.setIfInBounds_toArray, List.set_cons_zero, List.set_cons_succ]
  refine take_at (i := 12) (d := some 28) (v := ?va12) rfl rfl (by kernel_rfl) (by kernel_rfl) (by kernel_rfl) (fun _ _ _ h => h) (Or.inl ⟨by rfl, ?hya12⟩) hHeld ?resta12
  case hya12 => (intro w hSw; (try dsimp only at hSw); go_simp; try with_reducible rfl)
  try simp only [Act.put, List.setIfInBounds_toArray, List.set_cons_zero, List.set_cons_succ]
  refine take_at (i := 13) (d := some 29) (v := ?va13) rfl rfl (by kernel_rfl) (by kernel_rfl) (by kernel_rfl) (fun _ _ _ h => h) (Or.inl ⟨by rfl, ?hya13⟩) hHeld ?resta13
  case hya13 => (intro w hSw; (try dsimp only at hSw); go_simp; try with_reducible rfl)
  try simp only [Act.put, List.setIfInBounds_toArray, List.set_cons_zero, List.set_cons_succ]
  refine wpAnyH_ready (rs := [1]) (by kernel_rfl) (by simp) ?_
  refine AllReadyH.cons rfl (fun K hK => ?_) AllReadyH.nil
  go_simp
  (with_reducible refine (HLe.out _ hHeld.2).mono ?_)
  rintro e w2 ⟨rfl, hb⟩
  refine hK.out _ _ (⟨⟨cell_below hb hHeld.1.1, cell_below hb hHeld.1.2.1, cell_below hb hHeld.1.2.2.1, cell_below hb hHeld.1.2.2.2⟩, below_then hHeld.2 hb⟩) (fun hHeld' => ?_)
  clear hK K hHeld hb
  have hHeld := hHeld'
  clear hHeld'
  try simp only [Act.put, List.setIfInBounds_toArray, List.set_cons_zero, List.set_cons_succ]
  refine take_at (i := 14) (d := some 30) (v := ?va14) rfl rfl (by kernel_rfl) (by kernel_rfl) (by kernel_rfl) (fun _ _ _ h => h) (Or.inl ⟨by rfl, ?hya14⟩) hHeld ?resta14
  case hya14 => (intro w hSw; (try dsimp only at hSw); go_simp; try with_reducible rfl)
  try simp only [Act.put, List.setIfInBounds_toArray, List.set_cons_zero, List.set_cons_succ]
  refine wpAnyH_done (by kernel_rfl) ?_ _

  clear hw1 hw2
  refine NoPanic.normal ?_
  have HBx := Aside.mk hHeld.2
  clear hHeld e0 e1 e2 e3
  have hge : w.heap.size + 3 ≤ w2.heap.size := by have := (Array.getElem?_eq_some_iff.1 HX2.out).1; have := HBx.out.size; omega
  have HL3 := Aside.mk (show LkAt w tb db w2.heap.size 0 (w2.alloc (.cells #[.int .i64 0] 3)) from ⟨below_alloc (below_then HB1.out HBx.out) _, below_heap (below_alloc HBx.out _) HX0.out, below_heap (below_alloc HBx.out _) HX1.out, below_heap (below_alloc HBx.out _) HX2.out, heap_alloc_new w2 _, hge⟩)
  have c0 := HL3.out.c0
  have HAl := Aside.mk (all_any (HT.out _ HL3.out.below) HC.out)
  have HBn := Aside.mk (show w2.heap.size < (w2.alloc (.cells #[.int .i64 0] 3)).heap.size by simp)
  clear hge
  go_wp2_with fail
  (with_reducible refine HAl.out.mono ?_)
  rintro e w4 ⟨bl, v, rfl, hI4⟩
  have HL4 := Aside.mk (HL3.out.later hI4.below)
  have HSt := Aside.mk (ids_stops 3 (by omega) hI4 HBn.out (by have := idsUp_len P P.length; have := HPl.out; simp only [List.length_cons]; omega))
  have HB4 := Aside.mk HL4.out.below
  generalize w2.heap.size = bn at HL4 HSt ⊢
  clear hI4 c0 HL3 HBn HAl HBx HB1 HX0 HX1 HX2 HLe
  go_wp2_with fail
  refine (wpIn_wide (n := 4)).1 ?_
  apply wpIn_rangeFunc_ownF (F := Fence.wide) (n := 4) rfl (by omega) (gf := 95) (lb := #[.pointer (some ⟨bl, 0, none⟩)]) rfl trivial (enters_of Tryd.func95 (by kernel_rfl) rfl) HSt.out (fun h k => KX.trans h k) (KX.put (Nat.le_refl _)) (Below.refl _ _) (fun _ => rfl) (fun pre W => ∃ nv : Nat, AtN P pre nv ∧ LkAt w tb db bn nv W) (fun c pre _ => c = .ret ∧ ¬ (pre <+: 0 :: idsUp P P.length)) ?hI ?hIx ?h0
  case hI =>
    rintro pre A B' row ⟨nv, ha, hl⟩ hg hr
    exact ⟨nv, ha, hl.grown HB4.out.size hg hr⟩
  case hIx => exact fun c s W W' row h _ _ => h
  case h0 => exact ⟨0, .inl ⟨rfl, rfl⟩, HL4.out⟩
  case hassign =>
    intro l x W K hK
    gi_wp2
    exact hK
  case hbody =>
    rintro l pre x W ⟨nv, ha, hl⟩ hlen
    have HLl := Aside.mk hlen
    have HHb := Aside.mk hl.h3
    clear hlen
    rcases ha with ⟨rfl, rfl⟩ | ⟨k, hk, rfl, rfl⟩
    · have HL := Aside.mk hl
      have hc1 := hl.c1
      have hc3 := hl.c3
      have HHas := Aside.mk (has_docM 0 (HD.out W hl.below) (by rw [← HRel.out.len]; have := HPl.out; omega) (by decide))
      rw [hasP_zero] at HHas
      clear hl
      gi_wp2_with fail
      gi_loopw [] (fun wr => wr = W) (fun _ => 0)
      case atStart => rfl
      case round =>
        obtain rfl := hrel
        gi_wp2_with fail
        refine ⟨trivial, ?_⟩
        (with_reducible refine (CallsIn.inRound l (callsIn_wide.2 HHas.out)).mono ?_)
        rintro e w5 ⟨rfl, rfl⟩
        by_cases hx : x = 0
        rotate_left
        · have q : ((x : Int) != 0) = true := by simpa using hx
          have c2 := HL.out.c2
          have z2 := HL.out.z2
          have HX := Aside.mk (idsfirst_bad (P := P) hx)
          clear hx
          gi_wp2
          exact ⟨KeepsOthers.setCell _ _ _, rfl, HX.out⟩
        subst hx
        have z3 := HL.out.z3
        have HLn := Aside.mk (HL.out.setN 1)
        have HTn := Aside.mk (turn_n bn w5 (.int .i64 1))
        have HSe := Aside.mk (fun (W : World) (hb : Below w.heap.size w W) => setM 0 (HT.out W hb) HC.out (by decide))
        have HHeld := Aside.mk (fun (W : World) (hb : Below w.heap.size w W) => heldM 0 (HT.out W hb) HC.out (by decide))
        have ea : askP P empty 0 = (empty, 0) := rfl
        have es : setP P 0 = [] := rfl
        rw [ea, es] at HSe
        rw [ea] at HHeld
        clear ea es
        have a00 := HLn.out.c0
        gi_wp2_with fail
        generalize w5.setCell ⟨bn, 0, none⟩ (.int .i64 1) = wn at HLn HTn ⊢
        clear hc1 hc3 z3 a00
        refine ⟨trivial, ?_⟩
        (with_reducible refine (CallsIn.inRound l (callsIn_wide.2 (HSe.out wn HLn.out.below))).mono ?_)
        rintro e w5 ⟨hb5, h5⟩
        rw [if_pos rfl] at h5
        obtain ⟨u, rfl, ho5⟩ := h5
        obtain ⟨uA, uc, rfl, huc, _, huS⟩ := src_of_own ho5
        have HO5 := Aside.mk ho5
        have HB5 := Aside.mk hb5
        have HL5 := Aside.mk (HLn.out.later hb5)
        have HuS := Aside.mk huS
        have HUc := Aside.mk huc
        have a0 := HL5.out.c0
        have a1 := HL5.out.c1
        have d4 := (HDc.out _ HL5.out.below).f4
        clear hb5 ho5 huc huS
        have HL6 := HL5
        have HB6 := HB5
        have HO6 := HO5
        have HSm := Aside.mk (sameQ_any uA none uc 0 [] [] w5 HuS.out ⟨fun _ => rfl, fun ad e => (by cases e)⟩ HUc.out (Nat.le_refl _) (by simp) (by simp))
        simp only [List.length_nil] at HSm ⊢
        simp only [decide_true] at HSm
        have b0 := HL6.out.c0
        gi_wp2_with fail
        refine ⟨trivial, ?_⟩
        (with_reducible refine (CallsIn.inRound l (callsIn_wide.2 (HSm.out))).mono ?_)
        rintro e w7 ⟨rfl, hd7⟩
        have HB7 := Aside.mk (drew_below hd7)
        have HL7 := Aside.mk (HL6.out.later HB7.out)
        have HO7 := Aside.mk (own_below HO6.out HB7.out)
        have HHe := Aside.mk (HHeld.out w7 HL7.out.below)
        have b7 := HL7.out.c0
        clear hd7 b0
        gi_wp2_with fail
        refine ⟨trivial, ?_⟩
        (with_reducible refine (CallsIn.inRound l (callsIn_wide.2 (HHe.out))).mono ?_)
        rintro e w8 ⟨rfl, hb8⟩
        have HA8 := Aside.mk (show AInc wn w8 uA uc 0 from ⟨below_then HB6.out (below_then HB7.out hb8), ⟨[], rfl, own_below HO7.out hb8⟩⟩)
        clear hb8 b7
        gi_wp2_with fail
        gi_loopw [97] (fun i wr => ∃ q : Nat, q ≤ 0 ∧ i = .int .i64 q ∧ Aside (AInc wn wr uA uc 0)) (fun i _ => 0 - (intOf i).toNat)
        case atStart => exact ⟨0, Nat.zero_le _, rfl, HA8⟩
        case round =>
          obtain ⟨q, hq, rfl, HN⟩ := hrel
          obtain rfl : q = 0 := by omega
          have HTe := Aside.mk (HTn.out.trans (Turn.of_below HN.out.below))
          have HLe := Aside.mk (HLn.out.later HN.out.below)
          gi_wp2
          exact ⟨keeps_turn HHb.out HTe.out, Turn.mono HTe.out (fun k hk => .inl hk), 1, .inr ⟨0, Nat.zero_le _, by rw [idsUp_zero]; rfl, rfl⟩, HLe.out⟩
    · have HK := Aside.mk hk
      have HKl := Aside.mk (show k < P.length by
        rcases Nat.lt_or_ge k P.length with h | h
        · exact h
        · obtain rfl : k = P.length := by omega
          exact absurd HLl.out (Nat.lt_irrefl _))
      have HL0 := Aside.mk (show LkAt w tb db bn ((k : Int) + 1) W from by have h := hl; push_cast at h; exact h)
      clear hl hk
      gi_wp2_with fail
      gi_loopw [] (fun wr => ∃ j : Nat, k ≤ j ∧ j < P.length ∧ idsUp P j = idsUp P k ∧ LkAt w tb db bn ((j : Int) + 1) wr ∧ Turn (fun b => b = bn) W wr) (fun wr => m - (intOf ((wr.cell? ⟨bn, 0, none⟩).getD (.int .i64 0))).toNat)
      case atStart => exact ⟨k, Nat.le_refl _, HKl.out, rfl, HL0.out, Turn.of_below (below_refl _)⟩
      case round =>
        obtain ⟨j, hkj, hjm, hje, hLj, hTj⟩ := hrel
        have HL := Aside.mk hLj
        have HTj := Aside.mk hTj
        have HJe := Aside.mk hje
        have HJl := Aside.mk hjm
        have HJk := Aside.mk hkj
        have hc1 := hLj.c1
        have hc3 := hLj.c3
        have gj : (j : Int) < (m : Int) := by have := HM.out; omega
        have HHas := Aside.mk (has_docM ((j : Int) + 1) (HD.out _ hLj.below) (by rw [← HRel.out.len]; have := HPl.out; omega) (WalkArith.wf_i64 (by omega)))
        rw [isUp_has (free := free) (empty := empty) HRel.out] at HHas
        obtain ⟨u, hu⟩ : ∃ u, isUp P j = u := ⟨_, rfl⟩
        rw [hu] at HHas
        have HJu := Aside.mk hu
        clear hLj hTj hje hjm hkj hu
        gi_wp2_with fail
        refine ⟨trivial, ?_⟩
        (with_reducible refine (CallsIn.inRound l (callsIn_wide.2 HHas.out)).mono ?_)
        rintro e wu ⟨rfl, rfl⟩
        cases u with
        | false =>
          have z3 := HL.out.z3
          have HLn := Aside.mk (HL.out.setN ((j : Int) + 1 + 1))
          have HTn := Aside.mk (HTj.out.trans (turn_n bn wu (.int .i64 ((j : Int) + 1 + 1))))
          have hjn : j + 1 < P.length := by
            rcases Nat.lt_or_ge (j + 1) P.length with h | h
            · exact h
            · exfalso
              have e1 : j + 1 = P.length := by have := HJl.out; omega
              have e2 := HLl.out
              rw [← e1, idsUp_no HJu.out, HJe.out] at e2
              exact Nat.lt_irrefl _ e2
          have HJn := Aside.mk hjn
          have gn : ¬ ((m : Int) < (j : Int) + 1 + 1) := by have := HM.out; omega
          have d1 := (HDc.out _ HLn.out.below).f1
          have a1 := HLn.out.c1
          have a3 := HLn.out.c3
          clear hjn
          gi_wp2_with fail
          generalize wu.setCell ⟨bn, 0, none⟩ (.int .i64 ((j : Int) + 1 + 1)) = wn at HLn HTn d1 a1 a3 ⊢
          refine wpIn_region_round_lit rfl (by kernel_rfl) (by kernel_rfl) (by rfl) ?_
          repeat (gi_big_quiet_step (fail))
          refine wpQuietIn_nil ?_
          intro _ hw'
          obtain ⟨nq, hw''⟩ := hw'
          subst hw''
          have HL8 := Aside.mk (HLn.out.later (below_drewN (below_refl wn) nq))
          have HT8 := Aside.mk (HTn.out.trans (Turn.of_below (below_drewN (below_refl wn) nq)))
          clear d1 a1 a3 z3 hc1 hc3
          gi_wp2
          go_roundw
          case rel => exact ⟨j + 1, by have := HJk.out; omega, HJn.out, by rw [idsUp_no HJu.out]; exact HJe.out, by have h := HL8.out; push_cast; exact h, HT8.out⟩
          case measure =>
            have c1 := HL8.out.c3
            have c2 := HL.out.c3
            rw [c1, c2]
            simp [intOf]
            omega
        | true =>
          by_cases hx : x = (j : Int) + 1
          rotate_left
          · have q : ((x : Int) != (j : Int) + 1) = true := by simpa using hx
            have c2 := HL.out.c2
            have z2 := HL.out.z2
            have HX := Aside.mk (idsnext_bad (P := P) HJe.out HJl.out HJu.out hx)
            have HKO := Aside.mk (keeps_turn HHb.out HTj.out)
            clear hx
            gi_wp2
            exact ⟨HKO.out.trans (KeepsOthers.setCell _ _ _), rfl, HX.out⟩
          subst hx
          obtain ⟨sa, ha, vA, vc, pl, ph, eS, eH, hSj, hHj, es, ea, hz, hvc⟩ := look_at (HDc.out _ HL.out.below) HPd.out HRel.out HJu.out
          have z3 := HL.out.z3
          have HLn := Aside.mk (HL.out.setN ((j : Int) + 1 + 1))
          have HTn := Aside.mk (HTj.out.trans (turn_n bn wu (.int .i64 ((j : Int) + 1 + 1))))
          have HSe := Aside.mk (fun (W : World) (hb : Below w.heap.size w W) => setM ((j : Int) + 1) (HT.out W hb) HC.out (WalkArith.wf_i64 (by omega)))
          have HHeld := Aside.mk (fun (W : World) (hb : Below w.heap.size w W) => heldM ((j : Int) + 1) (HT.out W hb) HC.out (WalkArith.wf_i64 (by omega)))
          rw [ea, es] at HSe
          rw [ea] at HHeld
          have HvS := Aside.mk (fun (W : World) (hb : Below w.heap.size w W) => look_src (HDc.out W hb) hSj)
          have HSj := Aside.mk hSj
          have HHj := Aside.mk hHj
          have HPz := Aside.mk hz
          have HVc := Aside.mk hvc
          subst eS eH
          clear ea es hz hvc hSj hHj
          have a00 := HLn.out.c0
          gi_wp2_with fail
          generalize wu.setCell ⟨bn, 0, none⟩ (.int .i64 ((j : Int) + 1 + 1)) = wn at HLn HTn ⊢
          clear hc1 hc3 z3 a00
          refine ⟨trivial, ?_⟩
          (with_reducible refine (CallsIn.inRound l (callsIn_wide.2 (HSe.out wn HLn.out.below))).mono ?_)
          rintro e w5 ⟨hb5, h5⟩
          rw [if_pos rfl] at h5
          obtain ⟨u, rfl, ho5⟩ := h5
          obtain ⟨uA, uc, rfl, huc, _, huS⟩ := src_of_own ho5
          have HO5 := Aside.mk ho5
          have HB5 := Aside.mk hb5
          have HL5 := Aside.mk (HLn.out.later hb5)
          have HuS := Aside.mk huS
          have HUc := Aside.mk huc
          have a0 := HL5.out.c0
          have a1 := HL5.out.c1
          have d4 := (HDc.out _ HL5.out.below).f4
          clear hb5 ho5 huc huS
          have d1 := (HDc.out _ HL5.out.below).f1
          have d2 := (HDc.out _ HL5.out.below).f2
          have x1 := (HDc.out _ HL5.out.below).set_cell HSj.out
          have x2 := (HDc.out _ HL5.out.below).held_cell HHj.out
          simp only at x1 x2
          gi_wp2_with fail
          refine wpIn_region_round_lit rfl (by kernel_rfl) (by kernel_rfl) (by rfl) ?_
          repeat (gi_big_quiet_step (fail))
          refine wpQuietIn_nil ?_
          intro _ hw'
          obtain ⟨nq, hw''⟩ := hw'
          subst hw''
          have HL6 := Aside.mk (HL5.out.later (below_drewN (below_refl w5) nq))
          have HB6 := Aside.mk (below_then HB5.out (below_drewN (below_refl w5) nq))
          have HO6 := Aside.mk (own_below HO5.out (below_drewN (below_refl w5) nq))
          have HSm := Aside.mk (sameQ_any uA vA uc vc pl pl (w5.drewN nq) (HuS.out.below (below_drewN (below_refl w5) nq)) ((HvS.out _ HL6.out.below)) HUc.out HVc.out (by have := HPz.out; omega) (by have := HPz.out; omega))
          clear a0 a1 d4 d1 d2 x1 x2
          generalize w5.drewN nq = w6 at HL6 HB6 HO6 HSm ⊢
          have e0 : decide (pl = pl) = true := decide_eq_true rfl
          rw [e0] at HSm
          clear e0
          have b0 := HL6.out.c0
          gi_wp2_with fail
          refine ⟨trivial, ?_⟩
          (with_reducible refine (CallsIn.inRound l (callsIn_wide.2 (HSm.out))).mono ?_)
          rintro e w7 ⟨rfl, hd7⟩
          have HB7 := Aside.mk (drew_below hd7)
          have HL7 := Aside.mk (HL6.out.later HB7.out)
          have HO7 := Aside.mk (own_below HO6.out HB7.out)
          have HHe := Aside.mk (HHeld.out w7 HL7.out.below)
          have b7 := HL7.out.c0
          clear hd7 b0
          gi_wp2_with fail
          refine ⟨trivial, ?_⟩
          (with_reducible refine (CallsIn.inRound l (callsIn_wide.2 (HHe.out))).mono ?_)
          rintro e w8 ⟨rfl, hb8⟩
          have HA8 := Aside.mk (show AInc wn w8 uA uc pl.length from ⟨below_then HB6.out (below_then HB7.out hb8), ⟨pl, rfl, own_below HO7.out hb8⟩⟩)
          clear hb8 b7
          have gpl : (pl.length : Int) ≤ 64 := by have := HPz.out; omega
          have guc : (pl.length : Int) ≤ (uc : Int) := by have := HUc.out; omega
          gi_wp2_with fail
          gi_loopw [97] (fun i wr => ∃ q : Nat, q ≤ pl.length ∧ i = .int .i64 q ∧ Aside (AInc wn wr uA uc pl.length)) (fun i _ => pl.length - (intOf i).toNat)
          case atStart => exact ⟨0, Nat.zero_le _, rfl, HA8⟩
          case round =>
            obtain ⟨q, hq, rfl, HN⟩ := hrel
            by_cases hlt : q < pl.length
            · have hqz : (q : Int) < (pl.length : Int) := by omega
              obtain ⟨l', hln, hrow⟩ := HN.out.row
              rcases hAA : uA with _ | ad
              · rw [hAA] at hrow; exact absurd (nil_own hrow) (by omega)
              subst hAA
              obtain ⟨y, hy⟩ : ∃ y, l'[q]? = some y := ⟨_, List.getElem?_eq_getElem (by omega)⟩
              have y0 := AInc.cell hln hrow hy
              have yz := row_fz0 hrow (q * 5)
              have HPt := Aside.mk (HN.out.put hln hrow hy)
              clear hy hrow hln
              gi_wp2
              go_roundw
              case rel => exact ⟨q + 1, by omega, by go_num, ⟨HPt.out _⟩⟩
              case measure => simp [intOf]; omega
            · have hqn : ¬ ((q : Int) < (pl.length : Int)) := by omega
              clear hlt
              have HTe := Aside.mk (HTn.out.trans (Turn.of_below HN.out.below))
              have HLe := Aside.mk (HLn.out.later HN.out.below)
              gi_wp2
              exact ⟨keeps_turn HHb.out HTe.out, Turn.mono HTe.out (fun k hk => .inl hk), j + 2, .inr ⟨j + 1, by have := HJl.out; omega, idsnext_good HJe.out HJu.out, rfl⟩, (by have h := HLe.out; rw [show (((j + 2 : Nat) : Int)) = (j : Int) + 1 + 1 by omega]; exact h)⟩
  case hdone =>
    rintro D1 ys W hD1 hS ⟨nv, ha, hl⟩ hK1
    obtain ⟨k, hk, e1, e2⟩ : ∃ k : Nat, k ≤ P.length ∧ ys = 0 :: idsUp P k ∧ nv = k + 1 := by
      rcases ha with ⟨rfl, _⟩ | h
      · cases hS
      · exact h
    have HNo := Aside.mk (show ∀ j, k ≤ j → j < P.length → isUp P j = false by
      intro j h1 h2
      cases hu : isUp P j with
      | false => rfl
      | true =>
        have h3 := idsUp_lt h1 h2 hu
        have h4 : idsUp P k = idsUp P P.length := by have h := e1.symm.trans hS; injection h
        rw [h4] at h3
        exact absurd h3 (Nat.lt_irrefl _))
    have hkm : k ≤ m := by have := HM.out; omega
    have HL0 := Aside.mk (show LkAt w tb db bn ((k : Int) + 1) W ∧ W.heap[D1]? = some (.deferred (some [])) from ⟨by rw [e2] at hl; push_cast at hl; exact hl, hK1⟩)
    have HDs1 := Aside.mk (show w.heap.size ≤ D1 from Nat.le_trans HB4.out.size hD1)
    clear hl hK1 hS hk ha e1 e2 hD1
    go_wp2_with fail
    go_loopw [] (fun wr => ∃ j : Nat, k ≤ j ∧ j ≤ m ∧ Aside (LkAt w tb db bn ((j : Int) + 1) wr ∧ wr.heap[D1]? = some (.deferred (some [])))) (fun wr => m + 1 - (intOf ((wr.cell? ⟨bn, 0, none⟩).getD (.int .i64 0))).toNat)
    case atStart => exact ⟨k, Nat.le_refl _, hkm, HL0⟩
    case round =>
      obtain ⟨j, hkj, hjm, HN⟩ := hrel
      have d1 := (HDc.out _ HN.out.1.below).f1
      have a1 := HN.out.1.c1
      have a3 := HN.out.1.c3
      by_cases hlt : j < m
      · have hjz : (j : Int) + 1 ≤ (m : Int) := by omega
        go_wp2_with fail
        go_quiet (fail)
        have HN8 := Aside.mk (show LkAt w tb db bn ((j : Int) + 1) (wr.drewN nq) ∧ (wr.drewN nq).heap[D1]? = some (.deferred (some [])) from ⟨HN.out.1.later (below_drewN (below_refl wr) nq), HN.out.2⟩)
        have HHas := Aside.mk (has_docM ((j : Int) + 1) (HD.out _ HN8.out.1.below) (by rw [← HRel.out.len]; have := HPl.out; omega) (WalkArith.wf_i64 (by omega)))
        rw [isUp_has (free := free) (empty := empty) HRel.out, HNo.out j hkj (by have := HM.out; omega)] at HHas
        have c3 := HN.out.1.c3
        clear d1 a1 a3
        generalize wr.drewN nq = w8 at HN8 HHas ⊢
        have a1 := HN8.out.1.c1
        have a3 := HN8.out.1.c3
        go_wp2_with fail
        (with_reducible refine HHas.out.mono ?_)
        rintro e w9 ⟨rfl, rfl⟩
        have z3 := HN8.out.1.z3
        have HNn := Aside.mk (show LkAt w tb db bn ((j : Int) + 1 + 1) (w9.setCell ⟨bn, 0, none⟩ (.int .i64 ((j : Int) + 1 + 1))) ∧ (w9.setCell ⟨bn, 0, none⟩ (.int .i64 ((j : Int) + 1 + 1))).heap[D1]? = some (.deferred (some [])) from ⟨HN8.out.1.setN _, (KeepsOthers.setCell w9 ⟨bn, 0, none⟩ _).same D1 _ HN8.out.2 rfl⟩)
        go_wp2
        go_roundw
        case rel => exact ⟨j + 1, by omega, by omega, by have h := HNn.out; push_cast; exact ⟨h⟩⟩
        case measure =>
          have c1 := HNn.out.1.c3
          rw [c1, c3]
          simp [intOf]
          omega
      · have hjz : ¬ ((j : Int) + 1 ≤ (m : Int)) := by omega
        go_wp2_with fail
        go_quiet (fail)
        have HN8 := Aside.mk (show LkAt w tb db bn ((j : Int) + 1) (wr.drewN nq) ∧ (wr.drewN nq).heap[D1]? = some (.deferred (some [])) from ⟨HN.out.1.later (below_drewN (below_refl wr) nq), HN.out.2⟩)
        clear d1 a1 a3 HN HNo HL0
        generalize wr.drewN nq = w8 at HN8 ⊢
        have a0 := HN8.out.1.c0
        have HAl := Aside.mk (all_any (HT.out _ HN8.out.1.below) HC.out)
        go_wp2_with fail
        (with_reducible refine HAl.out.mono ?_)
        rintro e w9 ⟨b2, v2, rfl, hI9⟩
        have HN9 := Aside.mk (show LkAt w tb db bn ((j : Int) + 1) w9 ∧ w9.heap[D1]? = some (.deferred (some [])) from ⟨HN8.out.1.later hI9.below, below_heap hI9.below HN8.out.2⟩)
        have hb8 : bn < w8.heap.size := (Array.getElem?_eq_some_iff.1 HN8.out.1.h3).1
        have HSt2 := Aside.mk (ids_stops 3 (by omega) hI9 hb8 (by have := idsUp_len P P.length; have := HPl.out; simp only [List.length_cons]; omega))
        have HB9 := Aside.mk (show w.heap.size ≤ w9.heap.size from HN9.out.1.below.size)
        have HDl := Aside.mk (show D1 < w9.heap.size from (Array.getElem?_eq_some_iff.1 HN9.out.2).1)
        clear hI9 a0 HAl hb8
        go_wp2_with fail
        refine (wpIn_wide (n := 4)).1 ?_
        apply wpIn_rangeFunc_ownF (F := Fence.wide) (n := 4) rfl (by omega) (gf := 95) (lb := #[.pointer (some ⟨b2, 0, none⟩)]) rfl trivial (enters_of Tryd.func95 (by kernel_rfl) rfl) HSt2.out (fun h k => KX.trans h k) (KX.put (Nat.le_refl _)) (Below.refl _ _) (fun _ => rfl) (fun pre W => pre = [] ∧ LkAt w tb db bn ((j : Int) + 1) W ∧ W.heap[D1]? = some (.deferred (some []))) (fun c _ W => c = .exit 8 ∧ LkAt w tb db bn ((j : Int) + 1) W ∧ W.heap[D1]? = some (.deferred (some []))) ?gI ?gIx ?g0
        case gI =>
          rintro pre A B' row ⟨hp0, hl0, hd0⟩ hg hr
          exact ⟨hp0, hl0.grown HB9.out hg hr, (hg.block D1 (Array.getElem?_eq_some_iff.1 hd0).1 (fun e => by have := (hr D1 e.symm).1; have := HDl.out; omega)).trans hd0⟩
        case gIx =>
          rintro c s A B' row ⟨hp0, hl0, hd0⟩ hg hr
          exact ⟨hp0, hl0.grown HB9.out hg hr, (hg.block D1 (Array.getElem?_eq_some_iff.1 hd0).1 (fun e => by have := (hr D1 e.symm).1; have := HDl.out; omega)).trans hd0⟩
        case g0 => exact ⟨rfl, HN9.out.1, HN9.out.2⟩
        case hassign =>
          intro l x W K hK
          gi_wp2
          exact hK
        case hbody =>
          rintro l pre x W ⟨_, hl0, hd0⟩ _
          have HJ := Aside.mk (show LkAt w tb db bn ((j : Int) + 1) W ∧ W.heap[D1]? = some (.deferred (some [])) from ⟨hl0, hd0⟩)
          clear hl0 hd0
          gi_wp2
          exact ⟨KeepsOthers.refl _, rfl, HJ.out⟩
        case hdone =>
          rintro D2 xs W _ hS ⟨hp0, _⟩ _
          rw [hp0] at hS
          cases hS
        case hstop =>
          rintro D2 c pre W hD2 _ ⟨rfl, hl0, hd0⟩ hK2
          have HN10 := Aside.mk (show LkAt w tb db bn ((j : Int) + 1) W ∧ W.heap[D1]? = some (.deferred (some [])) ∧ W.heap[D2]? = some (.deferred (some [])) from ⟨hl0, hd0, hK2⟩)
          have HD12 := Aside.mk (show D1 ≠ D2 from by have := HDl.out; omega)
          have HDs2 := Aside.mk (show w.heap.size ≤ D2 from Nat.le_trans HB9.out hD2)
          have HSe := Aside.mk (setM ask (HT.out W hl0.below) HC.out HW.out)
          have b0 := hl0.c0
          clear hl0 hd0 hK2 hD2 HN9 HN8
          refine wpIn_wide.2 ?_
          go_wp2_with fail
          (with_reducible refine HSe.out.mono ?_)
          rintro e w11 ⟨hb11, h11⟩
          have HL11 := Aside.mk (HN10.out.1.later hb11)
          have HDD := Aside.mk (show w11.heap[D1]? = some (.deferred (some [])) ∧ w11.heap[D2]? = some (.deferred (some [])) from ⟨below_heap hb11 HN10.out.2.1, below_heap hb11 HN10.out.2.2⟩)
          clear hb11 HSe b0
          have ha5 : (askP P empty ask).2 = 0 ∨ askP P empty ask = (0, 5) := askP_or P empty ask
          have HHas := Aside.mk (has_docM ask (HD.out w11 HL11.out.below) (by rw [← HRel.out.len]; have := HPl.out; omega) HW.out)
          rw [HRel.out.has HI.out.nn ask] at HHas
          have b1 := HL11.out.c1
          rcases ha5 with h0 | h5
          · rw [h0] at h11 HHas
            rw [if_pos rfl] at h11
            obtain ⟨u, rfl, _⟩ := h11
            rw [show ((0 : Int) == 0) = true from rfl] at HHas
            go_wp2_with fail
            (with_reducible refine HHas.out.mono ?_)
            rintro e w12 ⟨rfl, rfl⟩
            have c2 := HL11.out.c2
            have z2 := HL11.out.z2
            have HLX := HL11
            have HDX := HDD
            go_wp2
            rw [← HQ.out]
            have hK2 := (KeepsOthers.setCell w12 ⟨w.heap.size + 2, 0, none⟩ (.bool true)).same D2 _ HDX.out.2 rfl
            have hK1 := (KeepsOthers.setCell w12 ⟨w.heap.size + 2, 0, none⟩ (.bool true)).same D1 _ HDX.out.1 rfl
            have hK1' := (World.putObj_heap_other (o := .deferred none) HD12.out).trans hK1
            have hc5 := cell_kept (cell_kept (World.cell?_setCell_same' w12 ⟨w.heap.size + 2, 0, none⟩ (.bool true) (by rw [c2]; rfl)) (grownBy_putObj' _ D2 (.deferred none)) (fun r e => by cases e; exact ⟨_, hK2, rfl⟩)) (grownBy_putObj' _ D1 (.deferred none)) (fun r e => by cases e; exact ⟨_, hK1', rfl⟩)
            refine ⟨by simp, .inl ⟨_, _, rfl, run_takeDeferred hK2, ?_⟩⟩
            refine ⟨by simp, .inl ⟨_, _, rfl, run_takeDeferred hK1', ?_⟩⟩
            refine ⟨.bool true, ?_, rfl, ((HLX.out.below.setCell (p := ⟨w.heap.size + 2, 0, none⟩) (Nat.le_add_right _ _) _).trans (belowK_b (w := w) (Nat.le_refl _) _ D2 _ _ HDs2.out hK2 rfl rfl)).trans (belowK_b (w := w) (Nat.le_refl _) _ D1 _ _ HDs1.out hK1' rfl rfl)⟩
            simp [results, Tryd.f41, go_sem, hc5]
          · have HHe := Aside.mk (fun (W : World) (hb : Below w.heap.size w W) => heldM ask (HT.out W hb) HC.out HW.out)
            rw [h5] at h11 HHas HHe
            rw [if_neg (by decide)] at h11
            subst h11
            rw [show ((5 : Int) == 0) = false from rfl] at HHas
            go_wp2_with fail
            (with_reducible refine HHas.out.mono ?_)
            rintro e w12 ⟨rfl, rfl⟩
            have b0 := HL11.out.c0
            have HHf := Aside.mk (HHe.out w12 HL11.out.below)
            go_wp2_with fail
            (with_reducible refine HHf.out.mono ?_)
            rintro e w13 ⟨rfl, hb13⟩
            have HLX := Aside.mk (HL11.out.later hb13)
            have HDX := Aside.mk (show w13.heap[D1]? = some (.deferred (some [])) ∧ w13.heap[D2]? = some (.deferred (some [])) from ⟨below_heap hb13 HDD.out.1, below_heap hb13 HDD.out.2⟩)
            have c2 := HLX.out.c2
            have z2 := HLX.out.z2
            clear hb13 b0 b1
            go_wp2
            rw [← HQ.out]
            have hK2 := (KeepsOthers.setCell w13 ⟨w.heap.size + 2, 0, none⟩ (.bool true)).same D2 _ HDX.out.2 rfl
            have hK1 := (KeepsOthers.setCell w13 ⟨w.heap.size + 2, 0, none⟩ (.bool true)).same D1 _ HDX.out.1 rfl
            have hK1' := (World.putObj_heap_other (o := .deferred none) HD12.out).trans hK1
            have hc5 := cell_kept (cell_kept (World.cell?_setCell_same' w13 ⟨w.heap.size + 2, 0, none⟩ (.bool true) (by rw [c2]; rfl)) (grownBy_putObj' _ D2 (.deferred none)) (fun r e => by cases e; exact ⟨_, hK2, rfl⟩)) (grownBy_putObj' _ D1 (.deferred none)) (fun r e => by cases e; exact ⟨_, hK1', rfl⟩)
            refine ⟨by simp, .inl ⟨_, _, rfl, run_takeDeferred hK2, ?_⟩⟩
            refine ⟨by simp, .inl ⟨_, _, rfl, run_takeDeferred hK1', ?_⟩⟩
            refine ⟨.bool true, ?_, rfl, ((HLX.out.below.setCell (p := ⟨w.heap.size + 2, 0, none⟩) (Nat.le_add_right _ _) _).trans (belowK_b (w := w) (Nat.le_refl _) _ D2 _ _ HDs2.out hK2 rfl rfl)).trans (belowK_b (w := w) (Nat.le_refl _) _ D1 _ _ HDs1.out hK1' rfl rfl)⟩
            simp [results, Tryd.f41, go_sem, hc5]
  case hstop =>
    rintro D c pre W hD hSp ⟨_, hx⟩ hK
    exact absurd hSp hx
end Go.Proofs.YtaejlgdmalhhnaaDoor
