/- Texts put together: De, Df, Dg. -/
import Derived.Test.YtaejlgdmalhhnaaDoorPkG
/- Layer 7, the document's: Free of a table, at a place. -/
set_option linter.unusedVariables false
set_option linter.unusedSimpArgs false
namespace Go.Proofs.YtaejlgdmalhhnaaDoor
open Go.RowKit Go.Maps

variable {B db : Nat} {O : Nat → Prop} {w w' w1 : World} {kv sv hv lv v1 : Value} {S : List (Value × List At)} {H free : List Int} {empty : Int} {D : Ps}
set_option maxRecDepth 100000 in
set_option maxHeartbeats 1000000 in
theorem free_docN {i : Nat} {p : List At × Int} (h : DocM B O w db kv D free empty) (hd : DBd D free empty) (hi : D[i]? = some p) (h1p : 1 < p.2) :
    Calls Tryd.prog 38 #[.pointer (some ⟨db, 0, none⟩), .int .i64 ((i : Int) + 1)] w (DocPost B O w db kv (D.set i (p.1, p.2 - 1)) free empty (.tuple #[])) := by
  obtain ⟨sv, hv, lv, S, H, h, hp, rfl⟩ := h
  obtain ⟨s, hs, hx, hsp⟩ := psOf_two hi
  have hlp := psOf_len S H hp.len
  have hlt := (List.getElem?_eq_some_iff.1 hx).1
  have hb1 := hd.held p (List.mem_of_getElem? hi)
  have hll := hd.len
  obtain ⟨hA, hc, rfl, h1, h2, h3⟩ := nums_slice h.held
  obtain ⟨ha, rfl, hcx⟩ := h3 i p.2 hx
  have z := row_fz0 h.held i
  have f2 := h.f2
  have HD1 := Aside.mk (h.putHeld rfl i (p.2 - 1))
  have HZ := Aside.mk (show DocPost B O w db kv ((psOf S H).set i (p.1, p.2 - 1)) free empty (.tuple #[]) (.returned (.tuple #[])) (w.setCell (ha.add i) (.int .i64 (p.2 - 1))) from
    ⟨rfl, ⟨sv, _, lv, S, H.set i (p.2 - 1), HD1.out.wideG h.top h.baseB (by rw [setCell_size]; exact Nat.le_refl _), hp.heldSet i _ (by omega), by rw [psOf_heldSet hs, hsp]⟩, turn_set w (ha.add i) _ (by
      obtain ⟨g, cur, rfl, _⟩ := row_at h.held
      rw [addr_block]
      exact h.heldO g rfl)⟩)
  have d2 := HD1.out.f2
  obtain ⟨_, _, e1, _, _, h3'⟩ := nums_slice HD1.out.held
  injection e1 with e1 e1b e1c
  clear e1b e1c
  obtain ⟨ha', e2, dx⟩ := h3' i (p.2 - 1) (by rw [List.getElem?_set_self hlt])
  rw [← e1] at e2
  injection e2 with e2
  subst e2
  obtain ⟨R, hR⟩ : ∃ R, DocPost B O w db kv ((psOf S H).set i (p.1, p.2 - 1)) free empty (.tuple #[]) = R := ⟨_, rfl⟩
  rw [hR] at HZ ⊢
  obtain ⟨x, hxx⟩ : ∃ x, p.2 = x := ⟨_, rfl⟩
  rw [hxx] at hcx HZ h1p hb1 d2 dx
  have g1 : (H.length : Int) ≤ (hc : Int) := by omega
  have g2 : (H.length : Int) ≤ 1000000 := by have := hp.len; omega
  have g3 : (i : Int) < (H.length : Int) := by omega
  have q0 : (((i : Int) + 1) == 0) = false := by simp; omega
  have q1 : ((x - 1 : Int) == 0) = false := by simp; omega
  clear h hp hd hR h3 h3' hs hx hsp hi hxx hlp hll e1 HD1
  go_enter Tryd.func38, Tryd.ntmps38
  go_wp2
  go_end0
  exact HZ.out
set_option maxRecDepth 100000 in
set_option maxHeartbeats 1000000 in
theorem free_docL {i : Nat} {p : List At × Int} (h : DocM B O w db kv D free empty) (hd : DBd D free empty) (hi : D[i]? = some p) (h1p : p.2 = 1) :
    Calls Tryd.prog 38 #[.pointer (some ⟨db, 0, none⟩), .int .i64 ((i : Int) + 1)] w (DocPost B O w db kv (D.set i (p.1, 0)) (free ++ [(i : Int)]) empty (.tuple #[])) := by
  obtain ⟨sv, hv, lv, S, H, h, hp, rfl⟩ := h
  obtain ⟨s, hs, hx, hsp⟩ := psOf_two hi
  have hlp := psOf_len S H hp.len
  have hlt := (List.getElem?_eq_some_iff.1 hx).1
  have hll := hd.len
  have hfl := hd.flen
  obtain ⟨hA, hc, rfl, h1, h2, h3⟩ := nums_slice h.held
  obtain ⟨ha, rfl, hcx⟩ := h3 i p.2 hx
  have z := row_fz0 h.held i
  have f2 := h.f2
  have HD1 := Aside.mk (h.putHeld rfl i 0)
  have HT1 := Aside.mk (turn_set w (ha.add i) (.int .i64 0) (show O (ha.add i).block by
      obtain ⟨g, cur, rfl, _⟩ := row_at h.held
      rw [addr_block]
      exact h.heldO g rfl))
  have HH := Aside.mk h
  have d2 := HD1.out.f2
  have d3 := HD1.out.f3
  obtain ⟨_, _, e1, _, _, h3'⟩ := nums_slice HD1.out.held
  injection e1 with e1 e1b e1c
  clear e1b e1c
  obtain ⟨ha', e2, dx⟩ := h3' i 0 (by rw [List.getElem?_set_self hlt])
  rw [← e1] at e2
  injection e2 with e2
  subst e2
  obtain ⟨lA, lc, hlv, l1, l2, _⟩ := nums_slice HD1.out.loose
  subst hlv
  rw [h1p] at hcx
  have HPs := Aside.mk (show psOf S (H.set i 0) = (psOf S H).set i (p.1, 0) by rw [psOf_heldSet hs, hsp])
  have HPl := Aside.mk (hp.heldSet i 0 (by omega))
  obtain ⟨R, hR⟩ : ∃ R, DocPost B O w db kv ((psOf S H).set i (p.1, 0)) (free ++ [(i : Int)]) empty (.tuple #[]) = R := ⟨_, rfl⟩
  rw [hR]
  have HR := Aside.mk hR
  have g1 : (H.length : Int) ≤ (hc : Int) := by omega
  have g2 : (H.length : Int) ≤ 1000000 := by have := hp.len; omega
  have g3 : (i : Int) < (H.length : Int) := by omega
  have q0 : (((i : Int) + 1) == 0) = false := by simp; omega
  have HFl := Aside.mk hfl
  clear h hp hd hR h3 h3' hs hx hsp hi hlp hll e1 h1p hfl
  go_enter Tryd.func38, Tryd.ntmps38
  go_wp2_with (at_builtin; go_must (refine app_lit2 (w0 := w.setCell (ha.add i) (.int .i64 0)) w.heap.size B (setCell_size _ _ _).symm rfl (.tmp 41) (.tmp 44) 45 3 (.int .i64 0) 1 8 _ rfl Tryd.underlying45 info3 rfl (by decide) (.slice lA free.length lc) free.length 1 (nums .i64 free) (nums .i64 [(i : Int)]) rfl rfl rfl rfl (nums_one _ _) HD1.out.loose (Below.refl _ _) HD1.out.baseB (by have := HFl.out; omega) (by have := HFl.out; omega) ?_))
  intro v2 w2 hown hbel hg hat
  have HG2 := Aside.mk (HD1.out.growLoose hg hown (by rw [setCell_size]; exact hat))
  have hdb := HD1.out.dbk HD1.out.loose (by decide) hg
  obtain ⟨vA, vc, rfl, _⟩ := own_form hown
  have HT2 := Aside.mk (((HT1.out.trans (Turn.of_grown hg HD1.out.looseO)).mono (fun k hk => hk)).trans (turn_set w2 ⟨db, 3, none⟩ (.slice vA (free.length + 1) vc) HD1.out.dbO))
  have e3 : w2.cell? ⟨db, 3, none⟩ = some (.slice lA free.length lc) := by unfold World.cell?; simp only [hdb]; rfl
  have z3 := frozen_of_row w2 db 3 _ 47 hdb
  have HE := Aside.mk (show DocPost B O w db kv ((psOf S H).set i (p.1, 0)) (free ++ [(i : Int)]) empty (.tuple #[]) (.returned (.tuple #[])) (w2.setCell ⟨db, 3, none⟩ (.slice vA (free.length + 1) vc)) from
    ⟨rfl, ⟨sv, _, _, S, H.set i 0, HG2.out.wide (fun k hk => by
      rcases hk with hk | hk
      · exact .inl hk
      · refine .inr ?_
        rw [setCell_size] at hk
        rw [setCell_size]
        exact hk) (fun k hk => by
      have := HT2.out.size
      exact grow_top HH.out.top HH.out.baseB this k hk), HPl.out, HPs.out⟩, HT2.out⟩)
  clear hown hbel hg hat hdb
  go_wp2
  go_end0
  rw [← HR.out]
  exact HE.out
end Go.Proofs.YtaejlgdmalhhnaaDoor
/- Layer 7, the document's: Add of a table: refused, the empty set, a set that is there. -/
set_option linter.unusedVariables false
set_option linter.unusedSimpArgs false
namespace Go.Proofs.YtaejlgdmalhhnaaDoor
open Go.RowKit Go.Maps

variable {B db : Nat} {O : Nat → Prop} {w w' w1 : World} {KA : Option Addr} {kc : Nat} {ks : List Ky} {sv hv lv v1 : Value} {S : List (Value × List At)} {H free : List Int} {empty : Int} {D : Ps} {A : Option Addr} {c : Nat} {l : List At}
theorem grow_trans0 {k : Nat} (h : w.heap.size ≤ w1.heap.size) (hk : Grow O w1 w' k) : Grow O w w' k := by
  rcases hk with hk | hk
  · exact .inl hk
  · exact .inr ⟨by omega, hk.2⟩
/-- A call's post behind others that made memory alone. -/
theorem DocPost.behind {r : Value} {e : Ending} {kv : Value} (hb : Below w.heap.size w w1) (ht : ∀ k, O k → B ≤ k ∧ k < w.heap.size) (hB : B ≤ w.heap.size) (h : DocPost B O w1 db kv D free empty r e w') : DocPost B O w db kv D free empty r e w' := by
  obtain ⟨he, ⟨sv, hv, lv, S, H, hd, hp, eq⟩, hu⟩ := h
  refine ⟨he, ⟨sv, hv, lv, S, H, hd.wide (fun k hk => grow_trans0 hb.size hk) (grow_top ht hB (Nat.le_trans hb.size hu.size)), hp, eq⟩, (Turn.of_below hb).trans hu⟩
theorem DocM.top {kv : Value} (h : DocM B O w db kv D free empty) : (∀ k, O k → B ≤ k ∧ k < w.heap.size) ∧ B ≤ w.heap.size := by
  obtain ⟨sv, hv, lv, S, H, h, _⟩ := h
  exact ⟨h.top, h.baseB⟩
/-- What a set that is handed in is like. -/
structure ArgS (w : World) (A : Option Addr) (c : Nat) (l : List At) : Prop where
  src : ASrc w A l
  cap : l.length ≤ c
  len : l.length ≤ 100000
  wf : ∀ a ∈ l, a.wfA
  sz : okSz l
set_option maxRecDepth 100000 in
set_option maxHeartbeats 1000000 in
theorem add_docE (hK : KSrc w KA ks) (hkc : ks.length ≤ kc) (hkl : ks.length ≤ 9223372036854775807) (h : DocM B O w db (.slice KA ks.length kc) D free empty) (ha : ArgS w A c l) (he : mayA ks l ≠ 0) :
    Calls Tryd.prog 36 #[.pointer (some ⟨db, 0, none⟩), .slice A l.length c] w (DocPost B O w db (.slice KA ks.length kc) D free empty (.tuple #[.int .i64 0, .int .i64 (mayA ks l)])) := by
  have HM := Aside.mk (dMayA_any KA kc ks A c l w hkc hkl hK ha.src ha.cap ha.len ha.wf ha.sz)
  obtain ⟨ht, hB⟩ := h.top
  obtain ⟨sv, hv, lv, S, H, hd, hp, eq⟩ := h
  have f0 := hd.f0
  obtain ⟨m, hm⟩ : ∃ m, mayA ks l = m := ⟨_, rfl⟩
  rw [hm] at HM he ⊢
  have q : ((m : Int) != 0) = true := by simpa using he
  have HZ := Aside.mk (fun (w1 : World) (hb : Below w.heap.size w w1) => show DocPost B O w db (.slice KA ks.length kc) D free empty (.tuple #[.int .i64 0, .int .i64 m]) (.returned (.tuple #[.int .i64 0, .int .i64 m])) w1 from
    ⟨rfl, ⟨sv, hv, lv, S, H, (hd.below hb).wideG ht hB hb.size, hp, eq⟩, Turn.of_below hb⟩)
  obtain ⟨R, hR⟩ : ∃ R, DocPost B O w db (.slice KA ks.length kc) D free empty (.tuple #[.int .i64 0, .int .i64 m]) = R := ⟨_, rfl⟩
  rw [hR] at HZ ⊢
  clear hR hd hp eq ha hK hm he ht
  go_enter Tryd.func36, Tryd.ntmps36
  go_wp2_with fail
  (with_reducible refine HM.out.mono ?_)
  rintro e w1 ⟨rfl, hb⟩
  have HE := Aside.mk (HZ.out w1 hb)
  clear hb
  go_wp2
  exact HE.out
set_option maxRecDepth 100000 in
set_option maxHeartbeats 1000000 in
theorem add_docZ (hK : KSrc w KA ks) (hkc : ks.length ≤ kc) (hkl : ks.length ≤ 9223372036854775807) (h : DocM B O w db (.slice KA ks.length kc) D free empty) (hbd : DBd D free empty) (ha : ArgS w A c l) (he : mayA ks l = 0) (h0 : l = []) :
    Calls Tryd.prog 36 #[.pointer (some ⟨db, 0, none⟩), .slice A l.length c] w (DocPost B O w db (.slice KA ks.length kc) D free (empty + 1) (.tuple #[.int .i64 0, .int .i64 0])) := by
  have HM := Aside.mk (dMayA_any KA kc ks A c l w hkc hkl hK ha.src ha.cap ha.len ha.wf ha.sz)
  rw [he] at HM
  obtain ⟨ht, hB⟩ := h.top
  obtain ⟨sv, hv, lv, S, H, hd, hp, eq⟩ := h
  have HD := Aside.mk hd
  have f0 := hd.f0
  have hemp := hbd.emp
  have HZ := Aside.mk (fun (w1 : World) (hb : Below w.heap.size w w1) => show DocPost B O w db (.slice KA ks.length kc) D free (empty + 1) (.tuple #[.int .i64 0, .int .i64 0]) (.returned (.tuple #[.int .i64 0, .int .i64 0])) (w1.setCell ⟨db, 4, none⟩ (.int .i64 (empty + 1))) from
    ⟨rfl, ⟨sv, hv, lv, S, H, ((hd.below hb).setEmpty (empty + 1)).wideG ht hB (by rw [setCell_size]; exact hb.size), hp, eq⟩, (Turn.of_below hb).trans (turn_set w1 ⟨db, 4, none⟩ _ hd.dbO)⟩)
  obtain ⟨R, hR⟩ : ∃ R, DocPost B O w db (.slice KA ks.length kc) D free (empty + 1) (.tuple #[.int .i64 0, .int .i64 0]) = R := ⟨_, rfl⟩
  rw [hR] at HZ ⊢
  subst h0
  simp only [List.length_nil] at HM ⊢
  clear hR hd hp eq ha hK he ht
  go_enter Tryd.func36, Tryd.ntmps36
  go_wp2_with fail
  (with_reducible refine HM.out.mono ?_)
  rintro e w1 ⟨rfl, hb⟩
  have HE := Aside.mk (HZ.out w1 hb)
  have f4 := (HD.out.below hb).f4
  have z4 := (HD.out.below hb).fz 4
  clear hb
  go_wp2
  exact HE.out
set_option maxRecDepth 100000 in
set_option maxHeartbeats 2000000 in
theorem add_docF {i : Nat} {x : Int} (hK : KSrc w KA ks) (hkc : ks.length ≤ kc) (hkl : ks.length ≤ 9223372036854775807) (h : DocM B O w db (.slice KA ks.length kc) D free empty) (hbd : DBd D free empty) (ha : ArgS w A c l) (he : mayA ks l = 0) (h0 : l ≠ []) (hf : findP D l = some i) (hi : D[i]? = some (l, x)) :
    Calls Tryd.prog 36 #[.pointer (some ⟨db, 0, none⟩), .slice A l.length c] w (DocPost B O w db (.slice KA ks.length kc) (D.set i (l, x + 1)) free empty (.tuple #[.int .i64 ((i : Int) + 1), .int .i64 0])) := by
  have HM := Aside.mk (dMayA_any KA kc ks A c l w hkc hkl hK ha.src ha.cap ha.len ha.wf ha.sz)
  rw [he] at HM
  obtain ⟨ht, hB⟩ := h.top
  obtain ⟨sv, hv, lv, S, H, hd, hp, rfl⟩ := h
  obtain ⟨s, hs, hx, hsp⟩ := psOf_two hi
  simp only at hsp hx
  have hlp := psOf_len S H hp.len
  have hlt := (List.getElem?_eq_some_iff.1 hx).1
  have hb1 := hbd.held _ (List.mem_of_getElem? hi)
  simp only at hb1
  have hb0 := hp.nn _ (List.mem_of_getElem? hx)
  have hll := hbd.len
  have HD := Aside.mk hd
  have f0 := hd.f0
  have HFd := Aside.mk (fun (w1 : World) (hb : Below w.heap.size w w1) => find_doc A c l (hd.below hb) hp (by have := hp.len; omega) (ha.src.below hb) ha.cap (by have := ha.len; omega))
  rw [hf] at HFd
  obtain ⟨hA, hc, rfl, h1, h2, h3⟩ := nums_slice hd.held
  obtain ⟨hh, rfl, _⟩ := h3 i x hx
  have HX := Aside.mk hx
  have HZ := Aside.mk (fun (w1 : World) (hb : Below w.heap.size w w1) => show DocPost B O w db (.slice KA ks.length kc) ((psOf S H).set i (l, x + 1)) free empty (.tuple #[.int .i64 ((i : Int) + 1), .int .i64 0]) (.returned (.tuple #[.int .i64 ((i : Int) + 1), .int .i64 0])) (w1.setCell (hh.add i) (.int .i64 (x + 1))) from
    ⟨rfl, ⟨sv, _, lv, S, H.set i (x + 1), ((hd.below hb).putHeld rfl i (x + 1)).wideG ht hB (by rw [setCell_size]; exact hb.size), hp.heldSet i _ (by omega), by rw [psOf_heldSet hs, hsp]⟩, (Turn.of_below hb).trans (turn_set w1 (hh.add i) _ (by
      obtain ⟨g, cur, rfl, _⟩ := row_at hd.held
      rw [addr_block]
      exact hd.heldO g rfl))⟩)
  have g1 : (H.length : Int) ≤ (hc : Int) := by omega
  have g2 : (H.length : Int) ≤ 1000000 := by have := hp.len; omega
  have g3 : (i : Int) < (H.length : Int) := by omega
  have hlz : ((l.length : Int) == 0) = false := by
    have := List.length_pos_iff.2 h0
    simp; omega
  obtain ⟨R, hR⟩ : ∃ R, DocPost B O w db (.slice KA ks.length kc) ((psOf S H).set i (l, x + 1)) free empty (.tuple #[.int .i64 ((i : Int) + 1), .int .i64 0]) = R := ⟨_, rfl⟩
  rw [hR] at HZ ⊢
  have hal : (l.length : Int) ≤ 100000 := by have := ha.len; omega
  clear hR hd hp ha hK he ht h0 hf hi hs hx hsp h3 hlp hll
  go_enter Tryd.func36, Tryd.ntmps36
  go_wp2_with fail
  (with_reducible refine HM.out.mono ?_)
  rintro e w1 ⟨rfl, hb⟩
  have HB := Aside.mk hb
  clear hb
  go_wp2_with fail
  (with_reducible refine (HFd.out _ HB.out).mono ?_)
  rintro e w2 ⟨rfl, hb⟩
  have HB2 := Aside.mk (below_then HB.out hb)
  have HE := Aside.mk (HZ.out w2 HB2.out)
  have HD2 := Aside.mk (HD.out.below HB2.out)
  have f2 := HD2.out.f2
  obtain ⟨_, _, e1, _, _, h3⟩ := nums_slice HD2.out.held
  injection e1 with e1 e1b e1c
  clear e1b e1c
  obtain ⟨hh', e2, hcx⟩ := h3 i x HX.out
  rw [← e1] at e2
  injection e2 with e2
  subst e2
  have z := row_fz0 HD2.out.held i
  clear hb h3 e1
  go_wp2
  exact HE.out
end Go.Proofs.YtaejlgdmalhhnaaDoor
/- Layer 7, the document's: appends in a region that draws; plain laws on sets that are laid. -/
set_option linter.unusedVariables false
set_option linter.unusedSimpArgs false
namespace Go.Proofs.YtaejlgdmalhhnaaDoor
open Go.RowKit Go.Maps

theorem mid {T G : Prop} (h : T → G) (t : T) : G := h t
/-- append(v, ys...) as it runs: ys a slice that is read, nil let in. -/
theorem append_run {P : Program} {W : World} (base : Nat) (ty t e : TypeId) (z : Value) (size bytes : Nat)
    (ht : P.underlying t = some (.slice e)) (hinfo : (P.info? e).map (fun i => (i.zero, i.size, i.bytes)) = some (some z, size, bytes)) (hz : z.cells.size = size) (hsz : 0 < size)
    (v : Value) (n m c : Nat) (A : Option Addr) (xs ys : List Value) (hy : ys.length = m * size) (h1 : ∀ u ∈ ys, u.oneCell' = true)
    (HO : W.ownsRow base e size v n xs) (HC : Cells W A ys) (hbase : base ≤ W.heap.size) (h63 : n + m ≤ 9223372036854775807) (hl : (n + m) * bytes ≤ 140737488355328) :
    ∃ v1 w1, (Builtin.append_ #[t, t] ty #[v, .slice A m c]).run P W = .ok v1 w1 ∧ w1.ownsRow base e size v1 (n + m) (xs ++ ys) ∧ W.grownBy w1 v.ownBlock ∧ (v1.ownBlock = v.ownBlock ∨ v1.ownBlock = some W.heap.size) := by
  obtain ⟨i0, hi, hzz⟩ := Option.map_eq_some_iff.1 hinfo
  simp only [Prod.mk.injEq] at hzz
  obtain ⟨hz0, hz1, hz2⟩ := hzz
  rcases A with _ | ad
  · have h0 : ys = [] := by
      rcases Nat.eq_zero_or_pos ys.length with h0 | h0
      · exact List.eq_nil_of_length_eq_zero h0
      · obtain ⟨ad, h, _⟩ := HC h0
        cases h
    subst h0
    have hm : m = 0 := by
      rcases Nat.eq_zero_or_pos m with h0 | h0
      · exact h0
      · have := Nat.mul_pos h0 hsz; simp at hy; omega
    subst hm
    refine ⟨v, W, ?_, by simpa using HO, World.grownBy.refl W _, .inl rfl⟩
    rcases HO.2 with ⟨rfl, hn⟩ | ⟨g, cap, cur, rfl, _, _, hnc, _⟩
    · simp [Builtin.append_, run_underlying ht, sizeOf, typeInfo, hi, Builtin.lenOf, Builtin.firstCells]
    · simp [Builtin.append_, run_underlying ht, sizeOf, typeInfo, hi, Builtin.lenOf, Builtin.firstCells, hnc, storeCells]
  · have hcells : ∀ j u, ys[j]? = some u → W.cell? (ad.add j) = some u := by
      intro j u hu
      obtain ⟨ad', h', hc⟩ := HC (by rcases Nat.eq_zero_or_pos ys.length with h0 | h0; · rw [List.eq_nil_of_length_eq_zero h0] at hu; simp at hu
                                     · exact h0)
      injection h' with h'
      subst h'
      exact hc j u hu
    obtain ⟨v1, w1, hr, h2, h3, _, h5⟩ := run_append_own_at (P := P) W base t ty e i0 z size bytes ht hi hz0 hz1 hz2 hz hsz v n xs HO ad m c ys hy hcells h1 (by simp only [maxLen]; omega) hl hbase
    exact ⟨v1, w1, hr, h2, h3, h5⟩
theorem app_step {P : Program} {o : Oper} {a : Act} {w w' : World} {K : Act → World → Prop} {Q : Exit → Act → World → Prop} {t : TypeId} (s x : Operand) (sv xv v1 : Value) (hop : o.op = .call { callee := .builtin .append, args := #[s, x], argTypes := #[t, t] })
    (hs : a.eval s = sv) (hx : a.eval x = xv) (hrun : (Builtin.append_ #[t, t] o.type #[sv, xv]).run P w = .ok v1 w') (hK : K (a.put o.dst v1) w') : Oper.wp P o a w K Q := by
  unfold Oper.wp
  simp [execOp, hop, resolve, invoke, builtin, hs, hx, hrun, Result.andThen]
  exact hK
variable {S : List (Value × List At)} {H : List Int}
theorem psOf_set {i : Nat} (v : Value) (l : List At) (x : Int) (hl : S.length = H.length) (hi : i < S.length) : psOf (S.set i (v, l)) (H.set i x) = (psOf S H).set i (l, x) := by
  apply List.ext_getElem?
  intro j
  by_cases h : i = j
  · subst h
    rw [psOf_at, List.getElem?_set_self hi, List.getElem?_set_self (by omega), List.getElem?_set_self (by rw [psOf_len S H hl]; exact hi)]
  · rw [List.getElem?_set_ne h, psOf_at, psOf_at, List.getElem?_set_ne h, List.getElem?_set_ne h]
theorem psOf_snoc (v : Value) (l : List At) (x : Int) (hl : S.length = H.length) : psOf (S ++ [(v, l)]) (H ++ [x]) = psOf S H ++ [(l, x)] := by
  unfold psOf
  rw [List.map_append, List.zip_append (by rw [List.length_map]; exact hl)]
  rfl
theorem DPl.set (h : DPl S H) (i : Nat) (v : Value) (l : List At) (x : Int) (hx : 0 ≤ x) (hl : l.length ≤ 64) : DPl (S.set i (v, l)) (H.set i x) :=
  ⟨by rw [List.length_set, List.length_set]; exact h.len, fun y hy => by rcases List.mem_or_eq_of_mem_set hy with hy | rfl; · exact h.nn y hy
                                                                         · exact hx,
    fun s hs => by rcases List.mem_or_eq_of_mem_set hs with hs | rfl; · exact h.sz s hs
                   · exact hl⟩
theorem DPl.snoc (h : DPl S H) : DPl (S ++ [(.slice none 0 0, [])]) (H ++ [0]) :=
  ⟨by rw [List.length_append, List.length_append, h.len]; rfl, fun y hy => by rcases List.mem_append.1 hy with hy | hy; · exact h.nn y hy
                                                                              · simp at hy; subst hy; exact Int.le_refl _,
    fun s hs => by rcases List.mem_append.1 hs with hs | hs; · exact h.sz s hs
                   · simp at hs; subst hs; exact Nat.zero_le _⟩
theorem cell_far {w : World} {a b : Addr} {v u : Value} (h : w.cell? a = some v) (hne : b.block ≠ a.block) : (w.setCell b u).cell? a = some v := by
  rw [World.cell?_setCell_far w b a u hne]; exact h
theorem DocAt.set_cell {B db n c : Nat} {O : Nat → Prop} {w : World} {kv hv lv : Value} {sa : Addr} {free : List Int} {empty : Int} (h : DocAt B O w db kv (.slice (some sa) n c) hv lv S H free empty) {i : Nat} {s : Value × List At} (hi : S[i]? = some s) : w.cell? (sa.add i) = some s.1 := by
  obtain ⟨A, c', e, _, _, h3⟩ := sets_slice h.sets
  injection e with e
  obtain ⟨a, e2, hc⟩ := h3 i s hi
  rw [← e] at e2
  injection e2 with e2
  rw [e2]
  exact hc
theorem DocAt.held_cell {B db n c : Nat} {O : Nat → Prop} {w : World} {kv sv lv : Value} {ha : Addr} {free : List Int} {empty : Int} (h : DocAt B O w db kv sv (.slice (some ha) n c) lv S H free empty) {i : Nat} {x : Int} (hi : H[i]? = some x) : w.cell? (ha.add i) = some (.int .i64 x) := by
  obtain ⟨A, c', e, _, _, h3⟩ := nums_slice h.held
  injection e with e
  obtain ⟨a, e2, hc⟩ := h3 i x hi
  rw [← e] at e2
  injection e2 with e2
  rw [e2]
  exact hc
theorem DocAt.loose_cell {B db n c : Nat} {O : Nat → Prop} {w : World} {kv sv hv : Value} {la : Addr} {free : List Int} {empty : Int} (h : DocAt B O w db kv sv hv (.slice (some la) n c) S H free empty) {i : Nat} {x : Int} (hi : free[i]? = some x) : w.cell? (la.add i) = some (.int .i64 x) := by
  obtain ⟨A, c', e, _, _, h3⟩ := nums_slice h.loose
  injection e with e
  obtain ⟨a, e2, hc⟩ := h3 i x hi
  rw [← e] at e2
  injection e2 with e2
  rw [e2]
  exact hc
end Go.Proofs.YtaejlgdmalhhnaaDoor
