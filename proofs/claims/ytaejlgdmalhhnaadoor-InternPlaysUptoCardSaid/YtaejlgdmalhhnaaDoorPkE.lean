/- Texts put together: In, Io, Iq. -/
import Derived.Test.YtaejlgdmalhhnaaDoorPkD
import Derived.Test.YtaejlgdmalhhnaaDoorPkB
/- Layer 7: Free (printed by gen_free.py). -/
set_option linter.unusedVariables false
set_option linter.unusedSimpArgs false
namespace Go.Proofs.YtaejlgdmalhhnaaDoor
open Go.RowKit Go.Maps

variable {B : Nat} {O : Nat → Prop} {w w' : World} {tb : Nat} {sv pv fv : Value} {mb : Nat} {E : List En} {free : List Int} {empty : Int} {cnt : Nat} {F : List UInt8 → Option Int}
theorem wanted_pos {c : Bool} {X Y : Prop} (h : c = true) (hX : X) : if c = true then X else Y := by rw [if_pos h]; exact hX
theorem del_step {P : Program} {o : Oper} {a : Act} {w w' : World} {K : Act → World → Prop} {Q : Exit → Act → World → Prop} {t k : TypeId} (m x : Operand) (mv xv : Value) (hd : o.dst = none) (hop : o.op = .call { callee := .builtin .delete, args := #[m, x], argTypes := #[t, k] })
    (hm : a.eval m = mv) (hx : a.eval x = xv) (hrun : (Builtin.delete_ #[t, k] o.type #[mv, xv]).run P w = .ok (.tuple #[]) w') (hK : K a w') : Oper.wp P o a w K Q := by
  have hp : a.put o.dst (.tuple #[]) = a := by rw [hd]; rfl
  unfold Oper.wp
  simp [execOp, hop, resolve, invoke, builtin, hm, hx, hrun, Result.andThen]
  show K (a.put o.dst (.tuple #[])) w'
  rw [hp]
  exact hK
set_option maxRecDepth 100000 in
theorem free_err (id : Int) (h : TabAt B O w tb sv pv fv mb E free empty cnt) (hc : cnt ≤ 100000) (hw : (Lit.int .i64 id).wf = true) (he : (askP (E.map pr) empty id).2 ≠ 0) :
    Calls Tryd.prog 37 #[.pointer (some ⟨tb, 0, none⟩), .int .i64 id] w (OpPost B O w tb sv mb (E.map pr) free empty (cnt + 1) (.int .i64 (askP (E.map pr) empty id).2)) := by
  have HA := Aside.mk (asked_any id h (by omega) hw)
  rw [askP_eq] at he ⊢
  obtain ⟨A, c, n, hv⟩ := ask_slice h id
  have HP := Aside.mk (fun (w1 : World) (ae : Int) (hb : Below w.heap.size w w1) => op_same (r := .int .i64 ae) h hb)
  obtain ⟨⟨av, ah, ae⟩, ha⟩ : ∃ a, askV E empty id = a := ⟨_, rfl⟩
  rw [ha] at HA hv he ⊢
  simp only at hv he ⊢
  subst hv
  unfold AskPost at HA
  simp only at HA
  have q0 : ((ae : Int) != 0) = true := by simpa using he
  obtain ⟨R, hR⟩ : ∃ R, OpPost B O w tb sv mb (E.map pr) free empty (cnt + 1) (.int .i64 ae) = R := ⟨_, rfl⟩
  rw [hR]
  have HRR := Aside.mk hR
  clear h hw ha hR he
  go_enter Tryd.func37, Tryd.ntmps37
  go_wp2_with fail
  (with_reducible refine HA.out.mono ?_)
  rintro e w1 ⟨rfl, hb1⟩
  have HB := Aside.mk hb1
  clear hb1
  go_wp2
  rw [← HRR.out]
  exact HP.out _ _ (below_alloc HB.out _)
set_option maxRecDepth 100000 in
set_option maxHeartbeats 1000000 in
theorem free_zero (h : TabAt B O w tb sv pv fv mb E free empty cnt) (hc : cnt ≤ 100000) :
    Calls Tryd.prog 37 #[.pointer (some ⟨tb, 0, none⟩), .int .i64 0] w (OpPost B O w tb sv mb (E.map pr) free (max (empty - 1) 0) (cnt + 1) (.int .i64 0)) := by
  have HA := Aside.mk (asked_any 0 h (by omega) (by decide))
  have ha : askV E empty 0 = (.slice none 0 0, empty, 0) := rfl
  rw [ha] at HA
  unfold AskPost at HA
  simp only at HA
  have HH := Aside.mk h
  have b0 : 0 ≤ empty ∧ empty ≤ 100000 := by have := h.inv.emp; omega
  obtain ⟨R, hR⟩ : ∃ R, OpPost B O w tb sv mb (E.map pr) free (max (empty - 1) 0) (cnt + 1) (.int .i64 0) = R := ⟨_, rfl⟩
  rw [hR]
  have HRR := Aside.mk hR
  clear h ha hR
  go_enter Tryd.func37, Tryd.ntmps37
  go_wp2_with fail
  (with_reducible refine HA.out.mono ?_)
  rintro e w1 ⟨rfl, hb1⟩
  have HB := Aside.mk (below_alloc hb1 (.cells #[.slice none 0 0, .int .i64 empty] 132))
  have HT := Aside.mk (HH.out.below HB.out)
  clear hb1
  have f4 := HT.out.f4
  have z4 := HT.out.fz 4
  go_wp2
  rw [← HRR.out]
  exact op_empty HH.out HB.out (max (empty - 1) 0) (by omega) (by have := HH.out.inv.emp; omega)
set_option maxRecDepth 100000 in
set_option maxHeartbeats 1000000 in
theorem free_dec {i : Nat} {x : En} (h : TabAt B O w tb sv pv fv mb E free empty cnt) (hc : cnt ≤ 100000) (hx : E[i]? = some x) (h0 : 1 < x.held) :
    Calls Tryd.prog 37 #[.pointer (some ⟨tb, 0, none⟩), .int .i64 ((i : Int) + 1)] w (OpPost B O w tb sv mb ((E.map pr).set i (x.set, x.held - 1)) free empty (cnt + 1) (.int .i64 0)) := by
  have hil := (List.getElem?_eq_some_iff.1 hx).1
  have hli : (i : Int) < (E.length : Int) := by omega
  have hlE : (E.length : Int) ≤ 100000 := by have := h.inv.len; omega
  have HA := Aside.mk (asked_any ((i : Int) + 1) h (by omega) (WalkArith.wf_i64 (by omega)))
  rw [askV_at hx (by omega)] at HA
  unfold AskPost at HA
  simp only at HA
  obtain ⟨xA, xc, hxv, _⟩ := src_of_own (h.sets x (List.mem_of_getElem? hx)).1
  obtain ⟨xl, hxl⟩ : ∃ xl, x.set.length = xl := ⟨_, rfl⟩
  rw [hxl] at hxv
  rw [hxv] at HA
  obtain ⟨pa, c, hpv, hcp, _, _⟩ := h.place hx
  have hlc : (E.length : Int) ≤ (c : Int) := by omega
  have hh := h.inv.held x (List.mem_of_getElem? hx)
  have HP := Aside.mk (fun (w1 : World) (hb : Below w.heap.size w w1) => op_held (r := .int .i64 0) h hb hx hpv (by omega) (x.held - 1) (by omega) (by omega))
  have hF1 := Aside.mk (fun (w1 : World) (hb : Below w.heap.size w w1) => show w1.cell? ⟨(pa.add (i * 2)).block, (pa.add (i * 2)).off + 1, none⟩ = some (.int .i64 x.held) by
    obtain ⟨pa', c', hpv', _, _, hc1⟩ := (h.below hb).place hx
    rw [hpv] at hpv'
    injection hpv' with a1 a2 a3
    injection a1 with a1
    subst a1
    exact hc1)
  have hF2 := Aside.mk (fun (w1 : World) (hb : Below w.heap.size w w1) => (h.below hb).fzp hpv (i * 2) 1)
  have hF3 := Aside.mk (fun (w1 : World) (hb : Below w.heap.size w w1) => show w1.cell? ⟨tb, 1, none⟩ = some (.slice (some pa) E.length c) by rw [(h.below hb).f1, hpv])
  obtain ⟨xh, hxh⟩ : ∃ xh, x.held = xh := ⟨_, rfl⟩
  rw [hxh] at HA HP hF1 hh h0 ⊢
  have b0 : 1 < xh ∧ xh ≤ 100000 := by omega
  have q0 : (((i : Int) + 1) == 0) = false := by simp; omega
  have q1 : ((xh : Int) == 1) = false := by simp; omega
  obtain ⟨R, hR⟩ : ∃ R, OpPost B O w tb sv mb ((E.map pr).set i (x.set, xh - 1)) free empty (cnt + 1) (.int .i64 0) = R := ⟨_, rfl⟩
  rw [hR]
  have HRR := Aside.mk hR
  clear h hR hx hxh hxv hpv hcp hh hxl
  go_enter Tryd.func37, Tryd.ntmps37
  go_wp2_with fail
  (with_reducible refine HA.out.mono ?_)
  rintro e w1 ⟨rfl, hb1⟩
  have HB := Aside.mk (below_alloc hb1 (.cells #[.slice xA xl xc, .int .i64 xh] 132))
  have f1 := hF1.out _ HB.out
  have f2 := hF2.out _ HB.out
  have f3 := hF3.out _ HB.out
  clear hb1
  go_wp2
  rw [← HRR.out]
  exact HP.out _ HB.out
theorem TabR.wide {O' : Nat → Prop} (h : TabR B O w tb sv pv fv mb E free empty cnt F) (ho : ∀ k, O k → O' k) (ht : ∀ k, O' k → B ≤ k ∧ k < w.heap.size) : TabR B O' w tb sv pv fv mb E free empty cnt F :=
  ⟨ht, ho _ h.tbO, h.hb, h.row, fun k hk => ho k (h.rowO k hk), h.fr, fun k hk => ho k (h.frO k hk), h.map, ho _ h.mbO, fun e he => (h.sets e he).mono ho⟩
theorem free_end {i g c : Nat} {x : En} {l : List At} {w2 w3 w4 : World} {v1 : Value} {r : Value} (h : TabAt B O w tb sv pv fv mb E free empty cnt) (hx : E[i]? = some x) (h1 : x.held = 1) (hl : x.set = l) (hb2 : Below w.heap.size w w2) (hg3 : w2.grownBy w3 (some mb))
    (hr : TabR B O ((w3.setCell ⟨g, i * 2, none⟩ (.slice none 0 0)).setCell ⟨g, i * 2 + 1, none⟩ (.int .i64 0)) tb sv pv fv mb (E.set i ⟨.slice none 0 0, [], 0⟩) free empty cnt (fun t => if t = textA l then none else F t)) (hF : FSpec E F) (hpv : pv = .slice (some ⟨g, 0, none⟩) E.length c) (hgO : O g)
    (hg4 : ((w3.setCell ⟨g, i * 2, none⟩ (.slice none 0 0)).setCell ⟨g, i * 2 + 1, none⟩ (.int .i64 0)).grownBy w4 fv.ownBlock) (ho : OwnN w4 B 3 .i64 v1 (free ++ [(i : Int)]))
    (hat : v1.ownBlock = fv.ownBlock ∨ ∃ b, v1.ownBlock = some b ∧ ((w3.setCell ⟨g, i * 2, none⟩ (.slice none 0 0)).setCell ⟨g, i * 2 + 1, none⟩ (.int .i64 0)).heap.size ≤ b) :
    OpPost B O w tb sv mb ((E.map pr).set i ([], 0)) (free ++ [(i : Int)]) empty (cnt + 1) r (.returned r) (w4.setCell ⟨tb, 2, none⟩ v1) := by
  have t1 : Turn O w w2 := Turn.of_below hb2
  have t2 : Turn O w w3 := t1.trans (Turn.of_grown hg3 (fun k hk => by cases hk; exact h.mbO))
  have t3 := (t2.trans (turn_set w3 ⟨g, i * 2, none⟩ (.slice none 0 0) hgO)).trans (turn_set _ ⟨g, i * 2 + 1, none⟩ (.int .i64 0) hgO)
  have t4 := t3.trans (Turn.of_grown hg4 (fun k hk => h.frO k hk))
  have t5 := t4.trans (turn_set w4 ⟨tb, 2, none⟩ v1 h.tbO)
  have hrr := hr.growFree hg4 ho hat
  have hsz := t3.size
  have hsz4 := hg4.size
  have hB := h.baseB
  refine ⟨rfl, ⟨pv, v1, E.set i ⟨.slice none 0 0, [], 0⟩, map_set_pr E i _, ?_⟩, t5⟩
  refine TabR.tab (F := fun t => if t = textA l then none else F t) ((hrr.wide ?_ ?_).mono (Nat.le_succ cnt)) ?_ (h.inv.drop hx (by omega) rfl)
  · rintro k (hk | hk)
    · exact .inl hk
    · refine .inr ?_; rw [setCell_size]; omega
  · rintro k (hk | hk)
    · have := h.top k hk; rw [setCell_size]; omega
    · rw [setCell_size] at hk ⊢; omega
  · rw [← hl]; exact hF.drop hx (by omega) rfl
set_option maxRecDepth 100000 in
set_option maxHeartbeats 2000000 in
theorem free_last {i : Nat} {x : En} (h : TabAt B O w tb sv pv fv mb E free empty cnt) (hc : cnt ≤ 100000) (hx : E[i]? = some x) (h0 : x.held = 1) :
    Calls Tryd.prog 37 #[.pointer (some ⟨tb, 0, none⟩), .int .i64 ((i : Int) + 1)] w (OpPost B O w tb sv mb ((E.map pr).set i ([], 0)) (free ++ [(i : Int)]) empty (cnt + 1) (.int .i64 0)) := by
  have hil := (List.getElem?_eq_some_iff.1 hx).1
  have hli : (i : Int) < (E.length : Int) := by omega
  have hlE : (E.length : Int) ≤ 100000 := by have := h.inv.len; omega
  have hfl : free.length ≤ 100000 := by have := h.inv.flen; omega
  have HA := Aside.mk (asked_any ((i : Int) + 1) h (by omega) (WalkArith.wf_i64 (by omega)))
  rw [askV_at hx (by omega), h0] at HA
  unfold AskPost at HA
  simp only at HA
  have hxm := List.mem_of_getElem? hx
  obtain ⟨xA, xc, hxv, hxlc, hxA, _⟩ := src_of_own (h.sets x hxm).1
  have hok := (h.inv.held x hxm).2.2 (by omega)
  obtain ⟨g, c, hpv, hcp, hgO, _, _, _⟩ : ∃ g c, pv = .slice (some ⟨g, 0, none⟩) E.length c ∧ E.length ≤ c ∧ O g ∧ True ∧ True ∧ True := by
    obtain ⟨F, hr, _⟩ := h.raw
    obtain ⟨g, c, h1, h2, h3, _⟩ := hr.pv_some hx
    exact ⟨g, c, h1, h2, h3, trivial, trivial, trivial⟩
  have hlc : (E.length : Int) ≤ (c : Int) := by omega
  have HH := Aside.mk h
  have HX := Aside.mk hx
  have HX1 := Aside.mk h0
  have HPV := Aside.mk hpv
  obtain ⟨l, hl⟩ : ∃ l, x.set = l := ⟨_, rfl⟩
  have HLn := Aside.mk hl
  rw [hl] at hxv hok hxlc
  rw [hxv] at HA
  have HS := Aside.mk (fun (w1 : World) (hb : Below w.heap.size w w1) => show ASrc w1 xA l by
    obtain ⟨A', c', hv', _, _, hs'⟩ := src_of_own ((h.below hb).sets x hxm).1
    rw [hl] at hv' hs'
    rw [hxv] at hv'
    injection hv' with a1 a2 a3
    subst a1
    exact hs')
  obtain ⟨ts, hts⟩ : ∃ ts : ByteArray, (⟨(textA l).toArray⟩ : ByteArray) = ts := ⟨_, rfl⟩
  have HT := Aside.mk (fun (w1 : World) (hb : Below w.heap.size w w1) => textSet_any xA xc l w1 (HS.out w1 hb) hxlc hok.2.1 hok.2.2 hok.1)
  rw [hts] at HT
  have htl : (textA l).length ≤ 1000000 := by have := textA_len hok.2.2; rw [ints_length] at this; have := hok.2.1; omega
  have HD := Aside.mk (fun (w2 : World) (hb : Below w.heap.size w w2) => show ∃ w3, (Builtin.delete_ #[79, 9] 0 #[.map (some mb), .string ts]).run Tryd.prog w2 = .ok (.tuple #[]) w3 ∧ (∃ F, TabR B O w3 tb sv pv fv mb E free empty cnt (fun t => if t = textA l then none else F t) ∧ FSpec E F) ∧ w2.grownBy w3 (some mb) by
    obtain ⟨F, hr, hF⟩ := (h.below hb).raw
    obtain ⟨w3, hrun, hm, hg⟩ := hr.map.drop (textA l) htl 0
    rw [hts] at hrun
    exact ⟨w3, hrun, ⟨F, hr.setMap hg hm, hF⟩, hg⟩)
  have c3 := Aside.mk (fun (w1 : World) (hb : Below w.heap.size w w1) => (h.below hb).f3)
  obtain ⟨hmtb, hmlt⟩ : mb ≠ tb ∧ mb < w.heap.size := by
    obtain ⟨F, hr, _⟩ := h.raw
    exact ⟨imap_ne hr.map hr.hb, hr.map.lt⟩
  have HN1 := Aside.mk (show some tb ≠ some mb from fun e => by injection e with e; exact hmtb e.symm)
  have q0 : (((i : Int) + 1) == 0) = false := by simp; omega
  obtain ⟨R, hR⟩ : ∃ R, OpPost B O w tb sv mb ((E.map pr).set i ([], 0)) (free ++ [(i : Int)]) empty (cnt + 1) (.int .i64 0) = R := ⟨_, rfl⟩
  rw [hR]
  have HRR := Aside.mk hR
  have HFL := Aside.mk hfl
  have HML := Aside.mk hmlt
  clear h hR hx h0 hxv hpv hok hxm hl hxA hxlc htl hts hmtb hcp hfl hmlt
  go_enter Tryd.func37, Tryd.ntmps37
  go_wp2_with fail
  (with_reducible refine HA.out.mono ?_)
  rintro e w1 ⟨rfl, hb1⟩
  have HBd := Aside.mk (below_alloc hb1 (.cells #[.slice xA l.length xc, .int .i64 1] 132)).drew
  have cb := Aside.mk (show (w1.alloc (.cells #[.slice xA l.length xc, .int .i64 1] 132)).drew.cell? ⟨w1.heap.size, 0, none⟩ = some (.slice xA l.length xc) from cell_at (heap_alloc_new w1 _) rfl)
  have HN2 := Aside.mk (fun (w2 : World) (hb : Below w.heap.size w w2) => show some w1.heap.size ≠ some mb from fun e => by injection e with e; have := hb1.size; have := HML.out; omega)
  clear hb1
  go_wp2_with fail
  refine wp_region_noPanic ?_
  refine wp_region_held_drew (S := fun W => W.cell? ⟨tb, 3, none⟩ = some (.map (some mb)) ∧ W.cell? ⟨w1.heap.size, 0, none⟩ = some (.slice xA l.length xc)) (by kernel_rfl) (⟨c3.out _ HBd.out, cb.out⟩) (fun hHeld => ?_)
  refine take_at (i := 0) (d := some 45) (v := ?vf0) rfl rfl (by kernel_rfl) (by kernel_rfl) (by kernel_rfl) (fun _ _ _ h => h) (Or.inl ⟨by rfl, ?hyf0⟩) hHeld ?restf0
  case hyf0 => (intro w hSw; (try dsimp only at hSw); go_simp; try with_reducible rfl)
  try simp only [Act.put, List.setIfInBounds_toArray, List.set_cons_zero, List.set_cons_succ]
  refine take_at (i := 1) (d := some 46) (v := ?vf1) rfl rfl (by kernel_rfl) (by kernel_rfl) (by kernel_rfl) (fun _ _ _ h => h) (Or.inl ⟨by rfl, ?hyf1⟩) hHeld ?restf1
  case hyf1 => (intro w hSw; (try dsimp only at hSw); go_simp; try with_reducible rfl)
  try simp only [Act.put, List.setIfInBounds_toArray, List.set_cons_zero, List.set_cons_succ]
  refine take_at (i := 2) (d := some 47) (v := ?vf2) rfl rfl (by kernel_rfl) (by kernel_rfl) (by kernel_rfl) (fun _ _ _ h => h) (Or.inl ⟨by rfl, ?hyf2⟩) hHeld ?restf2
  case hyf2 => (intro w hSw; (try dsimp only at hSw); go_simp; try with_reducible rfl)
  try simp only [Act.put, List.setIfInBounds_toArray, List.set_cons_zero, List.set_cons_succ]
  refine take_at (i := 3) (d := some 48) (v := ?vf3) rfl rfl (by kernel_rfl) (by kernel_rfl) (by kernel_rfl) (fun _ _ _ h => h) (Or.inl ⟨by rfl, ?hyf3⟩) hHeld ?restf3
  case hyf3 => (intro w hSw; (try dsimp only at hSw); go_simp; try with_reducible rfl)
  try simp only [Act.put, List.setIfInBounds_toArray, List.set_cons_zero, List.set_cons_succ]
  refine take_at (i := 4) (d := some 49) (v := ?vf4) rfl rfl (by kernel_rfl) (by kernel_rfl) (by kernel_rfl) (fun _ _ _ h => h) (Or.inl ⟨by rfl, ?hyf4⟩) hHeld ?restf4
  case hyf4 => (intro w hSw; (try dsimp only at hSw); go_simp; try with_reducible rfl)
  try simp only [Act.put, List.setIfInBounds_toArray, List.set_cons_zero, List.set_cons_succ]
  refine take_at (i := 5) (d := some 50) (v := ?vf5) rfl rfl (by kernel_rfl) (by kernel_rfl) (by kernel_rfl) (fun _ _ _ h => h) (Or.inl ⟨by rfl, ?hyf5⟩) hHeld ?restf5
  case hyf5 => (intro w hSw; (try dsimp only at hSw); go_simp; try with_reducible rfl)
  try simp only [Act.put, List.setIfInBounds_toArray, List.set_cons_zero, List.set_cons_succ]
  refine wpAnyH_ready (rs := [6]) (by kernel_rfl) (by simp) ?_
  refine AllReadyH.cons rfl (fun K hK => ?_) AllReadyH.nil
  go_simp
  (with_reducible refine (HT.out _ HBd.out).mono ?_)
  rintro e w2 ⟨rfl, hb2⟩
  have HB2 := Aside.mk (below_then HBd.out hb2)
  refine hK.out _ _ (⟨cell_below hb2 hHeld.1, cell_below hb2 hHeld.2⟩) (fun hHeld' => ?_)
  clear hK K hHeld hb2
  have hHeld := hHeld'
  clear hHeld'
  try simp only [Act.put, List.setIfInBounds_toArray, List.set_cons_zero, List.set_cons_succ]
  refine wpAnyH_ready (rs := [7]) (by kernel_rfl) (by simp) ?_
  refine AllReadyH.cons rfl (fun K hK => ?_) AllReadyH.nil
  obtain ⟨w3, hrun, hm3, hg3⟩ := HD.out _ HB2.out
  have HM3 := Aside.mk hm3
  have HG3 := Aside.mk hg3
  refine wanted_pos (by rfl) ?_
  refine del_step (.tmp 48) (.tmp 51) _ _ rfl rfl rfl rfl hrun ?_
  refine hK.out _ _ (⟨hg3.cell hHeld.1 HN1.out, hg3.cell hHeld.2 (HN2.out _ HB2.out)⟩) (fun hHeld' => ?_)
  clear hK K hHeld
  have hHeld := hHeld'
  clear hHeld'
  try simp only [Act.put, List.setIfInBounds_toArray, List.set_cons_zero, List.set_cons_succ]
  refine wpAnyH_done (by kernel_rfl) ?_ _

  refine NoPanic.normal ?_
  clear hHeld
  obtain ⟨F, hr3, hF⟩ := HM3.out
  have hr9 := hr3.wipe HX.out HPV.out
  have f1 : w3.cell? ⟨tb, 1, none⟩ = some (.slice (some ⟨g, 0, none⟩) E.length c) := by rw [hr3.f1, HPV.out]
  obtain ⟨g', c', hpv', _, _, p0, p1, pz⟩ := hr3.pv_some HX.out
  rw [HPV.out] at hpv'
  injection hpv' with a1 a2 a3
  injection a1 with a1
  injection a1 with a1
  subst a1
  have z0 := pz (i * 2)
  have z1 := pz (i * 2 + 1)
  have f2 := hr9.f2
  have HR9 := Aside.mk hr9
  have HF9 := Aside.mk hF
  have HFr := Aside.mk hr9.fr
  obtain ⟨fA, fc, hfv, _⟩ := own_form hr9.fr
  have HFV := Aside.mk hfv
  rw [hfv] at f2
  clear hr3 hr9 hF pz hfv a2 a3
  have HFs := Aside.mk (show ((w3.setCell ⟨g, i * 2, none⟩ (.slice none 0 0)).setCell ⟨g, i * 2 + 1, none⟩ (.int .i64 0)).ownsRow B 3 1 (.slice fA free.length fc) free.length (nums .i64 free) from by rw [← HFV.out]; exact HFr.out)
  have HBs := Aside.mk (show B ≤ ((w3.setCell ⟨g, i * 2, none⟩ (.slice none 0 0)).setCell ⟨g, i * 2 + 1, none⟩ (.int .i64 0)).heap.size from by have := HR9.out.top tb HR9.out.tbO; omega)
  have HSz := Aside.mk (show w3.heap.size = ((w3.setCell ⟨g, i * 2, none⟩ (.slice none 0 0)).setCell ⟨g, i * 2 + 1, none⟩ (.int .i64 0)).heap.size from by rw [setCell_size, setCell_size])
  go_wp2_with (at_builtin; go_must (refine app_lit2 (w0 := ((w3.setCell ⟨g, i * 2, none⟩ (.slice none 0 0)).setCell ⟨g, i * 2 + 1, none⟩ (.int .i64 0))) w3.heap.size B HSz.out rfl (.tmp 64) (.tmp 67) 45 3 (.int .i64 0) 1 8 _ rfl Tryd.underlying45 info3 rfl (by decide) (.slice fA free.length fc) free.length 1 (nums .i64 free) (nums .i64 [(i : Int)]) rfl rfl rfl rfl (nums_one _ _) HFs.out (Below.refl _ _) HBs.out (by have := HFL.out; omega) (by have := HFL.out; omega) ?_))
  intro v1 w4 hown hbel hg4 hat
  obtain ⟨A4, c4, rfl, _⟩ := own_form hown
  have HE := Aside.mk (free_end (r := .int .i64 0) HH.out HX.out HX1.out HLn.out HB2.out HG3.out HR9.out HF9.out HPV.out hgO (by rw [HFV.out]; exact hg4) (own_n hown) (by rw [HFV.out]; exact hat.imp id (fun ⟨b, h1, h2⟩ => ⟨b, h1, by rw [← HSz.out]; exact h2⟩)))
  have HG4 : ((w3.setCell ⟨g, i * 2, none⟩ (.slice none 0 0)).setCell ⟨g, i * 2 + 1, none⟩ (.int .i64 0)).grownBy w4 fv.ownBlock := by rw [HFV.out]; exact hg4
  have hz4 : w4.cell? ⟨tb, 2, none⟩ = some (.slice fA free.length fc) := HG4.cell f2 (tb_ne HR9.out.fr HR9.out.hb (by decide))
  have hzz : w4.frozen? ⟨tb, 2, none⟩ = false := frozen_of_row w4 tb 2 _ 81 ((HG4.block tb (HR9.out.top tb HR9.out.tbO).2 (tb_ne HR9.out.fr HR9.out.hb (by decide))).trans HR9.out.hb)
  clear hown hbel hg4 hat f1 f2 z0 z1 p0 p1 HG4
  go_wp2
  rw [← HRR.out]
  exact HE.out
end Go.Proofs.YtaejlgdmalhhnaaDoor
/- Layer 7: place. -/
set_option linter.unusedVariables false
set_option linter.unusedSimpArgs false
namespace Go.Proofs.YtaejlgdmalhhnaaDoor
open Go.RowKit Go.Maps

variable {B : Nat} {O : Nat → Prop} {w w' : World} {tb : Nat} {sv pv fv : Value} {mb : Nat} {E : List En} {free : List Int} {empty : Int} {cnt : Nat} {F : List UInt8 → Option Int}
theorem own_prefix {e : TypeId} {k : IntKind} {g c : Nat} {xs ys : List Int} (h : OwnN w B e k (.slice (some ⟨g, 0, none⟩) (xs ++ ys).length c) (xs ++ ys)) : OwnN w B e k (.slice (some ⟨g, 0, none⟩) xs.length c) xs := by
  rcases h.2 with ⟨h1, _⟩ | ⟨g', cap, cur, h1, hB, hh, hc, hm, hs, ht⟩
  · cases h1
  · injection h1 with a1 a2 a3
    injection a1 with a1
    injection a1 with a1
    subst a1 a3
    refine ⟨by rw [nums_length, Nat.mul_one], .inr ⟨g, c, cur, rfl, hB, hh, by rw [List.length_append] at hc; omega, hm, hs, ?_⟩⟩
    rw [nums_append, Nat.mul_one] at ht
    rw [Nat.mul_one]
    have := congrArg (List.take xs.length) ht
    rw [List.take_take, List.length_append, Nat.min_eq_left (by omega), ← nums_length k xs, List.take_left] at this
    rw [← nums_length k xs]
    exact this
theorem grow_size {w1 w2 : World} (hs : w1.heap.size = w2.heap.size) : Grow O w w1 = Grow O w w2 := by
  funext k
  unfold Grow
  rw [hs]
theorem TabR.resize {w1 w2 : World} (h : TabR B (Grow O w w1) w2 tb sv pv fv mb E free empty cnt F) (hs : w1.heap.size = w2.heap.size) : TabR B (Grow O w w2) w2 tb sv pv fv mb E free empty cnt F := by
  rw [← grow_size hs]; exact h
def PlacePost (B : Nat) (O : Nat → Prop) (w : World) (tb : Nat) (sv : Value) (mb : Nat) (E : List En) (free : List Int) (empty : Int) (cnt : Nat) (F : List UInt8 → Option Int) (r : Int) (e : Ending) (w' : World) : Prop :=
  e = .returned (.int .i64 r) ∧ (∃ pv fv, TabR B (Grow O w w') w' tb sv pv fv mb E free empty cnt F) ∧ Turn O w w'
set_option maxRecDepth 100000 in
set_option maxHeartbeats 1000000 in
theorem place_free {fr : List Int} {i : Nat} (h : TabR B O w tb sv pv fv mb E (fr ++ [(i : Int)]) empty cnt F) (hl : fr.length ≤ 100000) (hi : i ≤ 100000) :
    Calls Tryd.prog 86 #[.pointer (some ⟨tb, 0, none⟩)] w (PlacePost B O w tb sv mb E fr empty cnt F ((i : Int) + 1)) := by
  have hf := h.fr
  rcases hf.2 with ⟨h1, h2⟩ | ⟨g, cap, cur, h1, hB, hh, hc, _⟩
  · simp at h2
  have hcell := World.ownsRow.cells hf (g := g) (by rw [h1]; rfl) fr.length (.int .i64 i) (by rw [nums_append, List.getElem?_append_right (by rw [nums_length]; omega), nums_length, Nat.sub_self]; rfl)
  rw [addr_add_plain] at hcell
  subst h1
  have hp := own_prefix hf
  have hgO := h.frO g rfl
  have f2 := h.f2
  have z2 := h.fz 2
  have HE := Aside.mk (show PlacePost B O w tb sv mb E fr empty cnt F ((i : Int) + 1) (.returned (.int .i64 ((i : Int) + 1))) (w.setCell ⟨tb, 2, none⟩ (.slice (some ⟨g, 0, none⟩) fr.length cap)) from
    ⟨rfl, ⟨pv, _, (h.setFree hp (fun k hk => by cases hk; exact hgO)).grow (by have := h.top tb h.tbO; omega)⟩, turn_set w ⟨tb, 2, none⟩ _ h.tbO⟩)
  have hlz : (fr ++ [(i : Int)]).length = fr.length + 1 := by simp
  rw [hlz] at f2 hc
  have g1 : (fr.length : Int) ≤ 100000 := by omega
  have g2 : (fr.length : Int) + 1 ≤ (cap : Int) := by omega
  have g3 : (i : Int) ≤ 100000 := by omega
  obtain ⟨R, hR⟩ : ∃ R, PlacePost B O w tb sv mb E fr empty cnt F ((i : Int) + 1) = R := ⟨_, rfl⟩
  rw [hR]
  have HRR := Aside.mk hR
  clear h hR hf hp hB hh hlz hc
  go_enter Tryd.func86, Tryd.ntmps86
  go_wp2
  rw [← HRR.out]
  exact HE.out
theorem info132 : (Tryd.prog.info? 132).map (fun i => (i.zero, i.size, i.bytes)) = some (some (.agg #[.slice none 0 0, .int .i64 0]), 2, 32) := by kernel_rfl
theorem ecells_one (E : List En) (h : ∀ e ∈ E, ∃ A n c, e.v = .slice A n c) : ∀ u ∈ ecells E, u.oneCell' = true := by
  intro u hu
  simp only [ecells, List.mem_flatMap] at hu
  obtain ⟨e, he, hu⟩ := hu
  obtain ⟨A, n, c, hv⟩ := h e he
  simp only [En.cells, List.mem_cons, List.mem_nil_iff, or_false] at hu
  rcases hu with rfl | rfl
  · rw [hv]; rfl
  · rfl
def nilE : En := ⟨.slice none 0 0, [], 0⟩
theorem ecells_snoc (E : List En) (e : En) : ecells (E ++ [e]) = ecells E ++ e.cells := by simp [ecells]
set_option maxRecDepth 100000 in
set_option maxHeartbeats 1000000 in
theorem place_new (h : TabR B O w tb sv pv fv mb E [] empty cnt F) (hl : E.length ≤ 100000) :
    Calls Tryd.prog 86 #[.pointer (some ⟨tb, 0, none⟩)] w (PlacePost B O w tb sv mb (E ++ [nilE]) [] empty cnt F ((E.length : Int) + 1)) := by
  have f2 := h.f2
  obtain ⟨A2, c2, hfv, _⟩ := own_form h.fr
  rw [hfv] at f2
  have f1 := h.f1
  obtain ⟨A1, c1, hpv, _⟩ := own_form h.row
  rw [hpv] at f1
  have HH := Aside.mk h
  have HPV := Aside.mk hpv
  have HRow := Aside.mk (show w.ownsRow B 132 2 (.slice A1 E.length c1) E.length (ecells E) from by rw [← hpv]; exact h.row)
  have HBs := Aside.mk (show B ≤ w.heap.size by have := h.top tb h.tbO; omega)
  have HL := Aside.mk hl
  have g1 : (E.length : Int) ≤ 100000 := by omega
  have hf2 : w.cell? ⟨tb, 2, none⟩ = some (.slice A2 0 c2) := f2
  obtain ⟨R, hR⟩ : ∃ R, PlacePost B O w tb sv mb (E ++ [nilE]) [] empty cnt F ((E.length : Int) + 1) = R := ⟨_, rfl⟩
  rw [hR]
  have HRR := Aside.mk hR
  clear h hR hl hfv hpv f2
  go_enter Tryd.func86, Tryd.ntmps86
  go_wp2_with (at_builtin; go_must (refine app_lit2 (w0 := w) w.heap.size B rfl rfl (.tmp 35) (.tmp 37) 78 132 (.agg #[.slice none 0 0, .int .i64 0]) 2 32 _ rfl Tryd.underlying78 info132 rfl (by decide) (.slice A1 E.length c1) E.length 1 (ecells E) nilE.cells rfl rfl rfl rfl (by intro u hu; simp only [nilE, En.cells, List.mem_cons, List.mem_nil_iff, or_false] at hu; rcases hu with rfl | rfl <;> rfl) HRow.out (Below.refl _ _) HBs.out (by have := HL.out; omega) (by have := HL.out; omega) ?_))
  intro v1 w4 hown hbel hg4 hat
  obtain ⟨A4, c4, rfl, _⟩ := own_form hown
  have hown' : w4.ownsRow B 132 2 (.slice A4 (E.length + 1) c4) (E ++ [nilE]).length (ecells (E ++ [nilE])) := by rw [ecells_snoc, List.length_append]; exact hown
  have hr := HH.out.growPlaces (v1 := .slice A4 (E.length + 1) c4) (by rw [HPV.out]; exact hg4) hown' (by rw [HPV.out]; exact hat) (fun e he => by
    rcases List.mem_append.1 he with h | h
    · exact .inl h
    · simp at h; subst h; exact .inr ⟨rfl, rfl⟩)
  have HG4 : w.grownBy w4 pv.ownBlock := by rw [HPV.out]; exact hg4
  have HE := Aside.mk (show PlacePost B O w tb sv mb (E ++ [nilE]) [] empty cnt F ((E.length : Int) + 1) (.returned (.int .i64 ((E.length : Int) + 1))) (w4.setCell ⟨tb, 1, none⟩ (.slice A4 (E.length + 1) c4)) from
    ⟨rfl, ⟨_, fv, hr.resize (setCell_size _ _ _).symm⟩,
      (Turn.of_grown HG4 (fun k hk => HH.out.rowO k hk)).trans (turn_set w4 ⟨tb, 1, none⟩ _ HH.out.tbO)⟩)
  have hz4 : w4.cell? ⟨tb, 1, none⟩ = some (.slice A1 E.length c1) := HG4.cell f1 (tb_ne HH.out.row HH.out.hb (by decide))
  have hzz : w4.frozen? ⟨tb, 1, none⟩ = false := frozen_of_row w4 tb 1 _ 81 ((HG4.block tb (HH.out.top tb HH.out.tbO).2 (tb_ne HH.out.row HH.out.hb (by decide))).trans HH.out.hb)
  clear hown hbel hg4 hat f1 hown' hr HG4
  go_wp2
  rw [← HRR.out]
  exact HE.out
end Go.Proofs.YtaejlgdmalhhnaaDoor
/- Layer 7: Add, where no set is laid. -/
set_option linter.unusedVariables false
set_option linter.unusedSimpArgs false
namespace Go.Proofs.YtaejlgdmalhhnaaDoor
open Go.RowKit Go.Maps

variable {B : Nat} {O : Nat → Prop} {w w' : World} {tb : Nat} {sv pv fv : Value} {mb : Nat} {E : List En} {free : List Int} {empty : Int} {cnt : Nat} {F : List UInt8 → Option Int}
def At.wfA (a : At) : Prop := (Lit.int .i64 a.key).wf = true ∧ (Lit.int .i64 a.v.n).wf = true ∧ a.v.f < 18446744073709551616
theorem may_kind {v : Val} (h : mayV v = true) : v.k = 1 ∨ v.k = 2 ∨ v.k = 3 ∨ v.k = 4 := by
  by_cases k1 : v.k = 1
  · exact .inl k1
  by_cases k2 : v.k = 2
  · exact .inr (.inl k2)
  by_cases k3 : v.k = 3
  · exact .inr (.inr (.inl k3))
  by_cases k4 : v.k = 4
  · exact .inr (.inr (.inr k4))
  unfold mayV at h
  rw [if_neg k1, if_neg k2, if_neg k3, if_neg k4] at h
  cases h
theorem okT_of_may {a : At} (h : a.wfA) (hm : mayV a.v = true) : a.okT := by
  obtain ⟨h1, h2, h3⟩ := h
  have hk := may_kind hm
  unfold mayV at hm
  refine ⟨h1, by omega, by omega, h2, h3, ?_⟩
  · by_cases k1 : a.v.k = 1
    · rw [if_pos k1] at hm
      have := of_decide_eq_true hm
      rw [this]; simp [ByteArray.size]
    · rw [if_neg k1] at hm
      by_cases k2 : a.v.k = 2
      · rw [if_pos k2] at hm
        have := of_decide_eq_true hm
        rw [this]; simp [ByteArray.size]
      · rw [if_neg k2] at hm
        by_cases k3 : a.v.k = 3
        · rw [if_pos k3] at hm
          have := of_decide_eq_true hm
          rw [this]; simp [ByteArray.size]
        · rw [if_neg k3] at hm
          by_cases k4 : a.v.k = 4
          · rw [if_pos k4] at hm
            have := of_decide_eq_true hm
            omega
          · rw [if_neg k4] at hm; cases hm
theorem mayA_zero {ks : List Ky} {l : List At} (h : mayA ks l = 0) : l.length ≤ 64 ∧ (∀ k < l.length, okAt l k = true) ∧ ∀ a ∈ l, fitsK ks a.key a.v = true := by
  unfold mayA at h
  by_cases h1 : 64 < l.length
  · rw [if_pos h1] at h; cases h
  · rw [if_neg h1] at h
    by_cases h2 : ∀ k < l.length, okAt l k = true
    · rw [if_pos h2] at h
      by_cases h3 : ∀ a ∈ l, fitsK ks a.key a.v = true
      · exact ⟨by omega, h2, h3⟩
      · rw [if_neg h3] at h; cases h
    · rw [if_neg h2] at h; cases h
theorem fits_may {ks : List Ky} {id : Int} {v : Val} (h : fitsK ks id v = true) : mayV v = true := by
  unfold fitsK at h
  cases hf : findK ks id with
  | none => rw [hf] at h; cases h
  | some k => rw [hf] at h; simp at h; exact h.2
theorem okSet_of {ks : List Ky} {l : List At} (h : mayA ks l = 0) (h0 : l ≠ []) (hw : ∀ a ∈ l, a.wfA) : okSet l := by
  obtain ⟨h1, _, h3⟩ := mayA_zero h
  exact ⟨h0, h1, fun a ha => okT_of_may (hw a ha) (fits_may (h3 a ha))⟩
set_option maxRecDepth 100000 in
theorem add_err {lo hi : Nat} {so : Option Addr} {ks srt : List Ky} (A : Option Addr) (c : Nat) (l : List At) (h : TabAt B O w tb (.pointer so) pv fv mb E free empty cnt) (hSch : Sch lo hi w (.pointer so) ks srt) (hT : Lib.Utf8Tabs 1 2 w) (hS : ASrc w A l) (hc : l.length ≤ c) (hl : l.length ≤ 9223372036854775807)
    (hwf : ∀ a ∈ l, a.wfA) (he : mayA ks l ≠ 0) : Calls Tryd.prog 35 #[.pointer (some ⟨tb, 0, none⟩), .slice A l.length c] w (OpPost B O w tb (.pointer so) mb (E.map pr) free empty (cnt + 1) (.tuple #[.int .i64 0, .int .i64 (mayA ks l)])) := by
  have HR := Aside.mk (ready_any h)
  have HM := Aside.mk (amay_any A c l w hSch hT hS hc hl (fun a ha => (hwf a ha).1))
  have f0 := h.f0
  obtain ⟨ae, hae⟩ : ∃ ae, mayA ks l = ae := ⟨_, rfl⟩
  rw [hae] at HM he ⊢
  have HP := Aside.mk (fun (w1 : World) (hb : Below w.heap.size w w1) => op_same (r := .tuple #[.int .i64 0, .int .i64 ae]) h hb)
  have q0 : ((ae : Int) != 0) = true := by simpa using he
  obtain ⟨R, hR⟩ : ∃ R, OpPost B O w tb (.pointer so) mb (E.map pr) free empty (cnt + 1) (.tuple #[.int .i64 0, .int .i64 ae]) = R := ⟨_, rfl⟩
  rw [hR]
  have HRR := Aside.mk hR
  clear h hSch hT hS hc hwf hR he hae
  go_enter Tryd.func35, Tryd.ntmps35
  go_wp2_with fail
  (with_reducible refine HR.out.mono ?_)
  rintro e w' ⟨rfl, rfl⟩
  go_wp2_with fail
  (with_reducible refine HM.out.mono ?_)
  rintro e w1 ⟨rfl, hb1⟩
  have HB := Aside.mk hb1
  clear hb1
  go_wp2
  rw [← HRR.out]
  exact HP.out _ HB.out
set_option maxRecDepth 100000 in
theorem add_empty {lo hi : Nat} {so : Option Addr} {ks srt : List Ky} (A : Option Addr) (c : Nat) (l : List At) (h : TabAt B O w tb (.pointer so) pv fv mb E free empty cnt) (hcn : cnt ≤ 100000) (hSch : Sch lo hi w (.pointer so) ks srt) (hT : Lib.Utf8Tabs 1 2 w) (hS : ASrc w A l) (hc : l.length ≤ c) (h0 : l = []) :
    Calls Tryd.prog 35 #[.pointer (some ⟨tb, 0, none⟩), .slice A l.length c] w (OpPost B O w tb (.pointer so) mb (E.map pr) free (empty + 1) (cnt + 1) (.tuple #[.int .i64 0, .int .i64 0])) := by
  have HR := Aside.mk (ready_any h)
  have HM := Aside.mk (amay_any A c l w hSch hT hS hc (by rw [h0]; simp) (fun a ha => by rw [h0] at ha; cases ha))
  have hm0 : mayA ks l = 0 := by rw [h0]; unfold mayA; simp
  rw [hm0] at HM
  have f0 := h.f0
  have HH := Aside.mk h
  have b0 : 0 ≤ empty ∧ empty ≤ 100000 := by have := h.inv.emp; omega
  have q0 : ((l.length : Int) == 0) = true := by rw [h0]; rfl
  obtain ⟨R, hR⟩ : ∃ R, OpPost B O w tb (.pointer so) mb (E.map pr) free (empty + 1) (cnt + 1) (.tuple #[.int .i64 0, .int .i64 0]) = R := ⟨_, rfl⟩
  rw [hR]
  have HRR := Aside.mk hR
  clear h hSch hT hS hc hR hm0 h0
  go_enter Tryd.func35, Tryd.ntmps35
  go_wp2_with fail
  (with_reducible refine HR.out.mono ?_)
  rintro e w' ⟨rfl, rfl⟩
  go_wp2_with fail
  (with_reducible refine HM.out.mono ?_)
  rintro e w1 ⟨rfl, hb1⟩
  have HB := Aside.mk hb1
  have f4 := (HH.out.below hb1).f4
  have z4 := (HH.out.below hb1).fz 4
  clear hb1
  go_wp2
  rw [← HRR.out]
  exact op_empty HH.out HB.out (empty + 1) (by omega) (by have := HH.out.inv.emp; omega)
set_option maxRecDepth 100000 in
set_option maxHeartbeats 1000000 in
theorem add_found {lo hi : Nat} {so : Option Addr} {ks srt : List Ky} {i : Nat} {x : En} (A : Option Addr) (c : Nat) (l : List At) (h : TabAt B O w tb (.pointer so) pv fv mb E free empty cnt) (hcn : cnt ≤ 100000) (hSch : Sch lo hi w (.pointer so) ks srt) (hT : Lib.Utf8Tabs 1 2 w) (hS : ASrc w A l) (hc : l.length ≤ c)
    (hwf : ∀ a ∈ l, a.wfA) (he : mayA ks l = 0) (hx : E[i]? = some x) (h0 : x.held ≠ 0) (hxl : x.set = l) :
    Calls Tryd.prog 35 #[.pointer (some ⟨tb, 0, none⟩), .slice A l.length c] w (OpPost B O w tb (.pointer so) mb ((E.map pr).set i (x.set, x.held + 1)) free empty (cnt + 1) (.tuple #[.int .i64 ((i : Int) + 1), .int .i64 0])) := by
  have hnil : l ≠ [] := by rw [← hxl]; exact ((h.inv.held x (List.mem_of_getElem? hx)).2.2 h0).1
  have hok := okSet_of he hnil hwf
  have HR := Aside.mk (ready_any h)
  have HM := Aside.mk (amay_any A c l w hSch hT hS hc (by have := hok.2.1; omega) (fun a ha => (hwf a ha).1))
  rw [he] at HM
  have HTx := Aside.mk (fun (w1 : World) (hb : Below w.heap.size w w1) => textSet_any A c l w1 (hS.below hb) hc hok.2.1 hok.2.2 hnil)
  have hll : (textA l).length ≤ 1000000 := by have := textA_len hok.2.2; rw [ints_length] at this; have := hok.2.1; omega
  have HLk := Aside.mk (fun (w1 : World) (hb : Below w.heap.size w w1) => show (Instr.lookup 79 (.map (some mb)) (.string ⟨(textA l).toArray⟩) true).run Tryd.prog w1 = .ok (.tuple #[.int .i64 ((i : Int) + 1), .bool true]) w1 by
    obtain ⟨F, hr, hF⟩ := (h.below hb).raw
    have h1 := hr.map.look (textA l) hll
    rw [← hxl, hF.hit i x hx h0, hxl] at h1
    exact h1)
  obtain ⟨ts, hts⟩ : ∃ ts : ByteArray, (⟨(textA l).toArray⟩ : ByteArray) = ts := ⟨_, rfl⟩
  rw [hts] at HTx HLk
  have f0 := h.f0
  have hil := (List.getElem?_eq_some_iff.1 hx).1
  have hli : (i : Int) < (E.length : Int) := by omega
  have hlE : (E.length : Int) ≤ 100000 := by have := h.inv.len; omega
  obtain ⟨pa, pc, hpv, hcp, _, _⟩ := h.place hx
  have hlc : (E.length : Int) ≤ (pc : Int) := by omega
  have hh := h.inv.held x (List.mem_of_getElem? hx)
  have HP := Aside.mk (fun (w1 : World) (hb : Below w.heap.size w w1) => op_held (r := .tuple #[.int .i64 ((i : Int) + 1), .int .i64 0]) h hb hx hpv h0 (x.held + 1) (by omega) (by omega))
  have hF1 := Aside.mk (fun (w1 : World) (hb : Below w.heap.size w w1) => show w1.cell? ⟨(pa.add (i * 2)).block, (pa.add (i * 2)).off + 1, none⟩ = some (.int .i64 x.held) by
    obtain ⟨pa', c', hpv', _, _, hc1⟩ := (h.below hb).place hx
    rw [hpv] at hpv'
    injection hpv' with a1 a2 a3
    injection a1 with a1
    subst a1
    exact hc1)
  have hF2 := Aside.mk (fun (w1 : World) (hb : Below w.heap.size w w1) => (h.below hb).fzp hpv (i * 2) 1)
  have hF3 := Aside.mk (fun (w1 : World) (hb : Below w.heap.size w w1) => show w1.cell? ⟨tb, 1, none⟩ = some (.slice (some pa) E.length pc) by rw [(h.below hb).f1, hpv])
  have hF4 := Aside.mk (fun (w1 : World) (hb : Below w.heap.size w w1) => (h.below hb).f3)
  obtain ⟨xh, hxh⟩ : ∃ xh, x.held = xh := ⟨_, rfl⟩
  rw [hxh] at HP hF1 hh ⊢
  have b0 : 0 ≤ xh ∧ xh ≤ 100000 := by omega
  have ql : ((l.length : Int) == 0) = false := by have : 0 < l.length := List.length_pos_iff.2 hnil; simp; omega
  obtain ⟨R, hR⟩ : ∃ R, OpPost B O w tb (.pointer so) mb ((E.map pr).set i (x.set, xh + 1)) free empty (cnt + 1) (.tuple #[.int .i64 ((i : Int) + 1), .int .i64 0]) = R := ⟨_, rfl⟩
  rw [hR]
  have HRR := Aside.mk hR
  clear h hR hx h0 hxh hpv hcp hh hxl hSch hT hS hwf he hnil hok hll hts hc
  go_enter Tryd.func35, Tryd.ntmps35
  go_wp2_with fail
  (with_reducible refine HR.out.mono ?_)
  rintro e w' ⟨rfl, rfl⟩
  go_wp2_with fail
  (with_reducible refine HM.out.mono ?_)
  rintro e w1 ⟨rfl, hb1⟩
  have HB := Aside.mk hb1
  clear hb1
  go_wp2_with fail
  (with_reducible refine (HTx.out _ HB.out).mono ?_)
  rintro e w2 ⟨rfl, hb2⟩
  have HB2 := Aside.mk (below_then HB.out hb2)
  have f1 := hF1.out _ HB2.out
  have f2 := hF2.out _ HB2.out
  have f3 := hF3.out _ HB2.out
  have f4 := hF4.out _ HB2.out
  have hlk := HLk.out _ HB2.out
  clear hb2
  go_wp2
  rw [← HRR.out]
  exact HP.out _ HB2.out
end Go.Proofs.YtaejlgdmalhhnaaDoor
