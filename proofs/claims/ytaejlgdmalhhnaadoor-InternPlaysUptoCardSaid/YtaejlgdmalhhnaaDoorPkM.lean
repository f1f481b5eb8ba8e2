/- Texts put together: Ir, Is, It, Iu, Iv, Iw, Ix. -/
import Derived.Test.YtaejlgdmalhhnaaDoorPkE
import Derived.Test.YtaejlgdmalhhnaaDoorPkB
/- Layer 7: Add, where a set is laid (printed by gen_add.py). -/
set_option linter.unusedVariables false
set_option linter.unusedSimpArgs false
namespace Go.Proofs.YtaejlgdmalhhnaaDoor
open Go.RowKit Go.Maps

variable {B : Nat} {O : Nat → Prop} {w w' : World} {tb : Nat} {sv pv fv : Value} {mb : Nat} {E : List En} {free : List Int} {empty : Int} {cnt : Nat} {F : List UInt8 → Option Int}
section
variable {P : Program} {ops : Array Oper} {rest : List Oper} {o : Oper} {a : Act} {w w' : World} {Q : Exit → Act → World → Prop}
/-- A store into a map, by its run equation. -/
theorem update_run (hg : o.guard = none) (m x y : Operand) (t : TypeId) (mv kv v : Value) (hd : o.dst = none) (hop : o.op = Op.mapUpdate t m x y) (hm : a.eval m = mv) (hx : a.eval x = kv) (hy : a.eval y = v) (hrun : (Instr.mapUpdate t mv kv v).run P w = .ok () w')
    (hK : wpList P ops Q rest a w') : wpList P ops Q (o :: rest) a w := by
  refine wpList_plain hg fun K' hK' => ?_
  have hp : ∀ u, a.put o.dst u = a := fun u => by rw [hd]; rfl
  unfold Oper.wp
  simp [execOp, hop, hm, hx, hy, hrun, Result.andThen]
  refine hK' _ _ ?_
  first | exact hK | (rw [hp]; exact hK)
end
theorem Turn.drew {O : Nat → Prop} {a b : World} (h : Turn O a b) : Turn O a b.drew := ⟨h.os, h.tape, h.output, h.size, h.block⟩
theorem ASrc.turn {O : Nat → Prop} {w w' : World} {A : Option Addr} {l : List At} (h : ASrc w A l) (ht : Turn O w w') (hO : ∀ a, A = some a → ¬ O a.block) : ASrc w' A l := by
  refine ⟨h.1, fun ad he j a hj i v hi => ?_⟩
  have h1 := h.2 ad he j a hj i v hi
  have hlt : ad.block < w.heap.size := by have := World.block_lt_of_cell? w _ h1; rw [addr_block] at this; exact this
  rw [World.cell?_of_block (w := w) (ht.block _ (by rw [addr_block]; exact hlt) (by rw [addr_block]; exact hO ad he))]
  exact h1
theorem sl_inj {g g' n n' c c' : Nat} (h : Value.slice (some ⟨g, 0, none⟩) n c = .slice (some ⟨g', 0, none⟩) n' c') : g = g' ∧ c = c' := by
  injection h with h1 h2 h3
  injection h1 with h1
  injection h1 with h1
  exact ⟨h1, h3⟩
theorem cell_set_far {w : World} {p a : Addr} {u v : Value} (h : w.cell? a = some v) (hne : p.block ≠ a.block) : (w.setCell p u).cell? a = some v := by
  rw [World.cell?_setCell_far w p a u hne]; exact h
theorem add_end {E1 : List En} {fr1 : List Int} {i g : Nat} {u : Value} {l : List At} {w2 w3 w4 w6 : World} {pv3 fv3 : Value} {r : Value} (h : TabAt B O w tb sv pv fv mb E free empty cnt) (hb2 : Below w.heap.size w w2) (ht3 : Turn O w2 w3) (hb4 : Below w3.drew.heap.size w3.drew w4) (hg : Grow O w2 w3 g)
    (hg6 : (w4.setCell ⟨g, i * 2, none⟩ u).grownBy w6 (some mb))
    (hr : TabR B (Grow (Grow O w2 w3) w3.drew w4) (w6.setCell ⟨g, i * 2 + 1, none⟩ (.int .i64 1)) tb sv pv3 fv3 mb (E1.set i ⟨u, l, 1⟩) fr1 empty (cnt + 1) F) (hf : FSpec (E1.set i ⟨u, l, 1⟩) F) (hi : TInv (E1.set i ⟨u, l, 1⟩) fr1 empty (cnt + 1)) :
    OpPost B O w tb sv mb ((E1.map pr).set i (l, 1)) fr1 empty (cnt + 1) r (.returned r) (w6.setCell ⟨g, i * 2 + 1, none⟩ (.int .i64 1)) := by
  have s2 := hb2.size
  have s3 := ht3.size
  have s4 : w3.heap.size ≤ w4.heap.size := hb4.size
  have s6 := hg6.size
  rw [setCell_size] at s6
  have hin : ∀ k, Grow O w2 w3 k → O k ∨ w.heap.size ≤ k := fun k hk => hk.imp id (fun hk => by omega)
  have t1 : Turn O w w4 := (((Turn.of_below hb2).trans ht3).drew).trans (Turn.of_below hb4)
  have t2 : Turn O w (w4.setCell ⟨g, i * 2, none⟩ u) := t1.then (turn_set (O := Grow O w2 w3) w4 ⟨g, i * 2, none⟩ u hg) hin
  have t3 : Turn O w w6 := t2.trans (Turn.of_grown hg6 (fun k hk => by cases hk; exact h.mbO))
  have t4 : Turn O w (w6.setCell ⟨g, i * 2 + 1, none⟩ (.int .i64 1)) := t3.then (turn_set (O := Grow O w2 w3) w6 ⟨g, i * 2 + 1, none⟩ _ hg) hin
  have hB := h.baseB
  refine ⟨rfl, ⟨pv3, fv3, E1.set i ⟨u, l, 1⟩, map_set_pr E1 i _, (hr.wide ?_ ?_).tab hf hi⟩, t4⟩
  · intro k hk
    rcases hk with (hk | hk) | hk
    · exact .inl hk
    · refine .inr ?_; rw [setCell_size]; omega
    · refine .inr ?_; rw [setCell_size]; exact ⟨Nat.le_trans s2 (Nat.le_trans s3 hk.1), Nat.lt_of_lt_of_le hk.2 s6⟩
  · intro k hk
    rcases hk with hk | hk
    · have := h.top k hk; rw [setCell_size]; omega
    · rw [setCell_size] at hk ⊢; omega
set_option maxRecDepth 100000 in
set_option maxHeartbeats 4000000 in
theorem add_lay {lo hi : Nat} {so : Option Addr} {ks srt : List Ky} {E1 : List En} {fr1 : List Int} {i : Nat} {e1 : En} (A : Option Addr) (c : Nat) (l : List At) (h : TabAt B O w tb (.pointer so) pv fv mb E free empty cnt) (hcn : cnt ≤ 100000) (hSch : Sch lo hi w (.pointer so) ks srt) (hT : Lib.Utf8Tabs 1 2 w) (hS : ASrc w A l) (hc : l.length ≤ c) (hcA : A = none → c = 0) (hAO : ∀ a, A = some a → ¬ O a.block)
    (hwf : ∀ a ∈ l, a.wfA) (he : mayA ks l = 0) (hnil : l ≠ []) (hno : ∀ e ∈ E, e.held ≠ 0 → e.set ≠ l) (hi1 : E1[i]? = some e1) (h1 : e1.held = 0) (hl1 : E1.length ≤ 100001)
    (hpl : ∀ (w2 : World) (F : List UInt8 → Option Int), TabR B O w2 tb (.pointer so) pv fv mb E free empty cnt F → Calls Tryd.prog 86 #[.pointer (some ⟨tb, 0, none⟩)] w2 (PlacePost B O w2 tb (.pointer so) mb E1 fr1 empty cnt F ((i : Int) + 1)))
    (hinv : ∀ u, TInv (E1.set i ⟨u, l, 1⟩) fr1 empty (cnt + 1)) (hfs : ∀ F u, FSpec E F → F (textA l) = none → FSpec (E1.set i ⟨u, l, 1⟩) (fun t => if t = textA l then some ((i : Int) + 1) else F t)) :
    Calls Tryd.prog 35 #[.pointer (some ⟨tb, 0, none⟩), .slice A l.length c] w (OpPost B O w tb (.pointer so) mb ((E1.map pr).set i (l, 1)) fr1 empty (cnt + 1) (.tuple #[.int .i64 ((i : Int) + 1), .int .i64 0])) := by
  have hok := okSet_of he hnil hwf
  have HR := Aside.mk (ready_any h)
  have HM := Aside.mk (amay_any A c l w hSch hT hS hc (by have := hok.2.1; omega) (fun a ha => (hwf a ha).1))
  rw [he] at HM
  have HTx := Aside.mk (fun (w1 : World) (hb : Below w.heap.size w w1) => textSet_any A c l w1 (hS.below hb) hc hok.2.1 hok.2.2 hnil)
  have hll : (textA l).length ≤ 1000000 := by have := textA_len hok.2.2; rw [ints_length] at this; have := hok.2.1; omega
  obtain ⟨F, hraw, hF⟩ := h.raw
  have hnone : F (textA l) = none := hF.miss _ (fun a ha hh => fun e => hno a ha hh (textA_inj _ _ (fun x hx => ((((h.inv.held a ha).2.2 hh).2.2 x hx).2.1)) (fun x hx => (hok.2.2 x hx).2.1) e))
  have HFs := Aside.mk (fun u => hfs F u hF hnone)
  have HLk := Aside.mk (fun (w1 : World) (hb : Below w.heap.size w w1) => show (Instr.lookup 79 (.map (some mb)) (.string ⟨(textA l).toArray⟩) true).run Tryd.prog w1 = .ok (.tuple #[.int .i64 0, .bool false]) w1 by
    have h1 := (hraw.below hb).map.look (textA l) hll
    rw [hnone] at h1
    exact h1)
  have HPl := Aside.mk (fun (w1 : World) (hb : Below w.heap.size w w1) => hpl w1 F (hraw.below hb))
  have hi1z : (Lit.int .i64 ((i : Int) + 1)).wf = true := by have := (List.getElem?_eq_some_iff.1 hi1).1; exact WalkArith.wf_i64 (by omega)
  have HUp := Aside.mk (fun (w5 : World) (O5 : Nat → Prop) (pv5 fv5 : Value) (E5 : List En) (hr : TabR B O5 w5 tb (.pointer so) pv5 fv5 mb E5 fr1 empty cnt F) => show ∃ w6, (Instr.mapUpdate 79 (.map (some mb)) (.string ⟨(textA l).toArray⟩) (.int .i64 ((i : Int) + 1))).run Tryd.prog w5 = .ok () w6 ∧ TabR B O5 w6 tb (.pointer so) pv5 fv5 mb E5 fr1 empty (cnt + 1) (fun t => if t = textA l then some ((i : Int) + 1) else F t) ∧ w5.grownBy w6 (some mb) by
    obtain ⟨w6, hrun, hm, hg⟩ := hr.map.put (by omega) (textA l) hll _ hi1z
    exact ⟨w6, hrun, hr.setMap hg hm, hg⟩)
  obtain ⟨ts, hts⟩ : ∃ ts : ByteArray, (⟨(textA l).toArray⟩ : ByteArray) = ts := ⟨_, rfl⟩
  rw [hts] at HTx HLk HUp
  have f0 := h.f0
  have HF3 := Aside.mk (fun (w1 : World) (hb : Below w.heap.size w w1) => (h.below hb).f3)
  have hil := (List.getElem?_eq_some_iff.1 hi1).1
  have hli : (i : Int) < (E1.length : Int) := by omega
  have hlE : (E1.length : Int) ≤ 100001 := by omega
  have HCp := Aside.mk (fun (w1 : World) (ht : Turn O w w1) => copy_any A c l w1 hcA (hS.turn ht hAO) (by have := hok.2.1; omega))
  have HI1 := Aside.mk hi1
  have HE0 := Aside.mk h1
  have HH := Aside.mk h
  have HInv := Aside.mk hinv
  have ql : ((l.length : Int) == 0) = false := by have : 0 < l.length := List.length_pos_iff.2 hnil; simp; omega
  obtain ⟨R, hR⟩ : ∃ R, OpPost B O w tb (.pointer so) mb ((E1.map pr).set i (l, 1)) fr1 empty (cnt + 1) (.tuple #[.int .i64 ((i : Int) + 1), .int .i64 0]) = R := ⟨_, rfl⟩
  rw [hR]
  have HRR := Aside.mk hR
  clear h hR hSch hT hS hwf he hnil hok hll hts hc hno hi1 h1 hpl hinv hfs hraw hF hnone hi1z hcA hl1 hAO
  go_enter Tryd.func35, Tryd.ntmps35
  go_wp2_with fail
  (with_reducible refine HR.out.mono ?_)
  rintro e w' ⟨rfl, rfl⟩
  go_wp2_with fail
  (with_reducible refine HM.out.mono ?_)
  rintro e w1 ⟨rfl, hb1⟩
  have HB := Aside.mk hb1
  clear hb1
  go_wp2_with fail
  (with_reducible refine (HTx.out _ HB.out).mono ?_)
  rintro e w2 ⟨rfl, hb2⟩
  have HB2 := Aside.mk (below_then HB.out hb2)
  have f3 := HF3.out _ HB2.out
  have hlk := HLk.out _ HB2.out
  clear hb2
  go_wp2_with fail
  (with_reducible refine (HPl.out _ HB2.out).mono ?_)
  rintro e w3 ⟨rfl, ⟨pv3, fv3, hr3⟩, ht3⟩
  obtain ⟨g, c1, hpv3, hc1, hgO, p0, p1, _⟩ := hr3.pv_some HI1.out
  have HPV := Aside.mk hpv3
  have HR3 := Aside.mk hr3
  have HRd := Aside.mk (show TabR B (Grow O w2 w3) w3.drew tb (.pointer so) pv3 fv3 mb E1 fr1 empty cnt F from hr3.kept (Nat.le_refl _) (fun k _ => rfl))
  have HT3 := Aside.mk ht3
  have HBd := Aside.mk ((Turn.of_below (O := O) HB2.out).trans ht3).drew
  have f13 : w3.drew.cell? ⟨tb, 1, none⟩ = some (.slice (some ⟨g, 0, none⟩) E1.length c1) := by rw [← hpv3]; exact HRd.out.f1
  have HNe := Aside.mk (show g ≠ tb from own_ne hr3.row hr3.hb (by decide) g (by rw [hpv3]; rfl))
  have hlc : (E1.length : Int) ≤ (c1 : Int) := by omega
  have HGO := Aside.mk hgO
  have hwr : IntKind.i64.wrap (i : Int) = (i : Int) := IntWalk.i64_in _ (by omega)
  clear f3 hlk hpv3 hr3 ht3 p0 p1 hgO hc1
  go_wp2_with fail
  refine wp_region_noPanic ?_
  refine wp_region_held_drew (S := fun W => W.cell? ⟨tb, 1, none⟩ = some (.slice (some ⟨g, 0, none⟩) E1.length c1)) (by kernel_rfl) (f13) (fun hHeld => ?_)
  refine take_at (i := 0) (d := some 47) (v := ?va0) rfl rfl (by kernel_rfl) (by kernel_rfl) (by kernel_rfl) (fun _ _ _ h => h) (Or.inl ⟨by rfl, ?hya0⟩) hHeld ?resta0
  case hya0 => (intro w hSw; (try dsimp only at hSw); go_simp; try with_reducible rfl)
  try simp only [Act.put, List.setIfInBounds_toArray, List.set_cons_zero, List.set_cons_succ]
  refine take_at (i := 1) (d := some 48) (v := ?va1) rfl rfl (by kernel_rfl) (by kernel_rfl) (by kernel_rfl) (fun _ _ _ h => h) (Or.inl ⟨by rfl, ?hya1⟩) hHeld ?resta1
  case hya1 => (intro w hSw; (try dsimp only at hSw); go_simp; try with_reducible rfl)
  try simp only [Act.put, List.setIfInBounds_toArray, List.set_cons_zero, List.set_cons_succ]
  refine take_at (i := 2) (d := some 49) (v := ?va2) rfl rfl (by kernel_rfl) (by kernel_rfl) (by kernel_rfl) (fun _ _ _ h => h) (Or.inl ⟨by rfl, ?hya2⟩) hHeld ?resta2
  case hya2 => (intro w hSw; (try dsimp only at hSw); go_simp; try with_reducible rfl)
  try simp only [Act.put, List.setIfInBounds_toArray, List.set_cons_zero, List.set_cons_succ]
  refine take_at (i := 3) (d := some 50) (v := ?va3) rfl rfl (by kernel_rfl) (by kernel_rfl) (by kernel_rfl) (fun _ _ _ h => h) (Or.inl ⟨by rfl, ?hya3⟩) hHeld ?resta3
  case hya3 => (intro w hSw; (try dsimp only at hSw); go_simp; try with_reducible rfl)
  try simp only [Act.put, List.setIfInBounds_toArray, List.set_cons_zero, List.set_cons_succ]
  refine take_at (i := 4) (d := some 51) (v := ?va4) rfl rfl (by kernel_rfl) (by kernel_rfl) (by kernel_rfl) (fun _ _ _ h => h) (Or.inl ⟨by rfl, ?hya4⟩) hHeld ?resta4
  case hya4 => (intro w hSw; (try dsimp only at hSw); go_simp; try with_reducible rfl)
  try simp only [Act.put, List.setIfInBounds_toArray, List.set_cons_zero, List.set_cons_succ]
  refine take_at (i := 5) (d := some 52) (v := ?va5) rfl rfl (by kernel_rfl) (by kernel_rfl) (by kernel_rfl) (fun _ _ _ h => h) (Or.inl ⟨by rfl, ?hya5⟩) hHeld ?resta5
  case hya5 => (intro w hSw; (try dsimp only at hSw); go_simp; try with_reducible rfl)
  try simp only [Act.put, List.setIfInBounds_toArray, List.set_cons_zero, List.set_cons_succ]
  refine take_at (i := 6) (d := some 53) (v := ?va6) rfl rfl (by kernel_rfl) (by kernel_rfl) (by kernel_rfl) (fun _ _ _ h => h) (Or.inl ⟨by rfl, ?hya6⟩) hHeld ?resta6
  case hya6 => (intro w hSw; (try dsimp only at hSw); go_simp; try with_reducible rfl)
  try simp only [Act.put, List.setIfInBounds_toArray, List.set_cons_zero, List.set_cons_succ]
  refine wpAnyH_ready (rs := [7]) (by kernel_rfl) (by simp) ?_
  refine AllReadyH.cons rfl (fun K hK => ?_) AllReadyH.nil
  go_simp
  (with_reducible refine (HCp.out _ HBd.out).mono ?_)
  rintro e w4 ⟨u, rfl, ho4, hb4⟩
  obtain ⟨uA, uc, rfl, _⟩ := own_form ho4
  have HO4 := Aside.mk ho4
  have HB4 := Aside.mk hb4
  have HR4 := Aside.mk (TabR.below HRd.out hb4)
  obtain ⟨g4, c4, hpv4, _, _, p4, p4', z4⟩ := HR4.out.pv_some HI1.out
  obtain ⟨rfl, rfl⟩ := sl_inj (HPV.out.symm.trans hpv4)
  have z40 := z4 (i * 2)
  clear hpv4 z4
  refine hK.out _ _ (cell_below hb4 hHeld) (fun hHeld' => ?_)
  clear hK K hHeld hb4 ho4
  have hHeld := hHeld'
  clear hHeld'
  try simp only [Act.put, List.setIfInBounds_toArray, List.set_cons_zero, List.set_cons_succ]
  refine take_at (i := 8) (d := some 55) (v := ?va8) rfl rfl (by kernel_rfl) (by kernel_rfl) (by kernel_rfl) (fun _ _ _ h => h) (Or.inl ⟨by rfl, ?hya8⟩) hHeld ?resta8
  case hya8 => (intro w hSw; (try dsimp only at hSw); go_simp; try with_reducible rfl)
  try simp only [Act.put, List.setIfInBounds_toArray, List.set_cons_zero, List.set_cons_succ]
  refine take_at (i := 9) (d := some 56) (v := ?va9) rfl rfl (by kernel_rfl) (by kernel_rfl) (by kernel_rfl) (fun _ _ _ h => h) (Or.inl ⟨by rfl, ?hya9⟩) hHeld ?resta9
  case hya9 => (intro w hSw; (try dsimp only at hSw); go_simp; try with_reducible rfl)
  try simp only [Act.put, List.setIfInBounds_toArray, List.set_cons_zero, List.set_cons_succ]
  refine wpAnyH_ready (rs := [10]) (by kernel_rfl) (by simp) ?_
  refine AllReadyH.cons rfl (fun K hK => ?_) AllReadyH.nil
  go_simp
  refine hK.out _ _ (cell_set_far hHeld (HNe.out)) (fun hHeld' => ?_)
  clear hK K hHeld
  have hHeld := hHeld'
  clear hHeld'
  try simp only [Act.put, List.setIfInBounds_toArray, List.set_cons_zero, List.set_cons_succ]
  refine wpAnyH_done (by kernel_rfl) ?_ _

  refine NoPanic.normal ?_
  clear hHeld
  have hs4 : SetV B (Grow (Grow O w2 w3) w3.drew w4) w4 (.slice uA l.length uc) l := ⟨own_mono HO4.out (by have := HR3.out.top tb HR3.out.tbO; exact Nat.le_trans this.1 (Nat.le_of_lt this.2)), fun k hk => .inr ⟨own_base HO4.out k hk, own_lt HO4.out hk⟩⟩
  have hr5 := (HR4.out.grow (w := w3.drew) (by have := HR3.out.top tb HR3.out.tbO; exact Nat.le_trans this.1 (Nat.le_of_lt this.2))).setPlace (e' := ⟨.slice uA l.length uc, l, e1.held⟩) HI1.out HPV.out hs4 0 (.slice uA l.length uc) (.inl ⟨rfl, rfl, rfl⟩)
  simp only [Nat.zero_add, Nat.add_zero] at hr5
  have f53 := hr5.f3
  obtain ⟨w6, hrun, hr6, hg6⟩ := HUp.out _ _ _ _ _ hr5
  have hi5 : (E1.set i ⟨.slice uA l.length uc, l, e1.held⟩)[i]? = some ⟨.slice uA l.length uc, l, e1.held⟩ := by rw [set_at HI1.out, if_pos rfl]
  have f61 := hr6.f1
  rw [HPV.out] at f61
  obtain ⟨g6, c6, hpv6, _, _, q60, q61, z6⟩ := hr6.pv_some hi5
  rw [List.length_set] at hpv6
  obtain ⟨rfl, rfl⟩ := sl_inj (HPV.out.symm.trans hpv6)
  rw [show (⟨.slice uA l.length uc, l, e1.held⟩ : En).held = 0 from HE0.out] at q61
  have z61 := z6 (i * 2 + 1)
  have hr7 := hr6.setPlace (e' := ⟨.slice uA l.length uc, l, 1⟩) hi5 (by rw [List.length_set]; exact HPV.out) (hr6.sets ⟨.slice uA l.length uc, l, e1.held⟩ (List.mem_of_getElem? hi5)) 1 (.int .i64 1) (.inr ⟨rfl, rfl, rfl⟩)
  simp only [Nat.zero_add, List.set_set] at hr7
  have HE := Aside.mk (add_end (r := .tuple #[.int .i64 ((i : Int) + 1), .int .i64 0]) HH.out HB2.out HT3.out HB4.out HGO.out hg6 hr7 (HFs.out _) (HInv.out _))
  clear hr5 hr6 hr7 hs4 hpv6 z6 q60 hg6
  go_wp2_with (at_mapUpdate; go_must (refine update_run rfl (.tmp 60) (.tmp 61) (.tmp 62) 79 _ _ _ rfl rfl rfl rfl rfl hrun ?_))
  clear hrun f53
  go_wp2
  rw [← HRR.out]
  exact HE.out
end Go.Proofs.YtaejlgdmalhhnaaDoor
/- Layer 7: New, Add, Free, Hold, told of the sets alone. -/
set_option linter.unusedVariables false
set_option linter.unusedSimpArgs false
namespace Go.Proofs.YtaejlgdmalhhnaaDoor
open Go.RowKit Go.Maps

abbrev Ps := List (List At × Int)
variable {B : Nat} {O : Nat → Prop} {w w' : World} {tb : Nat} {sv : Value} {mb : Nat} {P : Ps} {free : List Int} {empty : Int} {cnt : Nat}
/-- The place of a set that is held. -/
def findP (P : Ps) (l : List At) : Option Nat := P.findIdx? (fun p => p.2 != 0 && decide (p.1 = l))
theorem findP_some {i : Nat} {l : List At} (h : findP P l = some i) : ∃ hd, P[i]? = some (l, hd) ∧ hd ≠ 0 := by
  unfold findP at h
  rw [List.findIdx?_eq_some_iff_getElem] at h
  obtain ⟨hi, h1, _⟩ := h
  simp at h1
  exact ⟨P[i].2, by rw [List.getElem?_eq_getElem hi, ← h1.2], h1.1⟩
theorem findP_none {l : List At} (h : findP P l = none) : ∀ p ∈ P, p.2 ≠ 0 → p.1 ≠ l := by
  unfold findP at h
  rw [List.findIdx?_eq_none_iff] at h
  intro p hp h0 h1
  have := h p hp
  simp [h0, h1] at this
/-- What Add answers, and what there is behind it. -/
def addP (ks : List Ky) (P : Ps) (free : List Int) (empty : Int) (l : List At) : Ps × List Int × Int × Int × Int :=
  if mayA ks l ≠ 0 then (P, free, empty, 0, mayA ks l) else if l = [] then (P, free, empty + 1, 0, 0) else match findP P l with
  | some i => (P.set i (l, ((P[i]?).map (·.2)).getD 0 + 1), free, empty, (i : Int) + 1, 0)
  | none => match free.getLast? with
    | some f => (P.set f.toNat (l, 1), free.dropLast, empty, f + 1, 0)
    | none => (P ++ [(l, 1)], free, empty, (P.length : Int) + 1, 0)
theorem pr_at {E : List En} {i : Nat} {p : List At × Int} (h : (E.map pr)[i]? = some p) : ∃ e, E[i]? = some e ∧ e.set = p.1 ∧ e.held = p.2 := by
  rw [List.getElem?_map] at h
  cases he : E[i]? with
  | none => rw [he] at h; cases h
  | some e => rw [he] at h; cases h; exact ⟨e, rfl, rfl, rfl⟩
theorem add_any {lo hi : Nat} {so : Option Addr} {ks srt : List Ky} (A : Option Addr) (c : Nat) (l : List At) (h : TabM B O w tb (.pointer so) mb P free empty cnt) (hcn : cnt ≤ 100000) (hSch : Sch lo hi w (.pointer so) ks srt) (hT : Lib.Utf8Tabs 1 2 w) (hS : ASrc w A l) (hc : l.length ≤ c) (hl : l.length ≤ 9223372036854775807) (hcA : A = none → c = 0) (hAO : ∀ a, A = some a → ¬ O a.block)
    (hwf : ∀ a ∈ l, a.wfA) : Calls Tryd.prog 35 #[.pointer (some ⟨tb, 0, none⟩), .slice A l.length c] w (OpPost B O w tb (.pointer so) mb (addP ks P free empty l).1 (addP ks P free empty l).2.1 (addP ks P free empty l).2.2.1 (cnt + 1) (.tuple #[.int .i64 (addP ks P free empty l).2.2.2.1, .int .i64 (addP ks P free empty l).2.2.2.2])) := by
  obtain ⟨pv, fv, E, rfl, h⟩ := h
  by_cases he : mayA ks l ≠ 0
  · have e : addP ks (E.map pr) free empty l = (E.map pr, free, empty, 0, mayA ks l) := by unfold addP; rw [if_pos he]
    rw [e]
    exact add_err A c l h hSch hT hS hc hl hwf he
  have he0 : mayA ks l = 0 := by omega
  by_cases h0 : l = []
  · have e : addP ks (E.map pr) free empty l = (E.map pr, free, empty + 1, 0, 0) := by unfold addP; rw [if_neg he, if_pos h0]
    rw [e]
    exact add_empty A c l h hcn hSch hT hS hc h0
  cases hf : findP (E.map pr) l with
  | some i =>
    obtain ⟨hd, hi, hd0⟩ := findP_some hf
    obtain ⟨x, hx, hx1, hx2⟩ := pr_at hi
    have e : addP ks (E.map pr) free empty l = ((E.map pr).set i (l, hd + 1), free, empty, (i : Int) + 1, 0) := by unfold addP; rw [if_neg he, if_neg h0, hf]; simp only [hi]; rfl
    rw [e]
    have := add_found A c l h hcn hSch hT hS hc hwf he0 hx (by rw [hx2]; exact hd0) hx1
    rw [hx1, hx2] at this
    exact this
  | none =>
    have hno : ∀ e ∈ E, e.held ≠ 0 → e.set ≠ l := fun e he hh => findP_none hf (pr e) (List.mem_map_of_mem he) hh
    have hE := h.inv.len
    rcases List.eq_nil_or_concat free with hfr | ⟨fr, f, hfr⟩
    · subst hfr
      have e : addP ks (E.map pr) [] empty l = (E.map pr ++ [(l, 1)], [], empty, (E.length : Int) + 1, 0) := by unfold addP; rw [if_neg he, if_neg h0, hf]; simp
      rw [e]
      have hs : ∀ e' : En, (E ++ [nilE]).set E.length e' = E ++ [e'] := fun e' => by simp
      have := add_lay (E1 := E ++ [nilE]) (fr1 := []) (i := E.length) (e1 := nilE) A c l h hcn hSch hT hS hc hcA hAO hwf he0 h0 hno (by simp) rfl (by simp; omega) (fun w2 F hr => place_new hr (by omega))
        (fun u => by rw [hs]; exact h.inv.push (okSet_of he0 h0 hwf) rfl) (fun F u hF hn => by rw [hs]; exact hF.push (by simp) hn)
      have e2 : ((E ++ [nilE]).map pr).set E.length (l, 1) = E.map pr ++ [(l, 1)] := by simp
      rw [e2] at this
      exact this
    · rw [List.concat_eq_append] at hfr
      subst hfr
      obtain ⟨i, x, hfi, hx, hx0⟩ := (h.inv.free f).1 (by simp)
      subst hfi
      have e : addP ks (E.map pr) (fr ++ [(i : Int)]) empty l = ((E.map pr).set i (l, 1), fr, empty, (i : Int) + 1, 0) := by unfold addP; rw [if_neg he, if_neg h0, hf]; simp
      rw [e]
      have hil := (List.getElem?_eq_some_iff.1 hx).1
      exact add_lay (E1 := E) (fr1 := fr) (i := i) (e1 := x) A c l h hcn hSch hT hS hc hcA hAO hwf he0 h0 hno hx hx0 (by omega) (fun w2 F hr => place_free hr (by have := h.inv.flen; rw [List.length_append] at this; omega) (by omega))
        (fun u => h.inv.lay hx (okSet_of he0 h0 hwf) rfl) (fun F u hF hn => hF.lay hx hx0 (by simp) hn)
/-- What Free answers, and what there is behind it. -/
def freeP (P : Ps) (free : List Int) (empty : Int) (id : Int) : Ps × List Int × Int × Int :=
  if (askP P empty id).2 ≠ 0 then (P, free, empty, (askP P empty id).2) else if id = 0 then (P, free, max (empty - 1) 0, 0) else match P[(id - 1).toNat]? with
  | none => (P, free, empty, 0)
  | some p => if p.2 = 1 then (P.set (id - 1).toNat ([], 0), free ++ [((id - 1).toNat : Int)], empty, 0) else (P.set (id - 1).toNat (p.1, p.2 - 1), free, empty, 0)
theorem ask_ok {id : Int} (h : ¬ (askP P empty id).2 ≠ 0) (h0 : id ≠ 0) : ∃ (i : Nat) (p : List At × Int), id = (i : Int) + 1 ∧ P[i]? = some p ∧ p.2 ≠ 0 ∧ (id - 1).toNat = i := by
  unfold askP at h
  rw [if_neg h0] at h
  by_cases hn : id < 0
  · rw [if_pos hn] at h; exact absurd (by decide) h
  · rw [if_neg hn] at h
    cases hp : P[(id - 1).toNat]? with
    | none => rw [hp] at h; exact absurd (by decide) h
    | some p =>
      rw [hp] at h
      simp only at h
      by_cases hz : p.2 = 0
      · rw [if_pos hz] at h; exact absurd (by decide) h
      · exact ⟨(id - 1).toNat, p, by omega, hp, hz, rfl⟩
theorem free_any (id : Int) (h : TabM B O w tb sv mb P free empty cnt) (hcn : cnt ≤ 100000) (hw : (Lit.int .i64 id).wf = true) :
    Calls Tryd.prog 37 #[.pointer (some ⟨tb, 0, none⟩), .int .i64 id] w (OpPost B O w tb sv mb (freeP P free empty id).1 (freeP P free empty id).2.1 (freeP P free empty id).2.2.1 (cnt + 1) (.int .i64 (freeP P free empty id).2.2.2)) := by
  obtain ⟨pv, fv, E, rfl, h⟩ := h
  by_cases he : (askP (E.map pr) empty id).2 ≠ 0
  · have e : freeP (E.map pr) free empty id = (E.map pr, free, empty, (askP (E.map pr) empty id).2) := by unfold freeP; rw [if_pos he]
    rw [e]
    exact free_err id h hcn hw he
  by_cases h0 : id = 0
  · subst h0
    have e : freeP (E.map pr) free empty 0 = (E.map pr, free, max (empty - 1) 0, 0) := by unfold freeP; rw [if_neg he, if_pos rfl]
    rw [e]
    exact free_zero h hcn
  obtain ⟨i, p, rfl, hp, hp0, hi⟩ := ask_ok he h0
  obtain ⟨x, hx, hx1, hx2⟩ := pr_at hp
  by_cases h1 : p.2 = 1
  · have e : freeP (E.map pr) free empty ((i : Int) + 1) = ((E.map pr).set i ([], 0), free ++ [(i : Int)], empty, 0) := by
      unfold freeP; rw [if_neg he, if_neg h0, hi, hp]; simp only; rw [if_pos h1]
    rw [e]
    exact free_last h hcn hx (by omega)
  · have e : freeP (E.map pr) free empty ((i : Int) + 1) = ((E.map pr).set i (p.1, p.2 - 1), free, empty, 0) := by
      unfold freeP; rw [if_neg he, if_neg h0, hi, hp]; simp only; rw [if_neg h1]
    rw [e, ← hx1, ← hx2]
    have := (h.inv.held x (List.mem_of_getElem? hx)).1
    exact free_dec h hcn hx (by omega)
/-- What Hold answers, and what there is behind it. -/
def holdP (P : Ps) (empty : Int) (id : Int) : Ps × Int × Int :=
  if (askP P empty id).2 ≠ 0 then (P, empty, (askP P empty id).2) else if id = 0 then (P, empty + 1, 0) else match P[(id - 1).toNat]? with
  | none => (P, empty, 0)
  | some p => (P.set (id - 1).toNat (p.1, p.2 + 1), empty, 0)
theorem hold_any (id : Int) (h : TabM B O w tb sv mb P free empty cnt) (hcn : cnt ≤ 100000) (hw : (Lit.int .i64 id).wf = true) :
    Calls Tryd.prog 39 #[.pointer (some ⟨tb, 0, none⟩), .int .i64 id] w (OpPost B O w tb sv mb (holdP P empty id).1 free (holdP P empty id).2.1 (cnt + 1) (.int .i64 (holdP P empty id).2.2)) := by
  obtain ⟨pv, fv, E, rfl, h⟩ := h
  by_cases he : (askP (E.map pr) empty id).2 ≠ 0
  · have e : holdP (E.map pr) empty id = (E.map pr, empty, (askP (E.map pr) empty id).2) := by unfold holdP; rw [if_pos he]
    rw [e]
    exact hold_err id h hcn hw he
  by_cases h0 : id = 0
  · subst h0
    have e : holdP (E.map pr) empty 0 = (E.map pr, empty + 1, 0) := by unfold holdP; rw [if_neg he, if_pos rfl]
    rw [e]
    exact hold_zero h hcn
  obtain ⟨i, p, rfl, hp, hp0, hi⟩ := ask_ok he h0
  obtain ⟨x, hx, hx1, hx2⟩ := pr_at hp
  have e : holdP (E.map pr) empty ((i : Int) + 1) = ((E.map pr).set i (p.1, p.2 + 1), empty, 0) := by
    unfold holdP; rw [if_neg he, if_neg h0, hi, hp]
  rw [e, ← hx1, ← hx2]
  exact hold_at h hcn hx (by omega)
theorem heldM (id : Int) (h : TabM B O w tb sv mb P free empty cnt) (hcn : cnt ≤ 100000) (hw : (Lit.int .i64 id).wf = true) :
    Calls Tryd.prog 56 #[.pointer (some ⟨tb, 0, none⟩), .int .i64 id] w fun e w' => e = .returned (.int .i64 (askP P empty id).1) ∧ Below w.heap.size w w' := by
  obtain ⟨pv, fv, E, rfl, h⟩ := h
  rw [askP_eq]
  exact held_any id h (by omega) hw
theorem lenM (h : TabM B O w tb sv mb P free empty cnt) (hcn : cnt ≤ 100000) :
    Calls Tryd.prog 57 #[.pointer (some ⟨tb, 0, none⟩)] w fun e w' => e = .returned (.int .i64 (1 + (P.length : Int) - (free.length : Int))) ∧ Below w.heap.size w w' := by
  obtain ⟨pv, fv, E, rfl, h⟩ := h
  rw [List.length_map]
  exact len7_any h (by omega)
def setP (P : Ps) (id : Int) : List At := if id = 0 then [] else ((P[(id - 1).toNat]?).map (·.1)).getD []
theorem setM (id : Int) (h : TabM B O w tb sv mb P free empty cnt) (hcn : cnt ≤ 100000) (hw : (Lit.int .i64 id).wf = true) :
    Calls Tryd.prog 54 #[.pointer (some ⟨tb, 0, none⟩), .int .i64 id] w (SetPost w (setP P id) (askP P empty id).2) := by
  obtain ⟨pv, fv, E, rfl, h⟩ := h
  have e : setP (E.map pr) id = setE E id := by
    unfold setP setE
    split
    · rfl
    · rw [List.getElem?_map]
      cases E[(id - 1).toNat]? <;> rfl
  rw [e, askP_eq]
  exact set_any id h (by omega) hw
theorem TabM.below (h : TabM B O w tb sv mb P free empty cnt) (hb : Below w.heap.size w w') : TabM B O w' tb sv mb P free empty cnt := by
  obtain ⟨pv, fv, E, hP, h⟩ := h
  exact ⟨pv, fv, E, hP, h.below hb⟩
theorem TabM.turn {Q : Nat → Prop} (h : TabM B O w tb sv mb P free empty cnt) (ht : Turn Q w w') (hQ : ∀ k, Q k → ¬ O k) : TabM B O w' tb sv mb P free empty cnt := by
  obtain ⟨pv, fv, E, hP, h⟩ := h
  exact ⟨pv, fv, E, hP, h.turn ht hQ⟩
def newW (w : World) (sv : Value) : World := (w.alloc (.map #[] 0)).alloc (.cells #[sv, .slice none 0 0, .slice none 0 0, .map (some w.heap.size), .int .i64 0] 81)
theorem newM (w : World) (sv : Value) (hB : B ≤ w.heap.size) : TabM B (fun k => w.heap.size ≤ k ∧ k < w.heap.size + 2) (newW w sv) (w.heap.size + 1) sv w.heap.size [] [] 0 0 := by
  have hs : (newW w sv).heap.size = w.heap.size + 2 := by simp [newW]
  have hm : IMap (newW w sv) w.heap.size 0 (fun _ => none) := (IMap.new w 0).kept (heap_alloc_old (w.alloc (.map #[] 0)) _ (by simp))
  refine ⟨.slice none 0 0, .slice none 0 0, [], rfl, ⟨fun k hk => by rw [hs]; omega, ⟨by omega, by omega⟩, ?_, ⟨rfl, .inl ⟨rfl, rfl⟩⟩, fun k hk => (by cases hk), OwnN.nil _ _ _ _, fun k hk => (by cases hk), ⟨_, hm, ⟨fun i a hi => (by simp at hi), fun t _ => rfl⟩⟩, ⟨Nat.le_refl _, by omega⟩, fun e he => (by cases he), ?_⟩⟩
  · exact box_at (w.alloc (.map #[] 0)) _ _ (by simp)
  · exact ⟨fun a ha => (by cases ha), Nat.le_refl _, Nat.le_refl _, List.nodup_nil, fun f => ⟨fun hf => (by cases hf), fun ⟨i, a, _, hi, _⟩ => (by simp at hi)⟩, by omega⟩
set_option maxRecDepth 100000 in
theorem new7_any (so : Option Addr) (w : World) : Calls Tryd.prog 33 #[.pointer so] w fun e w' => e = .returned (.pointer (some ⟨w.heap.size + 1, 0, none⟩)) ∧ w' = newW w (.pointer so) := by
  have hmk : ∀ W : World, (Instr.makeMap 79 none).run Tryd.prog W = .ok (.map (some W.heap.size)) (W.alloc (.map #[] 0)) := fun W => rfl
  go_enter Tryd.func33, Tryd.ntmps33
  go_wp2
  go_ret
  exact ⟨rfl, rfl⟩
end Go.Proofs.YtaejlgdmalhhnaaDoor
/- Layer 7: a run of calls on a table of the law's own; known. -/
set_option linter.unusedVariables false
set_option linter.unusedSimpArgs false
namespace Go.Proofs.YtaejlgdmalhhnaaDoor
open Go.RowKit Go.Maps

theorem Sch.turn {O : Nat → Prop} {lo hi : Nat} {w w' : World} {v : Value} {ks srt : List Ky} (h : Sch lo hi w v ks srt) (ht : Turn O w w') (hO : ∀ k, O k → hi ≤ k) : Sch lo hi w' v ks srt := by
  rcases h with h | ⟨g, A, c, m, hv, h⟩
  · exact .inl h
  · exact .inr ⟨g, A, c, m, hv, h.stays ⟨ht.size, fun k h1 h2 => ht.block k (Nat.lt_of_lt_of_le h2 h.top) (fun e => by have := hO k e; omega)⟩⟩
/-- In W, reached from w: a table of a schema, both laid since w. -/
structure Run (w W : World) (tb : Nat) (so : Option Addr) (mb lo hi : Nat) (ks srt : List Ky) (P : Ps) (free : List Int) (empty : Int) (cnt : Nat) (O : Nat → Prop) : Prop where
  below : Below w.heap.size w W
  tab : TabM w.heap.size O W tb (.pointer so) mb P free empty cnt
  sch : Sch lo hi W (.pointer so) ks srt
  high : ∀ k, O k → hi ≤ k
  top : hi ≤ W.heap.size
variable {w W W' : World} {tb : Nat} {so : Option Addr} {mb lo hi : Nat} {ks srt : List Ky} {P : Ps} {free : List Int} {empty : Int} {cnt : Nat} {O : Nat → Prop}
theorem TabM.lt {B : Nat} {sv : Value} (h : TabM B O W tb sv mb P free empty cnt) : ∀ k, O k → B ≤ k ∧ k < W.heap.size := by
  obtain ⟨pv, fv, E, _, h⟩ := h
  exact h.top
theorem Run.later (h : Run w W tb so mb lo hi ks srt P free empty cnt O) (hb : Below W.heap.size W W') : Run w W' tb so mb lo hi ks srt P free empty cnt O :=
  ⟨below_then h.below hb, h.tab.below hb, h.sch.below hb, h.high, Nat.le_trans h.top hb.size⟩
theorem Run.step {P' : Ps} {free' : List Int} {empty' : Int} {r : Value} {e : Ending} (h : Run w W tb so mb lo hi ks srt P free empty cnt O) (hp : OpPost w.heap.size O W tb (.pointer so) mb P' free' empty' (cnt + 1) r e W') :
    e = .returned r ∧ Run w W' tb so mb lo hi ks srt P' free' empty' (cnt + 1) (Grow O W W') := by
  obtain ⟨he, ht, hu⟩ := hp
  refine ⟨he, ⟨(h.below).trans (hu.below (fun k hk => (h.tab.lt k hk).1) h.below.size), ht, h.sch.turn hu h.high, fun k hk => ?_, Nat.le_trans h.top hu.size⟩⟩
  rcases hk with hk | hk
  · exact h.high k hk
  · have := h.top; omega
def RunPost (w W : World) (tb : Nat) (so : Option Addr) (mb lo hi : Nat) (ks srt : List Ky) (P : Ps) (free : List Int) (empty : Int) (cnt : Nat) (O : Nat → Prop) (r : Value) (e : Ending) (W' : World) : Prop :=
  e = .returned r ∧ Run w W' tb so mb lo hi ks srt P free empty cnt (Grow O W W') ∧ Turn O W W'
theorem run_add (A : Option Addr) (c : Nat) (l : List At) (h : Run w W tb so mb lo hi ks srt P free empty cnt O) (hcn : cnt ≤ 100000) (hT : Lib.Utf8Tabs 1 2 w) (hS : ASrc W A l) (hc : l.length ≤ c) (hl : l.length ≤ 9223372036854775807) (hcA : A = none → c = 0) (hAO : ∀ a, A = some a → ¬ O a.block) (hwf : ∀ a ∈ l, a.wfA) {P' : Ps} {free' : List Int} {empty' id err : Int} (ha : addP ks P free empty l = (P', free', empty', id, err)) :
    Calls Tryd.prog 35 #[.pointer (some ⟨tb, 0, none⟩), .slice A l.length c] W (RunPost w W tb so mb lo hi ks srt P' free' empty' (cnt + 1) O (.tuple #[.int .i64 id, .int .i64 err])) := by
  have h1 := add_any A c l h.tab hcn h.sch (tabs_below hT h.below) hS hc hl hcA hAO hwf
  rw [ha] at h1
  exact h1.mono fun e W' hp => ⟨(h.step hp).1, (h.step hp).2, hp.2.2⟩
theorem run_free (id : Int) (h : Run w W tb so mb lo hi ks srt P free empty cnt O) (hcn : cnt ≤ 100000) (hw : (Lit.int .i64 id).wf = true) {P' : Ps} {free' : List Int} {empty' err : Int} (ha : freeP P free empty id = (P', free', empty', err)) :
    Calls Tryd.prog 37 #[.pointer (some ⟨tb, 0, none⟩), .int .i64 id] W (RunPost w W tb so mb lo hi ks srt P' free' empty' (cnt + 1) O (.int .i64 err)) := by
  have h1 := free_any id h.tab hcn hw
  rw [ha] at h1
  exact h1.mono fun e W' hp => ⟨(h.step hp).1, (h.step hp).2, hp.2.2⟩
theorem run_hold (id : Int) (h : Run w W tb so mb lo hi ks srt P free empty cnt O) (hcn : cnt ≤ 100000) (hw : (Lit.int .i64 id).wf = true) {P' : Ps} {empty' err : Int} (ha : holdP P empty id = (P', empty', err)) :
    Calls Tryd.prog 39 #[.pointer (some ⟨tb, 0, none⟩), .int .i64 id] W (RunPost w W tb so mb lo hi ks srt P' free empty' (cnt + 1) O (.int .i64 err)) := by
  have h1 := hold_any id h.tab hcn hw
  rw [ha] at h1
  exact h1.mono fun e W' hp => ⟨(h.step hp).1, (h.step hp).2, hp.2.2⟩
theorem run_new (hb : Below w.heap.size w W) (hS : Sch lo hi W (.pointer so) ks srt) (ht : hi ≤ W.heap.size) : Run w (newW W (.pointer so)) (W.heap.size + 1) so W.heap.size lo hi ks srt [] [] 0 0 (fun k => W.heap.size ≤ k ∧ k < W.heap.size + 2) := by
  have h2 : Below W.heap.size W (newW W (.pointer so)) := below_alloc (below_alloc (below_refl W) _) _
  exact ⟨below_then hb h2, newM W _ hb.size, hS.below h2, fun k hk => by omega, Nat.le_trans ht h2.size⟩
/-- A set of one flag. -/
def flagO (n : Int) : Obj := .cells #[.int .i64 1, .int .u8 1, .int .i64 n, .int .u64 0, .string ⟨#[]⟩] 58
def flagA (n : Int) : List At := [⟨1, ⟨1, n, 0, ⟨#[]⟩⟩⟩]
theorem flags_any (n : Int) (w : World) : Calls Tryd.prog 72 #[.int .i64 n] w fun e w' => e = .returned (.slice (some ⟨w.heap.size, 0, none⟩) 1 1) ∧ w' = w.alloc (flagO n) := by
  unfold flagO
  go_enter Tryd.func72, Tryd.ntmps72
  go_wp2
  go_ret
  exact ⟨rfl, rfl⟩
theorem asrc_new (w : World) (cs : Array Value) (l : List At) (h : cs.toList = acells l) : ASrc (w.alloc (.cells cs 58)) (some ⟨w.heap.size, 0, none⟩) l := by
  refine ⟨(fun e => (by cases e)), fun ad e j k hj i v hi => ?_⟩
  cases e
  have h2 : (w.alloc (.cells cs 58)).heap[w.heap.size]? = some (.cells cs 58) := heap_alloc_new w _
  have h3 := acells_get l j k hj i v hi
  rw [addr_add_plain]
  unfold World.cell?
  simp only [h2]
  rw [← Array.getElem?_toList, h]
  exact h3
theorem run_flag (n : Int) (h : Run w W tb so mb lo hi ks srt P free empty cnt O) (hcn : cnt ≤ 100000) (hT : Lib.Utf8Tabs 1 2 w) (hn : (Lit.int .i64 n).wf = true) {P' : Ps} {free' : List Int} {empty' id err : Int} (ha : addP ks P free empty (flagA n) = (P', free', empty', id, err)) :
    Calls Tryd.prog 35 #[.pointer (some ⟨tb, 0, none⟩), .slice (some ⟨W.heap.size, 0, none⟩) 1 1] (W.alloc (flagO n)) (RunPost w (W.alloc (flagO n)) tb so mb lo hi ks srt P' free' empty' (cnt + 1) O (.tuple #[.int .i64 id, .int .i64 err])) :=
  run_add (some ⟨W.heap.size, 0, none⟩) 1 (flagA n) (h.later (below_alloc (below_refl W) _)) hcn hT (asrc_new W _ (flagA n) rfl) (by simp [flagA]) (by simp [flagA]) (fun e => by cases e) (fun a ha hO => by cases ha; have := (h.tab.lt _ hO).2; simp at this) (fun a ha => by simp [flagA] at ha; subst ha; exact ⟨(show (Lit.int .i64 1).wf = true by decide), hn, (show (0 : Nat) < 18446744073709551616 by decide)⟩) ha
theorem asrc_nil (w : World) : ASrc w none [] := ⟨fun _ => rfl, fun ad e => (by cases e)⟩
theorem run_nil (h : Run w W tb so mb lo hi ks srt P free empty cnt O) (hcn : cnt ≤ 100000) (hT : Lib.Utf8Tabs 1 2 w) {P' : Ps} {free' : List Int} {empty' id err : Int} (ha : addP ks P free empty [] = (P', free', empty', id, err)) :
    Calls Tryd.prog 35 #[.pointer (some ⟨tb, 0, none⟩), .slice none 0 0] W (RunPost w W tb so mb lo hi ks srt P' free' empty' (cnt + 1) O (.tuple #[.int .i64 id, .int .i64 err])) :=
  run_add none 0 [] h hcn hT (asrc_nil W) (Nat.le_refl _) (by simp) (fun _ => rfl) (fun a e => (by cases e)) (fun a ha => absurd ha (by simp)) ha
def kI : List Ky := [⟨1, false, 1, false, false, 0⟩]
def kIObj : Obj := .cells #[.int .i64 1, .bool false, .int .u8 1, .bool false, .bool false, .int .i64 0] 97
theorem kI_ok : okKs kI = true := by decide
theorem newI (W : World) : Calls Tryd.prog 30 #[.slice (some ⟨W.heap.size, 0, none⟩) 1 1] (W.alloc kIObj) (NewPost (W.alloc kIObj) kI) :=
  new_any (some ⟨W.heap.size, 0, none⟩) 1 kI (W.alloc kIObj) (by decide) (src_new W _ kI rfl) (fun e => by cases e) (by decide) (by decide)
end Go.Proofs.YtaejlgdmalhhnaaDoor
/- Layer 7: known. -/
set_option linter.unusedVariables false
set_option linter.unusedSimpArgs false
namespace Go.Proofs.YtaejlgdmalhhnaaDoor
open Go.RowKit Go.Maps

set_option maxRecDepth 100000 in
set_option maxHeartbeats 4000000 in
theorem known7_any (w : World) (hT : Lib.Utf8Tabs 1 2 w) : Calls Tryd.prog 32 #[] w fun e w' => e = .returned (.bool true) ∧ Below w.heap.size w w' := by
  have HT := Aside.mk hT
  have N1 := Aside.mk newI
  unfold kIObj at N1
  clear hT
  go_enter Tryd.func32, Tryd.ntmps32
  go_wp2_with fail
  (with_reducible refine (N1.out _).mono ?_)
  rintro e w1 ⟨hb1, h1⟩
  rw [kI_ok, if_pos rfl] at h1
  obtain ⟨v, srt, rfl, hS, hv, hp, hs⟩ := h1
  have hsp : ∃ so, v = .pointer so := by rcases hS with ⟨rfl, _⟩ | ⟨g, A, c, m, rfl, _⟩ <;> exact ⟨_, rfl⟩
  obtain ⟨so, rfl⟩ := hsp
  have R2 := Aside.mk (run_new (w := w) (below_then (below_alloc (below_refl w) kIObj) hb1) hS (Nat.le_refl _))
  clear hS hv hp hs hb1
  go_wp2_with fail
  (with_reducible refine (new7_any so w1).mono ?_)
  rintro e w2 ⟨rfl, rfl⟩
  go_wp2_with fail
  (with_reducible refine (run_nil R2.out (by decide) HT.out (P' := []) (free' := []) (empty' := 1) (id := 0) (err := 0) (by decide +kernel)).mono ?_)
  rintro e w3 ⟨rfl, hr, _⟩
  have R3 := Aside.mk hr
  clear hr
  go_wp2_with fail
  (with_reducible refine (flags_any 1 _).mono ?_)
  rintro e w' ⟨rfl, rfl⟩
  go_wp2_with fail
  (with_reducible refine (run_flag 1 R3.out (by decide) HT.out (by decide) (P' := [(flagA 1, 1)]) (free' := []) (empty' := 1) (id := 1) (err := 0) (by decide +kernel)).mono ?_)
  rintro e w4 ⟨rfl, hr, _⟩
  have R4 := Aside.mk hr
  clear hr
  go_wp2_with fail
  (with_reducible refine (flags_any 1 _).mono ?_)
  rintro e w' ⟨rfl, rfl⟩
  go_wp2_with fail
  (with_reducible refine (run_flag 1 R4.out (by decide) HT.out (by decide) (P' := [(flagA 1, 2)]) (free' := []) (empty' := 1) (id := 1) (err := 0) (by decide +kernel)).mono ?_)
  rintro e w5 ⟨rfl, hr, _⟩
  have R5 := Aside.mk hr
  clear hr
  go_wp2_with fail
  (with_reducible refine (flags_any 0 _).mono ?_)
  rintro e w' ⟨rfl, rfl⟩
  go_wp2_with fail
  (with_reducible refine (run_flag 0 R5.out (by decide) HT.out (by decide) (P' := [(flagA 1, 2), (flagA 0, 1)]) (free' := []) (empty' := 1) (id := 2) (err := 0) (by decide +kernel)).mono ?_)
  rintro e w6 ⟨rfl, hr, _⟩
  have R6 := Aside.mk hr
  clear hr
  have L7 := Aside.mk (show Calls Tryd.prog 57 #[.pointer (some ⟨w1.heap.size + 1, 0, none⟩)] w6 fun e w' => e = .returned (.int .i64 3) ∧ Below w6.heap.size w6 w' from lenM R6.out.tab (by decide))
  go_wp2_with fail
  (with_reducible refine L7.out.mono ?_)
  rintro e w7 ⟨rfl, hb⟩
  have R7 := Aside.mk (R6.out.later hb)
  clear hb
  go_wp2_with fail
  (with_reducible refine (run_free 1 R7.out (by decide) (by decide) (P' := [(flagA 1, 1), (flagA 0, 1)]) (free' := []) (empty' := 1) (err := 0) (by decide +kernel)).mono ?_)
  rintro e w8 ⟨rfl, hr, _⟩
  have R8 := Aside.mk hr
  clear hr
  go_wp2_with fail
  (with_reducible refine (run_free 1 R8.out (by decide) (by decide) (P' := [([], 0), (flagA 0, 1)]) (free' := [0]) (empty' := 1) (err := 0) (by decide +kernel)).mono ?_)
  rintro e w9 ⟨rfl, hr, _⟩
  have R9 := Aside.mk hr
  clear hr
  go_wp2_with fail
  (with_reducible refine (run_free 1 R9.out (by decide) (by decide) (P' := [([], 0), (flagA 0, 1)]) (free' := [0]) (empty' := 1) (err := 5) (by decide +kernel)).mono ?_)
  rintro e w10 ⟨rfl, hr, _⟩
  have R10 := Aside.mk hr
  clear hr
  have L11 := Aside.mk (show Calls Tryd.prog 57 #[.pointer (some ⟨w1.heap.size + 1, 0, none⟩)] w10 fun e w' => e = .returned (.int .i64 2) ∧ Below w10.heap.size w10 w' from lenM R10.out.tab (by decide))
  go_wp2_with fail
  (with_reducible refine L11.out.mono ?_)
  rintro e w11 ⟨rfl, hb⟩
  have R11 := Aside.mk (R10.out.later hb)
  clear hb
  have H12 := Aside.mk (show Calls Tryd.prog 56 #[.pointer (some ⟨w1.heap.size + 1, 0, none⟩), .int .i64 2] w11 fun e w' => e = .returned (.int .i64 1) ∧ Below w11.heap.size w11 w' from heldM 2 R11.out.tab (by decide) (by decide))
  go_wp2_with fail
  (with_reducible refine H12.out.mono ?_)
  rintro e w12 ⟨rfl, hb⟩
  have R12 := Aside.mk (R11.out.later hb)
  clear hb
  go_wp2
  go_ret
  exact ⟨rfl, R12.out.below⟩
end Go.Proofs.YtaejlgdmalhhnaaDoor
/- Layer 7: InternHolds (printed by gen_holds.py). -/
set_option linter.unusedVariables false
set_option linter.unusedSimpArgs false
namespace Go.Proofs.YtaejlgdmalhhnaaDoor
open Go.RowKit Go.Maps

theorem hold_one (l : List At) (h : Int) (h0 : h ≠ 0) : holdP [(l, h)] 0 1 = ([(l, h + 1)], 0, 0) := by
  have ha : askP [(l, h)] 0 1 = (h, 0) := by
    unfold askP
    rw [if_neg (by decide), if_neg (by decide), show ((1 : Int) - 1).toNat = 0 from rfl]
    simp only [List.getElem?_cons_zero]
    rw [if_neg h0]
  unfold holdP
  rw [ha, if_neg (by simp), if_neg (by decide), show ((1 : Int) - 1).toNat = 0 from rfl]
  rfl
def hdP (l : List At) (n k : Nat) : Ps := if k ≤ n then [(l, (n : Int) + 1 - (k : Int))] else [([], 0)]
def frP (n k : Nat) : List Int := if k ≤ n then [] else [0]
theorem hd_end (l : List At) (n : Nat) : hdP l n (n + 1) = [([], 0)] := by unfold hdP; rw [if_neg (by omega)]
theorem fr_end (n : Nat) : frP n (n + 1) = [0] := by unfold frP; rw [if_neg (by omega)]
theorem hd_ask (l : List At) (n k : Nat) (h : k ≤ n) : (askP (hdP l n k) 0 1).1 = (n : Int) + 1 - (k : Int) := by
  unfold hdP
  rw [if_pos h]
  unfold askP
  rw [if_neg (by decide), if_neg (by decide), show ((1 : Int) - 1).toNat = 0 from rfl]
  simp only [List.getElem?_cons_zero]
  rw [if_neg (by omega)]
theorem hd_free (l : List At) (n k : Nat) (h : k ≤ n) : freeP (hdP l n k) (frP n k) 0 1 = (hdP l n (k + 1), frP n (k + 1), 0, 0) := by
  have ha : askP (hdP l n k) 0 1 = ((n : Int) + 1 - (k : Int), 0) := by
    unfold hdP
    rw [if_pos h]
    unfold askP
    rw [if_neg (by decide), if_neg (by decide), show ((1 : Int) - 1).toNat = 0 from rfl]
    simp only [List.getElem?_cons_zero]
    rw [if_neg (by omega)]
  unfold freeP
  rw [ha, if_neg (by simp), if_neg (by decide), show ((1 : Int) - 1).toNat = 0 from rfl]
  unfold hdP frP
  rw [if_pos h, if_pos h]
  simp only [List.getElem?_cons_zero]
  by_cases hk : k = n
  · subst hk
    rw [if_pos (by omega), if_neg (by omega), if_neg (by omega)]
    rfl
  · rw [if_neg (by omega), if_pos (by omega), if_pos (by omega)]
    have e : (n : Int) + 1 - (k : Int) - 1 = (n : Int) + 1 - ((k + 1 : Nat) : Int) := by omega
    simp only [List.set_cons_zero, e]
theorem run_cast {w W : World} {tb : Nat} {so : Option Addr} {mb lo hi : Nat} {ks srt : List Ky} {l : List At} {h h' : Int} {free : List Int} {empty : Int} {cnt cnt' : Nat} {O : Nat → Prop} (hr : Run w W tb so mb lo hi ks srt [(l, h)] free empty cnt O) (e : h = h') (e2 : cnt = cnt') : Run w W tb so mb lo hi ks srt [(l, h')] free empty cnt' O := by
  subst e e2; exact hr
set_option maxRecDepth 100000 in
set_option maxHeartbeats 4000000 in
theorem holds_no (nn : Nat) (w : World) (hn : nn ≤ 50) (hT : Lib.Utf8Tabs 1 2 w) : Calls Tryd.prog 19 #[.int .i64 (nn : Int), .bool false] w fun e w' => e = .returned (.bool true) ∧ Below w.heap.size w w' := by
  have HT := Aside.mk hT
  have HK := Aside.mk (fun W (h : Below w.heap.size w W) => known7_any W (tabs_below hT h))
  have N1 := Aside.mk newI
  unfold kIObj at N1
  have g0 : (0 : Int) ≤ (nn : Int) := by omega
  have g1 : (nn : Int) ≤ 50 := by omega
  clear hT
  go_enter Tryd.func19, Tryd.ntmps19
  go_wp2_with fail
  (with_reducible refine (N1.out _).mono ?_)
  rintro e w1 ⟨hb1, h1⟩
  rw [kI_ok, if_pos rfl] at h1
  obtain ⟨v, srt, rfl, hS, hv, hp, hs⟩ := h1
  have hsp : ∃ so, v = .pointer so := by rcases hS with ⟨rfl, _⟩ | ⟨g, A, c, m, rfl, _⟩ <;> exact ⟨_, rfl⟩
  obtain ⟨so, rfl⟩ := hsp
  have R2 := Aside.mk (run_new (w := w) (below_then (below_alloc (below_refl w) kIObj) hb1) hS (Nat.le_refl _))
  clear hS hv hp hs hb1
  go_wp2_with fail
  (with_reducible refine (new7_any so w1).mono ?_)
  rintro e w2 ⟨rfl, rfl⟩
  go_wp2_with fail
  (with_reducible refine (flags_any 0 _).mono ?_)
  rintro e w' ⟨rfl, rfl⟩
  go_wp2_with fail
  have CA := run_flag 0 R2.out (by decide) HT.out (by decide) (P' := [(flagA 0, 1)]) (free' := []) (empty' := 0) (id := 1) (err := 0) (by decide +kernel)
  try rw [show ((newW w1 (.pointer so)).alloc (flagO 0)).heap.size = (newW w1 (.pointer so)).heap.size + 1 from World.size_alloc _ _] at CA
  (with_reducible refine CA.mono ?_)
  clear CA
  rintro e w4 ⟨rfl, hr, _⟩
  have R4 := Aside.mk hr
  clear hr R2
  go_wp2_with fail
  go_loopw [49] (fun i wr => ∃ k : Nat, k ≤ nn ∧ i = .int .i64 k ∧ ∃ O, Aside (Run w wr (w1.heap.size + 1) so w1.heap.size (w.alloc kIObj).heap.size w1.heap.size kI srt [(flagA 0, 1 + (k : Int))] [] 0 (1 + k) O)) (fun i _ => nn - (intOf i).toNat)
  case atStart => exact ⟨0, Nat.zero_le _, rfl, _, R4⟩
  case round =>
    obtain ⟨k, hk, rfl, O, HR⟩ := hrel
    by_cases hlt : k < nn
    · have hkz : (k : Int) < (nn : Int) := by omega
      go_wp2_with fail
      (with_reducible refine (run_hold 1 HR.out (by omega) (by decide) (hold_one (flagA 0) (1 + (k : Int)) (by omega))).mono ?_)
      rintro e w5 ⟨rfl, hr, _⟩
      have R5 := Aside.mk (run_cast hr (show 1 + (k : Int) + 1 = 1 + ((k + 1 : Nat) : Int) by omega) (show 1 + k + 1 = 1 + (k + 1) by omega))
      clear hr
      go_wp2
      go_roundw
      case rel => exact ⟨k + 1, by omega, by go_num, _, R5⟩
      case measure => simp [intOf]; omega
    · obtain rfl : k = nn := by omega
      have H0 := Aside.mk (show ∃ O, Run w wr (w1.heap.size + 1) so w1.heap.size (w.alloc kIObj).heap.size w1.heap.size kI srt (hdP (flagA 0) k 0) (frP k 0) 0 (1 + k + 0) O from ⟨O, by
        have := HR.out
        unfold hdP frP
        rw [if_pos (Nat.zero_le k), if_pos (Nat.zero_le k)]
        have e : (k : Int) + 1 - ((0 : Nat) : Int) = 1 + (k : Int) := by omega
        rw [e]; exact this⟩)
      go_wp2_with fail
      obtain ⟨wo, hwo⟩ : ∃ wo : World, wo = wr := ⟨_, rfl⟩
      rw [← hwo] at H0 ⊢
      clear hwo HR
      go_loopw [58] (fun i wr => ∃ j : Nat, j ≤ k + 1 ∧ i = .int .i64 j ∧ Aside (∃ O, Run w wr (w1.heap.size + 1) so w1.heap.size (w.alloc kIObj).heap.size w1.heap.size kI srt (hdP (flagA 0) k j) (frP k j) 0 (1 + k + j) O)) (fun i _ => k + 1 - (intOf i).toNat)
      case atStart => exact ⟨0, Nat.zero_le _, rfl, H0⟩
      case round =>
        obtain ⟨j, hj, rfl, HR⟩ := hrel
        by_cases hjl : j < k + 1
        · have hjz : (j : Int) < (k : Int) + 1 := by omega
          have hj50 : (j : Int) ≤ 50 := by omega
          obtain ⟨O, hR⟩ := HR.out
          have RJ := Aside.mk hR
          have HHe := Aside.mk (show Calls Tryd.prog 56 #[.pointer (some ⟨w1.heap.size + 1, 0, none⟩), .int .i64 1] wr fun e w' => e = .returned (.int .i64 ((k : Int) + 1 - (j : Int))) ∧ Below wr.heap.size wr w' from by
            have h := heldM 1 hR.tab (by omega) (by decide)
            rw [hd_ask (flagA 0) k j (by omega)] at h
            exact h)
          clear hR
          go_wp2_with fail
          (with_reducible refine HHe.out.mono ?_)
          rintro e w5 ⟨rfl, hb5⟩
          have RK := Aside.mk (RJ.out.later hb5)
          clear hb5
          go_wp2_with fail
          (with_reducible refine (run_free 1 RK.out (by omega) (by decide) (hd_free (flagA 0) k j (by omega))).mono ?_)
          rintro e w6 ⟨rfl, hr, _⟩
          have R6 := Aside.mk (show ∃ O, Run w w6 (w1.heap.size + 1) so w1.heap.size (w.alloc kIObj).heap.size w1.heap.size kI srt (hdP (flagA 0) k (j + 1)) (frP k (j + 1)) 0 (1 + k + (j + 1)) O from ⟨_, hr⟩)
          clear hr
          go_wp2
          go_roundw
          case rel => exact ⟨j + 1, by omega, by go_num, R6⟩
          case measure => simp [intOf]; omega
        · obtain rfl : j = k + 1 := by omega
          obtain ⟨O, hR⟩ := HR.out
          rw [hd_end, fr_end] at hR
          have RJ := Aside.mk hR
          have HHe := Aside.mk (show Calls Tryd.prog 56 #[.pointer (some ⟨w1.heap.size + 1, 0, none⟩), .int .i64 1] wr fun e w' => e = .returned (.int .i64 0) ∧ Below wr.heap.size wr w' from heldM 1 hR.tab (by omega) (by decide))
          clear hR
          go_wp2_with fail
          (with_reducible refine HHe.out.mono ?_)
          rintro e w5 ⟨rfl, hb5⟩
          have RK := Aside.mk (RJ.out.later hb5)
          clear hb5
          go_wp2_with fail
          (with_reducible refine (run_hold 1 RK.out (by omega) (by decide) (P' := [([], 0)]) (empty' := 0) (err := 5) (by decide +kernel)).mono ?_)
          rintro e w6 ⟨rfl, hr, _⟩
          have R6 := Aside.mk hr
          have HLn := Aside.mk (show Calls Tryd.prog 57 #[.pointer (some ⟨w1.heap.size + 1, 0, none⟩)] w6 fun e w' => e = .returned (.int .i64 1) ∧ Below w6.heap.size w6 w' from lenM hr.tab (by omega))
          clear hr
          go_wp2_with fail
          (with_reducible refine HLn.out.mono ?_)
          rintro e w7 ⟨rfl, hb7⟩
          have R7 := Aside.mk (R6.out.later hb7)
          clear hb7
          go_wp2_with fail
          (with_reducible refine (HK.out _ R7.out.below).mono ?_)
          rintro e w8 ⟨rfl, hb8⟩
          have HB := Aside.mk (below_then R7.out.below hb8)
          clear hb8
          go_wp2
          go_ret
          exact ⟨rfl, HB.out⟩
set_option maxRecDepth 100000 in
set_option maxHeartbeats 4000000 in
theorem holds_yes (nn : Nat) (w : World) (hn : nn ≤ 50) (hT : Lib.Utf8Tabs 1 2 w) : Calls Tryd.prog 19 #[.int .i64 (nn : Int), .bool true] w fun e w' => e = .returned (.bool true) ∧ Below w.heap.size w w' := by
  have HT := Aside.mk hT
  have HK := Aside.mk (fun W (h : Below w.heap.size w W) => known7_any W (tabs_below hT h))
  have N1 := Aside.mk newI
  unfold kIObj at N1
  have g0 : (0 : Int) ≤ (nn : Int) := by omega
  have g1 : (nn : Int) ≤ 50 := by omega
  clear hT
  go_enter Tryd.func19, Tryd.ntmps19
  go_wp2_with fail
  (with_reducible refine (N1.out _).mono ?_)
  rintro e w1 ⟨hb1, h1⟩
  rw [kI_ok, if_pos rfl] at h1
  obtain ⟨v, srt, rfl, hS, hv, hp, hs⟩ := h1
  have hsp : ∃ so, v = .pointer so := by rcases hS with ⟨rfl, _⟩ | ⟨g, A, c, m, rfl, _⟩ <;> exact ⟨_, rfl⟩
  obtain ⟨so, rfl⟩ := hsp
  have R2 := Aside.mk (run_new (w := w) (below_then (below_alloc (below_refl w) kIObj) hb1) hS (Nat.le_refl _))
  clear hS hv hp hs hb1
  go_wp2_with fail
  (with_reducible refine (new7_any so w1).mono ?_)
  rintro e w2 ⟨rfl, rfl⟩
  go_wp2_with fail
  (with_reducible refine (flags_any 0 _).mono ?_)
  rintro e w' ⟨rfl, rfl⟩
  have R3 := Aside.mk (R2.out.later (below_alloc (below_refl _) (flagO 0)))
  go_wp2_with fail
  (with_reducible refine (flags_any 1 _).mono ?_)
  rintro e w' ⟨rfl, rfl⟩
  go_wp2_with fail
  have CA := run_flag 1 R3.out (by decide) HT.out (by decide) (P' := [(flagA 1, 1)]) (free' := []) (empty' := 0) (id := 1) (err := 0) (by decide +kernel)
  try rw [show ((newW w1 (.pointer so)).alloc (flagO 0)).heap.size = (newW w1 (.pointer so)).heap.size + 1 from World.size_alloc _ _] at CA
  (with_reducible refine CA.mono ?_)
  clear CA
  rintro e w4 ⟨rfl, hr, _⟩
  have R4 := Aside.mk hr
  clear hr R2
  go_wp2_with fail
  go_loopw [49] (fun i wr => ∃ k : Nat, k ≤ nn ∧ i = .int .i64 k ∧ ∃ O, Aside (Run w wr (w1.heap.size + 1) so w1.heap.size (w.alloc kIObj).heap.size w1.heap.size kI srt [(flagA 1, 1 + (k : Int))] [] 0 (1 + k) O)) (fun i _ => nn - (intOf i).toNat)
  case atStart => exact ⟨0, Nat.zero_le _, rfl, _, R4⟩
  case round =>
    obtain ⟨k, hk, rfl, O, HR⟩ := hrel
    by_cases hlt : k < nn
    · have hkz : (k : Int) < (nn : Int) := by omega
      go_wp2_with fail
      (with_reducible refine (run_hold 1 HR.out (by omega) (by decide) (hold_one (flagA 1) (1 + (k : Int)) (by omega))).mono ?_)
      rintro e w5 ⟨rfl, hr, _⟩
      have R5 := Aside.mk (run_cast hr (show 1 + (k : Int) + 1 = 1 + ((k + 1 : Nat) : Int) by omega) (show 1 + k + 1 = 1 + (k + 1) by omega))
      clear hr
      go_wp2
      go_roundw
      case rel => exact ⟨k + 1, by omega, by go_num, _, R5⟩
      case measure => simp [intOf]; omega
    · obtain rfl : k = nn := by omega
      have H0 := Aside.mk (show ∃ O, Run w wr (w1.heap.size + 1) so w1.heap.size (w.alloc kIObj).heap.size w1.heap.size kI srt (hdP (flagA 1) k 0) (frP k 0) 0 (1 + k + 0) O from ⟨O, by
        have := HR.out
        unfold hdP frP
        rw [if_pos (Nat.zero_le k), if_pos (Nat.zero_le k)]
        have e : (k : Int) + 1 - ((0 : Nat) : Int) = 1 + (k : Int) := by omega
        rw [e]; exact this⟩)
      go_wp2_with fail
      obtain ⟨wo, hwo⟩ : ∃ wo : World, wo = wr := ⟨_, rfl⟩
      rw [← hwo] at H0 ⊢
      clear hwo HR
      go_loopw [58] (fun i wr => ∃ j : Nat, j ≤ k + 1 ∧ i = .int .i64 j ∧ Aside (∃ O, Run w wr (w1.heap.size + 1) so w1.heap.size (w.alloc kIObj).heap.size w1.heap.size kI srt (hdP (flagA 1) k j) (frP k j) 0 (1 + k + j) O)) (fun i _ => k + 1 - (intOf i).toNat)
      case atStart => exact ⟨0, Nat.zero_le _, rfl, H0⟩
      case round =>
        obtain ⟨j, hj, rfl, HR⟩ := hrel
        by_cases hjl : j < k + 1
        · have hjz : (j : Int) < (k : Int) + 1 := by omega
          have hj50 : (j : Int) ≤ 50 := by omega
          obtain ⟨O, hR⟩ := HR.out
          have RJ := Aside.mk hR
          have HHe := Aside.mk (show Calls Tryd.prog 56 #[.pointer (some ⟨w1.heap.size + 1, 0, none⟩), .int .i64 1] wr fun e w' => e = .returned (.int .i64 ((k : Int) + 1 - (j : Int))) ∧ Below wr.heap.size wr w' from by
            have h := heldM 1 hR.tab (by omega) (by decide)
            rw [hd_ask (flagA 1) k j (by omega)] at h
            exact h)
          clear hR
          go_wp2_with fail
          (with_reducible refine HHe.out.mono ?_)
          rintro e w5 ⟨rfl, hb5⟩
          have RK := Aside.mk (RJ.out.later hb5)
          clear hb5
          go_wp2_with fail
          (with_reducible refine (run_free 1 RK.out (by omega) (by decide) (hd_free (flagA 1) k j (by omega))).mono ?_)
          rintro e w6 ⟨rfl, hr, _⟩
          have R6 := Aside.mk (show ∃ O, Run w w6 (w1.heap.size + 1) so w1.heap.size (w.alloc kIObj).heap.size w1.heap.size kI srt (hdP (flagA 1) k (j + 1)) (frP k (j + 1)) 0 (1 + k + (j + 1)) O from ⟨_, hr⟩)
          clear hr
          go_wp2
          go_roundw
          case rel => exact ⟨j + 1, by omega, by go_num, R6⟩
          case measure => simp [intOf]; omega
        · obtain rfl : j = k + 1 := by omega
          obtain ⟨O, hR⟩ := HR.out
          rw [hd_end, fr_end] at hR
          have RJ := Aside.mk hR
          have HHe := Aside.mk (show Calls Tryd.prog 56 #[.pointer (some ⟨w1.heap.size + 1, 0, none⟩), .int .i64 1] wr fun e w' => e = .returned (.int .i64 0) ∧ Below wr.heap.size wr w' from heldM 1 hR.tab (by omega) (by decide))
          clear hR
          go_wp2_with fail
          (with_reducible refine HHe.out.mono ?_)
          rintro e w5 ⟨rfl, hb5⟩
          have RK := Aside.mk (RJ.out.later hb5)
          clear hb5
          go_wp2_with fail
          (with_reducible refine (run_hold 1 RK.out (by omega) (by decide) (P' := [([], 0)]) (empty' := 0) (err := 5) (by decide +kernel)).mono ?_)
          rintro e w6 ⟨rfl, hr, _⟩
          have R6 := Aside.mk hr
          have HLn := Aside.mk (show Calls Tryd.prog 57 #[.pointer (some ⟨w1.heap.size + 1, 0, none⟩)] w6 fun e w' => e = .returned (.int .i64 1) ∧ Below w6.heap.size w6 w' from lenM hr.tab (by omega))
          clear hr
          go_wp2_with fail
          (with_reducible refine HLn.out.mono ?_)
          rintro e w7 ⟨rfl, hb7⟩
          have R7 := Aside.mk (R6.out.later hb7)
          clear hb7
          go_wp2_with fail
          (with_reducible refine (HK.out _ R7.out.below).mono ?_)
          rintro e w8 ⟨rfl, hb8⟩
          have HB := Aside.mk (below_then R7.out.below hb8)
          clear hb8
          go_wp2
          go_ret
          exact ⟨rfl, HB.out⟩
set_option maxRecDepth 100000 in
theorem internHolds_walk (n : Int) (flag : Bool) (w : World) (hw : (Lit.int .i64 n).wf = true) (hT : Lib.Utf8Tabs 1 2 w) : Calls Tryd.prog 19 #[.int .i64 n, .bool flag] w fun e w' => e = .returned (.bool true) ∧ Below w.heap.size w w' := by
  by_cases h : 0 ≤ n ∧ n ≤ 50
  · obtain ⟨nn, rfl⟩ : ∃ nn : Nat, n = (nn : Int) := ⟨n.toNat, by omega⟩
    cases flag
    · exact holds_no nn w (by omega) hT
    · exact holds_yes nn w (by omega) hT
  · have HK := Aside.mk (known7_any w hT)
    have HB := Aside.mk (below_refl w)
    clear hT hw
    by_cases h0 : n < 0
    · clear h
      go_enter Tryd.func19, Tryd.ntmps19
      go_wp2_with fail
      (with_reducible refine HK.out.mono ?_)
      rintro e w1 ⟨rfl, hb1⟩
      go_wp2
      go_ret
      exact ⟨rfl, hb1⟩
    · have h1 : 0 ≤ n := by omega
      have h2 : 50 < n := by omega
      clear h h0
      go_enter Tryd.func19, Tryd.ntmps19
      go_wp2_with fail
      (with_reducible refine HK.out.mono ?_)
      rintro e w1 ⟨rfl, hb1⟩
      go_wp2
      go_ret
      exact ⟨rfl, hb1⟩
end Go.Proofs.YtaejlgdmalhhnaaDoor
/- Layer 7: InternReuse: its sets; what becomes of the table, plain. -/
set_option linter.unusedVariables false
set_option linter.unusedSimpArgs false
namespace Go.Proofs.YtaejlgdmalhhnaaDoor
open Go.RowKit Go.Maps

def rsB (j : Nat) : List UInt8 := [UInt8.ofNat (97 + j % 26), UInt8.ofNat (97 + j / 26)]
def rsA (j : Nat) : List At := [⟨3, ⟨4, 0, 0, ⟨(rsB j).toArray⟩⟩⟩]
def kR : List Ky := [⟨3, false, 4, false, false, 0⟩]
def kRObj : Obj := .cells #[.int .i64 3, .bool false, .int .u8 4, .bool false, .bool false, .int .i64 0] 97
theorem kR_ok : okKs kR = true := by decide
theorem newR (W : World) : Calls Tryd.prog 30 #[.slice (some ⟨W.heap.size, 0, none⟩) 1 1] (W.alloc kRObj) (NewPost (W.alloc kRObj) kR) :=
  new_any (some ⟨W.heap.size, 0, none⟩) 1 kR (W.alloc kRObj) (by decide) (src_new W _ kR rfl) (fun e => by cases e) (by decide) (by decide)
theorem rs_may : ∀ j < 42, mayA kR (rsA j) = 0 := by decide +kernel
theorem rs_inj {i j : Nat} (hi : i < 42) (hj : j < 42) (h : rsA i = rsA j) : i = j := by
  unfold rsA rsB at h
  simp only [List.cons.injEq, At.mk.injEq, Val.mk.injEq, ByteArray.mk.injEq, Array.mk.injEq, and_true, true_and] at h
  have h1 := u8_eq (by omega) (by omega) h.1
  have h2 := u8_eq (by omega) (by omega) h.2
  omega
/-- So many sets, each held once. -/
def rsP (n : Nat) : Ps := (List.range n).map (fun j => (rsA j, 1))
theorem rsP_len (n : Nat) : (rsP n).length = n := by simp [rsP]
theorem rsP_at {n j : Nat} (h : j < n) : (rsP n)[j]? = some (rsA j, 1) := by
  unfold rsP
  rw [List.getElem?_map, List.getElem?_range h]; rfl
theorem rsP_succ (n : Nat) : rsP (n + 1) = rsP n ++ [(rsA n, 1)] := by simp [rsP, List.range_succ]
theorem find_none_of {P : Ps} {l : List At} (h : ∀ p ∈ P, p.2 ≠ 0 → p.1 ≠ l) : findP P l = none := by
  unfold findP
  rw [List.findIdx?_eq_none_iff]
  intro p hp
  by_cases h0 : p.2 = 0
  · simp [h0]
  · simp [h p hp h0]
theorem rsP_none {n j : Nat} (hn : n ≤ j) (hj : j < 42) : findP (rsP n) (rsA j) = none := by
  refine find_none_of (fun p hp _ => ?_)
  unfold rsP at hp
  rw [List.mem_map] at hp
  obtain ⟨i, hi, rfl⟩ := hp
  rw [List.mem_range] at hi
  exact fun e => by have := rs_inj (by omega) hj e; omega
theorem rs_add {n : Nat} (h : n < 42) : addP kR (rsP n) [] 0 (rsA n) = (rsP (n + 1), [], 0, (n : Int) + 1, 0) := by
  unfold addP
  rw [if_neg (by rw [rs_may n h]; simp), if_neg (by simp [rsA]), rsP_none (Nat.le_refl n) h]
  simp [rsP_len, rsP_succ]
theorem ask_at {P : Ps} {empty : Int} {k : Nat} {p : List At × Int} (hp : P[k]? = some p) (h0 : p.2 ≠ 0) : askP P empty ((k : Int) + 1) = (p.2, 0) := by
  unfold askP
  rw [if_neg (by omega), if_neg (by omega), show ((k : Int) + 1 - 1).toNat = k by omega, hp]
  simp only
  rw [if_neg h0]
theorem rs_free {n k : Nat} (h : k < n) : freeP (rsP n) [] 0 ((k : Int) + 1) = ((rsP n).set k ([], 0), [(k : Int)], 0, 0) := by
  unfold freeP
  rw [ask_at (rsP_at h) (by simp), if_neg (by simp), if_neg (by omega), show ((k : Int) + 1 - 1).toNat = k by omega, rsP_at h]
  simp
theorem rs_again {n k : Nat} (h : k < n) (hn : n < 41) : addP kR ((rsP n).set k ([], 0)) [(k : Int)] 0 (rsA n) = ((rsP n).set k (rsA n, 1), [], 0, (k : Int) + 1, 0) := by
  have hf : findP ((rsP n).set k ([], 0)) (rsA n) = none := by
    refine find_none_of (fun p hp h0 => ?_)
    rcases List.mem_or_eq_of_mem_set hp with hp | rfl
    · exact findP_none (rsP_none (Nat.le_refl n) (by omega)) p hp h0
    · exact absurd rfl h0
  unfold addP
  rw [if_neg (by rw [rs_may n (by omega)]; simp), if_neg (by simp [rsA]), hf]
  simp
theorem rs_next {n k : Nat} (h : k < n) (hn : n < 41) : addP kR ((rsP n).set k (rsA n, 1)) [] 0 (rsA (n + 1)) = ((rsP n).set k (rsA n, 1) ++ [(rsA (n + 1), 1)], [], 0, (n : Int) + 1, 0) := by
  have hf : findP ((rsP n).set k (rsA n, 1)) (rsA (n + 1)) = none := by
    refine find_none_of (fun p hp h0 => ?_)
    rcases List.mem_or_eq_of_mem_set hp with hp | rfl
    · exact findP_none (rsP_none (Nat.le_succ n) (by omega)) p hp h0
    · exact fun e => by have := rs_inj (by omega) (by omega) e; omega
  unfold addP
  rw [if_neg (by rw [rs_may (n + 1) (by omega)]; simp), if_neg (by simp [rsA]), hf]
  simp [rsP_len]
/-- The world behind the making of a set. -/
def rsW (w : World) (j : Nat) : World := (w.alloc (.cells #[.int .u8 (97 + (j : Int) % 26), .int .u8 (97 + (j : Int) / 26)] 5)).alloc (.cells #[.int .i64 3, .int .u8 4, .int .i64 0, .int .u64 0, .string ⟨(rsB j).toArray⟩] 58)
set_option maxRecDepth 100000 in
theorem rs_any (j : Nat) (w : World) (hj : j < 42) : Calls Tryd.prog 70 #[.int .i64 (j : Int)] w fun e w' => e = .returned (.slice (some ⟨w.heap.size + 1, 0, none⟩) 1 1) ∧ w' = rsW w j := by
  have g0 : (0 : Int) ≤ (j : Int) := by omega
  have g1 : (j : Int) ≤ 41 := by omega
  have hcv : (convert 23 9 (.slice (some ⟨w.heap.size, 0, none⟩) 2 2)).run Tryd.prog (w.alloc (.cells #[.int .u8 (97 + (j : Int) % 26), .int .u8 (97 + (j : Int) / 26)] 5)) = .ok (.string ⟨(rsB j).toArray⟩) (w.alloc (.cells #[.int .u8 (97 + (j : Int) % 26), .int .u8 (97 + (j : Int) / 26)] 5)) := by
    have hi : ints (rsB j) = [97 + (j : Int) % 26, 97 + (j : Int) / 26] := by
      unfold rsB ints
      simp
      omega
    refine conv_back (rsB j) _ _ ⟨some ⟨w.heap.size, 0, none⟩, 2, by rw [hi]; rfl, fun e => (by cases e), ?_⟩
    rw [hi]
    have hh := heap_alloc_new w (.cells #[.int .u8 (97 + (j : Int) % 26), .int .u8 (97 + (j : Int) / 26)] 5)
    refine ⟨by simp, fun _ => ⟨_, rfl, fun t ht => ?_⟩⟩
    rw [addr_add_plain]
    have ht' : t = 0 ∨ t = 1 := by simp at ht; omega
    rcases ht' with rfl | rfl
    · exact cell_at hh rfl
    · exact cell_at hh rfl
  unfold rsW
  go_enter Tryd.func70, Tryd.ntmps70
  go_wp2
  go_ret
  exact ⟨rfl, rfl⟩
theorem rs_src (w : World) (j : Nat) : ASrc (rsW w j) (some ⟨w.heap.size + 1, 0, none⟩) (rsA j) := by
  have h := asrc_new (w.alloc (.cells #[.int .u8 (97 + (j : Int) % 26), .int .u8 (97 + (j : Int) / 26)] 5)) _ (rsA j) (show (#[.int .i64 3, .int .u8 4, .int .i64 0, .int .u64 0, .string ⟨(rsB j).toArray⟩] : Array Value).toList = acells (rsA j) from rfl)
  rw [World.size_alloc] at h
  exact h
theorem rsW_below (w : World) (j : Nat) : Below w.heap.size w (rsW w j) := below_alloc (below_alloc (below_refl w) _) _
variable {w W W' : World} {tb : Nat} {so : Option Addr} {mb lo hi : Nat} {ks srt : List Ky} {P : Ps} {free : List Int} {empty : Int} {cnt : Nat} {O : Nat → Prop}
theorem run_rs (j : Nat) (h : Run w W tb so mb lo hi ks srt P free empty cnt O) (hcn : cnt ≤ 100000) (hT : Lib.Utf8Tabs 1 2 w) {P' : Ps} {free' : List Int} {empty' id err : Int} (ha : addP ks P free empty (rsA j) = (P', free', empty', id, err)) :
    Calls Tryd.prog 35 #[.pointer (some ⟨tb, 0, none⟩), .slice (some ⟨W.heap.size + 1, 0, none⟩) 1 1] (rsW W j) (RunPost w (rsW W j) tb so mb lo hi ks srt P' free' empty' (cnt + 1) O (.tuple #[.int .i64 id, .int .i64 err])) :=
  run_add (some ⟨W.heap.size + 1, 0, none⟩) 1 (rsA j) (h.later (rsW_below W j)) hcn hT (rs_src W j) (by simp [rsA]) (by simp [rsA]) (fun e => by cases e) (fun a ha hO => by cases ha; have := (h.tab.lt _ hO).2; simp at this; omega) (fun a ha => by simp [rsA] at ha; subst ha; exact ⟨(show (Lit.int .i64 3).wf = true by decide), (show (Lit.int .i64 0).wf = true by decide), (show (0 : Nat) < 18446744073709551616 by decide)⟩) ha
end Go.Proofs.YtaejlgdmalhhnaaDoor
/- Layer 7: InternReuse's walk. -/
set_option linter.unusedVariables false
set_option linter.unusedSimpArgs false
namespace Go.Proofs.YtaejlgdmalhhnaaDoor
open Go.RowKit Go.Maps

theorem rs_any1 (k : Nat) (w : World) (hj : k + 1 < 42) : Calls Tryd.prog 70 #[.int .i64 ((k : Int) + 1)] w fun e w' => e = .returned (.slice (some ⟨w.heap.size + 1, 0, none⟩) 1 1) ∧ w' = rsW w (k + 1) := by
  have h := rs_any (k + 1) w hj
  rw [show ((k + 1 : Nat) : Int) = (k : Int) + 1 from by omega] at h
  exact h
set_option maxRecDepth 100000 in
set_option maxHeartbeats 4000000 in
theorem reuse_in (nn : Nat) (gone : Int) (w : World) (h1 : 1 ≤ nn) (hn : nn ≤ 40) (hT : Lib.Utf8Tabs 1 2 w) : Calls Tryd.prog 16 #[.int .i64 (nn : Int), .int .i64 gone] w fun e w' => e = .returned (.bool true) ∧ Below w.heap.size w w' := by
  have HT := Aside.mk hT
  have HK := Aside.mk (fun W (h : Below w.heap.size w W) => known7_any W (tabs_below hT h))
  have N1 := Aside.mk newR
  unfold kRObj at N1
  have g0 : (1 : Int) ≤ (nn : Int) := by omega
  have g1 : (nn : Int) ≤ 40 := by omega
  obtain ⟨gu, hgu⟩ : ∃ gu : Nat, IntKind.u64.wrap gone = (gu : Int) := ⟨(IntKind.u64.wrap gone).toNat, by rw [wrap_u64]; omega⟩
  have HGU := Aside.mk hgu
  have HN := Aside.mk hn
  have HN1 := Aside.mk h1
  clear hT hgu hn h1
  go_enter Tryd.func16, Tryd.ntmps16
  go_wp2_with fail
  (with_reducible refine (N1.out _).mono ?_)
  rintro e w1 ⟨hb1, h1⟩
  rw [kR_ok, if_pos rfl] at h1
  obtain ⟨v, srt, rfl, hS, hv, hp, hs⟩ := h1
  have hsp : ∃ so, v = .pointer so := by rcases hS with ⟨rfl, _⟩ | ⟨g, A, c, m, rfl, _⟩ <;> exact ⟨_, rfl⟩
  obtain ⟨so, rfl⟩ := hsp
  have R2 := Aside.mk (run_new (w := w) (below_then (below_alloc (below_refl w) kRObj) hb1) hS (Nat.le_refl _))
  clear hS hv hp hs hb1
  go_wp2_with fail
  (with_reducible refine (new7_any so w1).mono ?_)
  rintro e w2 ⟨rfl, rfl⟩
  go_wp2_with fail
  go_loopw [39] (fun i wr => ∃ k : Nat, k ≤ nn ∧ i = .int .i64 k ∧ ∃ O, Aside (Run w wr (w1.heap.size + 1) so w1.heap.size (w.alloc kRObj).heap.size w1.heap.size kR srt (rsP k) [] 0 k O)) (fun i _ => nn - (intOf i).toNat)
  case atStart => exact ⟨0, Nat.zero_le _, rfl, _, R2⟩
  case round =>
    obtain ⟨k, hk, rfl, O, HR⟩ := hrel
    by_cases hlt : k < nn
    · have hkz : (k : Int) < (nn : Int) := by omega
      go_wp2_with fail
      (with_reducible refine (rs_any k _ (by have := HN.out; omega)).mono ?_)
      rintro e w' ⟨rfl, rfl⟩
      go_wp2_with fail
      (with_reducible refine (run_rs k HR.out (by have := HN.out; omega) HT.out (rs_add (by have := HN.out; omega))).mono ?_)
      rintro e w5 ⟨rfl, hr, _⟩
      have R5 := Aside.mk hr
      clear hr
      go_wp2
      go_roundw
      case rel => exact ⟨k + 1, by omega, by go_num, _, R5⟩
      case measure => simp [intOf]; omega
    · obtain rfl : k = nn := by omega
      have hgu := HGU.out
      obtain ⟨kk, hkk⟩ : ∃ kk : Nat, (gu : Int) % (k : Int) = (kk : Int) := ⟨gu % k, by simp⟩
      have hk0 : kk < k := by have := Nat.mod_lt gu (show 0 < k by have := HN1.out; omega); have : ((gu % k : Nat) : Int) = (kk : Int) := by rw [← hkk]; simp
                              omega
      have HKK := Aside.mk hk0
      have b0 : (0 : Int) ≤ (kk : Int) := by omega
      have b1 : (kk : Int) ≤ 40 := by have := HN.out; omega
      clear hk0
      go_wp2_with fail
      (with_reducible refine (run_free ((kk : Int) + 1) HR.out (by have := HN.out; omega) (WalkArith.wf_i64 (by omega)) (rs_free HKK.out)).mono ?_)
      rintro e w5 ⟨rfl, hr, _⟩
      have R5 := Aside.mk hr
      clear hr hgu hkk HR
      go_wp2_with fail
      (with_reducible refine (rs_any (k) _ (by have := HN.out; omega)).mono ?_)
      rintro e w' ⟨rfl, rfl⟩
      go_wp2_with fail
      (with_reducible refine (run_rs (k) R5.out (by have := HN.out; omega) HT.out (rs_again HKK.out (by have := HN.out; omega))).mono ?_)
      rintro e w6 ⟨rfl, hr, _⟩
      have R6 := Aside.mk hr
      clear hr
      go_wp2_with fail
      (with_reducible refine (rs_any1 k _ (by have := HN.out; omega)).mono ?_)
      rintro e w' ⟨rfl, rfl⟩
      go_wp2_with fail
      (with_reducible refine (run_rs (k + 1) R6.out (by have := HN.out; omega) HT.out (rs_next HKK.out (by have := HN.out; omega))).mono ?_)
      rintro e w7 ⟨rfl, hr, _⟩
      have R7 := Aside.mk hr
      clear hr
      have HLn := Aside.mk (show Calls Tryd.prog 57 #[.pointer (some ⟨w1.heap.size + 1, 0, none⟩)] w7 fun e w' => e = .returned (.int .i64 ((k : Int) + 2)) ∧ Below w7.heap.size w7 w' from by
        have h := lenM R7.out.tab (by have := HN.out; omega)
        have e : (1 : Int) + (((rsP k).set kk (rsA k, 1) ++ [(rsA (k + 1), 1)]).length : Int) - (([] : List Int).length : Int) = (k : Int) + 2 := by rw [List.length_append, List.length_set, rsP_len]; simp; omega
        rw [e] at h
        exact h)
      go_wp2_with fail
      (with_reducible refine HLn.out.mono ?_)
      rintro e w8 ⟨rfl, hb8⟩
      have R8 := Aside.mk (R7.out.later hb8)
      clear hb8
      go_wp2_with fail
      (with_reducible refine (HK.out _ R8.out.below).mono ?_)
      rintro e w9 ⟨rfl, hb9⟩
      have HB := Aside.mk (below_then R8.out.below hb9)
      clear hb9
      go_wp2
      go_ret
      exact ⟨rfl, HB.out⟩
set_option maxRecDepth 100000 in
theorem internReuse_walk (n gone : Int) (w : World) (hw : (Lit.int .i64 n).wf = true) (hg : (Lit.int .i64 gone).wf = true) (hT : Lib.Utf8Tabs 1 2 w) : Calls Tryd.prog 16 #[.int .i64 n, .int .i64 gone] w fun e w' => e = .returned (.bool true) ∧ Below w.heap.size w w' := by
  by_cases h : 1 ≤ n ∧ n ≤ 40
  · obtain ⟨nn, rfl⟩ : ∃ nn : Nat, n = (nn : Int) := ⟨n.toNat, by omega⟩
    exact reuse_in nn gone w (by omega) (by omega) hT
  · have HK := Aside.mk (known7_any w hT)
    clear hT hw hg
    by_cases h0 : n < 1
    · clear h
      go_enter Tryd.func16, Tryd.ntmps16
      go_wp2_with fail
      (with_reducible refine HK.out.mono ?_)
      rintro e w1 ⟨rfl, hb1⟩
      go_wp2
      go_ret
      exact ⟨rfl, hb1⟩
    · have h1 : 1 ≤ n := by omega
      have h2 : 40 < n := by omega
      clear h h0
      go_enter Tryd.func16, Tryd.ntmps16
      go_wp2_with fail
      (with_reducible refine HK.out.mono ?_)
      rintro e w1 ⟨rfl, hb1⟩
      go_wp2
      go_ret
      exact ⟨rfl, hb1⟩
end Go.Proofs.YtaejlgdmalhhnaaDoor
