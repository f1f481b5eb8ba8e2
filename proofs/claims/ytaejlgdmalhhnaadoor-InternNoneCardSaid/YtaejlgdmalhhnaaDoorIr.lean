/- Layer 7: Add, where a set is laid (printed by gen_add.py). -/
import Derived.Test.YtaejlgdmalhhnaaDoorPkE
set_option linter.unusedVariables false
set_option linter.unusedSimpArgs false
namespace Go.Proofs.YtaejlgdmalhhnaaDoor
open Go.RowKit Go.Maps

variable {B : Nat} {O : Nat → Prop} {w w' : World} {tb : Nat} {sv pv fv : Value} {mb : Nat} {E : List En} {free : List Int} {empty : Int} {cnt : Nat} {F : List UInt8 → Option Int}
section
variable {P : Program} {ops : Array Oper} {rest : List Oper} {o : Oper} {a : Act} {w w' : World} {Q : Exit → Act → World → Prop}
/-- A store into a map, by its run equation. -/
theorem update_run (hg : o.guard = none) (m x y : Operand) (t : TypeId) (mv kv v : Value) (hd : o.dst = none) (hop : o.op = Op.mapUpdate t m x y) (hm : a.eval m = mv) (hx : a.eval x = kv) (hy : a.eval y = v) (hrun : (Instr.mapUpdate t mv kv v).run P w = .ok () w')
    (hK : wpList P ops Q rest a w') : wpList P ops Q (o :: rest) a w := by
  refine wpList_plain hg fun K' hK' => ?_
  have hp : ∀ u, a.put o.dst u = a := fun u => by rw [hd]; rfl
  unfold Oper.wp
  simp [execOp, hop, hm, hx, hy, hrun, Result.andThen]
  refine hK' _ _ ?_
  first | exact hK | (rw [hp]; exact hK)
end
theorem Turn.drew {O : Nat → Prop} {a b : World} (h : Turn O a b) : Turn O a b.drew := ⟨h.os, h.tape, h.output, h.size, h.block⟩
theorem ASrc.turn {O : Nat → Prop} {w w' : World} {A : Option Addr} {l : List At} (h : ASrc w A l) (ht : Turn O w w') (hO : ∀ a, A = some a → ¬ O a.block) : ASrc w' A l := by
  refine ⟨h.1, fun ad he j a hj i v hi => ?_⟩
  have h1 := h.2 ad he j a hj i v hi
  have hlt : ad.block < w.heap.size := by have := World.block_lt_of_cell? w _ h1; rw [addr_block] at this; exact this
  rw [World.cell?_of_block (w := w) (ht.block _ (by rw [addr_block]; exact hlt) (by rw [addr_block]; exact hO ad he))]
  exact h1
theorem sl_inj {g g' n n' c c' : Nat} (h : Value.slice (some ⟨g, 0, none⟩) n c = .slice (some ⟨g', 0, none⟩) n' c') : g = g' ∧ c = c' := by
  injection h with h1 h2 h3
  injection h1 with h1
  injection h1 with h1
  exact ⟨h1, h3⟩
theorem cell_set_far {w : World} {p a : Addr} {u v : Value} (h : w.cell? a = some v) (hne : p.block ≠ a.block) : (w.setCell p u).cell? a = some v := by
  rw [World.cell?_setCell_far w p a u hne]; exact h
theorem add_end {E1 : List En} {fr1 : List Int} {i g : Nat} {u : Value} {l : List At} {w2 w3 w4 w6 : World} {pv3 fv3 : Value} {r : Value} (h : TabAt B O w tb sv pv fv mb E free empty cnt) (hb2 : Below w.heap.size w w2) (ht3 : Turn O w2 w3) (hb4 : Below w3.drew.heap.size w3.drew w4) (hg : Grow O w2 w3 g)
    (hg6 : (w4.setCell ⟨g, i * 2, none⟩ u).grownBy w6 (some mb))
    (hr : TabR B (Grow (Grow O w2 w3) w3.drew w4) (w6.setCell ⟨g, i * 2 + 1, none⟩ (.int .i64 1)) tb sv pv3 fv3 mb (E1.set i ⟨u, l, 1⟩) fr1 empty (cnt + 1) F) (hf : FSpec (E1.set i ⟨u, l, 1⟩) F) (hi : TInv (E1.set i ⟨u, l, 1⟩) fr1 empty (cnt + 1)) :
    OpPost B O w tb sv mb ((E1.map pr).set i (l, 1)) fr1 empty (cnt + 1) r (.returned r) (w6.setCell ⟨g, i * 2 + 1, none⟩ (.int .i64 1)) := by
  have s2 := hb2.size
  have s3 := ht3.size
  have s4 : w3.heap.size ≤ w4.heap.size := hb4.size
  have s6 := hg6.size
  rw [setCell_size] at s6
  have hin : ∀ k, Grow O w2 w3 k → O k ∨ w.heap.size ≤ k := fun k hk => hk.imp id (fun hk => by omega)
  have t1 : Turn O w w4 := (((Turn.of_below hb2).trans ht3).drew).trans (Turn.of_below hb4)
  have t2 : Turn O w (w4.setCell ⟨g, i * 2, none⟩ u) := t1.then (turn_set (O := Grow O w2 w3) w4 ⟨g, i * 2, none⟩ u hg) hin
  have t3 : Turn O w w6 := t2.trans (Turn.of_grown hg6 (fun k hk => by cases hk; exact h.mbO))
  have t4 : Turn O w (w6.setCell ⟨g, i * 2 + 1, none⟩ (.int .i64 1)) := t3.then (turn_set (O := Grow O w2 w3) w6 ⟨g, i * 2 + 1, none⟩ _ hg) hin
  have hB := h.baseB
  refine ⟨rfl, ⟨pv3, fv3, E1.set i ⟨u, l, 1⟩, map_set_pr E1 i _, (hr.wide ?_ ?_).tab hf hi⟩, t4⟩
  · intro k hk
    rcases hk with (hk | hk) | hk
    · exact .inl hk
    · refine .inr ?_; rw [setCell_size]; omega
    · refine .inr ?_; rw [setCell_size]; exact ⟨Nat.le_trans s2 (Nat.le_trans s3 hk.1), Nat.lt_of_lt_of_le hk.2 s6⟩
  · intro k hk
    rcases hk with hk | hk
    · have := h.top k hk; rw [setCell_size]; omega
    · rw [setCell_size] at hk ⊢; omega
set_option maxRecDepth 100000 in
set_option maxHeartbeats 4000000 in
theorem add_lay {lo hi : Nat} {so : Option Addr} {ks srt : List Ky} {E1 : List En} {fr1 : List Int} {i : Nat} {e1 : En} (A : Option Addr) (c : Nat) (l : List At) (h : TabAt B O w tb (.pointer so) pv fv mb E free empty cnt) (hcn : cnt ≤ 100000) (hSch : Sch lo hi w (.pointer so) ks srt) (hT : Lib.Utf8Tabs 1 2 w) (hS : ASrc w A l) (hc : l.length ≤ c) (hcA : A = none → c = 0) (hAO : ∀ a, A = some a → ¬ O a.block)
    (hwf : ∀ a ∈ l, a.wfA) (he : mayA ks l = 0) (hnil : l ≠ []) (hno : ∀ e ∈ E, e.held ≠ 0 → e.set ≠ l) (hi1 : E1[i]? = some e1) (h1 : e1.held = 0) (hl1 : E1.length ≤ 100001)
    (hpl : ∀ (w2 : World) (F : List UInt8 → Option Int), TabR B O w2 tb (.pointer so) pv fv mb E free empty cnt F → Calls Tryd.prog 86 #[.pointer (some ⟨tb, 0, none⟩)] w2 (PlacePost B O w2 tb (.pointer so) mb E1 fr1 empty cnt F ((i : Int) + 1)))
    (hinv : ∀ u, TInv (E1.set i ⟨u, l, 1⟩) fr1 empty (cnt + 1)) (hfs : ∀ F u, FSpec E F → F (textA l) = none → FSpec (E1.set i ⟨u, l, 1⟩) (fun t => if t = textA l then some ((i : Int) + 1) else F t)) :
    Calls Tryd.prog 35 #[.pointer (some ⟨tb, 0, none⟩), .slice A l.length c] w (OpPost B O w tb (.pointer so) mb ((E1.map pr).set i (l, 1)) fr1 empty (cnt + 1) (.tuple #[.int .i64 ((i : Int) + 1), .int .i64 0])) := by
  have hok := okSet_of he hnil hwf
  have HR := Aside.mk (ready_any h)
  have HM := Aside.mk (amay_any A c l w hSch hT hS hc (by have := hok.2.1; omega) (fun a ha => (hwf a ha).1))
  rw [he] at HM
  have HTx := Aside.mk (fun (w1 : World) (hb : Below w.heap.size w w1) => textSet_any A c l w1 (hS.below hb) hc hok.2.1 hok.2.2 hnil)
  have hll : (textA l).length ≤ 1000000 := by have := textA_len hok.2.2; rw [ints_length] at this; have := hok.2.1; omega
  obtain ⟨F, hraw, hF⟩ := h.raw
  have hnone : F (textA l) = none := hF.miss _ (fun a ha hh => fun e => hno a ha hh (textA_inj _ _ (fun x hx => ((((h.inv.held a ha).2.2 hh).2.2 x hx).2.1)) (fun x hx => (hok.2.2 x hx).2.1) e))
  have HFs := Aside.mk (fun u => hfs F u hF hnone)
  have HLk := Aside.mk (fun (w1 : World) (hb : Below w.heap.size w w1) => show (Instr.lookup 79 (.map (some mb)) (.string ⟨(textA l).toArray⟩) true).run Tryd.prog w1 = .ok (.tuple #[.int .i64 0, .bool false]) w1 by
    have h1 := (hraw.below hb).map.look (textA l) hll
    rw [hnone] at h1
    exact h1)
  have HPl := Aside.mk (fun (w1 : World) (hb : Below w.heap.size w w1) => hpl w1 F (hraw.below hb))
  have hi1z : (Lit.int .i64 ((i : Int) + 1)).wf = true := by have := (List.getElem?_eq_some_iff.1 hi1).1; exact WalkArith.wf_i64 (by omega)
  have HUp := Aside.mk (fun (w5 : World) (O5 : Nat → Prop) (pv5 fv5 : Value) (E5 : List En) (hr : TabR B O5 w5 tb (.pointer so) pv5 fv5 mb E5 fr1 empty cnt F) => show ∃ w6, (Instr.mapUpdate 79 (.map (some mb)) (.string ⟨(textA l).toArray⟩) (.int .i64 ((i : Int) + 1))).run Tryd.prog w5 = .ok () w6 ∧ TabR B O5 w6 tb (.pointer so) pv5 fv5 mb E5 fr1 empty (cnt + 1) (fun t => if t = textA l then some ((i : Int) + 1) else F t) ∧ w5.grownBy w6 (some mb) by
    obtain ⟨w6, hrun, hm, hg⟩ := hr.map.put (by omega) (textA l) hll _ hi1z
    exact ⟨w6, hrun, hr.setMap hg hm, hg⟩)
  obtain ⟨ts, hts⟩ : ∃ ts : ByteArray, (⟨(textA l).toArray⟩ : ByteArray) = ts := ⟨_, rfl⟩
  rw [hts] at HTx HLk HUp
  have f0 := h.f0
  have HF3 := Aside.mk (fun (w1 : World) (hb : Below w.heap.size w w1) => (h.below hb).f3)
  have hil := (List.getElem?_eq_some_iff.1 hi1).1
  have hli : (i : Int) < (E1.length : Int) := by omega
  have hlE : (E1.length : Int) ≤ 100001 := by omega
  have HCp := Aside.mk (fun (w1 : World) (ht : Turn O w w1) => copy_any A c l w1 hcA (hS.turn ht hAO) (by have := hok.2.1; omega))
  have HI1 := Aside.mk hi1
  have HE0 := Aside.mk h1
  have HH := Aside.mk h
  have HInv := Aside.mk hinv
  have ql : ((l.length : Int) == 0) = false := by have : 0 < l.length := List.length_pos_iff.2 hnil; simp; omega
  obtain ⟨R, hR⟩ : ∃ R, OpPost B O w tb (.pointer so) mb ((E1.map pr).set i (l, 1)) fr1 empty (cnt + 1) (.tuple #[.int .i64 ((i : Int) + 1), .int .i64 0]) = R := ⟨_, rfl⟩
  rw [hR]
  have HRR := Aside.mk hR
  clear h hR hSch hT hS hwf he hnil hok hll hts hc hno hi1 h1 hpl hinv hfs hraw hF hnone hi1z hcA hl1 hAO
  go_enter Tryd.func35, Tryd.ntmps35
  go_wp2_with fail
  (with_reducible refine HR.out.mono ?_)
  rintro e w' ⟨rfl, rfl⟩
  go_wp2_with fail
  (with_reducible refine HM.out.mono ?_)
  rintro e w1 ⟨rfl, hb1⟩
  have HB := Aside.mk hb1
  clear hb1
  go_wp2_with fail
  (with_reducible refine (HTx.out _ HB.out).mono ?_)
  rintro e w2 ⟨rfl, hb2⟩
  have HB2 := Aside.mk (below_then HB.out hb2)
  have f3 := HF3.out _ HB2.out
  have hlk := HLk.out _ HB2.out
  clear hb2
  go_wp2_with fail
  (with_reducible refine (HPl.out _ HB2.out).mono ?_)
  rintro e w3 ⟨rfl, ⟨pv3, fv3, hr3⟩, ht3⟩
  obtain ⟨g, c1, hpv3, hc1, hgO, p0, p1, _⟩ := hr3.pv_some HI1.out
  have HPV := Aside.mk hpv3
  have HR3 := Aside.mk hr3
  have HRd := Aside.mk (show TabR B (Grow O w2 w3) w3.drew tb (.pointer so) pv3 fv3 mb E1 fr1 empty cnt F from hr3.kept (Nat.le_refl _) (fun k _ => rfl))
  have HT3 := Aside.mk ht3
  have HBd := Aside.mk ((Turn.of_below (O := O) HB2.out).trans ht3).drew
  have f13 : w3.drew.cell? ⟨tb, 1, none⟩ = some (.slice (some ⟨g, 0, none⟩) E1.length c1) := by rw [← hpv3]; exact HRd.out.f1
  have HNe := Aside.mk (show g ≠ tb from own_ne hr3.row hr3.hb (by decide) g (by rw [hpv3]; rfl))
  have hlc : (E1.length : Int) ≤ (c1 : Int) := by omega
  have HGO := Aside.mk hgO
  have hwr : IntKind.i64.wrap (i : Int) = (i : Int) := IntWalk.i64_in _ (by omega)
  clear f3 hlk hpv3 hr3 ht3 p0 p1 hgO hc1
  go_wp2_with fail
  refine wp_region_noPanic ?_
  refine wp_region_held_drew (S := fun W => W.cell? ⟨tb, 1, none⟩ = some (.slice (some ⟨g, 0, none⟩) E1.length c1)) (by kernel_rfl) (f13) (fun hHeld => ?_)
  refine take_at (i := 0) (d := some 47) (v := ?va0) rfl rfl (by kernel_rfl) (by kernel_rfl) (by kernel_rfl) (fun _ _ _ h => h) (Or.inl ⟨by rfl, ?hya0⟩) hHeld ?resta0
  case hya0 => (intro w hSw; (try dsimp only at hSw); go_simp; try with_reducible rfl)
  try simp only [Act.put, List.setIfInBounds_toArray, List.set_cons_zero, List.set_cons_succ]
  refine take_at (i := 1) (d := some 48) (v := ?va1) rfl rfl (by kernel_rfl) (by kernel_rfl) (by kernel_rfl) (fun _ _ _ h => h) (Or.inl ⟨by rfl, ?hya1⟩) hHeld ?resta1
  case hya1 => (intro w hSw; (try dsimp only at hSw); go_simp; try with_reducible rfl)
  try simp only [Act.put, List.setIfInBounds_toArray, List.set_cons_zero, List.set_cons_succ]
  refine take_at (i := 2) (d := some 49) (v := ?va2) rfl rfl (by kernel_rfl) (by kernel_rfl) (by kernel_rfl) (fun _ _ _ h => h) (Or.inl ⟨by rfl, ?hya2⟩) hHeld ?resta2
  case hya2 => (intro w hSw; (try dsimp only at hSw); go_simp; try with_reducible rfl)
  try simp only [Act.put, List.setIfInBounds_toArray, List.set_cons_zero, List.set_cons_succ]
  refine take_at (i := 3) (d := some 50) (v := ?va3) rfl rfl (by kernel_rfl) (by kernel_rfl) (by kernel_rfl) (fun _ _ _ h => h) (Or.inl ⟨by rfl, ?hya3⟩) hHeld ?resta3
  case hya3 => (intro w hSw; (try dsimp only at hSw); go_simp; try with_reducible rfl)
  try simp only [Act.put, List.setIfInBounds_toArray, List.set_cons_zero, List.set_cons_succ]
  refine take_at (i := 4) (d := some 51) (v := ?va4) rfl rfl (by kernel_rfl) (by kernel_rfl) (by kernel_rfl) (fun _ _ _ h => h) (Or.inl ⟨by rfl, ?hya4⟩) hHeld ?resta4
  case hya4 => (intro w hSw; (try dsimp only at hSw); go_simp; try with_reducible rfl)
  try simp only [Act.put, List.setIfInBounds_toArray, List.set_cons_zero, List.set_cons_succ]
  refine take_at (i := 5) (d := some 52) (v := ?va5) rfl rfl (by kernel_rfl) (by kernel_rfl) (by kernel_rfl) (fun _ _ _ h => h) (Or.inl ⟨by rfl, ?hya5⟩) hHeld ?resta5
  case hya5 => (intro w hSw; (try dsimp only at hSw); go_simp; try with_reducible rfl)
  try simp only [Act.put, List.setIfInBounds_toArray, List.set_cons_zero, List.set_cons_succ]
  refine take_at (i := 6) (d := some 53) (v := ?va6) rfl rfl (by kernel_rfl) (by kernel_rfl) (by kernel_rfl) (fun _ _ _ h => h) (Or.inl ⟨by rfl, ?hya6⟩) hHeld ?resta6
  case hya6 => (intro w hSw; (try dsimp only at hSw); go_simp; try with_reducible rfl)
  try simp only [Act.put, List.setIfInBounds_toArray, List.set_cons_zero, List.set_cons_succ]
  refine wpAnyH_ready (rs := [7]) (by kernel_rfl) (by simp) ?_
  refine AllReadyH.cons rfl (fun K hK => ?_) AllReadyH.nil
  go_simp
  (with_reducible refine (HCp.out _ HBd.out).mono ?_)
  rintro e w4 ⟨u, rfl, ho4, hb4⟩
  obtain ⟨uA, uc, rfl, _⟩ := own_form ho4
  have HO4 := Aside.mk ho4
  have HB4 := Aside.mk hb4
  have HR4 := Aside.mk (TabR.below HRd.out hb4)
  obtain ⟨g4, c4, hpv4, _, _, p4, p4', z4⟩ := HR4.out.pv_some HI1.out
  obtain ⟨rfl, rfl⟩ := sl_inj (HPV.out.symm.trans hpv4)
  have z40 := z4 (i * 2)
  clear hpv4 z4
  refine hK.out _ _ (cell_below hb4 hHeld) (fun hHeld' => ?_)
  clear hK K hHeld hb4 ho4
  have hHeld := hHeld'
  clear hHeld'
  try simp only [Act.put, List.setIfInBounds_toArray, List.set_cons_zero, List.set_cons_succ]
  refine take_at (i := 8) (d := some 55) (v := ?va8) rfl rfl (by kernel_rfl) (by kernel_rfl) (by kernel_rfl) (fun _ _ _ h => h) (Or.inl ⟨by rfl, ?hya8⟩) hHeld ?resta8
  case hya8 => (intro w hSw; (try dsimp only at hSw); go_simp; try with_reducible rfl)
  try simp only [Act.put, List.setIfInBounds_toArray, List.set_cons_zero, List.set_cons_succ]
  refine take_at (i := 9) (d := some 56) (v := ?va9) rfl rfl (by kernel_rfl) (by kernel_rfl) (by kernel_rfl) (fun _ _ _ h => h) (Or.inl ⟨by rfl, ?hya9⟩) hHeld ?resta9
  case hya9 => (intro w hSw; (try dsimp only at hSw); go_simp; try with_reducible rfl)
  try simp only [Act.put, List.setIfInBounds_toArray, List.set_cons_zero, List.set_cons_succ]
  refine wpAnyH_ready (rs := [10]) (by kernel_rfl) (by simp) ?_
  refine AllReadyH.cons rfl (fun K hK => ?_) AllReadyH.nil
  go_simp
  refine hK.out _ _ (cell_set_far hHeld (HNe.out)) (fun hHeld' => ?_)
  clear hK K hHeld
  have hHeld := hHeld'
  clear hHeld'
  try simp only [Act.put, List.setIfInBounds_toArray, List.set_cons_zero, List.set_cons_succ]
  refine wpAnyH_done (by kernel_rfl) ?_ _

  refine NoPanic.normal ?_
  clear hHeld
  have hs4 : SetV B (Grow (Grow O w2 w3) w3.drew w4) w4 (.slice uA l.length uc) l := ⟨own_mono HO4.out (by have := HR3.out.top tb HR3.out.tbO; exact Nat.le_trans this.1 (Nat.le_of_lt this.2)), fun k hk => .inr ⟨own_base HO4.out k hk, own_lt HO4.out hk⟩⟩
  have hr5 := (HR4.out.grow (w := w3.drew) (by have := HR3.out.top tb HR3.out.tbO; exact Nat.le_trans this.1 (Nat.le_of_lt this.2))).setPlace (e' := ⟨.slice uA l.length uc, l, e1.held⟩) HI1.out HPV.out hs4 0 (.slice uA l.length uc) (.inl ⟨rfl, rfl, rfl⟩)
  simp only [Nat.zero_add, Nat.add_zero] at hr5
  have f53 := hr5.f3
  obtain ⟨w6, hrun, hr6, hg6⟩ := HUp.out _ _ _ _ _ hr5
  have hi5 : (E1.set i ⟨.slice uA l.length uc, l, e1.held⟩)[i]? = some ⟨.slice uA l.length uc, l, e1.held⟩ := by rw [set_at HI1.out, if_pos rfl]
  have f61 := hr6.f1
  rw [HPV.out] at f61
  obtain ⟨g6, c6, hpv6, _, _, q60, q61, z6⟩ := hr6.pv_some hi5
  rw [List.length_set] at hpv6
  obtain ⟨rfl, rfl⟩ := sl_inj (HPV.out.symm.trans hpv6)
  rw [show (⟨.slice uA l.length uc, l, e1.held⟩ : En).held = 0 from HE0.out] at q61
  have z61 := z6 (i * 2 + 1)
  have hr7 := hr6.setPlace (e' := ⟨.slice uA l.length uc, l, 1⟩) hi5 (by rw [List.length_set]; exact HPV.out) (hr6.sets ⟨.slice uA l.length uc, l, e1.held⟩ (List.mem_of_getElem? hi5)) 1 (.int .i64 1) (.inr ⟨rfl, rfl, rfl⟩)
  simp only [Nat.zero_add, List.set_set] at hr7
  have HE := Aside.mk (add_end (r := .tuple #[.int .i64 ((i : Int) + 1), .int .i64 0]) HH.out HB2.out HT3.out HB4.out HGO.out hg6 hr7 (HFs.out _) (HInv.out _))
  clear hr5 hr6 hr7 hs4 hpv6 z6 q60 hg6
  go_wp2_with (at_mapUpdate; go_must (refine update_run rfl (.tmp 60) (.tmp 61) (.tmp 62) 79 _ _ _ rfl rfl rfl rfl rfl hrun ?_))
  clear hrun f53
  go_wp2
  rw [← HRR.out]
  exact HE.out
end Go.Proofs.YtaejlgdmalhhnaaDoor
