/- Texts put together: Ea, Eb, Ec, Ef. -/
import Derived.Test.YtaejlgdmalhhnaaDoorPkI
import Derived.RangeFuncNested
import Derived.RangeFuncLeaves
import Derived.RangeFuncBox
import Derived.Shelf.Abstract
import Derived.OwnWalkIn
import Derived.TacticsInMore
import Derived.LoopNIn
import Derived.LoopIn
import Derived.Sort.QuietIn
/- Layer 7: All: the ids that are held, in a row of the call's own. -/
set_option linter.unusedVariables false
set_option linter.unusedSimpArgs false
namespace Go.Proofs.YtaejlgdmalhhnaaDoor
open Go.RowKit Go.Maps

def isUp (P : Ps) (i : Nat) : Bool := decide (0 < ((P[i]?).map (·.2)).getD 0)
def idsUp (P : Ps) (k : Nat) : List Int := ((List.range k).filter (isUp P)).map (fun i : Nat => (i : Int) + 1)
theorem idsUp_zero (P : Ps) : idsUp P 0 = [] := rfl
theorem idsUp_yes {P : Ps} {k : Nat} (h : isUp P k = true) : idsUp P (k + 1) = idsUp P k ++ [(k : Int) + 1] := by
  unfold idsUp
  rw [List.range_succ, List.filter_append, List.map_append, List.filter_cons_of_pos h]
  rfl
theorem idsUp_no {P : Ps} {k : Nat} (h : isUp P k = false) : idsUp P (k + 1) = idsUp P k := by
  unfold idsUp
  rw [List.range_succ, List.filter_append, List.map_append, List.filter_cons_of_neg (by rw [h]; exact Bool.false_ne_true)]
  simp
theorem idsUp_len (P : Ps) (k : Nat) : (idsUp P k).length ≤ k := by
  unfold idsUp
  rw [List.length_map]
  exact Nat.le_trans (List.length_filter_le _ _) (by rw [List.length_range]; exact Nat.le_refl _)
/-- A box that holds a row of numbers of the call's own. -/
structure IdsAt (w wr : World) (bl : Nat) (v : Value) (ids : List Int) : Prop where
  below : Below w.heap.size w wr
  bx : wr.heap[bl]? = some (.cells #[v] 45)
  own : wr.ownsRow w.heap.size 3 1 v ids.length (nums .i64 ids)
  ge : w.heap.size ≤ bl
variable {w w' wr W w1 : World} {bl : Nat} {v v1 : Value} {ids : List Int}
theorem IdsAt.later (h : IdsAt w wr bl v ids) (hb : Below wr.heap.size wr w1) : IdsAt w w1 bl v ids := ⟨below_then h.below hb, below_heap hb h.bx, own_below h.own hb, h.ge⟩
theorem IdsAt.cell (h : IdsAt w wr bl v ids) : wr.cell? ⟨bl, 0, none⟩ = some v := cell_at h.bx rfl
theorem IdsAt.push {x : Int} (h : IdsAt w W bl v ids) (hg : W.grownBy w1 v.ownBlock) (hb : Below w.heap.size w w1) (ho : w1.ownsRow w.heap.size 3 1 v1 (ids.length + 1) (nums .i64 ids ++ nums .i64 [x])) :
    w1.heap[bl]? = some (.cells #[v] 45) ∧ IdsAt w (w1.setCell ⟨bl, 0, none⟩ v1) bl v1 (ids ++ [x]) := by
  have hlt := (Array.getElem?_eq_some_iff.1 h.bx).1
  have h1 : w1.heap[bl]? = some (.cells #[v] 45) := (hg.block bl hlt (fun e => own_ne h.own h.bx (by decide) bl e.symm rfl)).trans h.bx
  refine ⟨h1, hb.setCell (p := ⟨bl, 0, none⟩) h.ge v1, heap_setCell_same w1 bl 0 _ 45 v1 h1, ?_, h.ge⟩
  rw [List.length_append, nums_append]
  exact own_stay ho (fun k hk => heap_keep w1 ⟨bl, 0, none⟩ v1 (own_ne ho h1 (by decide) k hk))
def AllPost (w : World) (ids : List Int) (e : Ending) (w' : World) : Prop := ∃ bl v, e = .returned (.func (.func 95) #[] #[.pointer (some ⟨bl, 0, none⟩)]) ∧ IdsAt w w' bl v ids
variable {B : Nat} {O : Nat → Prop} {tb : Nat} {sv : Value} {mb : Nat} {P : Ps} {free : List Int} {empty : Int} {cnt : Nat}
set_option maxRecDepth 100000 in
set_option maxHeartbeats 2000000 in
theorem all_any (h : TabM B O w tb sv mb P free empty cnt) (hc : cnt ≤ 100000) : Calls Tryd.prog 55 #[.pointer (some ⟨tb, 0, none⟩)] w (AllPost w (0 :: idsUp P P.length)) := by
  obtain ⟨pv, fv, E, rfl, h⟩ := h
  have HT := Aside.mk (fun (W : World) (hb : Below w.heap.size w W) => h.below hb)
  have HRd := Aside.mk (ready_any (HT.out _ (below_alloc (below_refl w) (.cells #[.slice none 0 0] 45))))
  have hE : E.length ≤ 100000 := by have := h.inv.len; omega
  have H0 := Aside.mk (show IdsAt w (w.alloc (.cells #[.slice none 0 0] 45)) w.heap.size (.slice none 0 0) [] from ⟨below_alloc (below_refl w) _, heap_alloc_new w _, ⟨rfl, .inl ⟨rfl, rfl⟩⟩, Nat.le_refl _⟩)
  obtain ⟨pA, pc, hpv⟩ : ∃ A c, pv = .slice A E.length c := h.pv_slice
  subst hpv
  have g1 : (E.length : Int) ≤ 100000 := by omega
  have hlm : (E.map pr).length = E.length := by rw [List.length_map]
  rw [hlm]
  obtain ⟨R, hR⟩ : ∃ R, AllPost w (0 :: idsUp (E.map pr) E.length) = R := ⟨_, rfl⟩
  rw [hR]
  have HR := Aside.mk hR
  clear h hc hE hR hlm
  go_enter Tryd.func55, Tryd.ntmps55
  go_wp2_with fail
  (with_reducible refine HRd.out.mono ?_)
  rintro e w' ⟨rfl, rfl⟩
  have c0 := fun o => cell_below (below_alloc (below_refl _) o) H0.out.cell
  go_wp2_with (at_builtin; go_must (refine app_lit2 (w0 := w) (w.heap.size + 1) w.heap.size (World.size_alloc _ _).symm rfl (.tmp 8) (.tmp 9) 45 3 (.int .i64 0) 1 8 _ rfl Tryd.underlying45 info3 rfl (by decide) (.slice none 0 0) 0 1 (nums .i64 []) (nums .i64 [0]) rfl rfl rfl rfl (nums_one _ _) H0.out.own H0.out.below H0.out.below.size (by omega) (by omega) ?_))
  intro v1 w1 hown hbel hg hat
  obtain ⟨hbx, h1⟩ := H0.out.push (x := 0) hg hbel hown
  have HI1 := Aside.mk h1
  obtain ⟨A1, c1, rfl, _⟩ := own_form hown
  have e1 : w1.cell? ⟨w.heap.size, 0, none⟩ = some (.slice none 0 0) := cell_at hbx rfl
  have z1 := frozen_of_row w1 w.heap.size 0 _ 45 hbx
  have f1 := (HT.out _ h1.below).f1
  clear hown hbel hg hat hbx h1 c0
  go_wp2_with fail
  go_loopw [16] (fun i wr => ∃ (k : Nat) (v : Value), k ≤ E.length ∧ i = .int .i64 k ∧ Aside (IdsAt w wr w.heap.size v (0 :: idsUp (E.map pr) k))) (fun i _ => E.length - (intOf i).toNat)
  case atStart => exact ⟨0, _, Nat.zero_le _, rfl, HI1⟩
  case round =>
    obtain ⟨k, v, hk, rfl, HN⟩ := hrel
    by_cases hlt : k < E.length
    · have hkz : (k : Int) < (E.length : Int) := by omega
      obtain ⟨x, hx⟩ : ∃ x, E[k]? = some x := ⟨_, List.getElem?_eq_getElem hlt⟩
      have hT := HT.out _ HN.out.below
      obtain ⟨pa, c, hpv, hcp, p0, p1⟩ := hT.place hx
      injection hpv with hp1 hp2 hp3
      subst hp1 hp3
      have hpc : (E.length : Int) ≤ (pc : Int) := by omega
      obtain ⟨xA, xc, hxv, _⟩ := src_of_own (hT.sets x (List.mem_of_getElem? hx)).1
      obtain ⟨xl, hxl⟩ : ∃ xl, x.set.length = xl := ⟨_, rfl⟩
      rw [hxl] at hxv
      rw [hxv] at p0
      have hup : isUp (E.map pr) k = decide (0 < x.held) := by unfold isUp; rw [List.getElem?_map, hx]; rfl
      obtain ⟨xh, hxh⟩ : ∃ xh, x.held = xh := ⟨_, rfl⟩
      rw [hxh] at p1 hup
      obtain ⟨vA, vc, hv, _⟩ := own_form HN.out.own
      subst hv
      have hln : (0 :: idsUp (E.map pr) k).length ≤ 100001 := by have := idsUp_len (E.map pr) k; simp only [List.length_cons]; omega
      have HLn := Aside.mk hln
      have HA := Aside.mk (HN.out.later (below_alloc (below_refl wr) (.cells #[.slice xA xl xc, .int .i64 xh] 132)))
      have cb := HA.out.cell
      clear hx hT hp2 hcp hxv hxl hxh hln
      by_cases hpos : 0 < xh
      · have q : decide (0 < xh) = true := decide_eq_true hpos
        have HU := Aside.mk (idsUp_yes (hup.trans q))
        clear hup hpos
        go_wp2_with (at_builtin; go_must (refine app_lit2 (w0 := w) (wr.heap.size + 1) w.heap.size (World.size_alloc _ _).symm rfl (.tmp 24) (.tmp 27) 45 3 (.int .i64 0) 1 8 _ rfl Tryd.underlying45 info3 rfl (by decide) (.slice vA (0 :: idsUp (E.map pr) k).length vc) (0 :: idsUp (E.map pr) k).length 1 (nums .i64 (0 :: idsUp (E.map pr) k)) (nums .i64 [(k : Int) + 1]) rfl rfl rfl rfl (nums_one _ _) HA.out.own HA.out.below HA.out.below.size (by have := HLn.out; omega) (by have := HLn.out; omega) ?_))
        intro v2 w2 hown hbel hg hat
        obtain ⟨hbx, h1⟩ := HA.out.push (x := (k : Int) + 1) hg hbel hown
        have HI2 := Aside.mk (show IdsAt w (w2.setCell ⟨w.heap.size, 0, none⟩ v2) w.heap.size v2 (0 :: idsUp (E.map pr) (k + 1)) by rw [HU.out]; exact h1)
        obtain ⟨A2, c2, rfl, _⟩ := own_form hown
        have e1 : w2.cell? ⟨w.heap.size, 0, none⟩ = some (.slice vA (0 :: idsUp (E.map pr) k).length vc) := cell_at hbx rfl
        have z1 := frozen_of_row w2 w.heap.size 0 _ 45 hbx
        clear hown hbel hg hat hbx h1 cb
        go_wp2
        go_roundw
        case rel => exact ⟨k + 1, _, by omega, by go_num, HI2⟩
        case measure => simp [intOf]; omega
      · have q : decide (0 < xh) = false := decide_eq_false hpos
        have HU := Aside.mk (idsUp_no (hup.trans q))
        clear hup hpos
        go_wp2
        go_roundw
        case rel => exact ⟨k + 1, _, by omega, by go_num, ⟨by rw [HU.out]; exact HA.out⟩⟩
        case measure => simp [intOf]; omega
    · obtain rfl : k = E.length := by omega
      go_wp2
      rw [← HR.out]
      exact ⟨_, _, rfl, HN.out⟩
end Go.Proofs.YtaejlgdmalhhnaaDoor
/- Layer 7: the iterator over a table's ids: its contract. -/
set_option linter.unusedVariables false
set_option linter.unusedSimpArgs false
namespace Go.Proofs.YtaejlgdmalhhnaaDoor
open Go.RowKit Go.Maps Go.Shelf

attribute [local go_sem] Oper.semAt_some

/-- What a round keeps: all that lay ahead of the loop but one block. -/
def KX (bn n₀ : Nat) (A B : World) : Prop := Turn (fun k => k = bn ∨ n₀ ≤ k) A B
theorem KX.refl (bn n₀ : Nat) (A : World) : KX bn n₀ A A := Turn.of_below (below_refl A)
theorem KX.trans {bn n₀ : Nat} {A B C : World} (h : KX bn n₀ A B) (k : KX bn n₀ B C) : KX bn n₀ A C := Turn.trans h k
theorem KX.put {bn n₀ : Nat} {w : World} (hn : n₀ ≤ w.heap.size) (W : World) (l : Nat) (o o' : Obj) (hl : w.heap.size ≤ l) (h : W.heap[l]? = some o) (_ : o.isCells = false) (_ : o.isWalk = false) : KX bn n₀ W (W.putObj l o') :=
  Turn.of_grown (grownBy_putObj' W l o') (fun k e => by cases e; exact .inr (by omega))
theorem KX.cell {bn n₀ : Nat} {A B : World} (h : KX bn n₀ A B) {a : Addr} {v : Value} (hc : A.cell? a = some v) (h1 : a.block < n₀) (h2 : a.block ≠ bn) : B.cell? a = some v := by
  rw [World.cell?_of_block (h.block _ (World.block_lt_of_cell? A a hc) (fun e => e.elim h2 (fun h => by omega)))]
  exact hc
theorem take_snocI {ids : List Int} {k : Nat} {x : Int} (hx : ids[k]? = some x) : ids.take (k + 1) = ids.take k ++ [x] := by
  have hl := (List.getElem?_eq_some_iff.1 hx).1
  rw [List.take_succ_eq_append_getElem hl, (List.getElem?_eq_some_iff.1 hx).2]
set_option maxRecDepth 100000 in
set_option maxHeartbeats 2000000 in
theorem ids_in (n : Nat) (hn : 1 ≤ n) (l bl n₀ bn lc : Nat) (lA : Option Addr) (ids : List Int) (J Jx : List Int → World → Prop)
    (hY : ∀ pre x W, J pre W → pre.length < ids.length → YieldAt Fence.wide (n - 1) Tryd.prog l #[.int .i64 x] W fun e W' =>
      (e = .returned (.bool true) ∧ J (pre ++ [x]) W' ∧ KX bn n₀ W W') ∨ (e = .returned (.bool false) ∧ Jx (pre ++ [x]) W'))
    (W : World) (hbx : W.cell? ⟨bl, 0, none⟩ = some (.slice lA ids.length lc)) (hrow : ∀ (i : Nat) x, ids[i]? = some x → ∃ a, lA = some a ∧ W.cell? (a.add i) = some (.int .i64 x) ∧ a.block < n₀ ∧ a.block ≠ bn) (hl : ids.length ≤ 1000000) (hc : ids.length ≤ lc) (h0 : J [] W) :
    CallsIn Fence.wide n Tryd.prog 95 #[.func (.yield l) #[] #[], .pointer (some ⟨bl, 0, none⟩)] W fun e W' => (∃ v, e = .returned v) ∧ ((∃ ys, ys = ids ∧ J ys W') ∨ (∃ pre, pre <+: ids ∧ Jx pre W')) := by
  have HR := Aside.mk hrow
  have g1 : (ids.length : Int) ≤ 1000000 := by omega
  have g2 : (ids.length : Int) ≤ (lc : Int) := by omega
  clear hrow hl hc
  refine callsIn_of_wp Tryd.func95 rfl trivial ?_ rfl
  simp only [Tryd.ntmps95, List.size_toArray, List.length_cons, List.length_nil, Nat.reduceAdd, Nat.reduceSub, Array.replicate_succ, Array.replicate_zero, List.push_toArray, List.append_toArray, List.nil_append, List.cons_append]
  gi_wp2
  gi_loopw [7] (fun i wr => ∃ k : Nat, k ≤ ids.length ∧ i = .int .i64 k ∧ Aside (J (ids.take k) wr ∧ KX bn n₀ W wr)) (fun i _ => ids.length - (intOf i).toNat)
  case atStart => exact ⟨0, Nat.zero_le _, rfl, ⟨h0, KX.refl _ _ _⟩⟩
  case round =>
    obtain ⟨k, hk, rfl, HN⟩ := hrel
    by_cases hlt : k < ids.length
    · have hkz : (k : Int) < (ids.length : Int) := by omega
      obtain ⟨x, hx⟩ : ∃ x, ids[k]? = some x := ⟨_, List.getElem?_eq_getElem hlt⟩
      obtain ⟨a, rfl, hc0, hb1, hb2⟩ := HR.out k x hx
      have hcx := HN.out.2.cell hc0 (by rw [addr_block]; exact hb1) (by rw [addr_block]; exact hb2)
      obtain ⟨fn, tmps, assign, body, hy, hRd⟩ := hY _ x wr HN.out.1 (by rw [List.length_take]; omega)
      have HT := Aside.mk (take_snocI hx)
      clear hx hc0 hb1 hb2 hbx
      gi_wp2
      refine hRd.mono ?_
      rintro e W3 (⟨rfl, hJ3, hk3⟩ | ⟨rfl, hJx3⟩)
      · have HJ := Aside.mk (show J (ids.take (k + 1)) W3 by rw [HT.out]; exact hJ3)
        have HK := Aside.mk (HN.out.2.trans hk3)
        clear hJ3 hk3 hcx
        gi_wp2
        go_roundw
        case rel => exact ⟨k + 1, by omega, by go_num, ⟨HJ.out, HK.out⟩⟩
        case measure => simp [intOf]; omega
      · have HJ := Aside.mk (show Jx (ids.take (k + 1)) W3 by rw [HT.out]; exact hJx3)
        clear hJx3 hcx
        gi_wp2
        refine bodyPost_ret (results_none rfl _ _ _) rfl ?_
        exact ⟨⟨_, rfl⟩, .inr ⟨_, List.take_prefix _ _, HJ.out⟩⟩
    · obtain rfl : k = ids.length := by omega
      have HJ := Aside.mk (show J ids wr by have h := HN.out.1; rw [List.take_length] at h; exact h)
      clear hlt
      gi_wp2
      go_end0
      exact ⟨⟨_, rfl⟩, .inl ⟨_, rfl, HJ.out⟩⟩
theorem ids_stops (n : Nat) (hn : 1 ≤ n) {w W : World} {bl bn : Nat} {v : Value} {ids : List Int} (h : IdsAt w W bl v ids) (hbn : bn < w.heap.size) (hl : ids.length ≤ 1000000) :
    SeqStopsK Fence.wide n Tryd.prog 95 #[.pointer (some ⟨bl, 0, none⟩)] (fun x : Int => #[Value.int .i64 x]) (KX bn W.heap.size) (fun ys => ys = ids) (fun pre => pre <+: ids) ids.length W := fun l J Jx W' hW _ _ hY h0 => by
  have h' := h.later hW
  obtain ⟨lA, lc, hv, hc, _, hr⟩ := nums_slice h'.own
  subst hv
  refine ids_in n hn l bl W.heap.size bn lc lA ids J Jx hY W' h'.cell (fun i x hx => ?_) hl hc h0
  obtain ⟨a, ha, hcx⟩ := hr i x hx
  subst ha
  obtain ⟨g, cur, rfl, hg, _⟩ := row_at h.own
  have hlt := own_blk h.own rfl
  exact ⟨_, rfl, hcx, hlt, by simp only at hg ⊢; omega⟩
end Go.Proofs.YtaejlgdmalhhnaaDoor
/- Layer 7: what the law looks at: plain laws on the ids; the law's own boxes; a row of attributes that is written over. -/
set_option linter.unusedVariables false
set_option linter.unusedSimpArgs false
namespace Go.Proofs.YtaejlgdmalhhnaaDoor
open Go.RowKit Go.Maps Go.Shelf

variable {P D : Ps}
theorem idsUp_mono {a b : Nat} (h : a ≤ b) : idsUp P a <+: idsUp P b := by
  induction b with
  | zero => obtain rfl : a = 0 := by omega
            exact List.prefix_refl _
  | succ b ih =>
    rcases Nat.lt_or_ge b a with hl | hl
    · obtain rfl : a = b + 1 := by omega
      exact List.prefix_refl _
    · refine (ih hl).trans ?_
      cases hu : isUp P b with
      | true => rw [idsUp_yes hu]; exact List.prefix_append _ _
      | false => rw [idsUp_no hu]; exact List.prefix_refl _
theorem idsUp_lt {a j b : Nat} (h1 : a ≤ j) (h2 : j < b) (hu : isUp P j = true) : (idsUp P a).length < (idsUp P b).length := by
  have h3 := (idsUp_mono (P := P) h1).length_le
  have h4 := (idsUp_mono (P := P) (show j + 1 ≤ b from h2)).length_le
  rw [idsUp_yes hu, List.length_append, List.length_singleton] at h4
  omega
/-- How far the ids have come when the counter stands at a number. -/
def AtN (P : Ps) (pre : List Int) (nv : Nat) : Prop := (pre = [] ∧ nv = 0) ∨ ∃ k : Nat, k ≤ P.length ∧ pre = 0 :: idsUp P k ∧ nv = k + 1
theorem isUp_has {free : List Int} {empty : Int} (h : Rel P D) (j : Nat) : hasP D ((j : Int) + 1) = isUp P j := by
  unfold hasP isUp
  rw [if_neg (by omega), if_neg (by omega), show ((j : Int) + 1 - 1).toNat = j by omega]
  cases hP : P[j]? with
  | none => rw [List.getElem?_eq_none (by rw [← h.len]; exact List.getElem?_eq_none_iff.1 hP)]; rfl
  | some p =>
    obtain ⟨q, hq, he, _⟩ := h.at_ hP
    rw [hq]
    simp only [Option.map_some, Option.getD_some, he]
theorem hasP_zero : hasP D 0 = true := by unfold hasP; rw [if_pos rfl]
/-- The next id, of those that may come behind. -/
theorem idsnext_bad {k j : Nat} {x : Int} (he : idsUp P j = idsUp P k) (hj : j < P.length) (hu : isUp P j = true) (hx : x ≠ (j : Int) + 1) : ¬ ((0 :: idsUp P k) ++ [x] <+: 0 :: idsUp P P.length) := by
  intro h
  have h1 := idsUp_mono (P := P) (show j + 1 ≤ P.length from hj)
  rw [idsUp_yes hu, he] at h1
  have h2 : idsUp P k ++ [x] <+: idsUp P P.length := by
    rw [List.cons_append] at h
    exact (List.cons_prefix_cons.1 h).2
  have h3 := List.prefix_of_prefix_length_le h1 h2 (by simp)
  have h4 := h3.eq_of_length (by simp)
  rw [List.append_cancel_left_eq] at h4
  injection h4 with h4
  exact hx h4.symm
theorem idsnext_good {k j : Nat} (he : idsUp P j = idsUp P k) (hu : isUp P j = true) : (0 :: idsUp P k) ++ [(j : Int) + 1] = 0 :: idsUp P (j + 1) := by
  rw [List.cons_append, idsUp_yes hu, he]
theorem idsfirst_bad {x : Int} (hx : x ≠ 0) : ¬ (([] : List Int) ++ [x] <+: 0 :: idsUp P P.length) := by
  intro h
  rw [List.nil_append] at h
  exact hx (List.cons_prefix_cons.1 h).1
/-- The law's own boxes: the table, the document's, the answer, the counter. -/
structure LkAt (w : World) (tb db bn : Nat) (nv : Int) (W : World) : Prop where
  below : Below w.heap.size w W
  h0 : W.heap[w.heap.size]? = some (.cells #[.pointer (some ⟨tb, 0, none⟩)] 41)
  h1 : W.heap[w.heap.size + 1]? = some (.cells #[.pointer (some ⟨db, 0, none⟩)] 43)
  h2 : W.heap[w.heap.size + 2]? = some (.cells #[.bool false] 4)
  h3 : W.heap[bn]? = some (.cells #[.int .i64 nv] 3)
  ge : w.heap.size + 3 ≤ bn
variable {w W W' : World} {tb db bn : Nat} {nv : Int}
theorem LkAt.later (h : LkAt w tb db bn nv W) (hb : Below W.heap.size W W') : LkAt w tb db bn nv W' := ⟨below_then h.below hb, below_heap hb h.h0, below_heap hb h.h1, below_heap hb h.h2, below_heap hb h.h3, h.ge⟩
theorem LkAt.c0 (h : LkAt w tb db bn nv W) : W.cell? ⟨w.heap.size, 0, none⟩ = some (.pointer (some ⟨tb, 0, none⟩)) := cell_at h.h0 rfl
theorem LkAt.c1 (h : LkAt w tb db bn nv W) : W.cell? ⟨w.heap.size + 1, 0, none⟩ = some (.pointer (some ⟨db, 0, none⟩)) := cell_at h.h1 rfl
theorem LkAt.c2 (h : LkAt w tb db bn nv W) : W.cell? ⟨w.heap.size + 2, 0, none⟩ = some (.bool false) := cell_at h.h2 rfl
theorem LkAt.c3 (h : LkAt w tb db bn nv W) : W.cell? ⟨bn, 0, none⟩ = some (.int .i64 nv) := cell_at h.h3 rfl
theorem LkAt.z2 (h : LkAt w tb db bn nv W) : W.frozen? ⟨w.heap.size + 2, 0, none⟩ = false := frozen_of_row W _ 0 _ 4 h.h2
theorem LkAt.z3 (h : LkAt w tb db bn nv W) : W.frozen? ⟨bn, 0, none⟩ = false := frozen_of_row W _ 0 _ 3 h.h3
theorem LkAt.setN (h : LkAt w tb db bn nv W) (n' : Int) : LkAt w tb db bn n' (W.setCell ⟨bn, 0, none⟩ (.int .i64 n')) := by
  have hg := h.ge
  have key : ∀ k, k ≠ bn → (W.setCell ⟨bn, 0, none⟩ (.int .i64 n')).heap[k]? = W.heap[k]? := fun k hk => heap_keep W ⟨bn, 0, none⟩ _ hk
  refine ⟨h.below.setCell (p := ⟨bn, 0, none⟩) (by show w.heap.size ≤ bn; omega) _, (key _ (by omega)).trans h.h0, (key _ (by omega)).trans h.h1, (key _ (by omega)).trans h.h2, heap_setCell_same W _ 0 _ 3 _ h.h3, h.ge⟩
theorem turn_n (bn : Nat) (W : World) (v : Value) : Turn (fun k => k = bn) W (W.setCell ⟨bn, 0, none⟩ v) := turn_set W ⟨bn, 0, none⟩ v rfl
theorem heap_grown {b : Nat} {cs : Array Value} {t : TypeId} {row : Option Nat} (h : W.heap[b]? = some (.cells cs t)) (hg : W.grownBy W' row) (hr : ∀ r, row = some r → ∃ o : Obj, W.heap[r]? = some o ∧ o.isCells = false) : W'.heap[b]? = some (.cells cs t) := by
  refine (hg.block b (Array.getElem?_eq_some_iff.1 h).1 (fun e => ?_)).trans h
  obtain ⟨o, ho, hc⟩ := hr b e.symm
  rw [h] at ho
  cases ho
  cases hc
theorem LkAt.grown {row : Option Nat} (h : LkAt w tb db bn nv W) {B : Nat} (hB : w.heap.size ≤ B) (hg : W.grownBy W' row) (hr : ∀ r, row = some r → B ≤ r ∧ ∃ o : Obj, W.heap[r]? = some o ∧ o.isCells = false) : LkAt w tb db bn nv W' :=
  ⟨h.below.grown hg h.below.size (fun k e => by have := (hr k e).1; omega), heap_grown h.h0 hg (fun r e => (hr r e).2), heap_grown h.h1 hg (fun r e => (hr r e).2), heap_grown h.h2 hg (fun r e => (hr r e).2), heap_grown h.h3 hg (fun r e => (hr r e).2), h.ge⟩
/-- A round of the law keeps what is no cells. -/
theorem keeps_turn {cs : Array Value} {t : TypeId} {b : Nat} (hc : W.heap[b]? = some (.cells cs t)) (ht : Turn (fun k => k = b) W W') : KeepsOthers W W' := by
  refine ⟨ht.size, fun r o hr ho => (ht.block r (Array.getElem?_eq_some_iff.1 hr).1 (fun e => ?_)).trans hr⟩
  rw [e, hc] at hr
  cases hr
  cases ho
theorem acells_set (l : List At) (k : Nat) (y : At) (hk : k < l.length) (x : At) (hx : l[k]? = some x) (i : Nat) (u : Value) (hu : y.cells = x.cells.set i u) (hi : i < 5) : acells (l.set k y) = (acells l).set (k * 5 + i) u := by
  induction l generalizing k with
  | nil => simp at hk
  | cons a r ih =>
    have e : ∀ (a : At) (r : List At), acells (a :: r) = a.cells ++ acells r := fun a r => by simp [acells]
    cases k with
    | zero =>
      simp at hx
      subst hx
      rw [List.set_cons_zero, e, e, hu, List.set_append_left _ _ (by rw [acells_len1]; omega), Nat.zero_mul, Nat.zero_add]
    | succ k =>
      rw [List.set_cons_succ, e, e, ih k (by simpa using hk) (by simpa using hx), List.set_append_right _ _ (by rw [acells_len1]; omega), acells_len1]
      have e2 : (k + 1) * 5 + i - 5 = k * 5 + i := by omega
      rw [e2]
/-- A row of attributes of the call's own, its keys written over. -/
structure AInc (w0 wr : World) (A : Option Addr) (c n : Nat) : Prop where
  below : Below w0.heap.size w0 wr
  row : ∃ l : List At, l.length = n ∧ wr.ownsRow w0.heap.size 58 5 (.slice A n c) n (acells l)
theorem AInc.put {w0 wr : World} {ad : Addr} {c n : Nat} (h : AInc w0 wr (some ad) c n) {l : List At} {k : Nat} {x : At} (hn : l.length = n) (hr : wr.ownsRow w0.heap.size 58 5 (.slice (some ad) n c) n (acells l)) (hx : l[k]? = some x) (z : Int) :
    AInc w0 (wr.setCell (ad.add (k * 5)) (.int .i64 z)) (some ad) c n := by
  have hk := (List.getElem?_eq_some_iff.1 hx).1
  refine ⟨row_below hr h.below (k * 5) _ rfl _, ⟨l.set k { x with key := z }, by rw [List.length_set]; exact hn, ?_⟩⟩
  rw [acells_set l k { x with key := z } hk x hx 0 (.int .i64 z) rfl (by omega)]
  exact row_put0 hr (k * 5) _
theorem AInc.cell {w0 wr : World} {ad : Addr} {c n : Nat} {l : List At} {k : Nat} {x : At} (hn : l.length = n) (hr : wr.ownsRow w0.heap.size 58 5 (.slice (some ad) n c) n (acells l)) (hx : l[k]? = some x) : wr.cell? (ad.add (k * 5)) = some (.int .i64 x.key) := by
  rw [← hn] at hr
  obtain ⟨A', c', e', _, _, hs'⟩ := src_of_own hr
  injection e' with e1 e2 e3
  subst e1
  obtain ⟨key, ⟨kd, n', f, s⟩⟩ := x
  exact (hs'.five hx).1
end Go.Proofs.YtaejlgdmalhhnaaDoor
/- A drawn region within a round of a range over a func: it goes as outside of the round where it defers nothing. -/
set_option linter.unusedVariables false
namespace Go.Proofs.YtaejlgdmalhhnaaDoor
open Go.RowKit Go.Maps Go.Shelf

def noDefer (o : Oper) : Bool := match o.op with
  | .defer _ => false
  | _ => true
theorem noDefer_ne {o : Oper} (h : noDefer o = true) : ∀ c, o.op ≠ .defer c := by
  intro c
  intro e
  unfold noDefer at h
  rw [e] at h
  cases h
theorem wpIn_round {F : Fence} {n : Nat} {P : Program} {o : Oper} {a : Act} {w : World} {K : Act → World → Prop} {Q : Exit → Act → World → Prop} (l : Nat) (hd : noDefer o = true) (h : o.wpIn F n P a w K Q) : o.wpIn (F.inRound l) n P a w K Q := by
  unfold Oper.wpIn at *
  refine ⟨h.1, ?_⟩
  have h2 := h.2
  rw [Oper.semAt_plain F _ o (noDefer_ne hd)] at h2
  rw [Oper.semAt_plain (F.inRound l) _ o (noDefer_ne hd)]
  exact h2
theorem wpOpIn_round {F : Fence} {n : Nat} {P : Program} {ops : Array Oper} {Q : Exit → Act → World → Prop} {i : Nat} {K K' : Act → World → Prop} {a : Act} {w : World} (l : Nat) (hd : ∀ o, ops[i]? = some o → noDefer o = true) (hK : ∀ a w, K a w → K' a w) (h : wpOpIn F n P ops Q i K a w) : wpOpIn (F.inRound l) n P ops Q i K' a w := by
  unfold wpOpIn at *
  split
  · rename_i ho
    simp only [ho] at h
    exact hK _ _ h
  · rename_i o ho
    simp only [ho] at h
    split
    · rename_i hw
      simp only [hw, if_true] at h
      exact wpIn_round l (hd o ho) (Oper.wpIn_mono hK h)
    · rename_i hw
      simp only [hw] at h
      exact ⟨h.1, hK _ _ h.2⟩
theorem wpAnyIn_round {F : Fence} {n : Nat} {P : Program} {md : Region.Mode} {ops : Array Oper} {Q : Exit → Act → World → Prop} (l : Nat) (hd : ∀ (i : Nat) (o : Oper), ops[i]? = some o → noDefer o = true) : ∀ (fuel : Nat) (listed : Array Bool) (a : Act) (w : World),
    wpAnyIn F n P md ops Q fuel listed a w → wpAnyIn (F.inRound l) n P md ops Q fuel listed a w
  | 0, _, _, _, h => h
  | fuel + 1, _, _, _, h => ⟨h.1, fun i hi => wpOpIn_round l (hd i) (fun a' w' hw' => wpAnyIn_round l hd fuel _ a' w' hw') (h.2 i hi)⟩
/-- As outside of a round. -/
theorem wpIn_region_round_lit {F : Fence} {n : Nat} {P : Program} {id : Nat} {Q : Exit → Act → World → Prop} {a : Act} {w : World} {l : List Oper} {lp : Nat} (hro : F.round = none) (hm : P.follows .mixedOrders = true) (hB : Region.lexB .any l.toArray = true) (hd : l.all noDefer = true)
    (h : wpQuietIn F n P l.toArray (fun w' => ∃ n, w' = w.drewN n) (fun a' => ∀ w', (∃ n, w' = w.drewN n) → Q .normal a' w') l a) : (Code.region id l.toArray true).wpIn (F.inRound lp) n P Q a w := by
  have hd' : ∀ (i : Nat) (o : Oper), l.toArray[i]? = some o → noDefer o = true := fun i o ho => by
    rw [List.getElem?_toArray] at ho
    exact List.all_eq_true.1 hd o (List.mem_of_getElem? ho)
  have hC : ∃ n, ({ w with drawn := w.drawn + 1 } : World) = w.drewN n := ⟨1, rfl⟩
  have hB' := hB
  simp only [Region.lexB, Bool.and_eq_true] at hB'
  refine wpIn_region_any hm (wpAnyIn_round lp hd' _ _ _ _ (wpAnyIn_of_quiet (C := fun w' => ∃ n, w' = w.drewN n) (Q := fun a' => ∀ w', (∃ n, w' = w.drewN n) → Q .normal a' w') hro (fun _ w' hw' h => h w' hw') _ _ _ _ hC ?_))
  have := wpAnyQIn_lex (F := F) (n := n) (C := fun w' => ∃ n, w' = w.drewN n) (md := .any) hB'.1 l 0 (Array.replicate l.toArray.size false) a (by simp) (by simpa using hB'.2) h
  simpa using this
end Go.Proofs.YtaejlgdmalhhnaaDoor
