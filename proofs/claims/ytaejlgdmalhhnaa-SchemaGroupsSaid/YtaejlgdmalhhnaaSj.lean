/- Layer 4: Group of a schema, nil and zero let in. -/
import Derived.Test.YtaejlgdmalhhnaaSh
import Derived.Test.YtaejlgdmalhhnaaSg
set_option linter.unusedVariables false
set_option linter.unusedSimpArgs false
namespace Go.Proofs.Ytaejlgdmalhhnaa
open Go.RowKit Go.Maps

def GroupPost (w : World) (r : List Int) (e : Ending) (w' : World) : Prop := ∃ u, e = .returned u ∧ OwnN w' w.heap.size 3 .i64 u r ∧ Below w.heap.size w w'
theorem own_mono {w : World} {B B' n size : Nat} {e : TypeId} {v : Value} {xs : List Value} (h : w.ownsRow B e size v n xs) (hb : B' ≤ B) : w.ownsRow B' e size v n xs :=
  ⟨h.1, h.2.imp id (fun ⟨g, cap, cur, h1, h2, r⟩ => ⟨g, cap, cur, h1, Nat.le_trans hb h2, r⟩)⟩
/-- A round of the loop that gathers a group. -/
structure GrAt (w0 wr : World) (l : Value) (r : List Int) : Prop where
  below : Below w0.heap.size w0 wr
  own : OwnN wr w0.heap.size 3 .i64 l r
theorem GrAt.alloc {w0 wr : World} {l : Value} {r : List Int} (h : GrAt w0 wr l r) (o : Obj) : GrAt w0 (wr.alloc o) l r := ⟨below_alloc h.below o, h.own.below (below_alloc (below_refl _) o)⟩
theorem GrAt.put {w0 w2 : World} {v : Value} {ss : List Ky} {k : Nat} {g id : Int} {x : Ky} (hx : ss[k]? = some x) (h1 : x.gr = g) (h2 : x.id ≠ id) (hb : Below w0.heap.size w0 w2)
    (ho : w2.ownsRow w0.heap.size 3 1 v ((groupOf (ss.take k) g id).length + 1) (nums .i64 (groupOf (ss.take k) g id) ++ nums .i64 [x.id])) : GrAt w0 w2 v (groupOf (ss.take (k + 1)) g id) := by
  have ht : ss.take (k + 1) = ss.take k ++ [x] := by
    have hl := (List.getElem?_eq_some_iff.1 hx).1
    rw [List.take_succ_eq_append_getElem hl, (List.getElem?_eq_some_iff.1 hx).2]
  rw [ht, groupOf_snoc, if_pos ⟨h1, h2⟩]
  exact ⟨hb, own_n ho⟩
theorem GrAt.skip {w0 wr : World} {l : Value} {ss : List Ky} {k : Nat} {g id : Int} {x : Ky} (hx : ss[k]? = some x) (h : ¬ (x.gr = g ∧ x.id ≠ id)) (hG : GrAt w0 wr l (groupOf (ss.take k) g id)) : GrAt w0 wr l (groupOf (ss.take (k + 1)) g id) := by
  have ht : ss.take (k + 1) = ss.take k ++ [x] := by
    have hl := (List.getElem?_eq_some_iff.1 hx).1
    rw [List.take_succ_eq_append_getElem hl, (List.getElem?_eq_some_iff.1 hx).2]
  rw [ht, groupOf_snoc, if_neg h, List.append_nil]
  exact hG
theorem groupOf_len (ss : List Ky) (g id : Int) : (groupOf ss g id).length ≤ ss.length := by unfold groupOf; rw [List.length_map]; exact List.length_filter_le _ _
theorem cellsK_new (w : World) (x : Ky) : (w.alloc x.obj).cell? ⟨w.heap.size, 5, none⟩ = some (.int .i64 x.gr) := by
  have h2 : (w.alloc x.obj).heap[w.heap.size]? = some x.obj := heap_alloc_new w _
  unfold Ky.obj at h2
  unfold World.cell?
  unfold Ky.obj
  simp only [h2]
  rfl
theorem gr_own {w1 wr : World} {o : Obj} {l : Value} {r : List Int} (h : GrAt (w1.alloc o) wr l r) : wr.ownsRow (w1.heap.size + 1) 3 1 l r.length (nums .i64 r) := by have := h.own; rw [World.size_alloc] at this; exact this
theorem gr_below {w1 wr : World} {o : Obj} {l : Value} {r : List Int} (h : GrAt (w1.alloc o) wr l r) : Below (w1.heap.size + 1) (w1.alloc o) wr := by have := h.below; rw [World.size_alloc] at this; exact this
theorem gr_size {w1 wr : World} {o : Obj} {l : Value} {r : List Int} (h : GrAt (w1.alloc o) wr l r) : w1.heap.size + 1 ≤ wr.heap.size := by have := h.below.size; rw [World.size_alloc] at this; exact this
theorem gr_put {w1 w2 : World} {o : Obj} {v : Value} {ss : List Ky} {k : Nat} {g id : Int} {x : Ky} (hx : ss[k]? = some x) (h1 : x.gr = g) (h2 : x.id ≠ id) (hb : Below (w1.heap.size + 1) (w1.alloc o) w2)
    (ho : w2.ownsRow (w1.heap.size + 1) 3 1 v ((groupOf (ss.take k) g id).length + 1) (nums .i64 (groupOf (ss.take k) g id) ++ nums .i64 [x.id])) : GrAt (w1.alloc o) w2 v (groupOf (ss.take (k + 1)) g id) := by
  have e := World.size_alloc w1 o
  exact GrAt.put hx h1 h2 (by rw [e]; exact hb) (by rw [e]; exact ho)
theorem group_mono {w w1 w2 : World} {u : Value} {r : List Int} (h : OwnN w2 w1.heap.size 3 .i64 u r) (h1 : Below w.heap.size w w1) (h2 : Below w1.heap.size w1 w2) : GroupPost w r (.returned u) w2 :=
  ⟨u, rfl, own_mono h h1.size, below_then h1 h2⟩
set_option maxRecDepth 100000 in
set_option maxHeartbeats 1000000 in
theorem group_any {lo hi : Nat} {v : Value} {ks srt : List Ky} (id : Int) (w : World) (hS : Sch lo hi w v ks srt) (hw : (Lit.int .i64 id).wf = true) (h64 : srt.length ≤ 64) :
    Calls Try.prog 8 #[v, .int .i64 id] w (GroupPost w (groupK ks srt id)) := by
  have HF := Aside.mk (find_any id w hS hw)
  have HS := Aside.mk hS
  have hsp : ∃ so, v = .pointer so := by rcases hS with ⟨rfl, _⟩ | ⟨g, A, c, m, rfl, _⟩ <;> exact ⟨_, rfl⟩
  obtain ⟨so, rfl⟩ := hsp
  clear hS
  cases hk : findK ks id with
  | none =>
    have hr : groupK ks srt id = [] := by unfold groupK; rw [hk]
    rw [hr]
    have hp : ∀ e w', FindPost w ks id e w' → e = .returned (.tuple #[.agg #[.int .i64 0, .bool false, .int .u8 0, .bool false, .bool false, .int .i64 0], .bool false]) ∧ Below w.heap.size w w' := by
      intro e w' h; unfold FindPost at h; rw [hk] at h; exact h
    have HP := Aside.mk hp
    obtain ⟨R, hR⟩ : ∃ R, GroupPost w [] = R := ⟨_, rfl⟩
    rw [hR]
    have HR := Aside.mk hR
    clear hp hr hk hR
    go_enter Try.func8, Try.ntmps8
    go_wp2_with fail
    (with_reducible refine HF.out.mono ?_)
    intro e w1 h1
    obtain ⟨rfl, hb1⟩ := HP.out _ _ h1
    have HB := Aside.mk hb1
    clear h1 hb1
    go_wp2
    rw [← HR.out]
    exact ⟨_, rfl, OwnN.nil _ _ _ _, below_alloc HB.out _⟩
  | some x =>
    obtain ⟨xi, xb, xk, xa, xe, xg⟩ := x
    have hp : ∀ e w', FindPost w ks id e w' → e = .returned (.tuple #[.agg #[.int .i64 xi, .bool xb, .int .u8 xk, .bool xa, .bool xe, .int .i64 xg], .bool true]) ∧ Below w.heap.size w w' := by
      intro e w' h; unfold FindPost at h; rw [hk] at h; exact h
    have HP := Aside.mk hp
    by_cases hg0 : xg = 0
    · subst hg0
      have hr : groupK ks srt id = [] := by unfold groupK; rw [hk]; rfl
      rw [hr]
      obtain ⟨R, hR⟩ : ∃ R, GroupPost w [] = R := ⟨_, rfl⟩
      rw [hR]
      have HR := Aside.mk hR
      clear hp hr hk hR
      go_enter Try.func8, Try.ntmps8
      go_wp2_with fail
      (with_reducible refine HF.out.mono ?_)
      intro e w1 h1
      obtain ⟨rfl, hb1⟩ := HP.out _ _ h1
      have HB := Aside.mk hb1
      clear h1 hb1
      go_wp2
      rw [← HR.out]
      exact ⟨_, rfl, OwnN.nil _ _ _ _, below_alloc HB.out _⟩
    · have hr : groupK ks srt id = groupOf srt xg id := by unfold groupK; rw [hk]; simp only; rw [if_neg hg0]
      rw [hr]
      have hgz : ((xg : Int) == 0) = false := by simpa using hg0
      rcases HS.out with ⟨e, h1, _⟩ | ⟨g, A, c, m, e, hA⟩
      · subst h1; simp [findK] at hk
      injection e with e
      subst e
      have HA := Aside.mk hA
      obtain ⟨R, hR⟩ : ∃ R, GroupPost w (groupOf srt xg id) = R := ⟨_, rfl⟩
      rw [hR]
      have HR := Aside.mk hR
      have g2 : (srt.length : Int) ≤ 64 := by omega
      have hcap : (srt.length : Int) ≤ (c : Int) := by have := hA.cap; omega
      clear hp hr hk hR hA hg0
      go_enter Try.func8, Try.ntmps8
      go_wp2_with fail
      (with_reducible refine HF.out.mono ?_)
      intro e w1 h1
      obtain ⟨rfl, hb1⟩ := HP.out _ _ h1
      have HB := Aside.mk hb1
      have c0 := fun o => cell_below (below_alloc (below_refl w1) o) (cell_below hb1 HA.out.c0)
      clear h1 hb1
      go_wp2_with fail
      go_loopw [28, 7] (fun i l wr => ∃ k : Nat, k ≤ srt.length ∧ i = .int .i64 k ∧ Aside (GrAt (w1.alloc (.cells #[.int .i64 xi, .bool xb, .int .u8 xk, .bool xa, .bool xe, .int .i64 xg] 25)) wr l (groupOf (srt.take k) xg id))) (fun i _ _ => srt.length - (intOf i).toNat)
      case atStart => exact ⟨0, Nat.zero_le _, rfl, ⟨below_refl _, OwnN.nil _ _ _ _⟩⟩
      case round =>
        obtain ⟨k, hk, rfl, HN⟩ := hrel
        have HW := Aside.mk (below_alloc (below_refl w1) (.cells #[.int .i64 xi, .bool xb, .int .u8 xk, .bool xa, .bool xe, .int .i64 xg] 25))
        have kb5 := fun o => cell_below (below_alloc (below_refl _) o) (cell_below HN.out.below (show (w1.alloc (.cells #[.int .i64 xi, .bool xb, .int .u8 xk, .bool xa, .bool xe, .int .i64 xg] 25)).cell? ⟨w1.heap.size, 5, none⟩ = some (.int .i64 xg) from cellsK_new w1 ⟨xi, xb, xk, xa, xe, xg⟩))
        by_cases hlt : k < srt.length
        · have hkz : (k : Int) < (srt.length : Int) := by omega
          have HSrc := Aside.mk (((HA.out.src.below HB.out).below HW.out).below HN.out.below)
          rcases hAA : A with _ | ad
          · exact absurd (HA.out.nil hAA).1 (fun e => by rw [e] at hlt; exact absurd hlt (by simp))
          subst hAA
          obtain ⟨⟨yi, yb, yk, ya, ye, yg⟩, hy⟩ : ∃ x, srt[k]? = some x := ⟨_, List.getElem?_eq_getElem hlt⟩
          obtain ⟨s0, s1, s2, s3, s4, s5⟩ := HSrc.out.six hy
          have HL := Aside.mk (Nat.le_trans (groupOf_len (srt.take k) xg id) (List.length_take_le _ _))
          by_cases e1 : yg = xg
          · subst e1
            by_cases e2 : yi = id
            · subst e2
              go_wp2
              go_roundw
              case rel => exact ⟨k + 1, by omega, by go_num, ⟨GrAt.skip hy (fun h => h.2 rfl) (HN.out.alloc _)⟩⟩
              case measure => simp [intOf]; omega
            · have q2 : ((yi : Int) != id) = true := by simpa using e2
              have q2' : ((yi : Int) == id) = false := by simpa using e2
              go_wp2_with (at_builtin; go_must (refine app_lit2 (w0 := w1.alloc (.cells #[.int .i64 xi, .bool xb, .int .u8 xk, .bool xa, .bool xe, .int .i64 yg] 25)) (wr.heap.size + 1) (w1.heap.size + 1) (World.size_alloc _ _).symm rfl (.tmp 43) (.tmp 46) 32 3 (.int .i64 0) 1 8 _ rfl Try.underlying32 info3 rfl (by decide) u7 (groupOf (srt.take k) yg id).length 1 (nums .i64 (groupOf (srt.take k) yg id)) (nums .i64 [yi]) rfl rfl rfl rfl (nums_one _ _) (gr_own (HN.out.alloc _)) (gr_below (HN.out.alloc _)) (gr_size (HN.out.alloc _)) (by have := HL.out; omega) (by have := HL.out; omega) ?_))
              intro v1 w2 hown hbel hg hat
              have HZ := Aside.mk (gr_put hy rfl e2 hbel hown)
              clear hown hbel hg hat
              go_wp2
              go_roundw
              case rel => exact ⟨k + 1, by omega, by go_num, HZ⟩
              case measure => simp [intOf]; omega
          · have q1 : ((yg : Int) == xg) = false := by simpa using e1
            go_wp2
            go_roundw
            case rel => exact ⟨k + 1, by omega, by go_num, ⟨GrAt.skip hy (fun h => e1 h.1) (HN.out.alloc _)⟩⟩
            case measure => simp [intOf]; omega
        · obtain rfl : k = srt.length := by omega
          go_wp2
          rw [← HR.out]
          have hN := HN.out
          rw [List.take_length] at hN
          exact group_mono hN.own (below_alloc HB.out _) hN.below
end Go.Proofs.Ytaejlgdmalhhnaa
