/- SchemaKeys' walk (printed by gen_keys.py). -/
import Derived.Test.YtaejlgdmalhhnaaDoorMf
set_option linter.unusedVariables false
set_option linter.unusedSimpArgs false
namespace Go.Proofs.YtaejlgdmalhhnaaDoor
open Go.RowKit Go.Maps

theorem setCell_sz (w : World) (a : Addr) (u : Value) : (w.setCell a u).heap.size = w.heap.size := by simp [World.setCell]
/-- What the law has while it writes over the row that it handed in. -/
structure InAt (w w2 wr : World) (lo hi : Nat) (A : Option Addr) (c : Nat) (n : Nat) : Prop where
  below : Below w.heap.size w wr
  stays : Stays lo hi w2 wr
  row : ∃ l : List Ky, l.length = n ∧ wr.ownsRow w.heap.size 97 6 (.slice A n c) n (kcells l)
  far : ∀ a, A = some a → a.block < lo
theorem InAt.put {w w2 wr : World} {lo hi : Nat} {ad : Addr} {c n : Nat} (h : InAt w w2 wr lo hi (some ad) c n) {l : List Ky} {k : Nat} {x : Ky} (hn : l.length = n) (hr : wr.ownsRow w.heap.size 97 6 (.slice (some ad) n c) n (kcells l)) (hx : l[k]? = some x) (z : Int) :
    InAt w w2 (wr.setCell (ad.add (k * 6)) (.int .i64 z)) lo hi (some ad) c n := by
  have hk := (List.getElem?_eq_some_iff.1 hx).1
  refine ⟨row_below hr h.below (k * 6) _ rfl _, h.stays.trans (Stays.setCell wr (.int .i64 z) (.inl ?_)), ⟨l.set k { x with id := z }, by rw [List.length_set]; exact hn, ?_⟩, h.far⟩
  · rw [addr_block]; exact h.far _ rfl
  · rw [kcells_set l k { x with id := z } hk x hx 0 (.int .i64 z) rfl (by omega)]
    exact row_put0 hr (k * 6) _
/-- A row of the call's own, the first k written over, nil let in. -/
def LAt (w0 w : World) (f : Ky → Ky) (A : Option Addr) (c : Nat) (l : List Ky) (k : Nat) : Prop := Below w0.heap.size w0 w ∧ ∀ ad, A = some ad → KOver w0 w f ad c l k
def GOver (w0 w : World) (A : Option Addr) (c : Nat) (l : List Int) (k : Nat) : Prop := Below w0.heap.size w0 w ∧ ∀ ad, A = some ad → NOver w0 w ad c l k
def zk (x : Ky) : Ky := { x with kd := 0 }
theorem nil_of_own {w : World} {B n c size : Nat} {e : TypeId} {xs : List Value} (h : w.ownsRow B e size (.slice none n c) n xs) : n = 0 := by
  rcases h.2 with ⟨h1, h2⟩ | ⟨g, cap, cur, h1, _⟩
  · exact h2
  · cases h1
set_option maxRecDepth 100000 in
theorem keys_known (A : Option Addr) (c : Nat) (ks : List Ky) (id : Int) (v : Val) (w : World) (hl : ks.length ≤ 9223372036854775807) (h : 200 < ks.length ∨ 1000 < v.s.size) (hs : v.s.size ≤ 9223372036854775807) :
    Calls Tryd.prog 14 #[.slice A ks.length c, .int .i64 id, v.v] w fun e w' => e = .returned (.bool true) ∧ Below w.heap.size w w' := by
  have HK := Aside.mk known4_any
  have HX := Aside.mk (Box.new w v)
  obtain ⟨k, n, f, t⟩ := v
  have HB0 := Aside.mk (below_alloc (below_refl w) (Val.obj ⟨k, n, f, t⟩))
  unfold Val.obj at HX HB0
  unfold Val.v
  simp only at h hs
  have g1 : (ks.length : Int) ≤ 9223372036854775807 := by omega
  by_cases h1 : 200 < ks.length
  · have q1 : (200 : Int) < (ks.length : Int) := by omega
    clear h h1 hl hs
    go_enter Tryd.func14, Tryd.ntmps14
    go_wp2_with fail
    (with_reducible refine (HK.out _).mono ?_)
    rintro e w2 ⟨rfl, hb2⟩
    have HB := Aside.mk (below_then HB0.out hb2)
    clear hb2
    go_wp2
    go_ret
    exact ⟨rfl, HB.out⟩
  · have q1 : (ks.length : Int) ≤ 200 := by omega
    have q2 : (1000 : Int) < (t.size : Int) := by rcases h with h | h <;> omega
    have g2 : (t.size : Int) ≤ 9223372036854775807 := by omega
    obtain ⟨c0, c1, c2, c3⟩ := HX.out
    simp only at c0 c1 c2 c3
    clear h h1 hl hs
    go_enter Tryd.func14, Tryd.ntmps14
    go_wp2_with fail
    (with_reducible refine (HK.out _).mono ?_)
    rintro e w2 ⟨rfl, hb2⟩
    have HB := Aside.mk (below_then HB0.out hb2)
    clear hb2
    go_wp2
    go_ret
    exact ⟨rfl, HB.out⟩
set_option maxRecDepth 100000 in
set_option maxHeartbeats 4000000 in
theorem keys_no (A : Option Addr) (c : Nat) (ks : List Ky) (id : Int) (v : Val) (w : World) (hc : ks.length ≤ c) (hA : A = none → c = 0) (hS : KSrc w A ks) (hwf : ∀ k ∈ ks, (Lit.int .i64 k.id).wf = true) (hl : ks.length ≤ 200) (hs : v.s.size ≤ 1000) (hok : okKs ks = false) :
    Calls Tryd.prog 14 #[.slice A ks.length c, .int .i64 id, v.v] w fun e w' => e = .returned (.bool true) ∧ Below w.heap.size w w' := by
  have HK := Aside.mk known4_any
  have HX := Aside.mk (Box.new w v)
  obtain ⟨k, n, f, t⟩ := v
  have HB0 := Aside.mk (below_alloc (below_refl w) (Val.obj ⟨k, n, f, t⟩))
  unfold Val.obj at HX HB0
  unfold Val.v
  simp only at hs
  have q1 : (ks.length : Int) ≤ 200 := by omega
  have q2 : (t.size : Int) ≤ 1000 := by omega
  have g2 : (ks.length : Int) ≤ (c : Int) := by omega
  obtain ⟨c0, c1, c2, c3⟩ := HX.out
  simp only at c0 c1 c2 c3
  have HC := Aside.mk (((hS.cells).below HB0.out).below (below_alloc (below_refl _) (.cells #[] 97)))
  have H6 := Aside.mk (show ((w.alloc (.cells #[.int .u8 k, .int .i64 n, .int .u64 (f : Int), .string t] 56)).alloc (.cells #[] 97)).ownsRow w.heap.size 97 6 (.slice (some ⟨w.heap.size + 1, 0, none⟩) 0 0) 0 (kcells []) from by
    have h := own_lit6 (w.alloc (.cells #[.int .u8 k, .int .i64 n, .int .u64 (f : Int), .string t] 56)) w.heap.size HB0.out.size
    rw [World.size_alloc] at h
    exact h)
  have HS := Aside.mk hS
  have HL := Aside.mk hl
  have HO := Aside.mk hok
  have HWf := Aside.mk hwf
  have HCc := Aside.mk hc
  have HM := Aside.mk (fun (W : World) (hb : Below w.heap.size w W) => dMay_any A c ks W hc (by omega) (hS.below hb))
  rw [hok] at HM
  clear hl hs hok hc hA hS hwf
  go_enter Tryd.func14, Tryd.ntmps14
  go_wp2_with (at_builtin; go_must (refine app_src (w0 := w) w.heap.size rfl (.tmp 32) (.tmp 33) 35 97 (Ky.v ⟨0, false, 0, false, false, 0⟩) 6 24 rfl Tryd.underlying35 info97 rfl (by decide) _ 0 ks.length c A (kcells []) (kcells ks) rfl rfl (kcells_length ks) (kcells_one ks) H6.out HC.out (below_alloc HB0.out _) (below_alloc HB0.out _).size (by have := HL.out; omega) (by have := HL.out; omega) ?_))
  intro v1 w1 hown hbel hg hat
  have HO0 := Aside.mk (show w1.ownsRow w.heap.size 97 6 v1 ks.length (kcells ks) by rw [kcells_nil, List.nil_append] at hown; exact hown)
  obtain ⟨A1, c1, rfl, hc1, hA1, hS1⟩ := src_of_ownK HO0.out
  have HO1 := HO0
  clear HO0
  have HB1 := Aside.mk hbel
  have N := Aside.mk (new_any A1 c1 ks w1 hc1 hS1 hA1 (by have := HL.out; omega) HWf.out)
  have g3 : (ks.length : Int) ≤ (c1 : Int) := by omega
  clear hown hbel hg hat hc1 hA1 hS1
  go_wp2_with fail
  (with_reducible refine N.out.mono ?_)
  rintro e w2 ⟨hb2, h2⟩
  rw [HO.out] at h2
  obtain rfl : e = .returned (.tuple #[.pointer none, .int .i64 3]) := h2
  have I0 := Aside.mk (show InAt w w2 w2 w1.heap.size w1.heap.size A1 c1 ks.length from ⟨below_then HB1.out hb2, ⟨Nat.le_refl _, fun k h1 h2 => by omega⟩, ⟨ks, rfl, own_below HO1.out hb2⟩, fun a ha => own_blk HO1.out ha⟩)
  clear hb2
  go_wp2_with fail
  go_loopw [42] (fun i wr => ∃ k : Nat, k ≤ ks.length ∧ i = .int .i64 k ∧ Aside (InAt w w2 wr w1.heap.size w1.heap.size A1 c1 ks.length)) (fun i _ => ks.length - (intOf i).toNat)
  case atStart => exact ⟨0, Nat.zero_le _, rfl, I0⟩
  case round =>
    obtain ⟨k, hk, rfl, HN⟩ := hrel
    by_cases hlt : k < ks.length
    · have hkz : (k : Int) < (ks.length : Int) := by omega
      obtain ⟨l, hln, hrow⟩ := HN.out.row
      rcases hAA : A1 with _ | ad
      · rw [hAA] at hrow; exact absurd (nil_of_own hrow) (by omega)
      subst hAA
      obtain ⟨⟨xi, xb, xk, xa, xe, xg⟩, hx⟩ : ∃ x, l[k]? = some x := ⟨_, List.getElem?_eq_getElem (by omega)⟩
      have s0 : wr.cell? (ad.add (k * 6)) = some (.int .i64 xi) := by
        have hr := hrow
        rw [← hln] at hr
        obtain ⟨A', c', e', _, _, hs'⟩ := src_of_ownK hr
        injection e' with e1 e2 e3
        subst e1
        exact (hs'.six hx).1
      have z0 : wr.frozen? (ad.add (k * 6)) = false := row_fz0 hrow (k * 6)
      have HP := Aside.mk (HN.out.put hln hrow hx)
      clear hx hrow hln
      go_wp2
      go_roundw
      case rel => exact ⟨k + 1, by omega, by go_num, ⟨HP.out _⟩⟩
      case measure => simp [intOf]; omega
    · have hkk : k = ks.length := by omega
      have HB3 := Aside.mk HN.out.below
      have M := Aside.mk (HM.out wr HB3.out)
      clear hkk
      go_wp2_with fail
      (with_reducible refine M.out.mono ?_)
      rintro e w3 ⟨rfl, hb3⟩
      have HB4 := Aside.mk (below_then HB3.out hb3)
      clear hb3
      go_wp2_with fail
      (with_reducible refine (HK.out _).mono ?_)
      rintro e w4 ⟨rfl, hb4⟩
      have HB5 := Aside.mk (below_then HB4.out hb4)
      clear hb4
      go_wp2
      go_ret
      exact ⟨rfl, HB5.out⟩
theorem kbox (x : Ky) {w W : World} (h : Below (w.alloc x.obj).heap.size (w.alloc x.obj) W) :
    W.cell? ⟨w.heap.size, 0, none⟩ = some (.int .i64 x.id) ∧ W.cell? ⟨w.heap.size, 1, none⟩ = some (.bool x.bl) ∧ W.cell? ⟨w.heap.size, 2, none⟩ = some (.int .u8 x.kd) ∧ W.cell? ⟨w.heap.size, 3, none⟩ = some (.bool x.af) ∧ W.cell? ⟨w.heap.size, 4, none⟩ = some (.bool x.be) ∧ W.cell? ⟨w.heap.size, 5, none⟩ = some (.int .i64 x.gr) :=
  ⟨cell_below h (cell_at (heap_alloc_new w _) rfl), cell_below h (cell_at (heap_alloc_new w _) rfl), cell_below h (cell_at (heap_alloc_new w _) rfl), cell_below h (cell_at (heap_alloc_new w _) rfl), cell_below h (cell_at (heap_alloc_new w _) rfl), cell_below h (cell_at (heap_alloc_new w _) rfl)⟩
/-- Two rows of numbers, the first one written over so far. -/
structure GAt2 (w0 w : World) (B2 : Nat) (gA : Option Addr) (gc : Nat) (hA : Option Addr) (hc : Nat) (l : List Int) (k : Nat) : Prop where
  below : Below w0.heap.size w0 w
  g : ∀ ad, gA = some ad → NOver w0 w ad gc l k
  h : w.ownsRow B2 3 1 (.slice hA l.length hc) l.length (nums .i64 l)
  gb : ∀ a, gA = some a → a.block < B2
theorem GAt2.later {w0 w w' : World} {B2 : Nat} {gA : Option Addr} {gc : Nat} {hA : Option Addr} {hc : Nat} {l : List Int} {k : Nat} (h : GAt2 w0 w B2 gA gc hA hc l k) (hb : Below w.heap.size w w') : GAt2 w0 w' B2 gA gc hA hc l k :=
  ⟨below_then h.below hb, fun ad e => ⟨below_then h.below hb, own_below (h.g ad e).own hb⟩, own_below h.h hb, h.gb⟩
theorem GAt2.put {w0 w : World} {B2 : Nat} {ad : Addr} {gc : Nat} {hA : Option Addr} {hc : Nat} {l : List Int} {k : Nat} (h : GAt2 w0 w B2 (some ad) gc hA hc l k) {x : Int} (hx : l[k]? = some x) : GAt2 w0 (w.setCell (ad.add k) (.int .i64 (-1))) B2 (some ad) gc hA hc l (k + 1) := by
  have h1 := (h.g ad rfl).put hx
  refine ⟨h1.below, fun a e => by cases e; exact h1, own_stay h.h (fun b hb => ?_), h.gb⟩
  have h2 := own_base h.h b hb
  have h3 := h.gb ad rfl
  exact Below.heap_setCell _ _ _ _ (by rw [addr_block]; omega)
theorem GAt2.cell {w0 w : World} {B2 : Nat} {gA : Option Addr} {gc : Nat} {ad : Addr} {hc : Nat} {l : List Int} {k : Nat} (h : GAt2 w0 w B2 gA gc (some ad) hc l k) {x : Int} (hx : l[k]? = some x) : w.cell? (ad.add k) = some (.int .i64 x) := by
  obtain ⟨g, cur, rfl, _⟩ := row_at h.h
  exact World.ownsRow.cells h.h (g := g) rfl k (.int .i64 x) (by unfold nums; rw [List.getElem?_map, hx]; rfl)
set_option maxRecDepth 100000 in
set_option maxHeartbeats 8000000 in
theorem keys_yes (A : Option Addr) (c : Nat) (ks : List Ky) (id : Int) (v : Val) (w : World) (hc : ks.length ≤ c) (hA : A = none → c = 0) (hS : KSrc w A ks) (hwf : ∀ k ∈ ks, (Lit.int .i64 k.id).wf = true) (hl : ks.length ≤ 200) (hs : v.s.size ≤ 1000) (hf : v.f < 18446744073709551616) (hw : (Lit.int .i64 id).wf = true) (hT : Lib.Utf8Tabs 1 2 w) (hok : okKs ks = true) :
    Calls Tryd.prog 14 #[.slice A ks.length c, .int .i64 id, v.v] w fun e w' => e = .returned (.bool true) ∧ Below w.heap.size w w' := by
  have HK := Aside.mk known4_any
  have HX := Aside.mk (Box.new w v)
  have hokk := hok
  unfold okKs at hokk
  rw [Bool.and_eq_true, decide_eq_true_iff, decide_eq_true_iff] at hokk
  obtain ⟨h64, hpre⟩ := hokk
  have HM := Aside.mk (fun (W : World) (hb : Below w.heap.size w W) => dMay_any A c ks W hc (by omega) (hS.below hb))
  rw [hok] at HM
  have HKs := Aside.mk (fun (srt : List Ky) (hp : srt.Perm ks) (hr : risesK srt) (W : World) (hb : Below w.heap.size w W) => dKeys_any A c ks srt W hc (by rw [hp.length_eq]; exact h64) (hS.below hb) hp hr hpre.2 hpre.1)
  have HGs := Aside.mk (fun (srt : List Ky) (hp : srt.Perm ks) (hr : risesK srt) (W : World) (hb : Below w.heap.size w W) => dGroup_any A c ks srt id W hc (by rw [hp.length_eq]; exact h64) (hS.below hb) hp hr hpre.2 hpre.1)
  have HFd := Aside.mk (fun (W : World) (hb : Below w.heap.size w W) => dFind_any A c ks id W hc (by omega) (hS.below hb))
  have HFt := Aside.mk (fun (W : World) (hb : Below w.heap.size w W) => dFits_any A c ks id v W hc (by omega) (hS.below hb) hf (by omega))
  have HCt := Aside.mk (fun (W : World) (lo hi : Nat) (so : Option Addr) (srt : List Ky) (h : Sch lo hi W (.pointer so) ks srt) (hb : Below w.heap.size w W) => fits_any id v W h hw (tabs_below hT hb))
  obtain ⟨⟨fi, fb, fk, fa, fe, fg⟩, hfk⟩ : ∃ q, (findK ks id).getD zeroK = q := ⟨_, rfl⟩
  obtain ⟨fok, hfok⟩ : ∃ o, (findK ks id).isSome = o := ⟨_, rfl⟩
  have HPf := Aside.mk (show ∀ W e W', FindPost W ks id e W' → e = .returned (.tuple #[.agg #[.int .i64 fi, .bool fb, .int .u8 fk, .bool fa, .bool fe, .int .i64 fg], .bool fok]) ∧ Below W.heap.size W W' by
    intro W e W' h
    unfold FindPost at h
    rw [hfk, hfok] at h
    exact h)
  have HW := Aside.mk hw
  obtain ⟨vk, vn, vf, vt⟩ := v
  obtain ⟨ft, hft⟩ : ∃ ft, fitsK ks id ⟨vk, vn, vf, vt⟩ = ft := ⟨_, rfl⟩
  rw [hft] at HFt HCt
  have HB0 := Aside.mk (below_alloc (below_refl w) (Val.obj ⟨vk, vn, vf, vt⟩))
  unfold Val.obj at HX HB0
  unfold Val.v at HFt HCt ⊢
  simp only at hs HX HB0 HFt HCt
  have q1 : (ks.length : Int) ≤ 200 := by omega
  have q2 : (vt.size : Int) ≤ 1000 := by omega
  have g2 : (ks.length : Int) ≤ (c : Int) := by omega
  obtain ⟨c0, c1, c2, c3⟩ := HX.out
  simp only at c0 c1 c2 c3
  have HC := Aside.mk (((hS.cells).below HB0.out).below (below_alloc (below_refl _) (.cells #[] 97)))
  have H6 := Aside.mk (show ((w.alloc (.cells #[.int .u8 vk, .int .i64 vn, .int .u64 (vf : Int), .string vt] 56)).alloc (.cells #[] 97)).ownsRow (w.alloc (.cells #[.int .u8 vk, .int .i64 vn, .int .u64 (vf : Int), .string vt] 56)).heap.size 97 6 (.slice (some ⟨w.heap.size + 1, 0, none⟩) 0 0) 0 (kcells []) from by
    have h := own_lit6 (w.alloc (.cells #[.int .u8 vk, .int .i64 vn, .int .u64 (vf : Int), .string vt] 56)) (w.alloc (.cells #[.int .u8 vk, .int .i64 vn, .int .u64 (vf : Int), .string vt] 56)).heap.size (Nat.le_refl _)
    rw [World.size_alloc] at h ⊢
    exact h)
  have HL := Aside.mk hl
  have HL64 := Aside.mk h64
  have HPre := Aside.mk hpre
  have HO := Aside.mk hok
  have HWf := Aside.mk hwf
  clear hl hs hok hc hA hS hwf h64 hpre hw hf hT hft hfk hfok
  go_enter Tryd.func14, Tryd.ntmps14
  go_wp2_with (at_builtin; go_must (refine app_src (w0 := w.alloc (.cells #[.int .u8 vk, .int .i64 vn, .int .u64 (vf : Int), .string vt] 56)) (w.alloc (.cells #[.int .u8 vk, .int .i64 vn, .int .u64 (vf : Int), .string vt] 56)).heap.size rfl (.tmp 32) (.tmp 33) 35 97 (Ky.v ⟨0, false, 0, false, false, 0⟩) 6 24 rfl Tryd.underlying35 info97 rfl (by decide) _ 0 ks.length c A (kcells []) (kcells ks) rfl rfl (kcells_length ks) (kcells_one ks) H6.out HC.out (below_alloc (below_refl _) _) (below_alloc (below_refl _) _).size (by have := HL.out; omega) (by have := HL.out; omega) ?_))
  intro v1 w1 hown hbel hg hat
  have HO0 := Aside.mk (show w1.ownsRow (w.alloc (.cells #[.int .u8 vk, .int .i64 vn, .int .u64 (vf : Int), .string vt] 56)).heap.size 97 6 v1 ks.length (kcells ks) by rw [kcells_nil, List.nil_append] at hown; rw [World.size_alloc]; exact hown)
  obtain ⟨A1, c1, rfl, hc1, hA1, hS1⟩ := src_of_ownK HO0.out
  have HO1 := HO0
  clear HO0
  have HB1 := Aside.mk (show Below (w.alloc (.cells #[.int .u8 vk, .int .i64 vn, .int .u64 (vf : Int), .string vt] 56)).heap.size (w.alloc (.cells #[.int .u8 vk, .int .i64 vn, .int .u64 (vf : Int), .string vt] 56)) w1 by rw [World.size_alloc]; exact hbel)
  clear HC H6 c0 c2 c3
  generalize w.alloc (.cells #[.int .u8 vk, .int .i64 vn, .int .u64 (vf : Int), .string vt] 56) = wv at HO1 HB1 HX HB0
  have N := Aside.mk (new_any A1 c1 ks w1 hc1 hS1 hA1 (by have := HL.out; omega) HWf.out)
  have g3 : (ks.length : Int) ≤ (c1 : Int) := by omega
  clear hown hbel hg hat hc1 hA1 hS1
  go_wp2_with fail
  (with_reducible refine N.out.mono ?_)
  rintro e w2 ⟨hb2, h2⟩
  rw [HO.out, if_pos rfl] at h2
  obtain ⟨sv, srt, rfl, hSc, hv, hp, hsrt⟩ := h2
  have hsp : ∃ so, sv = .pointer so := by rcases hSc with ⟨rfl, _⟩ | ⟨g, A, c, m, rfl, _⟩ <;> exact ⟨_, rfl⟩
  obtain ⟨so, rfl⟩ := hsp
  have HSc := Aside.mk hSc
  have HP := Aside.mk hp
  have HR := Aside.mk (rises_of hp hsrt HPre.out.2)
  have HLn := Aside.mk hp.length_eq
  have I0 := Aside.mk (show InAt wv w2 w2 w1.heap.size w2.heap.size A1 c1 ks.length from ⟨below_then HB1.out hb2, ⟨Nat.le_refl _, fun k h1 h2 => rfl⟩, ⟨ks, rfl, own_below HO1.out hb2⟩, fun a ha => own_blk HO1.out ha⟩)
  clear hb2 hSc hp hsrt hv
  go_wp2_with fail
  go_loopw [42] (fun i wr => ∃ k : Nat, k ≤ ks.length ∧ i = .int .i64 k ∧ Aside (InAt wv w2 wr w1.heap.size w2.heap.size A1 c1 ks.length)) (fun i _ => ks.length - (intOf i).toNat)
  case atStart => exact ⟨0, Nat.zero_le _, rfl, I0⟩
  case round =>
    obtain ⟨k, hk, rfl, HN⟩ := hrel
    by_cases hlt : k < ks.length
    · have hkz : (k : Int) < (ks.length : Int) := by omega
      obtain ⟨l, hln, hrow⟩ := HN.out.row
      rcases hAA : A1 with _ | ad
      · rw [hAA] at hrow; exact absurd (nil_of_own hrow) (by omega)
      subst hAA
      obtain ⟨⟨xi, xb, xk, xa, xe, xg⟩, hx⟩ : ∃ x, l[k]? = some x := ⟨_, List.getElem?_eq_getElem (by omega)⟩
      have s0 : wr.cell? (ad.add (k * 6)) = some (.int .i64 xi) := by
        have hr := hrow
        rw [← hln] at hr
        obtain ⟨A', c', e', _, _, hs'⟩ := src_of_ownK hr
        injection e' with e1 e2 e3
        subst e1
        exact (hs'.six hx).1
      have z0 : wr.frozen? (ad.add (k * 6)) = false := row_fz0 hrow (k * 6)
      have HP := Aside.mk (HN.out.put hln hrow hx)
      clear hx hrow hln
      go_wp2
      go_roundw
      case rel => exact ⟨k + 1, by omega, by go_num, ⟨HP.out _⟩⟩
      case measure => simp [intOf]; omega
    · have HB3 := Aside.mk HN.out.below
      have M := Aside.mk (HM.out wr (below_then HB0.out HB3.out))
      have HS3 := Aside.mk (HSc.out.stays HN.out.stays)
      have hnz : ¬ ((k : Int) < (ks.length : Int)) := by omega
      clear HN hlt
      go_wp2_with fail
      (with_reducible refine M.out.mono ?_)
      rintro e w3 ⟨rfl, hb3⟩
      have HB4 := Aside.mk (below_then HB3.out hb3)
      have HS4 := Aside.mk (HS3.out.below hb3)
      have HLe := Aside.mk (len_any w3 HS4.out)
      rw [HLn.out] at HLe
      clear hb3
      go_wp2_with fail
      (with_reducible refine HLe.out.mono ?_)
      rintro e w4 ⟨rfl, rfl⟩
      have HKy := Aside.mk (HKs.out srt HP.out HR.out w4 (below_then HB0.out HB4.out))
      go_wp2_with fail
      (with_reducible refine HKy.out.mono ?_)
      rintro e w5 ⟨wv', rfl, ho5, hb5⟩
      obtain ⟨wA, wc, rfl, hwc, _, hwS⟩ := src_of_ownK ho5
      have HB5 := Aside.mk (below_then HB4.out hb5)
      have HS5 := Aside.mk (HS4.out.below hb5)
      have HW5 := Aside.mk hwS
      have hln := HLn.out
      have g6 : (srt.length : Int) ≤ (wc : Int) := by omega
      have g7 : (srt.length : Int) ≤ 64 := by have := HL64.out; omega
      clear ho5 hb5 hwc hwS hln I0
      go_wp2_with fail
      go_loopw [12] (fun i wr => ∃ r : Nat, r ≤ 2 ∧ i = .int .i64 r ∧ Aside (Below w5.heap.size w5 wr)) (fun i _ => 2 - (intOf i).toNat)
      case atStart => exact ⟨0, by omega, rfl, ⟨below_refl w5⟩⟩
      case round =>
        obtain ⟨r, hr2, rfl, HN⟩ := hrel
        by_cases hlr : r < 2
        rotate_left
        · have hrr : r = 2 := by omega
          subst hrr
          have HBx := Aside.mk (below_then HB0.out (below_then HB5.out HN.out))
          clear HN hlr
          go_wp2_with fail
          (with_reducible refine (HK.out _).mono ?_)
          rintro e w6 ⟨rfl, hb6⟩
          have HBy := Aside.mk (below_then HBx.out hb6)
          clear hb6
          go_wp2
          go_ret
          exact ⟨rfl, HBy.out⟩
        have hrz : (r : Int) < 2 := by omega
        have HB6 := Aside.mk (below_then HB5.out HN.out)
        have HS6 := Aside.mk (HS5.out.below HN.out)
        have HW6 := Aside.mk (HW5.out.below HN.out)
        have HKy6 := Aside.mk (keys_any wr HS6.out (by omega))
        go_wp2_with fail
        (with_reducible refine HKy6.out.mono ?_)
        rintro e w6 ⟨lv, rfl, ho6, hb6⟩
        obtain ⟨lA, lc, rfl, hlc, _, hlS⟩ := src_of_ownK ho6
        have HL0 : Aside (LAt wr w6 zk lA lc srt 0) := ⟨hb6, fun ad h => by subst h; exact ⟨hb6, by rw [overw_zero]; exact ho6⟩⟩
        have HLN : Aside (lA = none → srt = []) := ⟨hlS.1⟩
        have g8 : (srt.length : Int) ≤ (lc : Int) := by omega
        clear ho6 hb6 hlc hlS
        go_wp2_with fail
        go_loopw [90] (fun i wx => ∃ m : Nat, m ≤ srt.length ∧ i = .int .i64 m ∧ Aside (LAt wr wx zk lA lc srt m)) (fun i _ => srt.length - (intOf i).toNat)
        case atStart => exact ⟨0, Nat.zero_le _, rfl, HL0⟩
        case round =>
          obtain ⟨m, hm, rfl, HM6⟩ := hrel
          by_cases hlm : m < srt.length
          · have hmz : (m : Int) < (srt.length : Int) := by omega
            obtain ⟨⟨xi, xb, xk, xa, xe, xg⟩, hx⟩ : ∃ x, srt[m]? = some x := ⟨_, List.getElem?_eq_getElem hlm⟩
            have hne : srt ≠ [] := fun e => by rw [e] at hx; cases hx
            rcases hAA : lA with _ | la
            · exact absurd (HLN.out hAA) hne
            rcases hBB : wA with _ | wa
            · exact absurd (HW5.out.1 hBB) hne
            subst hAA hBB
            have HO6 := Aside.mk (HM6.out.2 la rfl)
            obtain ⟨s0, s1, s2, s3, s4, s5⟩ := HO6.out.six hx
            obtain ⟨t0, t1, t2, t3, t4, t5⟩ := (HW6.out.below HM6.out.1).six hx
            have hq := fun (W : World) => ne_key_self ⟨xi, xb, xk, xa, xe, xg⟩ W
            have HX6 := Aside.mk hx
            simp only at s0 s1 s2 s3 s4 s5 t0 t1 t2 t3 t4 t5 hq
            clear hx hne
            go_wp2_with fail
            go_quiet (fail)
            have HD := Aside.mk (HO6.out.drew nq)
            generalize wr.drewN nq = w7 at HD ⊢
            clear s0 s1 s2 s3 s4 s5 t0 t1 t2 t3 t4 t5 hq HM6 HO6
            obtain ⟨_, _, d2, _⟩ := HD.out.six HX6.out
            have z2 := row_fz HD.out.own (m * 6) 2
            have HPt := Aside.mk (HD.out.put HX6.out (i := 2) (u := .int .u8 0) (by omega) rfl)
            go_wp2
            go_roundw
            case rel => exact ⟨m + 1, by omega, by go_num, ⟨HPt.out.below, fun ad h => by cases h; exact HPt.out⟩⟩
            case measure => simp [intOf]; omega
          · have hmn : ¬ ((m : Int) < (srt.length : Int)) := by omega
            have HBr := Aside.mk (below_then HN.out HM6.out.1)
            have HB7 := Aside.mk (below_then HB6.out HM6.out.1)
            have HS7 := Aside.mk (HS6.out.below HM6.out.1)
            have HFn := Aside.mk (find_any id wr HS7.out HW.out)
            clear hlm HM6 HN
            go_wp2_with fail
            (with_reducible refine HFn.out.mono ?_)
            intro e w7 h7
            obtain ⟨rfl, hb7⟩ := HPf.out _ _ _ h7
            clear h7
            have HA7 := Aside.mk (below_alloc hb7 (.cells #[.int .i64 fi, .bool fb, .int .u8 fk, .bool fa, .bool fe, .int .i64 fg] 97))
            have HFd7 := Aside.mk (HFd.out _ (below_then HB0.out (below_then HB7.out HA7.out)))
            clear hb7
            go_wp2_with fail
            (with_reducible refine HFd7.out.mono ?_)
            intro e w8 h8
            obtain ⟨rfl, hb8⟩ := HPf.out _ _ _ h8
            clear h8
            have HA8 := Aside.mk (below_alloc hb8 (.cells #[.int .i64 fi, .bool fb, .int .u8 fk, .bool fa, .bool fe, .int .i64 fg] 97))
            have HG8 := Aside.mk (group_any id _ (HS7.out.below (below_then HA7.out HA8.out)) HW.out (by omega))
            clear hb8
            go_wp2_with fail
            (with_reducible refine HG8.out.mono ?_)
            rintro e w9 ⟨gv, rfl, ho9, hb9⟩
            have HA9 := Aside.mk hb9
            have HG9 := Aside.mk (HGs.out srt HP.out HR.out w9 (below_then HB0.out (below_then HB7.out (below_then HA7.out (below_then HA8.out hb9)))))
            obtain ⟨gA, gc, rfl, hgc, _⟩ := ho9.reads
            have HO9 := Aside.mk ho9
            clear hb9 ho9
            go_wp2_with fail
            (with_reducible refine HG9.out.mono ?_)
            rintro e w10 ⟨hv, rfl, ho10, hb10⟩
            obtain ⟨hA, hc, rfl, hhc, _⟩ := ho10.reads
            have HT10 := Aside.mk (below_then HA8.out (below_then HA9.out hb10))
            have HT7 := Aside.mk (below_then HA7.out HT10.out)
            have HV := Aside.mk (below_then HB7.out HT7.out)
            have HBr10 := Aside.mk (below_then HBr.out HT7.out)
            obtain ⟨gr, hgr⟩ : ∃ gr, groupK ks srt id = gr := ⟨_, rfl⟩
            rw [hgr] at ho10 HO9 hgc hhc ⊢
            have HGN : Aside (gA = none → gr.length = 0) := ⟨fun e => by have h := HO9.out; rw [e] at h; exact nil_of_own h⟩
            have H0g : Aside (GAt2 (w8.alloc (.cells #[.int .i64 fi, .bool fb, .int .u8 fk, .bool fa, .bool fe, .int .i64 fg] 97)) w10 w9.heap.size gA gc hA hc gr 0) := ⟨below_then HA9.out hb10, fun ad h => by subst h; exact ⟨below_then HA9.out hb10, by rw [overw_zero]; exact own_below HO9.out hb10⟩, ho10, fun a ha => own_blk HO9.out ha⟩
            have hgl : gr.length ≤ 9223372036854775807 := by
              have h := ho10.reads
              obtain ⟨_, _, _, _, h⟩ := h
              exact h.1
            have g9 : (gr.length : Int) ≤ (gc : Int) := by omega
            have g10 : (gr.length : Int) ≤ (hc : Int) := by omega
            have g11 : (gr.length : Int) ≤ 9223372036854775807 := by omega
            have HB31 := Aside.mk (show (w10.cell? ⟨w7.heap.size, 0, none⟩ = some (.int .i64 fi) ∧ w10.cell? ⟨w7.heap.size, 1, none⟩ = some (.bool fb) ∧ w10.cell? ⟨w7.heap.size, 2, none⟩ = some (.int .u8 fk) ∧ w10.cell? ⟨w7.heap.size, 3, none⟩ = some (.bool fa) ∧ w10.cell? ⟨w7.heap.size, 4, none⟩ = some (.bool fe) ∧ w10.cell? ⟨w7.heap.size, 5, none⟩ = some (.int .i64 fg)) ∧ (w10.cell? ⟨w8.heap.size, 0, none⟩ = some (.int .i64 fi) ∧ w10.cell? ⟨w8.heap.size, 1, none⟩ = some (.bool fb) ∧ w10.cell? ⟨w8.heap.size, 2, none⟩ = some (.int .u8 fk) ∧ w10.cell? ⟨w8.heap.size, 3, none⟩ = some (.bool fa) ∧ w10.cell? ⟨w8.heap.size, 4, none⟩ = some (.bool fe) ∧ w10.cell? ⟨w8.heap.size, 5, none⟩ = some (.int .i64 fg)) ∧ (w10.cell? ⟨w.heap.size, 0, none⟩ = some (.int .u8 vk) ∧ w10.cell? ⟨w.heap.size, 1, none⟩ = some (.int .i64 vn) ∧ w10.cell? ⟨w.heap.size, 2, none⟩ = some (.int .u64 (vf : Int)) ∧ w10.cell? ⟨w.heap.size, 3, none⟩ = some (.string vt)) from ⟨kbox ⟨fi, fb, fk, fa, fe, fg⟩ HT10.out, kbox ⟨fi, fb, fk, fa, fe, fg⟩ (below_then HA9.out hb10), HX.out.below HV.out⟩)
            have FA := Aside.mk (fun (W : World) (hb : Below w10.heap.size w10 W) => HCt.out W _ _ so srt (HS7.out.below (below_then HT7.out hb)) (below_then HB0.out (below_then HV.out hb)))
            have FB := Aside.mk (fun (W : World) (hb : Below w10.heap.size w10 W) => HFt.out W (below_then HB0.out (below_then HV.out hb)))
            have hq := fun (W : World) => ne_key_self ⟨fi, fb, fk, fa, fe, fg⟩ W
            simp only at hq
            clear hb10 ho10 hgr hgc hhc hgl
            go_wp2_with fail
            refine wp_region_noPanic ?_
            refine wp_region_held_drew (S := fun W => ((W.cell? ⟨w7.heap.size, 0, none⟩ = some (.int .i64 fi) ∧ W.cell? ⟨w7.heap.size, 1, none⟩ = some (.bool fb) ∧ W.cell? ⟨w7.heap.size, 2, none⟩ = some (.int .u8 fk) ∧ W.cell? ⟨w7.heap.size, 3, none⟩ = some (.bool fa) ∧ W.cell? ⟨w7.heap.size, 4, none⟩ = some (.bool fe) ∧ W.cell? ⟨w7.heap.size, 5, none⟩ = some (.int .i64 fg)) ∧ (W.cell? ⟨w8.heap.size, 0, none⟩ = some (.int .i64 fi) ∧ W.cell? ⟨w8.heap.size, 1, none⟩ = some (.bool fb) ∧ W.cell? ⟨w8.heap.size, 2, none⟩ = some (.int .u8 fk) ∧ W.cell? ⟨w8.heap.size, 3, none⟩ = some (.bool fa) ∧ W.cell? ⟨w8.heap.size, 4, none⟩ = some (.bool fe) ∧ W.cell? ⟨w8.heap.size, 5, none⟩ = some (.int .i64 fg)) ∧ (W.cell? ⟨w.heap.size, 0, none⟩ = some (.int .u8 vk) ∧ W.cell? ⟨w.heap.size, 1, none⟩ = some (.int .i64 vn) ∧ W.cell? ⟨w.heap.size, 2, none⟩ = some (.int .u64 (vf : Int)) ∧ W.cell? ⟨w.heap.size, 3, none⟩ = some (.string vt))) ∧ Below w10.heap.size w10 W) (by kernel_rfl) (⟨HB31.out, below_drewN (below_refl w10) 1⟩) (fun hHeld => ?_)
            refine take_at (i := 0) (d := some 125) (v := ?vk0) rfl rfl (by kernel_rfl) (by kernel_rfl) (by kernel_rfl) (fun _ _ _ h => h) (Or.inl ⟨by rfl, ?hyk0⟩) hHeld ?restk0
            case hyk0 => (intro w hSw; (try dsimp only at hSw); go_simp; try with_reducible rfl)
            try simp only [Act.put, List.setIfInBounds_toArray, List.set_cons_zero, List.set_cons_succ]
            refine take_at (i := 1) (d := some 126) (v := ?vk1) rfl rfl (by kernel_rfl) (by kernel_rfl) (by kernel_rfl) (fun _ _ _ h => h) (Or.inl ⟨by rfl, ?hyk1⟩) hHeld ?restk1
            case hyk1 => (intro w hSw; (try dsimp only at hSw); go_simp; try with_reducible rfl)
            try simp only [Act.put, List.setIfInBounds_toArray, List.set_cons_zero, List.set_cons_succ]
            refine take_at (i := 2) (d := some 127) (v := ?vk2) rfl rfl (by kernel_rfl) (by kernel_rfl) (by kernel_rfl) (fun _ _ _ h => h) (Or.inl ⟨by rfl, ?hyk2⟩) hHeld ?restk2
            case hyk2 => (intro w hSw; (try dsimp only at hSw); go_simp; try with_reducible rfl)
            try simp only [Act.put, List.setIfInBounds_toArray, List.set_cons_zero, List.set_cons_succ]
            refine take_at (i := 3) (d := some 128) (v := ?vk3) rfl rfl (by kernel_rfl) (by kernel_rfl) (by kernel_rfl) (fun _ _ _ h => h) (Or.inl ⟨by rfl, ?hyk3⟩) hHeld ?restk3
            case hyk3 => (intro w hSw; (try dsimp only at hSw); go_simp; try with_reducible rfl)
            try simp only [Act.put, List.setIfInBounds_toArray, List.set_cons_zero, List.set_cons_succ]
            refine take_at (i := 4) (d := some 129) (v := ?vk4) rfl rfl (by kernel_rfl) (by kernel_rfl) (by kernel_rfl) (fun _ _ _ h => h) (Or.inl ⟨by rfl, ?hyk4⟩) hHeld ?restk4
            case hyk4 => (intro w hSw; (try dsimp only at hSw); go_simp; try with_reducible rfl)
            try simp only [Act.put, List.setIfInBounds_toArray, List.set_cons_zero, List.set_cons_succ]
            refine take_at (i := 5) (d := some 130) (v := ?vk5) rfl rfl (by kernel_rfl) (by kernel_rfl) (by kernel_rfl) (fun _ _ _ h => h) (Or.inl ⟨by rfl, ?hyk5⟩) hHeld ?restk5
            case hyk5 => (intro w hSw; (try dsimp only at hSw); go_simp; try with_reducible rfl)
            try simp only [Act.put, List.setIfInBounds_toArray, List.set_cons_zero, List.set_cons_succ]
            refine take_at (i := 6) (d := some 131) (v := ?vk6) rfl rfl (by kernel_rfl) (by kernel_rfl) (by kernel_rfl) (fun _ _ _ h => h) (Or.inl ⟨by rfl, ?hyk6⟩) hHeld ?restk6
            case hyk6 => (intro w hSw; (try dsimp only at hSw); go_simp; try with_reducible rfl)
            try simp only [Act.put, List.setIfInBounds_toArray, List.set_cons_zero, List.set_cons_succ]
            refine take_at (i := 7) (d := some 132) (v := ?vk7) rfl rfl (by kernel_rfl) (by kernel_rfl) (by kernel_rfl) (fun _ _ _ h => h) (Or.inl ⟨by rfl, ?hyk7⟩) hHeld ?restk7
            case hyk7 => (intro w hSw; (try dsimp only at hSw); go_simp; try with_reducible rfl)
            try simp only [Act.put, List.setIfInBounds_toArray, List.set_cons_zero, List.set_cons_succ]
            refine take_at (i := 8) (d := some 133) (v := ?vk8) rfl rfl (by kernel_rfl) (by kernel_rfl) (by kernel_rfl) (fun _ _ _ h => h) (Or.inl ⟨by rfl, ?hyk8⟩) hHeld ?restk8
            case hyk8 => (intro w hSw; (try dsimp only at hSw); go_simp; try with_reducible rfl)
            try simp only [Act.put, List.setIfInBounds_toArray, List.set_cons_zero, List.set_cons_succ]
            refine take_at (i := 9) (d := some 134) (v := ?vk9) rfl rfl (by kernel_rfl) (by kernel_rfl) (by kernel_rfl) (fun _ _ _ h => h) (Or.inl ⟨by rfl, ?hyk9⟩) hHeld ?restk9
            case hyk9 => (intro w hSw; (try dsimp only at hSw); go_simp; try with_reducible rfl)
            try simp only [Act.put, List.setIfInBounds_toArray, List.set_cons_zero, List.set_cons_succ]
            refine take_at (i := 10) (d := some 135) (v := ?vk10) rfl rfl (by kernel_rfl) (by kernel_rfl) (by kernel_rfl) (fun _ _ _ h => h) (Or.inl ⟨by rfl, ?hyk10⟩) hHeld ?restk10
            case hyk10 => (intro w hSw; (try dsimp only at hSw); go_simp; try with_reducible rfl)
            try simp only [Act.put, List.setIfInBounds_toArray, List.set_cons_zero, List.set_cons_succ]
            refine take_at (i := 11) (d := some 136) (v := ?vk11) rfl rfl (by kernel_rfl) (by kernel_rfl) (by kernel_rfl) (fun _ _ _ h => h) (Or.inl ⟨by rfl, ?hyk11⟩) hHeld ?restk11
            case hyk11 => (intro w hSw; (try dsimp only at hSw); go_simp; try with_reducible rfl)
            try simp only [Act.put, List.setIfInBounds_toArray, List.set_cons_zero, List.set_cons_succ]
            refine take_at (i := 13) (d := some 138) (v := ?vk13) rfl rfl (by kernel_rfl) (by kernel_rfl) (by kernel_rfl) (fun _ _ _ h => h) (Or.inl ⟨by rfl, ?hyk13⟩) hHeld ?restk13
            case hyk13 => (intro w hSw; (try dsimp only at hSw); go_simp; try with_reducible rfl)
            try simp only [Act.put, List.setIfInBounds_toArray, List.set_cons_zero, List.set_cons_succ]
            refine take_at (i := 14) (d := some 139) (v := ?vk14) rfl rfl (by kernel_rfl) (by kernel_rfl) (by kernel_rfl) (fun _ _ _ h => h) (Or.inl ⟨by rfl, ?hyk14⟩) hHeld ?restk14
            case hyk14 => (intro w hSw; (try dsimp only at hSw); go_simp; try with_reducible rfl)
            try simp only [Act.put, List.setIfInBounds_toArray, List.set_cons_zero, List.set_cons_succ]
            refine take_at (i := 15) (d := some 140) (v := ?vk15) rfl rfl (by kernel_rfl) (by kernel_rfl) (by kernel_rfl) (fun _ _ _ h => h) (Or.inl ⟨by rfl, ?hyk15⟩) hHeld ?restk15
            case hyk15 => (intro w hSw; (try dsimp only at hSw); go_simp; try with_reducible rfl)
            try simp only [Act.put, List.setIfInBounds_toArray, List.set_cons_zero, List.set_cons_succ]
            refine wpAnyH_ready (rs := [12]) (by kernel_rfl) (by simp) ?_
            refine AllReadyH.cons rfl (fun K hK => ?_) AllReadyH.nil
            go_simp
            (with_reducible refine (FA.out _ hHeld.2).mono ?_)
            rintro e w' ⟨rfl, hb⟩
            refine hK.out _ _ (⟨⟨⟨cell_below hb hHeld.1.1.1, cell_below hb hHeld.1.1.2.1, cell_below hb hHeld.1.1.2.2.1, cell_below hb hHeld.1.1.2.2.2.1, cell_below hb hHeld.1.1.2.2.2.2.1, cell_below hb hHeld.1.1.2.2.2.2.2⟩, ⟨cell_below hb hHeld.1.2.1.1, cell_below hb hHeld.1.2.1.2.1, cell_below hb hHeld.1.2.1.2.2.1, cell_below hb hHeld.1.2.1.2.2.2.1, cell_below hb hHeld.1.2.1.2.2.2.2.1, cell_below hb hHeld.1.2.1.2.2.2.2.2⟩, cell_below hb hHeld.1.2.2.1, cell_below hb hHeld.1.2.2.2.1, cell_below hb hHeld.1.2.2.2.2.1, cell_below hb hHeld.1.2.2.2.2.2⟩, below_then hHeld.2 hb⟩) (fun hHeld' => ?_)
            clear hK K hHeld hb
            have hHeld := hHeld'
            clear hHeld'
            try simp only [Act.put, List.setIfInBounds_toArray, List.set_cons_zero, List.set_cons_succ]
            refine wpAnyH_ready (rs := [16]) (by kernel_rfl) (by simp) ?_
            refine AllReadyH.cons rfl (fun K hK => ?_) AllReadyH.nil
            go_simp
            (with_reducible refine (FB.out _ hHeld.2).mono ?_)
            rintro e w' ⟨rfl, hb⟩
            refine hK.out _ _ (⟨⟨⟨cell_below hb hHeld.1.1.1, cell_below hb hHeld.1.1.2.1, cell_below hb hHeld.1.1.2.2.1, cell_below hb hHeld.1.1.2.2.2.1, cell_below hb hHeld.1.1.2.2.2.2.1, cell_below hb hHeld.1.1.2.2.2.2.2⟩, ⟨cell_below hb hHeld.1.2.1.1, cell_below hb hHeld.1.2.1.2.1, cell_below hb hHeld.1.2.1.2.2.1, cell_below hb hHeld.1.2.1.2.2.2.1, cell_below hb hHeld.1.2.1.2.2.2.2.1, cell_below hb hHeld.1.2.1.2.2.2.2.2⟩, cell_below hb hHeld.1.2.2.1, cell_below hb hHeld.1.2.2.2.1, cell_below hb hHeld.1.2.2.2.2.1, cell_below hb hHeld.1.2.2.2.2.2⟩, below_then hHeld.2 hb⟩) (fun hHeld' => ?_)
            clear hK K hHeld hb
            have hHeld := hHeld'
            clear hHeld'
            try simp only [Act.put, List.setIfInBounds_toArray, List.set_cons_zero, List.set_cons_succ]
            refine take_at (i := 17) (d := some 142) (v := ?vk17) rfl rfl (by kernel_rfl) (by kernel_rfl) (by kernel_rfl) (fun _ _ _ h => h) (Or.inl ⟨by rfl, ?hyk17⟩) hHeld ?restk17
            case hyk17 => (intro w hSw; (try dsimp only at hSw); go_simp; try with_reducible rfl)
            try simp only [Act.put, List.setIfInBounds_toArray, List.set_cons_zero, List.set_cons_succ]
            refine take_at (i := 18) (d := some 143) (v := ?vk18) rfl rfl (by kernel_rfl) (by kernel_rfl) (by kernel_rfl) (fun _ _ _ h => h) (Or.inl ⟨by rfl, ?hyk18⟩) hHeld ?restk18
            case hyk18 => (intro w hSw; (try dsimp only at hSw); go_simp; try with_reducible rfl)
            try simp only [Act.put, List.setIfInBounds_toArray, List.set_cons_zero, List.set_cons_succ]
            refine take_at (i := 19) (d := some 144) (v := ?vk19) rfl rfl (by kernel_rfl) (by kernel_rfl) (by kernel_rfl) (fun _ _ _ h => h) (Or.inl ⟨by rfl, ?hyk19⟩) hHeld ?restk19
            case hyk19 => (intro w hSw; (try dsimp only at hSw); go_simp; try with_reducible rfl)
            try simp only [Act.put, List.setIfInBounds_toArray, List.set_cons_zero, List.set_cons_succ]
            refine take_at (i := 20) (d := some 145) (v := ?vk20) rfl rfl (by kernel_rfl) (by kernel_rfl) (by kernel_rfl) (fun _ _ _ h => h) (Or.inl ⟨by rfl, ?hyk20⟩) hHeld ?restk20
            case hyk20 => (intro w hSw; (try dsimp only at hSw); go_simp; try with_reducible rfl)
            try simp only [Act.put, List.setIfInBounds_toArray, List.set_cons_zero, List.set_cons_succ]
            refine take_at (i := 21) (d := some 146) (v := ?vk21) rfl rfl (by kernel_rfl) (by kernel_rfl) (by kernel_rfl) (fun _ _ _ h => h) (Or.inl ⟨by rfl, ?hyk21⟩) hHeld ?restk21
            case hyk21 => (intro w hSw; (try dsimp only at hSw); go_simp; try with_reducible rfl)
            try simp only [Act.put, List.setIfInBounds_toArray, List.set_cons_zero, List.set_cons_succ]
            refine take_at (i := 22) (d := some 147) (v := ?vk22) rfl rfl (by kernel_rfl) (by kernel_rfl) (by kernel_rfl) (fun _ _ _ h => h) (Or.inl ⟨by rfl, ?hyk22⟩) hHeld ?restk22
            case hyk22 => (intro w hSw; (try dsimp only at hSw); go_simp; try with_reducible rfl)
            try simp only [Act.put, List.setIfInBounds_toArray, List.set_cons_zero, List.set_cons_succ]
            refine take_at (i := 23) (d := some 148) (v := ?vk23) rfl rfl (by kernel_rfl) (by kernel_rfl) (by kernel_rfl) (fun _ _ _ h => h) (Or.inl ⟨by rfl, ?hyk23⟩) hHeld ?restk23
            case hyk23 => (intro w hSw; (try dsimp only at hSw); go_simp; try with_reducible rfl)
            try simp only [Act.put, List.setIfInBounds_toArray, List.set_cons_zero, List.set_cons_succ]
            refine take_at (i := 24) (d := some 149) (v := ?vk24) rfl rfl (by kernel_rfl) (by kernel_rfl) (by kernel_rfl) (fun _ _ _ h => h) (Or.inl ⟨by rfl, ?hyk24⟩) hHeld ?restk24
            case hyk24 => (intro w hSw; (try dsimp only at hSw); go_simp; try with_reducible rfl)
            try simp only [Act.put, List.setIfInBounds_toArray, List.set_cons_zero, List.set_cons_succ]
            refine take_at (i := 25) (d := some 150) (v := ?vk25) rfl rfl (by kernel_rfl) (by kernel_rfl) (by kernel_rfl) (fun _ _ _ h => h) (Or.inl ⟨by rfl, ?hyk25⟩) hHeld ?restk25
            case hyk25 => (intro w hSw; (try dsimp only at hSw); go_simp; try with_reducible rfl)
            try simp only [Act.put, List.setIfInBounds_toArray, List.set_cons_zero, List.set_cons_succ]
            refine wpAnyH_done (by kernel_rfl) ?_ _

            refine NoPanic.normal ?_
            have HBk := Aside.mk hHeld.2
            clear hHeld hq
            have Hg := Aside.mk (H0g.out.later HBk.out)
            clear HBk
            go_wp2_with fail
            go_loopw [153] (fun i wx => ∃ j : Nat, j ≤ gr.length ∧ i = .int .i64 j ∧ Aside (GAt2 (w8.alloc (.cells #[.int .i64 fi, .bool fb, .int .u8 fk, .bool fa, .bool fe, .int .i64 fg] 97)) wx w9.heap.size gA gc hA hc gr j)) (fun i _ => gr.length - (intOf i).toNat)
            case atStart => exact ⟨0, Nat.zero_le _, rfl, Hg⟩
            case round =>
              obtain ⟨j, hj, rfl, HJ⟩ := hrel
              by_cases hlj : j < gr.length
              · have hjz : (j : Int) < (gr.length : Int) := by omega
                obtain ⟨x, hx⟩ : ∃ x, gr[j]? = some x := ⟨_, List.getElem?_eq_getElem hlj⟩
                rcases hAA : gA with _ | ga
                · exact absurd (HGN.out hAA) (by omega)
                rcases hBB : hA with _ | ha
                · have h := HJ.out.h
                  rw [hBB] at h
                  exact absurd (nil_of_own h) (by omega)
                subst hAA hBB
                have hcg := (HJ.out.g ga rfl).cell hx
                have hch := HJ.out.cell hx
                have HXj := Aside.mk hx
                clear hx
                go_wp2_with fail
                go_quiet (fail)
                have HD := Aside.mk (HJ.out.later (below_drewN (below_refl wr) nq))
                generalize wr.drewN nq = w12 at HD ⊢
                clear hcg hch
                have hcg := (HD.out.g ga rfl).cell HXj.out
                have hz := row_fz0 (HD.out.g ga rfl).own j
                have HPt := Aside.mk (HD.out.put HXj.out)
                go_wp2
                go_roundw
                case rel => exact ⟨j + 1, by omega, by go_num, HPt⟩
                case measure => simp [intOf]; omega
              · have hjn : ¬ ((j : Int) < (gr.length : Int)) := by omega
                have HBf := Aside.mk (below_then (below_then HBr.out (below_then HA7.out HA8.out)) HJ.out.below)
                clear hlj
                go_wp2
                go_roundw
                case rel => exact ⟨r + 1, by omega, by go_num, HBf⟩
                case measure => simp [intOf]; omega
theorem schemaKeys_walk (A : Option Addr) (c : Nat) (ks : List Ky) (id : Int) (v : Val) (w : World) (hc : ks.length ≤ c) (hl : ks.length ≤ 9223372036854775807) (hA : A = none → c = 0) (hS : KSrc w A ks) (hwf : ∀ k ∈ ks, (Lit.int .i64 k.id).wf = true) (hw : (Lit.int .i64 id).wf = true) (hv : v.fits) (hT : Lib.Utf8Tabs 1 2 w) :
    Calls Tryd.prog 14 #[.slice A ks.length c, .int .i64 id, v.v] w fun e w' => e = .returned (.bool true) ∧ Below w.heap.size w w' := by
  by_cases h : 200 < ks.length ∨ 1000 < v.s.size
  · exact keys_known A c ks id v w hl h hv.2
  · have h1 : ks.length ≤ 200 := by have := fun e => h (.inl e); omega
    have h2 : v.s.size ≤ 1000 := by have := fun e => h (.inr e); omega
    cases hok : okKs ks with
    | false => exact keys_no A c ks id v w hc hA hS hwf h1 h2 hok
    | true => exact keys_yes A c ks id v w hc hA hS hwf h1 h2 hv.1 hw hT hok
end Go.Proofs.YtaejlgdmalhhnaaDoor
