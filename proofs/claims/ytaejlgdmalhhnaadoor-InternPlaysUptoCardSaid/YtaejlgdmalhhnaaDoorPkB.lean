/- Texts put together: Sh, Si, Sg, Sj, Sk, Sl. -/
import Derived.Test.YtaejlgdmalhhnaaDoorPkA
import Derived.Test.YtaejlgdmalhhnaaDoorVd
import Derived.Test.YtaejlgdmalhhnaaDoorVo
/- Layer 4: Find, Len, Keys of a schema, nil and zero let in. -/
set_option linter.unusedVariables false
set_option linter.unusedSimpArgs false
namespace Go.Proofs.YtaejlgdmalhhnaaDoor
open Go.RowKit Go.Maps

def FindPost (w : World) (ks : List Ky) (id : Int) (e : Ending) (w' : World) : Prop :=
  e = .returned (.tuple #[((findK ks id).getD zeroK).v, .bool (findK ks id).isSome]) ∧ Below w.heap.size w w'
set_option maxRecDepth 100000 in
theorem find_any {lo hi : Nat} {v : Value} {ks srt : List Ky} (id : Int) (w : World) (hS : Sch lo hi w v ks srt) (hw : (Lit.int .i64 id).wf = true) :
    Calls Tryd.prog 62 #[v, .int .i64 id] w (FindPost w ks id) := by
  rcases hS with ⟨rfl, rfl, rfl⟩ | ⟨g, A, c, m, rfl, hS⟩
  · have HP : ∀ w', Below w.heap.size w w' → FindPost w [] id (.returned (.tuple #[.agg #[.int .i64 0, .bool false, .int .u8 0, .bool false, .bool false, .int .i64 0], .bool false])) w' := fun w' h => ⟨rfl, h⟩
    have HP := Aside.mk HP
    obtain ⟨R, hR⟩ : ∃ R, FindPost w [] id = R := ⟨_, rfl⟩
    rw [hR] at HP ⊢
    clear hR hw
    go_enter Tryd.func62, Tryd.ntmps62
    go_wp2
    refine bodyPost_ret (v := .tuple #[.agg #[.int .i64 0, .bool false, .int .u8 0, .bool false, .bool false, .int .i64 0], .bool false]) (by simp [results, Tryd.results62, go_sem]) rfl (HP.out _ ?_)
    exact below_alloc (below_refl w) _
  · have HL := Aside.mk (fun W (hs : Stays lo hi w W) => (hS.map.stays hs).look hw)
    have hcm := fun o => cell_below (below_alloc (below_refl w) o) hS.cm
    have HT := Aside.mk hS.top
    obtain ⟨⟨id', bl, kd, af, be, gr⟩, hk⟩ : ∃ k, (findK ks id).getD zeroK = k := ⟨_, rfl⟩
    obtain ⟨ok, hok⟩ : ∃ ok, (findK ks id).isSome = ok := ⟨_, rfl⟩
    rw [hk, hok] at HL
    have HP : ∀ w', Below w.heap.size w w' → FindPost w ks id (.returned (.tuple #[.agg #[.int .i64 id', .bool bl, .int .u8 kd, .bool af, .bool be, .int .i64 gr], .bool ok])) w' := fun w' h => ⟨by rw [hk, hok]; rfl, h⟩
    have HP := Aside.mk HP
    obtain ⟨R, hR⟩ : ∃ R, FindPost w ks id = R := ⟨_, rfl⟩
    rw [hR] at HP ⊢
    clear hR hw hk hok hS
    unfold Ky.v at HL
    go_enter Tryd.func62, Tryd.ntmps62
    go_wp2_with (at_lookup; go_must (refine lookup_run rfl _ _ 107 m _ _ rfl rfl rfl (HL.out _ (Stays.of_below (below_alloc (below_refl w) _) HT.out)) ?_))
    go_wp2
    refine bodyPost_ret (v := .tuple #[.agg #[.int .i64 id', .bool bl, .int .u8 kd, .bool af, .bool be, .int .i64 gr], .bool ok]) (by simp [results, Tryd.results62, go_sem]) rfl (HP.out _ ?_)
    exact below_alloc (below_alloc (below_refl w) _) _
theorem len_any {lo hi : Nat} {v : Value} {ks srt : List Ky} (w : World) (hS : Sch lo hi w v ks srt) :
    Calls Tryd.prog 63 #[v] w fun e w' => e = .returned (.int .i64 srt.length) ∧ w' = w := by
  rcases hS with ⟨rfl, rfl, rfl⟩ | ⟨g, A, c, m, rfl, hS⟩
  · go_enter Tryd.func63, Tryd.ntmps63
    go_wp2
    go_ret
    exact ⟨rfl, rfl⟩
  · have h0 := hS.c0
    clear hS
    go_enter Tryd.func63, Tryd.ntmps63
    go_wp2
    go_ret
    exact ⟨rfl, rfl⟩
set_option maxRecDepth 100000 in
theorem keys_any {lo hi : Nat} {v : Value} {ks srt : List Ky} (w : World) (hS : Sch lo hi w v ks srt) (hl : srt.length * 24 ≤ 140737488355328) : Calls Tryd.prog 65 #[v] w (KClone w srt) := by
  rcases hS with ⟨rfl, rfl, rfl⟩ | ⟨g, A, c, m, rfl, hS⟩
  · have HP : KClone w [] (.returned (.slice none 0 0)) w := ⟨_, rfl, ⟨rfl, .inl ⟨rfl, rfl⟩⟩, below_refl w⟩
    have HP := Aside.mk HP
    obtain ⟨R, hR⟩ : ∃ R, KClone w [] = R := ⟨_, rfl⟩
    rw [hR] at HP ⊢
    clear hR hl
    go_enter Tryd.func65, Tryd.ntmps65
    go_wp2
    exact HP.out
  · have h0 := hS.c0
    have HC := Aside.mk (clone_keys A c srt w hS.nil hS.src.cells hl)
    clear hS hl
    go_enter Tryd.func65, Tryd.ntmps65
    go_wp2_with fail
    (with_reducible refine HC.out.mono ?_)
    rintro e w1 ⟨v, rfl, ho1, hb1⟩
    have HF := Aside.mk (⟨ho1, hb1⟩ : _ ∧ _)
    obtain ⟨A1, c1, rfl, hlt1⟩ := own_form ho1
    clear ho1 hb1 hlt1
    go_wp2
    go_ret
    exact ⟨_, rfl, HF.out⟩
end Go.Proofs.YtaejlgdmalhhnaaDoor
/- Layer 4: Fits and Group of a schema, nil and zero let in. -/
set_option linter.unusedVariables false
set_option linter.unusedSimpArgs false
namespace Go.Proofs.YtaejlgdmalhhnaaDoor
open Go.RowKit Go.Maps

theorem box_all {w : World} {g : Nat} {k n : Int} {f : Nat} {s : ByteArray} (h : Box w g ⟨k, n, f, s⟩) :
    (∀ o, (w.alloc o).cell? ⟨g, 0, none⟩ = some (.int .u8 k)) ∧ (∀ o, (w.alloc o).cell? ⟨g, 1, none⟩ = some (.int .i64 n)) ∧ (∀ o, (w.alloc o).cell? ⟨g, 2, none⟩ = some (.int .u64 (f : Int))) ∧ (∀ o, (w.alloc o).cell? ⟨g, 3, none⟩ = some (.string s)) :=
  ⟨fun o => cell_below (below_alloc (below_refl w) o) h.1, fun o => cell_below (below_alloc (below_refl w) o) h.2.1, fun o => cell_below (below_alloc (below_refl w) o) h.2.2.1, fun o => cell_below (below_alloc (below_refl w) o) h.2.2.2⟩
def fitsK (ks : List Ky) (id : Int) (v : Val) : Bool := match findK ks id with
  | none => false
  | some k => k.kd == v.k && mayV v
set_option maxRecDepth 100000 in
theorem fits_any {lo hi : Nat} {s : Value} {ks srt : List Ky} (id : Int) (v : Val) (w : World) (hS : Sch lo hi w s ks srt) (hw : (Lit.int .i64 id).wf = true) (hT : Lib.Utf8Tabs 1 2 w) :
    Calls Tryd.prog 61 #[s, .int .i64 id, v.v] w fun e w' => e = .returned (.bool (fitsK ks id v)) ∧ Below w.heap.size w w' := by
  have HF := Aside.mk (find_any id (w.alloc v.obj) (hS.below (below_alloc (below_refl w) _)) hw)
  have HM := Aside.mk (fun W (h : Below w.heap.size w W) => mayV_any v W (tabs_below hT h))
  clear hT hw
  obtain ⟨k, n, f, t⟩ := v
  cases hk : findK ks id with
  | none =>
    have hr : fitsK ks id ⟨k, n, f, t⟩ = false := by unfold fitsK; rw [hk]
    rw [hr]
    have hp : ∀ w e w', FindPost w ks id e w' → e = .returned (.tuple #[.agg #[.int .i64 0, .bool false, .int .u8 0, .bool false, .bool false, .int .i64 0], .bool false]) ∧ Below w.heap.size w w' := by
      intro w e w' h; unfold FindPost at h; rw [hk] at h; exact h
    have HP := Aside.mk hp
    clear hp hr hk HM
    unfold Val.obj at HF
    unfold Val.v
    have hsp : ∃ so, s = .pointer so := by rcases hS with ⟨rfl, _⟩ | ⟨g, A, c, m, rfl, _⟩ <;> exact ⟨_, rfl⟩
    obtain ⟨so, rfl⟩ := hsp
    clear hS
    go_enter Tryd.func61, Tryd.ntmps61
    go_wp2_with fail
    (with_reducible refine HF.out.mono ?_)
    intro e w1 h1
    obtain ⟨rfl, hb1⟩ := HP.out _ _ _ h1
    clear h1
    have HB := Aside.mk (below_then (below_alloc (below_refl w) (Val.obj ⟨k, n, f, t⟩)) hb1)
    clear hb1
    go_wp2
    go_ret
    exact ⟨rfl, below_alloc HB.out _⟩
  | some x =>
    obtain ⟨xi, xb, xk, xa, xe, xg⟩ := x
    have hr : fitsK ks id ⟨k, n, f, t⟩ = (xk == k && mayV ⟨k, n, f, t⟩) := by unfold fitsK; rw [hk]
    rw [hr]
    have hp : ∀ w e w', FindPost w ks id e w' → e = .returned (.tuple #[.agg #[.int .i64 xi, .bool xb, .int .u8 xk, .bool xa, .bool xe, .int .i64 xg], .bool true]) ∧ Below w.heap.size w w' := by
      intro w e w' h; unfold FindPost at h; rw [hk] at h; exact h
    have HP := Aside.mk hp
    clear hp hr hk
    unfold Val.obj at HF
    have hsp : ∃ so, s = .pointer so := by rcases hS with ⟨rfl, _⟩ | ⟨g, A, c, m, rfl, _⟩ <;> exact ⟨_, rfl⟩
    obtain ⟨so, rfl⟩ := hsp
    clear hS
    obtain ⟨r, hrr⟩ : ∃ r, mayV ⟨k, n, f, t⟩ = r := ⟨_, rfl⟩
    rw [hrr] at HM ⊢
    have HX := Aside.mk (Box.new w ⟨k, n, f, t⟩)
    unfold Val.obj at HX
    unfold Val.v at HM ⊢
    clear hrr
    by_cases hx : xk = k
    · subst hx
      go_enter Tryd.func61, Tryd.ntmps61
      go_wp2_with fail
      (with_reducible refine HF.out.mono ?_)
      intro e w1 h1
      obtain ⟨rfl, hb1⟩ := HP.out _ _ _ h1
      clear h1
      have HB := Aside.mk (below_then (below_alloc (below_refl w) (Val.obj ⟨xk, n, f, t⟩)) hb1)
      obtain ⟨b0, b1, b2, b3⟩ := box_all (HX.out.below hb1)
      clear hb1
      go_wp2_with fail
      (with_reducible refine (HM.out _ (below_alloc HB.out _)).mono ?_)
      rintro e w2 ⟨rfl, hb2⟩
      have HB2 := Aside.mk (below_then (below_alloc HB.out _) hb2)
      clear hb2
      go_wp2
      go_ret
      exact ⟨by simp, HB2.out⟩
    · have hx0 : ((xk : Int) == k) = false := by simpa using hx
      go_enter Tryd.func61, Tryd.ntmps61
      go_wp2_with fail
      (with_reducible refine HF.out.mono ?_)
      intro e w1 h1
      obtain ⟨rfl, hb1⟩ := HP.out _ _ _ h1
      clear h1
      have HB := Aside.mk (below_then (below_alloc (below_refl w) (Val.obj ⟨k, n, f, t⟩)) hb1)
      obtain ⟨b0, b1, b2, b3⟩ := box_all (HX.out.below hb1)
      clear hb1
      go_wp2
      go_ret
      exact ⟨by simp [hx0], below_alloc HB.out _⟩
end Go.Proofs.YtaejlgdmalhhnaaDoor
/- Layer 4: New's walk (printed by gen_new.py). -/
set_option linter.unusedVariables false
set_option linter.unusedSimpArgs false
namespace Go.Proofs.YtaejlgdmalhhnaaDoor
open Go.RowKit Go.Maps

def NewPost (w : World) (ks : List Ky) (e : Ending) (w' : World) : Prop :=
  Below w.heap.size w w' ∧ if okKs ks then ∃ v srt, e = .returned (.tuple #[v, .int .i64 0]) ∧ Sch w.heap.size w'.heap.size w' v ks srt ∧ v ≠ .pointer none ∧ srt.Perm ks ∧ sortedK srt else e = .returned (.tuple #[.pointer none, .int .i64 3])
theorem NewAt.below' {w w1 wr wq : World} {A1 : Option Addr} {c1 : Nat} {ks : List Ky} {k : Nat} (h : NewAt w w1 wr A1 c1 ks k) (hb : Below wr.heap.size wr wq) : NewAt w w1 wq A1 c1 ks k :=
  ⟨below_then h.below hb, cell_below hb h.c0, cell_below hb h.cm, h.map.below hb, own_below h.row hb, h.pre, Nat.lt_of_lt_of_le h.size hb.size⟩
/-- .. and the key of this round in a box of its own. -/
structure NewX (w w1 wr : World) (A1 : Option Addr) (c1 : Nat) (ks : List Ky) (k : Nat) (q : Nat) (x : Ky) : Prop where
  at_ : NewAt w w1 wr A1 c1 ks k
  box : ∀ i v, x.cells[i]? = some v → wr.cell? ⟨q, i, none⟩ = some v
theorem NewX.below {w w1 wr wq : World} {A1 : Option Addr} {c1 : Nat} {ks : List Ky} {k q : Nat} {x : Ky} (h : NewX w w1 wr A1 c1 ks k q x) (hb : Below wr.heap.size wr wq) : NewX w w1 wq A1 c1 ks k q x :=
  ⟨h.at_.below' hb, fun i v hi => cell_below hb (h.box i v hi)⟩
theorem NewX.alloc {w w1 wr : World} {A1 : Option Addr} {c1 : Nat} {ks : List Ky} {k q : Nat} {x : Ky} (h : NewX w w1 wr A1 c1 ks k q x) (o : Obj) : NewX w w1 (wr.alloc o) A1 c1 ks k q x :=
  h.below (below_alloc (below_refl _) o)
theorem NewX.drewn {w w1 wr : World} {A1 : Option Addr} {c1 : Nat} {ks : List Ky} {k q : Nat} {x : Ky} (h : NewX w w1 wr A1 c1 ks k q x) : NewX w w1 wr.drew A1 c1 ks k q x := ⟨⟨h.at_.below.drew, h.at_.c0, h.at_.cm, h.at_.map, h.at_.row, h.at_.pre, h.at_.size⟩, h.box⟩
theorem NewX.start {w w1 wr : World} {A1 : Option Addr} {c1 : Nat} {ks : List Ky} {k : Nat} {x : Ky} (h : NewAt w w1 wr A1 c1 ks k) : NewX w w1 (wr.alloc x.obj) A1 c1 ks k wr.heap.size x := by
  refine ⟨h.below' (below_alloc (below_refl _) _), fun i v hi => ?_⟩
  have h2 : (wr.alloc x.obj).heap[wr.heap.size]? = some x.obj := heap_alloc_new wr _
  have hi' : (#[Value.int .i64 x.id, .bool x.bl, .int .u8 x.kd, .bool x.af, .bool x.be, .int .i64 x.gr] : Array Value)[i]? = some v := by rw [← Array.getElem?_toList]; exact hi
  unfold Ky.obj at h2
  unfold World.cell?
  unfold Ky.obj
  simp only [h2]
  exact hi'
def S7 (w w1 : World) (A1 : Option Addr) (c1 : Nat) (ks : List Ky) (k q : Nat) (x : Ky) (W : World) : Prop :=
  W.cell? ⟨w1.heap.size + 1, 1, none⟩ = some (.map (some w1.heap.size)) ∧ W.cell? ⟨q, 0, none⟩ = some (.int .i64 x.id) ∧ NewX w w1 W A1 c1 ks k q x
theorem S7.of {w w1 wr : World} {A1 : Option Addr} {c1 : Nat} {ks : List Ky} {k q : Nat} {x : Ky} (h : NewX w w1 wr A1 c1 ks k q x) : S7 w w1 A1 c1 ks k q x wr := ⟨h.at_.cm, h.box 0 _ rfl, h⟩
theorem NewAt.put {w w1 wr w' : World} {A1 : Option Addr} {c1 : Nat} {ks : List Ky} {k : Nat} {x : Ky} (h : NewAt w w1 wr A1 c1 ks k) (hx : ks[k]? = some x) (hm : mayK x = true) (hf : findK (ks.take k) x.id = none)
    (hlt : ∀ blk, (Value.slice A1 ks.length c1).ownBlock = some blk → blk < w1.heap.size) (hw : w.heap.size ≤ w1.heap.size) (hk : KMap w' w1.heap.size (ks.take k ++ [x])) (hg : wr.grownBy w' (some w1.heap.size)) : NewAt w w1 w' A1 c1 ks (k + 1) := by
  have ht : ks.take (k + 1) = ks.take k ++ [x] := by
    have hl := (List.getElem?_eq_some_iff.1 hx).1
    rw [List.take_succ_eq_append_getElem hl, (List.getElem?_eq_some_iff.1 hx).2]
  refine ⟨h.below.grown hg h.below.size (fun j hj => by cases hj; exact hw), hg.cell h.c0 (by simp), hg.cell h.cm (by simp), by rw [ht]; exact hk, h.row.kept hg ?_, by rw [ht]; exact (okPre_snoc _ _).2 ⟨h.pre, hm, hf⟩, Nat.lt_of_lt_of_le h.size hg.size⟩
  cases e : (Value.slice A1 ks.length c1).ownBlock with
  | none => exact .inl rfl
  | some blk => exact .inr (fun e' => by have := hlt blk e; cases e'; omega)
theorem kcells_get (l : List Ky) (j : Nat) (k : Ky) (hj : l[j]? = some k) (i : Nat) (v : Value) (hi : k.cells[i]? = some v) : (kcells l)[j * 6 + i]? = some v := by
  induction l generalizing j with
  | nil => simp at hj
  | cons x r ih =>
    have e : kcells (x :: r) = x.cells ++ kcells r := by simp [kcells]
    have hi6 : i < 6 := (List.getElem?_eq_some_iff.1 hi).1
    rw [e]
    cases j with
    | zero =>
      simp at hj; subst hj
      rw [List.getElem?_append_left (by rw [cells_len]; omega)]
      simpa using hi
    | succ j =>
      rw [List.getElem?_append_right (by rw [cells_len]; omega), cells_len]
      have e2 : (j + 1) * 6 + i - 6 = j * 6 + i := by omega
      rw [e2]
      exact ih j (by simpa using hj)
theorem row_of_own {w : World} {B c : Nat} {g : Nat} {ks : List Ky} (h : w.ownsRow B 97 6 (.slice (some ⟨g, 0, none⟩) ks.length c) ks.length (kcells ks)) : KRow w g 0 ks := by
  intro j k hj i v hi
  have h1 := World.ownsRow.cells h (g := g) rfl (j * 6 + i) v (kcells_get ks j k hj i v hi)
  rw [addr_add_plain] at h1
  have e : 0 + j * 6 + i = j * 6 + i := by omega
  rw [e]
  exact ⟨h1, h.frozenAt (j * 6 + i)⟩
theorem src_of_row {w : World} {g : Nat} {ks : List Ky} (h : KRow w g 0 ks) : KSrc w (some ⟨g, 0, none⟩) ks := by
  refine ⟨(fun e => (by cases e)), fun ad e j k hj i v hi => ?_⟩
  cases e
  have h1 := (h j k hj i v hi).1
  rw [addr_add_plain]
  have e : 0 + j * 6 + i = j * 6 + i := by omega
  rw [e] at h1
  exact h1
def SortPost (w : World) (v : Value) (A : Option Addr) (ks : List Ky) (e : Ending) (w' : World) : Prop :=
  e = .returned (.tuple #[]) ∧ ∃ srt : List Ky, srt.Perm ks ∧ sortedK srt ∧ KSrc w' A srt ∧ w.grownBy w' v.ownBlock
theorem sort_any {B c : Nat} {A : Option Addr} {ks : List Ky} {w : World} (h : w.ownsRow B 97 6 (.slice A ks.length c) ks.length (kcells ks)) (hl : ks.length ≤ 64) :
    Calls Tryd.prog 80 #[.slice A ks.length c, .func (.func 81) #[] #[]] w (SortPost w (.slice A ks.length c) A ks) := by
  rcases h.2 with ⟨hv, h0⟩ | ⟨g, cap, cur, hv, hb, hh, _⟩
  · injection hv with h1 h2 h3
    subst h1 h3
    have hk : ks = [] := List.eq_nil_of_length_eq_zero h0
    subst hk
    refine (sort_none none 0 w).mono ?_
    rintro e w' ⟨rfl, rfl⟩
    exact ⟨rfl, [], List.Perm.refl _, by simp [sortedK], ⟨fun _ => rfl, fun ad e => by cases e⟩, World.grownBy.refl _ _⟩
  · injection hv with h1 h2 h3
    subst h1 h3
    refine (sort_keys g 0 c ks w (row_of_own h) (Array.getElem?_eq_some_iff.1 hh).1 (by omega)).mono ?_
    rintro e w' ⟨rfl, srt, hp, hs, hr, hg⟩
    exact ⟨rfl, srt, hp, hs, src_of_row hr, hg⟩
theorem new_end {w w1 wr w2 : World} {A1 : Option Addr} {c1 : Nat} {ks srt : List Ky} (h : NewAt w w1 wr A1 c1 ks ks.length) (hlt : ∀ blk, (Value.slice A1 ks.length c1).ownBlock = some blk → blk < w1.heap.size) (hw : w.heap.size ≤ w1.heap.size)
    (h64 : ks.length ≤ 64) (hp : srt.Perm ks) (hs : sortedK srt) (hsrc : KSrc w2 A1 srt) (hg : wr.grownBy w2 (Value.slice A1 ks.length c1).ownBlock) : NewPost w ks (.returned (.tuple #[.pointer (some ⟨w1.heap.size + 1, 0, none⟩), .int .i64 0])) w2 := by
  have hpre := h.pre
  rw [List.take_length] at hpre
  have hok : okKs ks = true := by unfold okKs; simp [h64, hpre]
  have hne : ∀ b, w1.heap.size ≤ b → some b ≠ (Value.slice A1 ks.length c1).ownBlock := fun b hb e => by have := hlt b e.symm; omega
  have hbase : ∀ k, (Value.slice A1 ks.length c1).ownBlock = some k → w.heap.size ≤ k := own_base h.row
  have hlen : srt.length = ks.length := hp.length_eq
  refine ⟨h.below.grown hg h.below.size hbase, ?_⟩
  rw [if_pos hok]
  have hsz := h.size
  have hgs := hg.size
  refine ⟨_, srt, rfl, .inr ⟨w1.heap.size + 1, A1, c1, _, rfl, ⟨by omega, by omega, Nat.le_refl _, ?_, hg.cell h.cm (hne _ (by simp)), .inr ⟨w1.heap.size, rfl, hw, by omega, ?_⟩, hsrc, ?_, ?_, ?_⟩⟩, (fun e => by cases e), hp, hs⟩
  · rw [hlen]; exact hg.cell h.c0 (hne _ (by simp))
  · have := h.map
    rw [List.take_length] at this
    exact this.grown hg (hne _ (by omega))
  · intro a ha
    subst ha
    have h1 := hlt a.block rfl
    have h2 := hbase a.block rfl
    omega
  · intro ha
    subst ha
    rcases h.row.2 with ⟨hv, h0⟩ | ⟨g, cap, cur, hv, _⟩
    · injection hv with h1 h2 h3
      exact ⟨List.eq_nil_of_length_eq_zero (by omega), h3⟩
    · cases hv
  · rcases h.row.2 with ⟨hv, h0⟩ | ⟨g, cap, cur, hv, _, _, hle, _⟩
    · omega
    · injection hv with h1 h2 h3
      omega
theorem new_fail {w w' : World} {ks : List Ky} (h : okKs ks = false) (hb : Below w.heap.size w w') : NewPost w ks (.returned (.tuple #[.pointer none, .int .i64 3])) w' := by
  refine ⟨hb, ?_⟩
  rw [h]
  rfl
theorem box6 {w w1 wr : World} {A1 : Option Addr} {c1 : Nat} {ks : List Ky} {k q : Nat} {x : Ky} (h : NewX w w1 wr A1 c1 ks k q x) :
    wr.cell? ⟨q, 0, none⟩ = some (.int .i64 x.id) ∧ wr.cell? ⟨q, 1, none⟩ = some (.bool x.bl) ∧ wr.cell? ⟨q, 2, none⟩ = some (.int .u8 x.kd) ∧ wr.cell? ⟨q, 3, none⟩ = some (.bool x.af) ∧ wr.cell? ⟨q, 4, none⟩ = some (.bool x.be) ∧ wr.cell? ⟨q, 5, none⟩ = some (.int .i64 x.gr) :=
  ⟨h.box 0 _ rfl, h.box 1 _ rfl, h.box 2 _ rfl, h.box 3 _ rfl, h.box 4 _ rfl, h.box 5 _ rfl⟩
theorem put_at {w w1 wr : World} {A1 : Option Addr} {c1 : Nat} {ks : List Ky} {k q : Nat} {id kd gr : Int} {bl af be : Bool} (h : NewX w w1 wr A1 c1 ks k q ⟨id, bl, kd, af, be, gr⟩) :
    wr.cell? ⟨w1.heap.size + 1, 1, none⟩ = some (.map (some w1.heap.size)) ∧ wr.cell? ⟨q, 0, none⟩ = some (.int .i64 id) ∧ wr.cell? ⟨q, 1, none⟩ = some (.bool bl) ∧ wr.cell? ⟨q, 2, none⟩ = some (.int .u8 kd) ∧ wr.cell? ⟨q, 3, none⟩ = some (.bool af) ∧ wr.cell? ⟨q, 4, none⟩ = some (.bool be) ∧ wr.cell? ⟨q, 5, none⟩ = some (.int .i64 gr) := ⟨h.at_.cm, box6 h⟩
theorem put_s10 {W W' : World} {a q : Nat} {id kd gr : Int} {bl af be : Bool} (h : W.cell? ⟨a + 1, 1, none⟩ = some (.map (some a)) ∧ W.cell? ⟨q, 0, none⟩ = some (.int .i64 id) ∧ W.cell? ⟨q, 1, none⟩ = some (.bool bl) ∧ W.cell? ⟨q, 2, none⟩ = some (.int .u8 kd) ∧ W.cell? ⟨q, 3, none⟩ = some (.bool af) ∧ W.cell? ⟨q, 4, none⟩ = some (.bool be) ∧ W.cell? ⟨q, 5, none⟩ = some (.int .i64 gr)) (hg : W.grownBy W' (some a)) (hq : a + 1 < q) :
    W'.cell? ⟨a + 1, 1, none⟩ = some (.map (some a)) ∧ W'.cell? ⟨q, 0, none⟩ = some (.int .i64 id) ∧ W'.cell? ⟨q, 1, none⟩ = some (.bool bl) ∧ W'.cell? ⟨q, 2, none⟩ = some (.int .u8 kd) ∧ W'.cell? ⟨q, 3, none⟩ = some (.bool af) ∧ W'.cell? ⟨q, 4, none⟩ = some (.bool be) ∧ W'.cell? ⟨q, 5, none⟩ = some (.int .i64 gr) := by
  obtain ⟨h0, h1, h2, h3, h4, h5, h6⟩ := h
  have n1 : some (a + 1) ≠ some a := by simp
  have n2 : some q ≠ some a := by simp; omega
  exact ⟨hg.cell h0 n1, hg.cell h1 n2, hg.cell h2 n2, hg.cell h3 n2, hg.cell h4 n2, hg.cell h5 n2, hg.cell h6 n2⟩
theorem new_start {w w1 : World} {A1 : Option Addr} {c1 : Nat} {ks : List Ky} (ho : w1.ownsRow w.heap.size 97 6 (.slice A1 ks.length c1) ks.length (kcells ks)) (hb : Below w.heap.size w w1) :
    NewAt w w1 ((w1.alloc (.map #[] 0)).alloc (.cells #[.slice A1 ks.length c1, .map (some w1.heap.size)] 109)) A1 c1 ks 0 := by
  have hb2 : Below w1.heap.size w1 ((w1.alloc (.map #[] 0)).alloc (.cells #[.slice A1 ks.length c1, .map (some w1.heap.size)] 109)) := below_alloc (below_alloc (below_refl w1) _) _
  have hh : ((w1.alloc (.map #[] 0)).alloc (.cells #[.slice A1 ks.length c1, .map (some w1.heap.size)] 109)).heap[w1.heap.size + 1]? = some (.cells #[.slice A1 ks.length c1, .map (some w1.heap.size)] 109) := by
    have := heap_alloc_new (w1.alloc (.map #[] 0)) (.cells #[.slice A1 ks.length c1, .map (some w1.heap.size)] 109)
    rw [World.size_alloc] at this
    exact this
  refine ⟨below_then hb hb2, ?_, ?_, ?_, own_below ho hb2, ⟨by simp, by simp⟩, by simp⟩
  · unfold World.cell?; simp only [hh]; rfl
  · unfold World.cell?; simp only [hh]; rfl
  · exact (KMap.new w1).below (below_alloc (below_refl _) _)
theorem new_no {ks : List Ky} {k : Nat} {x : Ky} (hx : ks[k]? = some x) (h : mayK x = false ∨ (findK (ks.take k) x.id).isSome = true) : okKs ks = false := by
  have := okPre_take_fail hx (fun h' => by rcases h with h | h; · rw [h] at h'; exact absurd h'.1 (by simp)
                                           · rw [h'.2] at h; exact absurd h (by simp))
  unfold okKs
  simp [this]
theorem S7.below {w w1 : World} {A1 : Option Addr} {c1 : Nat} {ks : List Ky} {k q : Nat} {x : Ky} {W W' : World} (h : S7 w w1 A1 c1 ks k q x W) (hb : Below W.heap.size W W') : S7 w w1 A1 c1 ks k q x W' := S7.of (h.2.2.below hb)
set_option maxRecDepth 100000 in
set_option maxHeartbeats 2000000 in
theorem new_some (ad : Addr) (c : Nat) (ks : List Ky) (w : World) (hc : ks.length ≤ c) (hS : KSrc w (some ad) ks) (h64 : ks.length ≤ 64) (hwf : ∀ k ∈ ks, (Lit.int .i64 k.id).wf = true) :
    Calls Tryd.prog 30 #[.slice (some ad) ks.length c] w (NewPost w ks) := by
  have HC := Aside.mk (clone_keys (some ad) c ks w (fun h => by cases h) hS.cells (by omega))
  have g1 : (ks.length : Int) ≤ 64 := by omega
  have HS := Aside.mk hS
  have HWF := Aside.mk hwf
  clear hS hwf
  obtain ⟨R, hR⟩ : ∃ R, NewPost w ks = R := ⟨_, rfl⟩
  rw [hR]
  have HR := Aside.mk hR
  clear hR
  have hmk : ∀ W : World, (Instr.makeMap 107 none).run Tryd.prog W = .ok (.map (some W.heap.size)) (W.alloc (.map #[] 0)) := fun W => rfl
  go_enter Tryd.func30, Tryd.ntmps30
  go_wp2_with fail
  (with_reducible refine HC.out.mono ?_)
  rintro e w1 ⟨v, rfl, ho1, hb1⟩
  obtain ⟨A1, c1, rfl, hlt1⟩ := own_form ho1
  have HLT := Aside.mk hlt1
  clear hlt1
  have HO1 := Aside.mk ho1
  have HB1 := Aside.mk hb1
  clear ho1 hb1
  go_wp2_with fail
  go_loopw [19] (fun i wr => ∃ k : Nat, k ≤ ks.length ∧ i = .int .i64 k ∧ Aside (NewAt w w1 wr A1 c1 ks k)) (fun i _ => ks.length - (intOf i).toNat)
  case atStart =>
    exact ⟨0, Nat.zero_le _, rfl, ⟨new_start HO1.out HB1.out⟩⟩
  case round =>
    obtain ⟨k, hk, rfl, HN⟩ := hrel
    by_cases hlt : k < ks.length
    · have hkz : (k : Int) < (ks.length : Int) := by omega
      have hcz : (ks.length : Int) ≤ (c : Int) := by omega
      obtain ⟨⟨id, bl, kd, af, be, gr⟩, hx⟩ : ∃ x, ks[k]? = some x := ⟨_, List.getElem?_eq_getElem hlt⟩
      obtain ⟨s0, s1, s2, s3, s4, s5⟩ := (HS.out.below HN.out.below).six hx
      have HX := Aside.mk (NewX.start (x := ⟨id, bl, kd, af, be, gr⟩) HN.out)
      unfold Ky.obj at HX
      go_wp2_with fail
      clear s0 s1 s2 s3 s4 s5
      have hwfx := HWF.out ⟨id, bl, kd, af, be, gr⟩ (List.mem_of_getElem? hx)
      simp only at hwfx
      cases hfk : findK (ks.take k) id with
      | some y =>
        obtain ⟨yi, yb, yk, ya, ye, yg⟩ := y
        have hno : okKs ks = false := new_no hx (.inr (by rw [hfk]; rfl))
        refine wp_region_noPanic ?_
        refine wp_region_held_drew (S := fun W => W.cell? ⟨w1.heap.size + 1, 1, none⟩ = some (.map (some w1.heap.size)) ∧ W.cell? ⟨wr.heap.size, 0, none⟩ = some (.int .i64 id) ∧ NewX w w1 W A1 c1 ks k wr.heap.size ⟨id, bl, kd, af, be, gr⟩) (by kernel_rfl) (S7.of (HX.out.drewn)) (fun hHeld => ?_)
        refine take_at (i := 0) (d := some 24) (v := ?va0) rfl rfl (by kernel_rfl) (by kernel_rfl) (by kernel_rfl) (fun _ _ _ h => h) (Or.inl ⟨by rfl, ?hya0⟩) hHeld ?resta0
        case hya0 => (intro w hSw; (try dsimp only at hSw); go_simp; try with_reducible rfl)
        try simp only [Act.put, List.setIfInBounds_toArray, List.set_cons_zero, List.set_cons_succ]
        refine take_at (i := 1) (d := some 25) (v := ?va1) rfl rfl (by kernel_rfl) (by kernel_rfl) (by kernel_rfl) (fun _ _ _ h => h) (Or.inl ⟨by rfl, ?hya1⟩) hHeld ?resta1
        case hya1 => (intro w hSw; (try dsimp only at hSw); go_simp; try with_reducible rfl)
        try simp only [Act.put, List.setIfInBounds_toArray, List.set_cons_zero, List.set_cons_succ]
        refine take_at (i := 2) (d := some 26) (v := ?va2) rfl rfl (by kernel_rfl) (by kernel_rfl) (by kernel_rfl) (fun _ _ _ h => h) (Or.inl ⟨by rfl, ?hya2⟩) hHeld ?resta2
        case hya2 => (intro w hSw; (try dsimp only at hSw); go_simp; try with_reducible rfl)
        try simp only [Act.put, List.setIfInBounds_toArray, List.set_cons_zero, List.set_cons_succ]
        refine take_at (i := 3) (d := some 27) (v := ?va3) rfl rfl (by kernel_rfl) (by kernel_rfl) (by kernel_rfl) (fun _ _ _ h => h) (Or.inl ⟨by rfl, ?hya3⟩) hHeld ?resta3
        case hya3 => (intro w hSw; (try dsimp only at hSw); go_simp; try with_reducible rfl)
        try simp only [Act.put, List.setIfInBounds_toArray, List.set_cons_zero, List.set_cons_succ]
        refine take_at (i := 4) (d := some 28) (v := ?va4) rfl rfl (by kernel_rfl) (by kernel_rfl) (by kernel_rfl) (fun _ _ _ h => h) (Or.inl ⟨by rfl, ?hya4⟩) hHeld ?resta4
        case hya4 => (intro w hSw; (try dsimp only at hSw); go_simp; try with_reducible rfl)
        try simp only [Act.put, List.setIfInBounds_toArray, List.set_cons_zero, List.set_cons_succ]
        refine take_at (i := 5) (d := some 29) (v := ?va5) rfl rfl (by kernel_rfl) (by kernel_rfl) (by kernel_rfl) (fun _ _ _ h => h) (Or.inl ⟨by rfl, ?hya5⟩) hHeld ?resta5
        case hya5 => (intro w hSw; (try dsimp only at hSw); go_simp; try with_reducible rfl)
        try simp only [Act.put, List.setIfInBounds_toArray, List.set_cons_zero, List.set_cons_succ]
        refine take_at (i := 6) (d := some 30) (v := ?va6) rfl rfl (by kernel_rfl) (by kernel_rfl) (by kernel_rfl) (fun _ _ _ h => h) (Or.inl ⟨by rfl, ?hya6⟩) hHeld ?resta6
        case hya6 => (intro w hSw; have hl := hSw.2.2.at_.map.look hwfx; rw [hfk] at hl; unfold Ky.v at hl; simp only [Option.getD_some, Option.isSome_some] at hl; (try dsimp only at hSw); go_simp; try with_reducible rfl)
        try simp only [Act.put, List.setIfInBounds_toArray, List.set_cons_zero, List.set_cons_succ]
        refine take_at (i := 7) (d := some 23) (v := ?va7) rfl rfl (by kernel_rfl) (by kernel_rfl) (by kernel_rfl) (fun _ _ _ h => h) (Or.inl ⟨by rfl, ?hya7⟩) hHeld ?resta7
        case hya7 => (intro w hSw; (try dsimp only at hSw); go_simp; try with_reducible rfl)
        try simp only [Act.put, List.setIfInBounds_toArray, List.set_cons_zero, List.set_cons_succ]
        refine take_at (i := 8) (d := some 31) (v := ?va8) rfl rfl (by kernel_rfl) (by kernel_rfl) (by kernel_rfl) (fun _ _ _ h => h) (Or.inl ⟨by rfl, ?hya8⟩) hHeld ?resta8
        case hya8 => (intro w hSw; (try dsimp only at hSw); go_simp; try with_reducible rfl)
        try simp only [Act.put, List.setIfInBounds_toArray, List.set_cons_zero, List.set_cons_succ]
        refine take_at (i := 9) (d := some 32) (v := ?va9) rfl rfl (by kernel_rfl) (by kernel_rfl) (by kernel_rfl) (fun _ _ _ h => h) (Or.inl ⟨by rfl, ?hya9⟩) hHeld ?resta9
        case hya9 => (intro w hSw; (try dsimp only at hSw); go_simp; try with_reducible rfl)
        try simp only [Act.put, List.setIfInBounds_toArray, List.set_cons_zero, List.set_cons_succ]
        refine wpAnyH_ready (rs := [10]) (by kernel_rfl) (by simp) ?_
        refine AllReadyH.cons rfl (fun K hK => ?_) AllReadyH.nil
        have hH0 := hHeld
        go_simp
        refine hK.out _ _ (S7.of (NewX.alloc hHeld.2.2 _)) (fun hHeld' => ?_)
        clear hK K hHeld
        have hHeld := hHeld'
        clear hHeld'
        try simp only [Act.put, List.setIfInBounds_toArray, List.set_cons_zero, List.set_cons_succ]
        refine wpAnyH_ready (rs := [11]) (by kernel_rfl) (by simp) ?_
        refine AllReadyH.cons rfl (fun K hK => ?_) AllReadyH.nil
        go_simp
        refine hK.out _ _ (S7.of (NewX.alloc hH0.2.2 _)) (fun hHeld' => ?_)
        clear hK K hHeld
        have hHeld := hHeld'
        clear hHeld'
        try simp only [Act.put, List.setIfInBounds_toArray, List.set_cons_zero, List.set_cons_succ]
        refine take_at (i := 12) (d := some 8) (v := ?va12) rfl rfl (by kernel_rfl) (by kernel_rfl) (by kernel_rfl) (fun _ _ _ h => h) (Or.inl ⟨by rfl, ?hya12⟩) hHeld ?resta12
        case hya12 => (intro w hSw; (try dsimp only at hSw); go_simp; try with_reducible rfl)
        try simp only [Act.put, List.setIfInBounds_toArray, List.set_cons_zero, List.set_cons_succ]
        refine wpAnyH_done (by kernel_rfl) ?_ _

        refine NoPanic.normal ?_
        go_wp2
        rw [← HR.out]
        exact new_fail hno hHeld.2.2.at_.below
      | none =>
        cases hmk2 : mayK ⟨id, bl, kd, af, be, gr⟩ with
        | false =>
          have hno : okKs ks = false := new_no hx (.inl hmk2)
          have HM := Aside.mk (fun W => mayKey_any ⟨id, bl, kd, af, be, gr⟩ W)
          rw [hmk2] at HM
          unfold Ky.v at HM
          clear hmk2
          refine wp_region_noPanic ?_
          refine wp_region_held_drew (S := fun W => W.cell? ⟨w1.heap.size + 1, 1, none⟩ = some (.map (some w1.heap.size)) ∧ W.cell? ⟨wr.heap.size, 0, none⟩ = some (.int .i64 id) ∧ NewX w w1 W A1 c1 ks k wr.heap.size ⟨id, bl, kd, af, be, gr⟩) (by kernel_rfl) (S7.of (HX.out.drewn)) (fun hHeld => ?_)
          refine take_at (i := 0) (d := some 24) (v := ?vb0) rfl rfl (by kernel_rfl) (by kernel_rfl) (by kernel_rfl) (fun _ _ _ h => h) (Or.inl ⟨by rfl, ?hyb0⟩) hHeld ?restb0
          case hyb0 => (intro w hSw; (try dsimp only at hSw); go_simp; try with_reducible rfl)
          try simp only [Act.put, List.setIfInBounds_toArray, List.set_cons_zero, List.set_cons_succ]
          refine take_at (i := 1) (d := some 25) (v := ?vb1) rfl rfl (by kernel_rfl) (by kernel_rfl) (by kernel_rfl) (fun _ _ _ h => h) (Or.inl ⟨by rfl, ?hyb1⟩) hHeld ?restb1
          case hyb1 => (intro w hSw; (try dsimp only at hSw); go_simp; try with_reducible rfl)
          try simp only [Act.put, List.setIfInBounds_toArray, List.set_cons_zero, List.set_cons_succ]
          refine take_at (i := 2) (d := some 26) (v := ?vb2) rfl rfl (by kernel_rfl) (by kernel_rfl) (by kernel_rfl) (fun _ _ _ h => h) (Or.inl ⟨by rfl, ?hyb2⟩) hHeld ?restb2
          case hyb2 => (intro w hSw; (try dsimp only at hSw); go_simp; try with_reducible rfl)
          try simp only [Act.put, List.setIfInBounds_toArray, List.set_cons_zero, List.set_cons_succ]
          refine take_at (i := 3) (d := some 27) (v := ?vb3) rfl rfl (by kernel_rfl) (by kernel_rfl) (by kernel_rfl) (fun _ _ _ h => h) (Or.inl ⟨by rfl, ?hyb3⟩) hHeld ?restb3
          case hyb3 => (intro w hSw; (try dsimp only at hSw); go_simp; try with_reducible rfl)
          try simp only [Act.put, List.setIfInBounds_toArray, List.set_cons_zero, List.set_cons_succ]
          refine take_at (i := 4) (d := some 28) (v := ?vb4) rfl rfl (by kernel_rfl) (by kernel_rfl) (by kernel_rfl) (fun _ _ _ h => h) (Or.inl ⟨by rfl, ?hyb4⟩) hHeld ?restb4
          case hyb4 => (intro w hSw; (try dsimp only at hSw); go_simp; try with_reducible rfl)
          try simp only [Act.put, List.setIfInBounds_toArray, List.set_cons_zero, List.set_cons_succ]
          refine take_at (i := 5) (d := some 29) (v := ?vb5) rfl rfl (by kernel_rfl) (by kernel_rfl) (by kernel_rfl) (fun _ _ _ h => h) (Or.inl ⟨by rfl, ?hyb5⟩) hHeld ?restb5
          case hyb5 => (intro w hSw; (try dsimp only at hSw); go_simp; try with_reducible rfl)
          try simp only [Act.put, List.setIfInBounds_toArray, List.set_cons_zero, List.set_cons_succ]
          refine take_at (i := 6) (d := some 30) (v := ?vb6) rfl rfl (by kernel_rfl) (by kernel_rfl) (by kernel_rfl) (fun _ _ _ h => h) (Or.inl ⟨by rfl, ?hyb6⟩) hHeld ?restb6
          case hyb6 => (intro w hSw; have hl := hSw.2.2.at_.map.look hwfx; rw [hfk] at hl; unfold Ky.v at hl; simp only [Option.getD_none, Option.isSome_none, zeroK] at hl; (try dsimp only at hSw); go_simp; try with_reducible rfl)
          try simp only [Act.put, List.setIfInBounds_toArray, List.set_cons_zero, List.set_cons_succ]
          refine take_at (i := 7) (d := some 23) (v := ?vb7) rfl rfl (by kernel_rfl) (by kernel_rfl) (by kernel_rfl) (fun _ _ _ h => h) (Or.inl ⟨by rfl, ?hyb7⟩) hHeld ?restb7
          case hyb7 => (intro w hSw; (try dsimp only at hSw); go_simp; try with_reducible rfl)
          try simp only [Act.put, List.setIfInBounds_toArray, List.set_cons_zero, List.set_cons_succ]
          refine take_at (i := 8) (d := some 31) (v := ?vb8) rfl rfl (by kernel_rfl) (by kernel_rfl) (by kernel_rfl) (fun _ _ _ h => h) (Or.inl ⟨by rfl, ?hyb8⟩) hHeld ?restb8
          case hyb8 => (intro w hSw; (try dsimp only at hSw); go_simp; try with_reducible rfl)
          try simp only [Act.put, List.setIfInBounds_toArray, List.set_cons_zero, List.set_cons_succ]
          refine take_at (i := 9) (d := some 32) (v := ?vb9) rfl rfl (by kernel_rfl) (by kernel_rfl) (by kernel_rfl) (fun _ _ _ h => h) (Or.inl ⟨by rfl, ?hyb9⟩) hHeld ?restb9
          case hyb9 => (intro w hSw; (try dsimp only at hSw); go_simp; try with_reducible rfl)
          try simp only [Act.put, List.setIfInBounds_toArray, List.set_cons_zero, List.set_cons_succ]
          refine wpAnyH_ready (rs := [10]) (by kernel_rfl) (by simp) ?_
          refine AllReadyH.cons rfl (fun K hK => ?_) AllReadyH.nil
          have hH0 := hHeld
          go_simp
          refine hK.out _ _ (S7.of (NewX.alloc hHeld.2.2 _)) (fun hHeld' => ?_)
          clear hK K hHeld
          have hHeld := hHeld'
          clear hHeld'
          try simp only [Act.put, List.setIfInBounds_toArray, List.set_cons_zero, List.set_cons_succ]
          refine wpAnyH_ready (rs := [11]) (by kernel_rfl) (by simp) ?_
          refine AllReadyH.cons rfl (fun K hK => ?_) AllReadyH.nil
          go_simp
          refine hK.out _ _ (S7.of (NewX.alloc hH0.2.2 _)) (fun hHeld' => ?_)
          clear hK K hHeld
          have hHeld := hHeld'
          clear hHeld'
          try simp only [Act.put, List.setIfInBounds_toArray, List.set_cons_zero, List.set_cons_succ]
          refine take_at (i := 12) (d := some 8) (v := ?vb12) rfl rfl (by kernel_rfl) (by kernel_rfl) (by kernel_rfl) (fun _ _ _ h => h) (Or.inl ⟨by rfl, ?hyb12⟩) hHeld ?restb12
          case hyb12 => (intro w hSw; (try dsimp only at hSw); go_simp; try with_reducible rfl)
          try simp only [Act.put, List.setIfInBounds_toArray, List.set_cons_zero, List.set_cons_succ]
          refine wpAnyH_done (by kernel_rfl) ?_ _

          refine NoPanic.normal ?_
          obtain ⟨b0, b1, b2, b3, b4, b5⟩ := box6 hHeld.2.2
          have HH := Aside.mk hHeld.2.2.at_.below
          clear hHeld
          go_wp2_with fail
          (with_reducible refine (HM.out _).mono ?_)
          rintro e w2 ⟨rfl, hb2⟩
          have HB := Aside.mk (below_then HH.out hb2)
          clear hb2 HH b0 b1 b2 b3 b4 b5
          go_wp2
          rw [← HR.out]
          exact new_fail hno HB.out
        | true =>
          have HM := Aside.mk (fun W => mayKey_any ⟨id, bl, kd, af, be, gr⟩ W)
          rw [hmk2] at HM
          unfold Ky.v at HM
          refine wp_region_noPanic ?_
          refine wp_region_held_drew (S := fun W => W.cell? ⟨w1.heap.size + 1, 1, none⟩ = some (.map (some w1.heap.size)) ∧ W.cell? ⟨wr.heap.size, 0, none⟩ = some (.int .i64 id) ∧ NewX w w1 W A1 c1 ks k wr.heap.size ⟨id, bl, kd, af, be, gr⟩) (by kernel_rfl) (S7.of (HX.out.drewn)) (fun hHeld => ?_)
          refine take_at (i := 0) (d := some 24) (v := ?vc0) rfl rfl (by kernel_rfl) (by kernel_rfl) (by kernel_rfl) (fun _ _ _ h => h) (Or.inl ⟨by rfl, ?hyc0⟩) hHeld ?restc0
          case hyc0 => (intro w hSw; (try dsimp only at hSw); go_simp; try with_reducible rfl)
          try simp only [Act.put, List.setIfInBounds_toArray, List.set_cons_zero, List.set_cons_succ]
          refine take_at (i := 1) (d := some 25) (v := ?vc1) rfl rfl (by kernel_rfl) (by kernel_rfl) (by kernel_rfl) (fun _ _ _ h => h) (Or.inl ⟨by rfl, ?hyc1⟩) hHeld ?restc1
          case hyc1 => (intro w hSw; (try dsimp only at hSw); go_simp; try with_reducible rfl)
          try simp only [Act.put, List.setIfInBounds_toArray, List.set_cons_zero, List.set_cons_succ]
          refine take_at (i := 2) (d := some 26) (v := ?vc2) rfl rfl (by kernel_rfl) (by kernel_rfl) (by kernel_rfl) (fun _ _ _ h => h) (Or.inl ⟨by rfl, ?hyc2⟩) hHeld ?restc2
          case hyc2 => (intro w hSw; (try dsimp only at hSw); go_simp; try with_reducible rfl)
          try simp only [Act.put, List.setIfInBounds_toArray, List.set_cons_zero, List.set_cons_succ]
          refine take_at (i := 3) (d := some 27) (v := ?vc3) rfl rfl (by kernel_rfl) (by kernel_rfl) (by kernel_rfl) (fun _ _ _ h => h) (Or.inl ⟨by rfl, ?hyc3⟩) hHeld ?restc3
          case hyc3 => (intro w hSw; (try dsimp only at hSw); go_simp; try with_reducible rfl)
          try simp only [Act.put, List.setIfInBounds_toArray, List.set_cons_zero, List.set_cons_succ]
          refine take_at (i := 4) (d := some 28) (v := ?vc4) rfl rfl (by kernel_rfl) (by kernel_rfl) (by kernel_rfl) (fun _ _ _ h => h) (Or.inl ⟨by rfl, ?hyc4⟩) hHeld ?restc4
          case hyc4 => (intro w hSw; (try dsimp only at hSw); go_simp; try with_reducible rfl)
          try simp only [Act.put, List.setIfInBounds_toArray, List.set_cons_zero, List.set_cons_succ]
          refine take_at (i := 5) (d := some 29) (v := ?vc5) rfl rfl (by kernel_rfl) (by kernel_rfl) (by kernel_rfl) (fun _ _ _ h => h) (Or.inl ⟨by rfl, ?hyc5⟩) hHeld ?restc5
          case hyc5 => (intro w hSw; (try dsimp only at hSw); go_simp; try with_reducible rfl)
          try simp only [Act.put, List.setIfInBounds_toArray, List.set_cons_zero, List.set_cons_succ]
          refine take_at (i := 6) (d := some 30) (v := ?vc6) rfl rfl (by kernel_rfl) (by kernel_rfl) (by kernel_rfl) (fun _ _ _ h => h) (Or.inl ⟨by rfl, ?hyc6⟩) hHeld ?restc6
          case hyc6 => (intro w hSw; have hl := hSw.2.2.at_.map.look hwfx; rw [hfk] at hl; unfold Ky.v at hl; simp only [Option.getD_none, Option.isSome_none, zeroK] at hl; (try dsimp only at hSw); go_simp; try with_reducible rfl)
          try simp only [Act.put, List.setIfInBounds_toArray, List.set_cons_zero, List.set_cons_succ]
          refine take_at (i := 7) (d := some 23) (v := ?vc7) rfl rfl (by kernel_rfl) (by kernel_rfl) (by kernel_rfl) (fun _ _ _ h => h) (Or.inl ⟨by rfl, ?hyc7⟩) hHeld ?restc7
          case hyc7 => (intro w hSw; (try dsimp only at hSw); go_simp; try with_reducible rfl)
          try simp only [Act.put, List.setIfInBounds_toArray, List.set_cons_zero, List.set_cons_succ]
          refine take_at (i := 8) (d := some 31) (v := ?vc8) rfl rfl (by kernel_rfl) (by kernel_rfl) (by kernel_rfl) (fun _ _ _ h => h) (Or.inl ⟨by rfl, ?hyc8⟩) hHeld ?restc8
          case hyc8 => (intro w hSw; (try dsimp only at hSw); go_simp; try with_reducible rfl)
          try simp only [Act.put, List.setIfInBounds_toArray, List.set_cons_zero, List.set_cons_succ]
          refine take_at (i := 9) (d := some 32) (v := ?vc9) rfl rfl (by kernel_rfl) (by kernel_rfl) (by kernel_rfl) (fun _ _ _ h => h) (Or.inl ⟨by rfl, ?hyc9⟩) hHeld ?restc9
          case hyc9 => (intro w hSw; (try dsimp only at hSw); go_simp; try with_reducible rfl)
          try simp only [Act.put, List.setIfInBounds_toArray, List.set_cons_zero, List.set_cons_succ]
          refine wpAnyH_ready (rs := [10]) (by kernel_rfl) (by simp) ?_
          refine AllReadyH.cons rfl (fun K hK => ?_) AllReadyH.nil
          have hH0 := hHeld
          go_simp
          refine hK.out _ _ (S7.of (NewX.alloc hHeld.2.2 _)) (fun hHeld' => ?_)
          clear hK K hHeld
          have hHeld := hHeld'
          clear hHeld'
          try simp only [Act.put, List.setIfInBounds_toArray, List.set_cons_zero, List.set_cons_succ]
          refine wpAnyH_ready (rs := [11]) (by kernel_rfl) (by simp) ?_
          refine AllReadyH.cons rfl (fun K hK => ?_) AllReadyH.nil
          go_simp
          refine hK.out _ _ (S7.of (NewX.alloc hH0.2.2 _)) (fun hHeld' => ?_)
          clear hK K hHeld
          have hHeld := hHeld'
          clear hHeld'
          try simp only [Act.put, List.setIfInBounds_toArray, List.set_cons_zero, List.set_cons_succ]
          refine take_at (i := 12) (d := some 8) (v := ?vc12) rfl rfl (by kernel_rfl) (by kernel_rfl) (by kernel_rfl) (fun _ _ _ h => h) (Or.inl ⟨by rfl, ?hyc12⟩) hHeld ?restc12
          case hyc12 => (intro w hSw; (try dsimp only at hSw); go_simp; try with_reducible rfl)
          try simp only [Act.put, List.setIfInBounds_toArray, List.set_cons_zero, List.set_cons_succ]
          refine wpAnyH_done (by kernel_rfl) ?_ _

          refine NoPanic.normal ?_
          obtain ⟨b0, b1, b2, b3, b4, b5⟩ := box6 hHeld.2.2
          have HH := Aside.mk hHeld.2.2
          clear hHeld
          have H2 := Aside.mk hmk2
          clear hmk2
          go_wp2_with fail
          (with_reducible refine (HM.out _).mono ?_)
          rintro e w2 ⟨rfl, hb2⟩
          have HB := Aside.mk (HH.out.below hb2)
          clear hb2 HH b0 b1 b2 b3 b4 b5
          go_wp2_with fail
          refine wp_region_noPanic ?_
          refine wp_region_held_drew (S := fun W => W.cell? ⟨w1.heap.size + 1, 1, none⟩ = some (.map (some w1.heap.size)) ∧ W.cell? ⟨wr.heap.size, 0, none⟩ = some (.int .i64 id) ∧ W.cell? ⟨wr.heap.size, 1, none⟩ = some (.bool bl) ∧ W.cell? ⟨wr.heap.size, 2, none⟩ = some (.int .u8 kd) ∧ W.cell? ⟨wr.heap.size, 3, none⟩ = some (.bool af) ∧ W.cell? ⟨wr.heap.size, 4, none⟩ = some (.bool be) ∧ W.cell? ⟨wr.heap.size, 5, none⟩ = some (.int .i64 gr)) (by kernel_rfl) (put_at HB.out.drewn) (fun hHeld => ?_)
          refine take_at (i := 0) (d := some 39) (v := ?vd0) rfl rfl (by kernel_rfl) (by kernel_rfl) (by kernel_rfl) (fun _ _ _ h => h) (Or.inl ⟨by rfl, ?hyd0⟩) hHeld ?restd0
          case hyd0 => (intro w hSw; (try dsimp only at hSw); go_simp; try with_reducible rfl)
          try simp only [Act.put, List.setIfInBounds_toArray, List.set_cons_zero, List.set_cons_succ]
          refine take_at (i := 1) (d := some 40) (v := ?vd1) rfl rfl (by kernel_rfl) (by kernel_rfl) (by kernel_rfl) (fun _ _ _ h => h) (Or.inl ⟨by rfl, ?hyd1⟩) hHeld ?restd1
          case hyd1 => (intro w hSw; (try dsimp only at hSw); go_simp; try with_reducible rfl)
          try simp only [Act.put, List.setIfInBounds_toArray, List.set_cons_zero, List.set_cons_succ]
          refine take_at (i := 2) (d := some 41) (v := ?vd2) rfl rfl (by kernel_rfl) (by kernel_rfl) (by kernel_rfl) (fun _ _ _ h => h) (Or.inl ⟨by rfl, ?hyd2⟩) hHeld ?restd2
          case hyd2 => (intro w hSw; (try dsimp only at hSw); go_simp; try with_reducible rfl)
          try simp only [Act.put, List.setIfInBounds_toArray, List.set_cons_zero, List.set_cons_succ]
          refine take_at (i := 3) (d := some 42) (v := ?vd3) rfl rfl (by kernel_rfl) (by kernel_rfl) (by kernel_rfl) (fun _ _ _ h => h) (Or.inl ⟨by rfl, ?hyd3⟩) hHeld ?restd3
          case hyd3 => (intro w hSw; (try dsimp only at hSw); go_simp; try with_reducible rfl)
          try simp only [Act.put, List.setIfInBounds_toArray, List.set_cons_zero, List.set_cons_succ]
          refine take_at (i := 4) (d := some 43) (v := ?vd4) rfl rfl (by kernel_rfl) (by kernel_rfl) (by kernel_rfl) (fun _ _ _ h => h) (Or.inl ⟨by rfl, ?hyd4⟩) hHeld ?restd4
          case hyd4 => (intro w hSw; (try dsimp only at hSw); go_simp; try with_reducible rfl)
          try simp only [Act.put, List.setIfInBounds_toArray, List.set_cons_zero, List.set_cons_succ]
          refine take_at (i := 5) (d := some 44) (v := ?vd5) rfl rfl (by kernel_rfl) (by kernel_rfl) (by kernel_rfl) (fun _ _ _ h => h) (Or.inl ⟨by rfl, ?hyd5⟩) hHeld ?restd5
          case hyd5 => (intro w hSw; (try dsimp only at hSw); go_simp; try with_reducible rfl)
          try simp only [Act.put, List.setIfInBounds_toArray, List.set_cons_zero, List.set_cons_succ]
          refine take_at (i := 6) (d := some 45) (v := ?vd6) rfl rfl (by kernel_rfl) (by kernel_rfl) (by kernel_rfl) (fun _ _ _ h => h) (Or.inl ⟨by rfl, ?hyd6⟩) hHeld ?restd6
          case hyd6 => (intro w hSw; (try dsimp only at hSw); go_simp; try with_reducible rfl)
          try simp only [Act.put, List.setIfInBounds_toArray, List.set_cons_zero, List.set_cons_succ]
          refine wpAnyH_ready (rs := [7]) (by kernel_rfl) (by simp) ?_
          refine AllReadyH.cons rfl (fun K hK => ?_) AllReadyH.nil
          obtain ⟨w3, hrun, hk3, hg3⟩ := KMap.put HB.out.drewn.at_.map (k := ⟨id, bl, kd, af, be, gr⟩) hwfx (by rw [List.length_take]; omega) hfk
          have hne := Aside.mk HN.out.size
          have HZ := Aside.mk (NewAt.put HB.out.drewn.at_ hx H2.out hfk HLT.out HB1.out.size hk3 hg3)
          unfold Ky.v at hrun
          go_simp
          refine hK.out _ _ (put_s10 hHeld hg3 hne.out) (fun hHeld' => ?_)
          clear hK K hHeld
          have hHeld := hHeld'
          clear hHeld'
          try simp only [Act.put, List.setIfInBounds_toArray, List.set_cons_zero, List.set_cons_succ]
          refine wpAnyH_done (by kernel_rfl) ?_ _

          refine NoPanic.normal ?_
          clear hHeld
          go_wp2
          go_roundw
          case rel => exact ⟨k + 1, by omega, by go_num, HZ⟩
          case measure => simp [intOf]; omega
    · obtain rfl : k = ks.length := by omega
      have n0 := HN.out.c0
      have HSo := Aside.mk (sort_any HN.out.row h64)
      go_wp2_with fail
      (with_reducible refine HSo.out.mono ?_)
      rintro e w2 ⟨rfl, srt, hp, hs, hsrc, hg⟩
      have HE := Aside.mk (new_end HN.out HLT.out HB1.out.size h64 hp hs hsrc hg)
      clear hp hs hsrc hg n0
      go_wp2
      rw [← HR.out]
      exact HE.out
set_option maxRecDepth 100000 in
set_option maxHeartbeats 1000000 in
theorem new_nil (ks : List Ky) (h0 : ks = []) (w : World) : Calls Tryd.prog 30 #[.slice none ks.length 0] w (NewPost w ks) := by
  have HC := Aside.mk (clone_keys none 0 ks w (fun _ => ⟨h0, rfl⟩) (by rw [h0]; exact Cells.nil _ _) (by rw [h0]; simp))
  have h64 : ks.length ≤ 64 := by rw [h0]; simp
  have g1 : (ks.length : Int) ≤ 64 := by omega
  have g0 : (ks.length : Int) ≤ 0 := by rw [h0]; simp
  have H0 := Aside.mk h0
  clear h0
  obtain ⟨R, hR⟩ : ∃ R, NewPost w ks = R := ⟨_, rfl⟩
  rw [hR]
  have HR := Aside.mk hR
  clear hR
  have hmk : ∀ W : World, (Instr.makeMap 107 none).run Tryd.prog W = .ok (.map (some W.heap.size)) (W.alloc (.map #[] 0)) := fun W => rfl
  go_enter Tryd.func30, Tryd.ntmps30
  go_wp2_with fail
  (with_reducible refine HC.out.mono ?_)
  rintro e w1 ⟨v, rfl, ho1, hb1⟩
  obtain ⟨A1, c1, rfl, hlt1⟩ := own_form ho1
  have HLT := Aside.mk hlt1
  clear hlt1
  have HO1 := Aside.mk ho1
  have HB1 := Aside.mk hb1
  clear ho1 hb1
  go_wp2_with fail
  go_loopw [19] (fun i wr => i = .int .i64 0 ∧ Aside (NewAt w w1 wr A1 c1 ks 0)) (fun i _ => 0)
  case atStart =>
    exact ⟨rfl, ⟨new_start HO1.out HB1.out⟩⟩
  case round =>
    obtain ⟨rfl, HN⟩ := hrel
    replace HN : Aside (NewAt w w1 wr A1 c1 ks ks.length) := by
      have : ks.length = 0 := by rw [H0.out]; rfl
      rw [this]; exact HN
    have n0 := HN.out.c0
    have HSo := Aside.mk (sort_any HN.out.row h64)
    go_wp2_with fail
    (with_reducible refine HSo.out.mono ?_)
    rintro e w2 ⟨rfl, srt, hp, hs, hsrc, hg⟩
    have HE := Aside.mk (new_end HN.out HLT.out HB1.out.size h64 hp hs hsrc hg)
    clear hp hs hsrc hg n0
    go_wp2
    rw [← HR.out]
    exact HE.out
set_option maxRecDepth 100000 in
theorem new_long (A : Option Addr) (c : Nat) (ks : List Ky) (w : World) (h64 : 64 < ks.length) (hl : ks.length ≤ 9223372036854775807) : Calls Tryd.prog 30 #[.slice A ks.length c] w (NewPost w ks) := by
  have HP := Aside.mk (new_fail (w := w) (w' := w) (ks := ks) (by unfold okKs; simp; omega) (below_refl w))
  have g1 : (64 : Int) < (ks.length : Int) := by omega
  obtain ⟨R, hR⟩ : ∃ R, NewPost w ks = R := ⟨_, rfl⟩
  rw [hR] at HP ⊢
  clear hR h64
  go_enter Tryd.func30, Tryd.ntmps30
  go_wp2
  exact HP.out
/-- New, of any slice of keys. -/
theorem new_any (A : Option Addr) (c : Nat) (ks : List Ky) (w : World) (hc : ks.length ≤ c) (hS : KSrc w A ks) (hA : A = none → c = 0) (hl : ks.length ≤ 9223372036854775807) (hwf : ∀ k ∈ ks, (Lit.int .i64 k.id).wf = true) :
    Calls Tryd.prog 30 #[.slice A ks.length c] w (NewPost w ks) := by
  by_cases h64 : ks.length ≤ 64
  · rcases A with _ | ad
    · obtain rfl := hA rfl
      exact new_nil ks (hS.1 rfl) w
    · exact new_some ad c ks w hc hS h64 hwf
  · exact new_long A c ks w (by omega) hl
end Go.Proofs.YtaejlgdmalhhnaaDoor
/- Layer 4: Group of a schema, nil and zero let in. -/
set_option linter.unusedVariables false
set_option linter.unusedSimpArgs false
namespace Go.Proofs.YtaejlgdmalhhnaaDoor
open Go.RowKit Go.Maps

def GroupPost (w : World) (r : List Int) (e : Ending) (w' : World) : Prop := ∃ u, e = .returned u ∧ OwnN w' w.heap.size 3 .i64 u r ∧ Below w.heap.size w w'
theorem own_mono {w : World} {B B' n size : Nat} {e : TypeId} {v : Value} {xs : List Value} (h : w.ownsRow B e size v n xs) (hb : B' ≤ B) : w.ownsRow B' e size v n xs :=
  ⟨h.1, h.2.imp id (fun ⟨g, cap, cur, h1, h2, r⟩ => ⟨g, cap, cur, h1, Nat.le_trans hb h2, r⟩)⟩
/-- A round of the loop that gathers a group. -/
structure GrAt (w0 wr : World) (l : Value) (r : List Int) : Prop where
  below : Below w0.heap.size w0 wr
  own : OwnN wr w0.heap.size 3 .i64 l r
theorem GrAt.alloc {w0 wr : World} {l : Value} {r : List Int} (h : GrAt w0 wr l r) (o : Obj) : GrAt w0 (wr.alloc o) l r := ⟨below_alloc h.below o, h.own.below (below_alloc (below_refl _) o)⟩
theorem GrAt.put {w0 w2 : World} {v : Value} {ss : List Ky} {k : Nat} {g id : Int} {x : Ky} (hx : ss[k]? = some x) (h1 : x.gr = g) (h2 : x.id ≠ id) (hb : Below w0.heap.size w0 w2)
    (ho : w2.ownsRow w0.heap.size 3 1 v ((groupOf (ss.take k) g id).length + 1) (nums .i64 (groupOf (ss.take k) g id) ++ nums .i64 [x.id])) : GrAt w0 w2 v (groupOf (ss.take (k + 1)) g id) := by
  have ht : ss.take (k + 1) = ss.take k ++ [x] := by
    have hl := (List.getElem?_eq_some_iff.1 hx).1
    rw [List.take_succ_eq_append_getElem hl, (List.getElem?_eq_some_iff.1 hx).2]
  rw [ht, groupOf_snoc, if_pos ⟨h1, h2⟩]
  exact ⟨hb, own_n ho⟩
theorem GrAt.skip {w0 wr : World} {l : Value} {ss : List Ky} {k : Nat} {g id : Int} {x : Ky} (hx : ss[k]? = some x) (h : ¬ (x.gr = g ∧ x.id ≠ id)) (hG : GrAt w0 wr l (groupOf (ss.take k) g id)) : GrAt w0 wr l (groupOf (ss.take (k + 1)) g id) := by
  have ht : ss.take (k + 1) = ss.take k ++ [x] := by
    have hl := (List.getElem?_eq_some_iff.1 hx).1
    rw [List.take_succ_eq_append_getElem hl, (List.getElem?_eq_some_iff.1 hx).2]
  rw [ht, groupOf_snoc, if_neg h, List.append_nil]
  exact hG
theorem groupOf_len (ss : List Ky) (g id : Int) : (groupOf ss g id).length ≤ ss.length := by unfold groupOf; rw [List.length_map]; exact List.length_filter_le _ _
theorem cellsK_new (w : World) (x : Ky) : (w.alloc x.obj).cell? ⟨w.heap.size, 5, none⟩ = some (.int .i64 x.gr) := by
  have h2 : (w.alloc x.obj).heap[w.heap.size]? = some x.obj := heap_alloc_new w _
  unfold Ky.obj at h2
  unfold World.cell?
  unfold Ky.obj
  simp only [h2]
  rfl
theorem gr_own {w1 wr : World} {o : Obj} {l : Value} {r : List Int} (h : GrAt (w1.alloc o) wr l r) : wr.ownsRow (w1.heap.size + 1) 3 1 l r.length (nums .i64 r) := by have := h.own; rw [World.size_alloc] at this; exact this
theorem gr_below {w1 wr : World} {o : Obj} {l : Value} {r : List Int} (h : GrAt (w1.alloc o) wr l r) : Below (w1.heap.size + 1) (w1.alloc o) wr := by have := h.below; rw [World.size_alloc] at this; exact this
theorem gr_size {w1 wr : World} {o : Obj} {l : Value} {r : List Int} (h : GrAt (w1.alloc o) wr l r) : w1.heap.size + 1 ≤ wr.heap.size := by have := h.below.size; rw [World.size_alloc] at this; exact this
theorem gr_put {w1 w2 : World} {o : Obj} {v : Value} {ss : List Ky} {k : Nat} {g id : Int} {x : Ky} (hx : ss[k]? = some x) (h1 : x.gr = g) (h2 : x.id ≠ id) (hb : Below (w1.heap.size + 1) (w1.alloc o) w2)
    (ho : w2.ownsRow (w1.heap.size + 1) 3 1 v ((groupOf (ss.take k) g id).length + 1) (nums .i64 (groupOf (ss.take k) g id) ++ nums .i64 [x.id])) : GrAt (w1.alloc o) w2 v (groupOf (ss.take (k + 1)) g id) := by
  have e := World.size_alloc w1 o
  exact GrAt.put hx h1 h2 (by rw [e]; exact hb) (by rw [e]; exact ho)
theorem group_mono {w w1 w2 : World} {u : Value} {r : List Int} (h : OwnN w2 w1.heap.size 3 .i64 u r) (h1 : Below w.heap.size w w1) (h2 : Below w1.heap.size w1 w2) : GroupPost w r (.returned u) w2 :=
  ⟨u, rfl, own_mono h h1.size, below_then h1 h2⟩
set_option maxRecDepth 100000 in
set_option maxHeartbeats 1000000 in
theorem group_any {lo hi : Nat} {v : Value} {ks srt : List Ky} (id : Int) (w : World) (hS : Sch lo hi w v ks srt) (hw : (Lit.int .i64 id).wf = true) (h64 : srt.length ≤ 64) :
    Calls Tryd.prog 67 #[v, .int .i64 id] w (GroupPost w (groupK ks srt id)) := by
  have HF := Aside.mk (find_any id w hS hw)
  have HS := Aside.mk hS
  have hsp : ∃ so, v = .pointer so := by rcases hS with ⟨rfl, _⟩ | ⟨g, A, c, m, rfl, _⟩ <;> exact ⟨_, rfl⟩
  obtain ⟨so, rfl⟩ := hsp
  clear hS
  cases hk : findK ks id with
  | none =>
    have hr : groupK ks srt id = [] := by unfold groupK; rw [hk]
    rw [hr]
    have hp : ∀ e w', FindPost w ks id e w' → e = .returned (.tuple #[.agg #[.int .i64 0, .bool false, .int .u8 0, .bool false, .bool false, .int .i64 0], .bool false]) ∧ Below w.heap.size w w' := by
      intro e w' h; unfold FindPost at h; rw [hk] at h; exact h
    have HP := Aside.mk hp
    obtain ⟨R, hR⟩ : ∃ R, GroupPost w [] = R := ⟨_, rfl⟩
    rw [hR]
    have HR := Aside.mk hR
    clear hp hr hk hR
    go_enter Tryd.func67, Tryd.ntmps67
    go_wp2_with fail
    (with_reducible refine HF.out.mono ?_)
    intro e w1 h1
    obtain ⟨rfl, hb1⟩ := HP.out _ _ h1
    have HB := Aside.mk hb1
    clear h1 hb1
    go_wp2
    rw [← HR.out]
    exact ⟨_, rfl, OwnN.nil _ _ _ _, below_alloc HB.out _⟩
  | some x =>
    obtain ⟨xi, xb, xk, xa, xe, xg⟩ := x
    have hp : ∀ e w', FindPost w ks id e w' → e = .returned (.tuple #[.agg #[.int .i64 xi, .bool xb, .int .u8 xk, .bool xa, .bool xe, .int .i64 xg], .bool true]) ∧ Below w.heap.size w w' := by
      intro e w' h; unfold FindPost at h; rw [hk] at h; exact h
    have HP := Aside.mk hp
    by_cases hg0 : xg = 0
    · subst hg0
      have hr : groupK ks srt id = [] := by unfold groupK; rw [hk]; rfl
      rw [hr]
      obtain ⟨R, hR⟩ : ∃ R, GroupPost w [] = R := ⟨_, rfl⟩
      rw [hR]
      have HR := Aside.mk hR
      clear hp hr hk hR
      go_enter Tryd.func67, Tryd.ntmps67
      go_wp2_with fail
      (with_reducible refine HF.out.mono ?_)
      intro e w1 h1
      obtain ⟨rfl, hb1⟩ := HP.out _ _ h1
      have HB := Aside.mk hb1
      clear h1 hb1
      go_wp2
      rw [← HR.out]
      exact ⟨_, rfl, OwnN.nil _ _ _ _, below_alloc HB.out _⟩
    · have hr : groupK ks srt id = groupOf srt xg id := by unfold groupK; rw [hk]; simp only; rw [if_neg hg0]
      rw [hr]
      have hgz : ((xg : Int) == 0) = false := by simpa using hg0
      rcases HS.out with ⟨e, h1, _⟩ | ⟨g, A, c, m, e, hA⟩
      · subst h1; simp [findK] at hk
      injection e with e
      subst e
      have HA := Aside.mk hA
      obtain ⟨R, hR⟩ : ∃ R, GroupPost w (groupOf srt xg id) = R := ⟨_, rfl⟩
      rw [hR]
      have HR := Aside.mk hR
      have g2 : (srt.length : Int) ≤ 64 := by omega
      have hcap : (srt.length : Int) ≤ (c : Int) := by have := hA.cap; omega
      clear hp hr hk hR hA hg0
      go_enter Tryd.func67, Tryd.ntmps67
      go_wp2_with fail
      (with_reducible refine HF.out.mono ?_)
      intro e w1 h1
      obtain ⟨rfl, hb1⟩ := HP.out _ _ h1
      have HB := Aside.mk hb1
      have c0 := fun o => cell_below (below_alloc (below_refl w1) o) (cell_below hb1 HA.out.c0)
      clear h1 hb1
      go_wp2_with fail
      go_loopw [28, 7] (fun i l wr => ∃ k : Nat, k ≤ srt.length ∧ i = .int .i64 k ∧ Aside (GrAt (w1.alloc (.cells #[.int .i64 xi, .bool xb, .int .u8 xk, .bool xa, .bool xe, .int .i64 xg] 97)) wr l (groupOf (srt.take k) xg id))) (fun i _ _ => srt.length - (intOf i).toNat)
      case atStart => exact ⟨0, Nat.zero_le _, rfl, ⟨below_refl _, OwnN.nil _ _ _ _⟩⟩
      case round =>
        obtain ⟨k, hk, rfl, HN⟩ := hrel
        have HW := Aside.mk (below_alloc (below_refl w1) (.cells #[.int .i64 xi, .bool xb, .int .u8 xk, .bool xa, .bool xe, .int .i64 xg] 97))
        have kb5 := fun o => cell_below (below_alloc (below_refl _) o) (cell_below HN.out.below (show (w1.alloc (.cells #[.int .i64 xi, .bool xb, .int .u8 xk, .bool xa, .bool xe, .int .i64 xg] 97)).cell? ⟨w1.heap.size, 5, none⟩ = some (.int .i64 xg) from cellsK_new w1 ⟨xi, xb, xk, xa, xe, xg⟩))
        by_cases hlt : k < srt.length
        · have hkz : (k : Int) < (srt.length : Int) := by omega
          have HSrc := Aside.mk (((HA.out.src.below HB.out).below HW.out).below HN.out.below)
          rcases hAA : A with _ | ad
          · exact absurd (HA.out.nil hAA).1 (fun e => by rw [e] at hlt; exact absurd hlt (by simp))
          subst hAA
          obtain ⟨⟨yi, yb, yk, ya, ye, yg⟩, hy⟩ : ∃ x, srt[k]? = some x := ⟨_, List.getElem?_eq_getElem hlt⟩
          obtain ⟨s0, s1, s2, s3, s4, s5⟩ := HSrc.out.six hy
          have HL := Aside.mk (Nat.le_trans (groupOf_len (srt.take k) xg id) (List.length_take_le _ _))
          by_cases e1 : yg = xg
          · subst e1
            by_cases e2 : yi = id
            · subst e2
              go_wp2
              go_roundw
              case rel => exact ⟨k + 1, by omega, by go_num, ⟨GrAt.skip hy (fun h => h.2 rfl) (HN.out.alloc _)⟩⟩
              case measure => simp [intOf]; omega
            · have q2 : ((yi : Int) != id) = true := by simpa using e2
              have q2' : ((yi : Int) == id) = false := by simpa using e2
              go_wp2_with (at_builtin; go_must (refine app_lit2 (w0 := w1.alloc (.cells #[.int .i64 xi, .bool xb, .int .u8 xk, .bool xa, .bool xe, .int .i64 yg] 97)) (wr.heap.size + 1) (w1.heap.size + 1) (World.size_alloc _ _).symm rfl (.tmp 43) (.tmp 46) 45 3 (.int .i64 0) 1 8 _ rfl Tryd.underlying45 info3 rfl (by decide) u7 (groupOf (srt.take k) yg id).length 1 (nums .i64 (groupOf (srt.take k) yg id)) (nums .i64 [yi]) rfl rfl rfl rfl (nums_one _ _) (gr_own (HN.out.alloc _)) (gr_below (HN.out.alloc _)) (gr_size (HN.out.alloc _)) (by have := HL.out; omega) (by have := HL.out; omega) ?_))
              intro v1 w2 hown hbel hg hat
              have HZ := Aside.mk (gr_put hy rfl e2 hbel hown)
              clear hown hbel hg hat
              go_wp2
              go_roundw
              case rel => exact ⟨k + 1, by omega, by go_num, HZ⟩
              case measure => simp [intOf]; omega
          · have q1 : ((yg : Int) == xg) = false := by simpa using e1
            go_wp2
            go_roundw
            case rel => exact ⟨k + 1, by omega, by go_num, ⟨GrAt.skip hy (fun h => e1 h.1) (HN.out.alloc _)⟩⟩
            case measure => simp [intOf]; omega
        · obtain rfl : k = srt.length := by omega
          go_wp2
          rw [← HR.out]
          have hN := HN.out
          rw [List.take_length] at hN
          exact group_mono hN.own (below_alloc HB.out _) hN.below
end Go.Proofs.YtaejlgdmalhhnaaDoor
/- Layer 4: known. -/
set_option linter.unusedVariables false
set_option linter.unusedSimpArgs false
namespace Go.Proofs.YtaejlgdmalhhnaaDoor
open Go.RowKit Go.Maps

def kk1 : List Ky := [⟨9, true, 1, false, false, 1⟩, ⟨5, true, 2, false, false, 1⟩, ⟨7, true, 3, false, false, 1⟩, ⟨1, false, 4, false, false, 0⟩]
def kk2 : List Ky := [⟨3, false, 1, false, false, 0⟩, ⟨3, false, 1, false, false, 0⟩]
def kkObj1 : Obj := .cells #[.int .i64 9, .bool true, .int .u8 1, .bool false, .bool false, .int .i64 1, .int .i64 5, .bool true, .int .u8 2, .bool false, .bool false, .int .i64 1, .int .i64 7, .bool true, .int .u8 3, .bool false, .bool false, .int .i64 1, .int .i64 1, .bool false, .int .u8 4, .bool false, .bool false, .int .i64 0] 97
def kkObj2 : Obj := .cells #[.int .i64 3, .bool false, .int .u8 1, .bool false, .bool false, .int .i64 0, .int .i64 3, .bool false, .int .u8 1, .bool false, .bool false, .int .i64 0] 97
theorem kk1_ok : okKs kk1 = true := by decide
theorem kk2_ok : okKs kk2 = false := by decide
theorem src_new (w : World) (cs : Array Value) (ks : List Ky) (h : cs.toList = kcells ks) : KSrc (w.alloc (.cells cs 97)) (some ⟨w.heap.size, 0, none⟩) ks := by
  refine ⟨(fun e => (by cases e)), fun ad e j k hj i v hi => ?_⟩
  cases e
  have h2 : (w.alloc (.cells cs 97)).heap[w.heap.size]? = some (.cells cs 97) := heap_alloc_new w _
  have h3 := kcells_get ks j k hj i v hi
  rw [addr_add_plain]
  unfold World.cell?
  simp only [h2]
  rw [← Array.getElem?_toList, h]
  exact h3
theorem kk1_group (srt : List Ky) (hp : srt.Perm kk1) (hs : sortedK srt) : srt.length = 4 ∧ groupK kk1 srt 7 = [5, 9] := by
  have h := rises_of hp hs (by decide : kk1.Pairwise (fun a b => a.id ≠ b.id))
  have e : srt = [⟨1, false, 4, false, false, 0⟩, ⟨5, true, 2, false, false, 1⟩, ⟨7, true, 3, false, false, 1⟩, ⟨9, true, 1, false, false, 1⟩] :=
    rises_unique (hp.trans (by decide)) h (by unfold risesK; decide)
  subst e
  exact ⟨rfl, by decide⟩
set_option maxRecDepth 100000 in
set_option maxHeartbeats 1000000 in
theorem known4_any (w : World) : Calls Tryd.prog 60 #[] w fun e w' => e = .returned (.bool true) ∧ Below w.heap.size w w' := by
  have N1 := Aside.mk (fun (W : World) => show Calls Tryd.prog 30 #[.slice (some ⟨W.heap.size, 0, none⟩) 4 4] (W.alloc kkObj1) (NewPost (W.alloc kkObj1) kk1) from
    new_any (some ⟨W.heap.size, 0, none⟩) 4 kk1 (W.alloc kkObj1) (by decide) (src_new W _ kk1 rfl) (fun e => by cases e) (by decide) (by decide))
  have N2 := Aside.mk (fun (W : World) => show Calls Tryd.prog 30 #[.slice (some ⟨W.heap.size, 0, none⟩) 2 2] (W.alloc kkObj2) (NewPost (W.alloc kkObj2) kk2) from
    new_any (some ⟨W.heap.size, 0, none⟩) 2 kk2 (W.alloc kkObj2) (by decide) (src_new W _ kk2 rfl) (fun e => by cases e) (by decide) (by decide))
  unfold kkObj1 at N1
  unfold kkObj2 at N2
  go_enter Tryd.func60, Tryd.ntmps60
  go_wp2_with fail
  (with_reducible refine (N1.out _).mono ?_)
  rintro e w1 ⟨hb1, h1⟩
  rw [kk1_ok, if_pos rfl] at h1
  obtain ⟨v, srt, rfl, hS, hv, hp, hs⟩ := h1
  obtain ⟨h4, hg⟩ := kk1_group srt hp hs
  have hsp : ∃ so, v = .pointer so := by rcases hS with ⟨rfl, _⟩ | ⟨g, A, c, m, rfl, _⟩ <;> exact ⟨_, rfl⟩
  obtain ⟨so, rfl⟩ := hsp
  have G := Aside.mk (group_any 7 w1 hS (by decide) (by omega))
  rw [hg] at G
  have HB1 := Aside.mk (below_then (below_alloc (below_refl w) kkObj1) hb1)
  have HS := Aside.mk hS
  have H4 := Aside.mk h4
  clear hS hv hp hs hg hb1 h4
  go_wp2_with fail
  (with_reducible refine G.out.mono ?_)
  rintro e w2 ⟨u, rfl, ho, hb2⟩
  obtain ⟨A2, c2, rfl, hc2, hn2⟩ := ho.reads
  have HN2 := Aside.mk hn2
  have HB2 := Aside.mk (below_then HB1.out hb2)
  have HS2 := Aside.mk (HS.out.below hb2)
  have HC2 := Aside.mk (show 2 ≤ c2 from hc2)
  clear ho hc2 hn2 hb2
  go_wp2_with fail
  (with_reducible refine (N2.out _).mono ?_)
  rintro e w3 ⟨hb3, h3⟩
  rw [kk2_ok] at h3
  obtain rfl : e = .returned (.tuple #[.pointer none, .int .i64 3]) := h3
  have HB3 := Aside.mk (below_then HB2.out (below_then (below_alloc (below_refl w2) kkObj2) hb3))
  have HS3 := Aside.mk ((HS2.out.below (below_alloc (below_refl w2) kkObj2)).below hb3)
  obtain ⟨ad, rfl, hc⟩ := ((HN2.out.below (below_alloc (below_refl w2) kkObj2)).below hb3).2 (by decide)
  have a0 : w3.cell? ad = some (.int .i64 5) := hc 0 (by decide)
  have a1 : w3.cell? ⟨ad.block, ad.off + 1, none⟩ = some (.int .i64 9) := hc 1 (by decide)
  have hc2z : (2 : Int) ≤ (c2 : Int) := by have := HC2.out; omega
  clear hb3 hc
  have HL := Aside.mk (len_any w3 HS3.out)
  rw [H4.out] at HL
  go_wp2_with fail
  (with_reducible refine HL.out.mono ?_)
  rintro e w4 ⟨rfl, rfl⟩
  go_wp2
  go_ret
  exact ⟨rfl, HB3.out⟩
end Go.Proofs.YtaejlgdmalhhnaaDoor
/- Layer 4: SchemaNone. -/
set_option linter.unusedVariables false
set_option linter.unusedSimpArgs false
namespace Go.Proofs.YtaejlgdmalhhnaaDoor
open Go.RowKit Go.Maps

theorem none_find {lo hi : Nat} {v : Value} (id : Int) (w : World) (hS : Sch lo hi w v [] []) (hw : (Lit.int .i64 id).wf = true) :
    Calls Tryd.prog 62 #[v, .int .i64 id] w fun e w' => e = .returned (.tuple #[.agg #[.int .i64 0, .bool false, .int .u8 0, .bool false, .bool false, .int .i64 0], .bool false]) ∧ Below w.heap.size w w' := find_any id w hS hw
theorem none_keys {lo hi : Nat} {v : Value} (w : World) (hS : Sch lo hi w v [] []) :
    Calls Tryd.prog 65 #[v] w fun e w' => (∃ A c, e = .returned (.slice A 0 c)) ∧ Below w.heap.size w w' := by
  refine (keys_any w hS (by simp)).mono ?_
  rintro e w' ⟨u, rfl, ho, hb⟩
  obtain ⟨A, c, rfl, _⟩ := own_form ho
  exact ⟨⟨A, c, rfl⟩, hb⟩
theorem none_group {lo hi : Nat} {v : Value} (id : Int) (w : World) (hS : Sch lo hi w v [] []) (hw : (Lit.int .i64 id).wf = true) :
    Calls Tryd.prog 67 #[v, .int .i64 id] w fun e w' => (∃ A c, e = .returned (.slice A 0 c)) ∧ Below w.heap.size w w' := by
  refine (group_any id w hS hw (by simp)).mono ?_
  rintro e w' ⟨u, rfl, ho, hb⟩
  obtain ⟨A, c, rfl, _⟩ := own_form ho
  exact ⟨⟨A, c, rfl⟩, hb⟩
def NoneW (w : World) (a : Val) : World := (((w.alloc a.obj).alloc (.cells #[.slice none 0 0, .map none] 109)).alloc (.cells #[.pointer none, .pointer (some ⟨w.heap.size + 1, 0, none⟩)] 37))
theorem box_at (w : World) (o : Obj) (n : Nat) (h : n = w.heap.size) : (w.alloc o).heap[n]? = some o := by subst h; exact heap_alloc_new w o
theorem cell_at {w : World} {b i : Nat} {cs : Array Value} {t : TypeId} {v : Value} (h : w.heap[b]? = some (.cells cs t)) (hi : cs[i]? = some v) : w.cell? ⟨b, i, none⟩ = some v := by unfold World.cell?; simp only [h]; exact hi
theorem below_heap {w w1 : World} {b : Nat} {o : Obj} (hb : Below w.heap.size w w1) (h : w.heap[b]? = some o) : w1.heap[b]? = some o := (hb.block b (Array.getElem?_eq_some_iff.1 h).1).trans h
theorem noneW_z (w : World) (a : Val) : (NoneW w a).heap[w.heap.size + 1]? = some (.cells #[.slice none 0 0, .map none] 109) :=
  below_heap (below_alloc (below_refl _) _) (box_at (w.alloc a.obj) _ _ (by simp))
theorem noneW_l (w : World) (a : Val) : (NoneW w a).heap[w.heap.size + 2]? = some (.cells #[.pointer none, .pointer (some ⟨w.heap.size + 1, 0, none⟩)] 37) :=
  box_at _ _ _ (by simp)
theorem noneW_below (w : World) (a : Val) : Below w.heap.size w (NoneW w a) := below_alloc (below_alloc (below_alloc (below_refl _) _) _) _
theorem noneW_sch (w : World) (a : Val) : Sch (w.heap.size + 1) (w.heap.size + 2) (NoneW w a) (.pointer (some ⟨w.heap.size + 1, 0, none⟩)) [] [] :=
  .inr ⟨_, none, 0, .map none, rfl, ⟨Nat.le_refl _, by omega, by simp [NoneW], cell_at (noneW_z w a) rfl, cell_at (noneW_z w a) rfl, .inl ⟨rfl, rfl⟩, ⟨fun _ => rfl, fun a h => (by cases h)⟩, fun a h => (by cases h), fun _ => ⟨rfl, rfl⟩, Nat.le_refl _⟩⟩
theorem noneW_box (w : World) (a : Val) : Box (NoneW w a) w.heap.size a :=
  (Box.new w a).below (below_alloc (below_alloc (below_refl _) _) _)
set_option maxRecDepth 100000 in
set_option maxHeartbeats 2000000 in
theorem schemaNone_walk (id : Int) (a : Val) (w : World) (hw : (Lit.int .i64 id).wf = true) (fa : a.fits) (hT : Lib.Utf8Tabs 1 2 w) :
    Calls Tryd.prog 15 #[.int .i64 id, a.v] w fun e w' => e = .returned (.bool true) ∧ Below w.heap.size w w' := by
  have HK := Aside.mk known4_any
  have HT := Aside.mk (fun W (h : Below (NoneW w a).heap.size (NoneW w a) W) => tabs_below (tabs_below hT (noneW_below w a)) h)
  have HW := Aside.mk hw
  have HB0 := Aside.mk (noneW_below w a)
  have HX := Aside.mk (noneW_box w a)
  have HS1 := Aside.mk (noneW_sch w a)
  have HS0 := Aside.mk (show Sch 0 0 (NoneW w a) (.pointer none) [] [] from .inl ⟨rfl, rfl, rfl⟩)
  have HL := Aside.mk (noneW_l w a)
  clear hw fa hT
  obtain ⟨W0, hW0⟩ : ∃ W0, NoneW w a = W0 := ⟨_, rfl⟩
  rw [hW0] at HT HB0 HX HS1 HS0 HL
  have HW0 := Aside.mk hW0
  have FT := Aside.mk (fun (W : World) (v : Value) (lo hi : Nat) (h : Sch lo hi W v [] []) (hT : Lib.Utf8Tabs 1 2 W) => show Calls Tryd.prog 61 #[v, .int .i64 id, a.v] W fun e w' => e = .returned (.bool false) ∧ Below W.heap.size W w' from fits_any id a W h HW.out hT)
  obtain ⟨k, n, f, s⟩ := a
  unfold NoneW Val.obj at hW0
  unfold Val.v at FT ⊢
  simp only at hW0
  go_enter Tryd.func15, Tryd.ntmps15
  go_wp2
  try rw [hW0]
  clear hW0
  go_loopw [14] (fun i wr => (i = .int .i64 0 ∨ i = .int .i64 1 ∨ i = .int .i64 2) ∧ Aside (Below W0.heap.size W0 wr)) (fun i _ => (2 - intOf i).toNat)
  case atStart => exact ⟨.inl rfl, ⟨below_refl _⟩⟩
  case round =>
    obtain ⟨rfl | rfl | rfl, HN⟩ := hrel
    · have HSx := HS0
      have l0 := cell_at (i := 0) (below_heap HN.out HL.out) rfl
      go_wp2_with fail
      (with_reducible refine (none_find id _ (HSx.out.below HN.out) HW.out).mono ?_)
      rintro e w1 ⟨rfl, hb1⟩
      have B1 := Aside.mk (below_alloc (below_then HN.out hb1) (.cells #[.int .i64 0, .bool false, .int .u8 0, .bool false, .bool false, .int .i64 0] 97))
      clear hb1 l0
      have HLen := Aside.mk (show Calls Tryd.prog 63 #[.pointer none] (w1.alloc (.cells #[.int .i64 0, .bool false, .int .u8 0, .bool false, .bool false, .int .i64 0] 97)) fun e w' => e = .returned (.int .i64 0) ∧ w' = (w1.alloc (.cells #[.int .i64 0, .bool false, .int .u8 0, .bool false, .bool false, .int .i64 0] 97)) from len_any _ (HSx.out.below B1.out))
      go_wp2_with fail
      (with_reducible refine HLen.out.mono ?_)
      rintro e w2 ⟨rfl, rfl⟩
      go_wp2_with fail
      (with_reducible refine (none_keys _ (HSx.out.below B1.out)).mono ?_)
      rintro e w3 ⟨⟨A3, c3, rfl⟩, hb3⟩
      have B3 := Aside.mk (below_then B1.out hb3)
      clear hb3
      go_wp2_with fail
      (with_reducible refine (none_group id _ (HSx.out.below B3.out) HW.out).mono ?_)
      rintro e w4 ⟨⟨A4, c4, rfl⟩, hb4⟩
      have B4 := Aside.mk (below_then B3.out hb4)
      obtain ⟨b0, b1, b2, b3⟩ := HX.out.below B4.out
      clear hb4
      go_wp2_with fail
      (with_reducible refine (FT.out _ _ _ _ (HSx.out.below B4.out) (HT.out _ B4.out)).mono ?_)
      rintro e w5 ⟨rfl, hb5⟩
      have B5 := Aside.mk (below_then B4.out hb5)
      clear hb5 b0 b1 b2 b3
      go_wp2
      go_roundw
      case rel => exact ⟨.inr (.inl rfl), B5⟩
      case measure => simp [intOf]
    · have HSx := HS1
      have l0 := cell_at (i := 1) (below_heap HN.out HL.out) rfl
      go_wp2_with fail
      (with_reducible refine (none_find id _ (HSx.out.below HN.out) HW.out).mono ?_)
      rintro e w1 ⟨rfl, hb1⟩
      have B1 := Aside.mk (below_alloc (below_then HN.out hb1) (.cells #[.int .i64 0, .bool false, .int .u8 0, .bool false, .bool false, .int .i64 0] 97))
      clear hb1 l0
      have HLen := Aside.mk (show Calls Tryd.prog 63 #[.pointer (some ⟨w.heap.size + 1, 0, none⟩)] (w1.alloc (.cells #[.int .i64 0, .bool false, .int .u8 0, .bool false, .bool false, .int .i64 0] 97)) fun e w' => e = .returned (.int .i64 0) ∧ w' = (w1.alloc (.cells #[.int .i64 0, .bool false, .int .u8 0, .bool false, .bool false, .int .i64 0] 97)) from len_any _ (HSx.out.below B1.out))
      go_wp2_with fail
      (with_reducible refine HLen.out.mono ?_)
      rintro e w2 ⟨rfl, rfl⟩
      go_wp2_with fail
      (with_reducible refine (none_keys _ (HSx.out.below B1.out)).mono ?_)
      rintro e w3 ⟨⟨A3, c3, rfl⟩, hb3⟩
      have B3 := Aside.mk (below_then B1.out hb3)
      clear hb3
      go_wp2_with fail
      (with_reducible refine (none_group id _ (HSx.out.below B3.out) HW.out).mono ?_)
      rintro e w4 ⟨⟨A4, c4, rfl⟩, hb4⟩
      have B4 := Aside.mk (below_then B3.out hb4)
      obtain ⟨b0, b1, b2, b3⟩ := HX.out.below B4.out
      clear hb4
      go_wp2_with fail
      (with_reducible refine (FT.out _ _ _ _ (HSx.out.below B4.out) (HT.out _ B4.out)).mono ?_)
      rintro e w5 ⟨rfl, hb5⟩
      have B5 := Aside.mk (below_then B4.out hb5)
      clear hb5 b0 b1 b2 b3
      go_wp2
      go_roundw
      case rel => exact ⟨.inr (.inr rfl), B5⟩
      case measure => simp [intOf]
    · go_wp2_with fail
      (with_reducible refine (HK.out _).mono ?_)
      rintro e w2 ⟨rfl, hb2⟩
      have HB := Aside.mk (below_then (below_then HB0.out HN.out) hb2)
      clear hb2
      go_wp2
      go_ret
      exact ⟨rfl, HB.out⟩
end Go.Proofs.YtaejlgdmalhhnaaDoor
