/- Layer 4: New's walk (printed by gen_new.py). -/
import Derived.Test.YtaejlgdmalhhnaaSt
import Derived.Test.YtaejlgdmalhhnaaBase
set_option linter.unusedVariables false
set_option linter.unusedSimpArgs false
namespace Go.Proofs.Ytaejlgdmalhhnaa
open Go.RowKit Go.Maps

def NewPost (w : World) (ks : List Ky) (e : Ending) (w' : World) : Prop :=
  Below w.heap.size w w' ∧ if okKs ks then ∃ v srt, e = .returned (.tuple #[v, .int .i64 0]) ∧ Sch w.heap.size w'.heap.size w' v ks srt ∧ v ≠ .pointer none ∧ srt.Perm ks ∧ sortedK srt else e = .returned (.tuple #[.pointer none, .int .i64 3])
theorem NewAt.below' {w w1 wr wq : World} {A1 : Option Addr} {c1 : Nat} {ks : List Ky} {k : Nat} (h : NewAt w w1 wr A1 c1 ks k) (hb : Below wr.heap.size wr wq) : NewAt w w1 wq A1 c1 ks k :=
  ⟨below_then h.below hb, cell_below hb h.c0, cell_below hb h.cm, h.map.below hb, own_below h.row hb, h.pre, Nat.lt_of_lt_of_le h.size hb.size⟩
/-- .. and the key of this round in a box of its own. -/
structure NewX (w w1 wr : World) (A1 : Option Addr) (c1 : Nat) (ks : List Ky) (k : Nat) (q : Nat) (x : Ky) : Prop where
  at_ : NewAt w w1 wr A1 c1 ks k
  box : ∀ i v, x.cells[i]? = some v → wr.cell? ⟨q, i, none⟩ = some v
theorem NewX.below {w w1 wr wq : World} {A1 : Option Addr} {c1 : Nat} {ks : List Ky} {k q : Nat} {x : Ky} (h : NewX w w1 wr A1 c1 ks k q x) (hb : Below wr.heap.size wr wq) : NewX w w1 wq A1 c1 ks k q x :=
  ⟨h.at_.below' hb, fun i v hi => cell_below hb (h.box i v hi)⟩
theorem NewX.alloc {w w1 wr : World} {A1 : Option Addr} {c1 : Nat} {ks : List Ky} {k q : Nat} {x : Ky} (h : NewX w w1 wr A1 c1 ks k q x) (o : Obj) : NewX w w1 (wr.alloc o) A1 c1 ks k q x :=
  h.below (below_alloc (below_refl _) o)
theorem NewX.drewn {w w1 wr : World} {A1 : Option Addr} {c1 : Nat} {ks : List Ky} {k q : Nat} {x : Ky} (h : NewX w w1 wr A1 c1 ks k q x) : NewX w w1 wr.drew A1 c1 ks k q x := ⟨⟨h.at_.below.drew, h.at_.c0, h.at_.cm, h.at_.map, h.at_.row, h.at_.pre, h.at_.size⟩, h.box⟩
theorem NewX.start {w w1 wr : World} {A1 : Option Addr} {c1 : Nat} {ks : List Ky} {k : Nat} {x : Ky} (h : NewAt w w1 wr A1 c1 ks k) : NewX w w1 (wr.alloc x.obj) A1 c1 ks k wr.heap.size x := by
  refine ⟨h.below' (below_alloc (below_refl _) _), fun i v hi => ?_⟩
  have h2 : (wr.alloc x.obj).heap[wr.heap.size]? = some x.obj := heap_alloc_new wr _
  have hi' : (#[Value.int .i64 x.id, .bool x.bl, .int .u8 x.kd, .bool x.af, .bool x.be, .int .i64 x.gr] : Array Value)[i]? = some v := by rw [← Array.getElem?_toList]; exact hi
  unfold Ky.obj at h2
  unfold World.cell?
  unfold Ky.obj
  simp only [h2]
  exact hi'
def S7 (w w1 : World) (A1 : Option Addr) (c1 : Nat) (ks : List Ky) (k q : Nat) (x : Ky) (W : World) : Prop :=
  W.cell? ⟨w1.heap.size + 1, 1, none⟩ = some (.map (some w1.heap.size)) ∧ W.cell? ⟨q, 0, none⟩ = some (.int .i64 x.id) ∧ NewX w w1 W A1 c1 ks k q x
theorem S7.of {w w1 wr : World} {A1 : Option Addr} {c1 : Nat} {ks : List Ky} {k q : Nat} {x : Ky} (h : NewX w w1 wr A1 c1 ks k q x) : S7 w w1 A1 c1 ks k q x wr := ⟨h.at_.cm, h.box 0 _ rfl, h⟩
theorem NewAt.put {w w1 wr w' : World} {A1 : Option Addr} {c1 : Nat} {ks : List Ky} {k : Nat} {x : Ky} (h : NewAt w w1 wr A1 c1 ks k) (hx : ks[k]? = some x) (hm : mayK x = true) (hf : findK (ks.take k) x.id = none)
    (hlt : ∀ blk, (Value.slice A1 ks.length c1).ownBlock = some blk → blk < w1.heap.size) (hw : w.heap.size ≤ w1.heap.size) (hk : KMap w' w1.heap.size (ks.take k ++ [x])) (hg : wr.grownBy w' (some w1.heap.size)) : NewAt w w1 w' A1 c1 ks (k + 1) := by
  have ht : ks.take (k + 1) = ks.take k ++ [x] := by
    have hl := (List.getElem?_eq_some_iff.1 hx).1
    rw [List.take_succ_eq_append_getElem hl, (List.getElem?_eq_some_iff.1 hx).2]
  refine ⟨h.below.grown hg h.below.size (fun j hj => by cases hj; exact hw), hg.cell h.c0 (by simp), hg.cell h.cm (by simp), by rw [ht]; exact hk, h.row.kept hg ?_, by rw [ht]; exact (okPre_snoc _ _).2 ⟨h.pre, hm, hf⟩, Nat.lt_of_lt_of_le h.size hg.size⟩
  cases e : (Value.slice A1 ks.length c1).ownBlock with
  | none => exact .inl rfl
  | some blk => exact .inr (fun e' => by have := hlt blk e; cases e'; omega)
theorem kcells_get (l : List Ky) (j : Nat) (k : Ky) (hj : l[j]? = some k) (i : Nat) (v : Value) (hi : k.cells[i]? = some v) : (kcells l)[j * 6 + i]? = some v := by
  induction l generalizing j with
  | nil => simp at hj
  | cons x r ih =>
    have e : kcells (x :: r) = x.cells ++ kcells r := by simp [kcells]
    have hi6 : i < 6 := (List.getElem?_eq_some_iff.1 hi).1
    rw [e]
    cases j with
    | zero =>
      simp at hj; subst hj
      rw [List.getElem?_append_left (by rw [cells_len]; omega)]
      simpa using hi
    | succ j =>
      rw [List.getElem?_append_right (by rw [cells_len]; omega), cells_len]
      have e2 : (j + 1) * 6 + i - 6 = j * 6 + i := by omega
      rw [e2]
      exact ih j (by simpa using hj)
theorem row_of_own {w : World} {B c : Nat} {g : Nat} {ks : List Ky} (h : w.ownsRow B 25 6 (.slice (some ⟨g, 0, none⟩) ks.length c) ks.length (kcells ks)) : KRow w g 0 ks := by
  intro j k hj i v hi
  have h1 := World.ownsRow.cells h (g := g) rfl (j * 6 + i) v (kcells_get ks j k hj i v hi)
  rw [addr_add_plain] at h1
  have e : 0 + j * 6 + i = j * 6 + i := by omega
  rw [e]
  exact ⟨h1, h.frozenAt (j * 6 + i)⟩
theorem src_of_row {w : World} {g : Nat} {ks : List Ky} (h : KRow w g 0 ks) : KSrc w (some ⟨g, 0, none⟩) ks := by
  refine ⟨(fun e => (by cases e)), fun ad e j k hj i v hi => ?_⟩
  cases e
  have h1 := (h j k hj i v hi).1
  rw [addr_add_plain]
  have e : 0 + j * 6 + i = j * 6 + i := by omega
  rw [e] at h1
  exact h1
def SortPost (w : World) (v : Value) (A : Option Addr) (ks : List Ky) (e : Ending) (w' : World) : Prop :=
  e = .returned (.tuple #[]) ∧ ∃ srt : List Ky, srt.Perm ks ∧ sortedK srt ∧ KSrc w' A srt ∧ w.grownBy w' v.ownBlock
theorem sort_any {B c : Nat} {A : Option Addr} {ks : List Ky} {w : World} (h : w.ownsRow B 25 6 (.slice A ks.length c) ks.length (kcells ks)) (hl : ks.length ≤ 64) :
    Calls Try.prog 12 #[.slice A ks.length c, .func (.func 13) #[] #[]] w (SortPost w (.slice A ks.length c) A ks) := by
  rcases h.2 with ⟨hv, h0⟩ | ⟨g, cap, cur, hv, hb, hh, _⟩
  · injection hv with h1 h2 h3
    subst h1 h3
    have hk : ks = [] := List.eq_nil_of_length_eq_zero h0
    subst hk
    refine (sort_none none 0 w).mono ?_
    rintro e w' ⟨rfl, rfl⟩
    exact ⟨rfl, [], List.Perm.refl _, by simp [sortedK], ⟨fun _ => rfl, fun ad e => by cases e⟩, World.grownBy.refl _ _⟩
  · injection hv with h1 h2 h3
    subst h1 h3
    refine (sort_keys g 0 c ks w (row_of_own h) (Array.getElem?_eq_some_iff.1 hh).1 (by omega)).mono ?_
    rintro e w' ⟨rfl, srt, hp, hs, hr, hg⟩
    exact ⟨rfl, srt, hp, hs, src_of_row hr, hg⟩
theorem new_end {w w1 wr w2 : World} {A1 : Option Addr} {c1 : Nat} {ks srt : List Ky} (h : NewAt w w1 wr A1 c1 ks ks.length) (hlt : ∀ blk, (Value.slice A1 ks.length c1).ownBlock = some blk → blk < w1.heap.size) (hw : w.heap.size ≤ w1.heap.size)
    (h64 : ks.length ≤ 64) (hp : srt.Perm ks) (hs : sortedK srt) (hsrc : KSrc w2 A1 srt) (hg : wr.grownBy w2 (Value.slice A1 ks.length c1).ownBlock) : NewPost w ks (.returned (.tuple #[.pointer (some ⟨w1.heap.size + 1, 0, none⟩), .int .i64 0])) w2 := by
  have hpre := h.pre
  rw [List.take_length] at hpre
  have hok : okKs ks = true := by unfold okKs; simp [h64, hpre]
  have hne : ∀ b, w1.heap.size ≤ b → some b ≠ (Value.slice A1 ks.length c1).ownBlock := fun b hb e => by have := hlt b e.symm; omega
  have hbase : ∀ k, (Value.slice A1 ks.length c1).ownBlock = some k → w.heap.size ≤ k := own_base h.row
  have hlen : srt.length = ks.length := hp.length_eq
  refine ⟨h.below.grown hg h.below.size hbase, ?_⟩
  rw [if_pos hok]
  have hsz := h.size
  have hgs := hg.size
  refine ⟨_, srt, rfl, .inr ⟨w1.heap.size + 1, A1, c1, _, rfl, ⟨by omega, by omega, Nat.le_refl _, ?_, hg.cell h.cm (hne _ (by simp)), .inr ⟨w1.heap.size, rfl, hw, by omega, ?_⟩, hsrc, ?_, ?_, ?_⟩⟩, (fun e => by cases e), hp, hs⟩
  · rw [hlen]; exact hg.cell h.c0 (hne _ (by simp))
  · have := h.map
    rw [List.take_length] at this
    exact this.grown hg (hne _ (by omega))
  · intro a ha
    subst ha
    have h1 := hlt a.block rfl
    have h2 := hbase a.block rfl
    omega
  · intro ha
    subst ha
    rcases h.row.2 with ⟨hv, h0⟩ | ⟨g, cap, cur, hv, _⟩
    · injection hv with h1 h2 h3
      exact ⟨List.eq_nil_of_length_eq_zero (by omega), h3⟩
    · cases hv
  · rcases h.row.2 with ⟨hv, h0⟩ | ⟨g, cap, cur, hv, _, _, hle, _⟩
    · omega
    · injection hv with h1 h2 h3
      omega
theorem new_fail {w w' : World} {ks : List Ky} (h : okKs ks = false) (hb : Below w.heap.size w w') : NewPost w ks (.returned (.tuple #[.pointer none, .int .i64 3])) w' := by
  refine ⟨hb, ?_⟩
  rw [h]
  rfl
theorem box6 {w w1 wr : World} {A1 : Option Addr} {c1 : Nat} {ks : List Ky} {k q : Nat} {x : Ky} (h : NewX w w1 wr A1 c1 ks k q x) :
    wr.cell? ⟨q, 0, none⟩ = some (.int .i64 x.id) ∧ wr.cell? ⟨q, 1, none⟩ = some (.bool x.bl) ∧ wr.cell? ⟨q, 2, none⟩ = some (.int .u8 x.kd) ∧ wr.cell? ⟨q, 3, none⟩ = some (.bool x.af) ∧ wr.cell? ⟨q, 4, none⟩ = some (.bool x.be) ∧ wr.cell? ⟨q, 5, none⟩ = some (.int .i64 x.gr) :=
  ⟨h.box 0 _ rfl, h.box 1 _ rfl, h.box 2 _ rfl, h.box 3 _ rfl, h.box 4 _ rfl, h.box 5 _ rfl⟩
theorem put_at {w w1 wr : World} {A1 : Option Addr} {c1 : Nat} {ks : List Ky} {k q : Nat} {id kd gr : Int} {bl af be : Bool} (h : NewX w w1 wr A1 c1 ks k q ⟨id, bl, kd, af, be, gr⟩) :
    wr.cell? ⟨w1.heap.size + 1, 1, none⟩ = some (.map (some w1.heap.size)) ∧ wr.cell? ⟨q, 0, none⟩ = some (.int .i64 id) ∧ wr.cell? ⟨q, 1, none⟩ = some (.bool bl) ∧ wr.cell? ⟨q, 2, none⟩ = some (.int .u8 kd) ∧ wr.cell? ⟨q, 3, none⟩ = some (.bool af) ∧ wr.cell? ⟨q, 4, none⟩ = some (.bool be) ∧ wr.cell? ⟨q, 5, none⟩ = some (.int .i64 gr) := ⟨h.at_.cm, box6 h⟩
theorem put_s10 {W W' : World} {a q : Nat} {id kd gr : Int} {bl af be : Bool} (h : W.cell? ⟨a + 1, 1, none⟩ = some (.map (some a)) ∧ W.cell? ⟨q, 0, none⟩ = some (.int .i64 id) ∧ W.cell? ⟨q, 1, none⟩ = some (.bool bl) ∧ W.cell? ⟨q, 2, none⟩ = some (.int .u8 kd) ∧ W.cell? ⟨q, 3, none⟩ = some (.bool af) ∧ W.cell? ⟨q, 4, none⟩ = some (.bool be) ∧ W.cell? ⟨q, 5, none⟩ = some (.int .i64 gr)) (hg : W.grownBy W' (some a)) (hq : a + 1 < q) :
    W'.cell? ⟨a + 1, 1, none⟩ = some (.map (some a)) ∧ W'.cell? ⟨q, 0, none⟩ = some (.int .i64 id) ∧ W'.cell? ⟨q, 1, none⟩ = some (.bool bl) ∧ W'.cell? ⟨q, 2, none⟩ = some (.int .u8 kd) ∧ W'.cell? ⟨q, 3, none⟩ = some (.bool af) ∧ W'.cell? ⟨q, 4, none⟩ = some (.bool be) ∧ W'.cell? ⟨q, 5, none⟩ = some (.int .i64 gr) := by
  obtain ⟨h0, h1, h2, h3, h4, h5, h6⟩ := h
  have n1 : some (a + 1) ≠ some a := by simp
  have n2 : some q ≠ some a := by simp; omega
  exact ⟨hg.cell h0 n1, hg.cell h1 n2, hg.cell h2 n2, hg.cell h3 n2, hg.cell h4 n2, hg.cell h5 n2, hg.cell h6 n2⟩
theorem new_start {w w1 : World} {A1 : Option Addr} {c1 : Nat} {ks : List Ky} (ho : w1.ownsRow w.heap.size 25 6 (.slice A1 ks.length c1) ks.length (kcells ks)) (hb : Below w.heap.size w w1) :
    NewAt w w1 ((w1.alloc (.map #[] 0)).alloc (.cells #[.slice A1 ks.length c1, .map (some w1.heap.size)] 39)) A1 c1 ks 0 := by
  have hb2 : Below w1.heap.size w1 ((w1.alloc (.map #[] 0)).alloc (.cells #[.slice A1 ks.length c1, .map (some w1.heap.size)] 39)) := below_alloc (below_alloc (below_refl w1) _) _
  have hh : ((w1.alloc (.map #[] 0)).alloc (.cells #[.slice A1 ks.length c1, .map (some w1.heap.size)] 39)).heap[w1.heap.size + 1]? = some (.cells #[.slice A1 ks.length c1, .map (some w1.heap.size)] 39) := by
    have := heap_alloc_new (w1.alloc (.map #[] 0)) (.cells #[.slice A1 ks.length c1, .map (some w1.heap.size)] 39)
    rw [World.size_alloc] at this
    exact this
  refine ⟨below_then hb hb2, ?_, ?_, ?_, own_below ho hb2, ⟨by simp, by simp⟩, by simp⟩
  · unfold World.cell?; simp only [hh]; rfl
  · unfold World.cell?; simp only [hh]; rfl
  · exact (KMap.new w1).below (below_alloc (below_refl _) _)
theorem new_no {ks : List Ky} {k : Nat} {x : Ky} (hx : ks[k]? = some x) (h : mayK x = false ∨ (findK (ks.take k) x.id).isSome = true) : okKs ks = false := by
  have := okPre_take_fail hx (fun h' => by rcases h with h | h; · rw [h] at h'; exact absurd h'.1 (by simp)
                                           · rw [h'.2] at h; exact absurd h (by simp))
  unfold okKs
  simp [this]
theorem S7.below {w w1 : World} {A1 : Option Addr} {c1 : Nat} {ks : List Ky} {k q : Nat} {x : Ky} {W W' : World} (h : S7 w w1 A1 c1 ks k q x W) (hb : Below W.heap.size W W') : S7 w w1 A1 c1 ks k q x W' := S7.of (h.2.2.below hb)
set_option maxRecDepth 100000 in
set_option maxHeartbeats 2000000 in
theorem new_some (ad : Addr) (c : Nat) (ks : List Ky) (w : World) (hc : ks.length ≤ c) (hS : KSrc w (some ad) ks) (h64 : ks.length ≤ 64) (hwf : ∀ k ∈ ks, (Lit.int .i64 k.id).wf = true) :
    Calls Try.prog 5 #[.slice (some ad) ks.length c] w (NewPost w ks) := by
  have HC := Aside.mk (clone_keys (some ad) c ks w (fun h => by cases h) hS.cells (by omega))
  have g1 : (ks.length : Int) ≤ 64 := by omega
  have HS := Aside.mk hS
  have HWF := Aside.mk hwf
  clear hS hwf
  obtain ⟨R, hR⟩ : ∃ R, NewPost w ks = R := ⟨_, rfl⟩
  rw [hR]
  have HR := Aside.mk hR
  clear hR
  have hmk : ∀ W : World, (Instr.makeMap 37 none).run Try.prog W = .ok (.map (some W.heap.size)) (W.alloc (.map #[] 0)) := fun W => rfl
  go_enter Try.func5, Try.ntmps5
  go_wp2_with fail
  (with_reducible refine HC.out.mono ?_)
  rintro e w1 ⟨v, rfl, ho1, hb1⟩
  obtain ⟨A1, c1, rfl, hlt1⟩ := own_form ho1
  have HLT := Aside.mk hlt1
  clear hlt1
  have HO1 := Aside.mk ho1
  have HB1 := Aside.mk hb1
  clear ho1 hb1
  go_wp2_with fail
  go_loopw [19] (fun i wr => ∃ k : Nat, k ≤ ks.length ∧ i = .int .i64 k ∧ Aside (NewAt w w1 wr A1 c1 ks k)) (fun i _ => ks.length - (intOf i).toNat)
  case atStart =>
    exact ⟨0, Nat.zero_le _, rfl, ⟨new_start HO1.out HB1.out⟩⟩
  case round =>
    obtain ⟨k, hk, rfl, HN⟩ := hrel
    by_cases hlt : k < ks.length
    · have hkz : (k : Int) < (ks.length : Int) := by omega
      have hcz : (ks.length : Int) ≤ (c : Int) := by omega
      obtain ⟨⟨id, bl, kd, af, be, gr⟩, hx⟩ : ∃ x, ks[k]? = some x := ⟨_, List.getElem?_eq_getElem hlt⟩
      obtain ⟨s0, s1, s2, s3, s4, s5⟩ := (HS.out.below HN.out.below).six hx
      have HX := Aside.mk (NewX.start (x := ⟨id, bl, kd, af, be, gr⟩) HN.out)
      unfold Ky.obj at HX
      go_wp2_with fail
      clear s0 s1 s2 s3 s4 s5
      have hwfx := HWF.out ⟨id, bl, kd, af, be, gr⟩ (List.mem_of_getElem? hx)
      simp only at hwfx
      cases hfk : findK (ks.take k) id with
      | some y =>
        obtain ⟨yi, yb, yk, ya, ye, yg⟩ := y
        have hno : okKs ks = false := new_no hx (.inr (by rw [hfk]; rfl))
        refine wp_region_noPanic ?_
        refine wp_region_held_drew (S := fun W => W.cell? ⟨w1.heap.size + 1, 1, none⟩ = some (.map (some w1.heap.size)) ∧ W.cell? ⟨wr.heap.size, 0, none⟩ = some (.int .i64 id) ∧ NewX w w1 W A1 c1 ks k wr.heap.size ⟨id, bl, kd, af, be, gr⟩) (by kernel_rfl) (S7.of (HX.out.drewn)) (fun hHeld => ?_)
        refine take_at (i := 0) (d := some 24) (v := ?va0) rfl rfl (by kernel_rfl) (by kernel_rfl) (by kernel_rfl) (fun _ _ _ h => h) (Or.inl ⟨by rfl, ?hya0⟩) hHeld ?resta0
        case hya0 => (intro w hSw; (try dsimp only at hSw); go_simp; try with_reducible rfl)
        try simp only [Act.put, List.setIfInBounds_toArray, List.set_cons_zero, List.set_cons_succ]
        refine take_at (i := 1) (d := some 25) (v := ?va1) rfl rfl (by kernel_rfl) (by kernel_rfl) (by kernel_rfl) (fun _ _ _ h => h) (Or.inl ⟨by rfl, ?hya1⟩) hHeld ?resta1
        case hya1 => (intro w hSw; (try dsimp only at hSw); go_simp; try with_reducible rfl)
        try simp only [Act.put, List.setIfInBounds_toArray, List.set_cons_zero, List.set_cons_succ]
        refine take_at (i := 2) (d := some 26) (v := ?va2) rfl rfl (by kernel_rfl) (by kernel_rfl) (by kernel_rfl) (fun _ _ _ h => h) (Or.inl ⟨by rfl, ?hya2⟩) hHeld ?resta2
        case hya2 => (intro w hSw; (try dsimp only at hSw); go_simp; try with_reducible rfl)
        try simp only [Act.put, List.setIfInBounds_toArray, List.set_cons_zero, List.set_cons_succ]
        refine take_at (i := 3) (d := some 27) (v := ?va3) rfl rfl (by kernel_rfl) (by kernel_rfl) (by kernel_rfl) (fun _ _ _ h => h) (Or.inl ⟨by rfl, ?hya3⟩) hHeld ?resta3
        case hya3 => (intro w hSw; (try dsimp only at hSw); go_simp; try with_reducible rfl)
        try simp only [Act.put, List.setIfInBounds_toArray, List.set_cons_zero, List.set_cons_succ]
        refine take_at (i := 4) (d := some 28) (v := ?va4) rfl rfl (by kernel_rfl) (by kernel_rfl) (by kernel_rfl) (fun _ _ _ h => h) (Or.inl ⟨by rfl, ?hya4⟩) hHeld ?resta4
        case hya4 => (intro w hSw; (try dsimp only at hSw); go_simp; try with_reducible rfl)
        try simp only [Act.put, List.setIfInBounds_toArray, List.set_cons_zero, List.set_cons_succ]
        refine take_at (i := 5) (d := some 29) (v := ?va5) rfl rfl (by kernel_rfl) (by kernel_rfl) (by kernel_rfl) (fun _ _ _ h => h) (Or.inl ⟨by rfl, ?hya5⟩) hHeld ?resta5
        case hya5 => (intro w hSw; (try dsimp only at hSw); go_simp; try with_reducible rfl)
        try simp only [Act.put, List.setIfInBounds_toArray, List.set_cons_zero, List.set_cons_succ]
        refine take_at (i := 6) (d := some 30) (v := ?va6) rfl rfl (by kernel_rfl) (by kernel_rfl) (by kernel_rfl) (fun _ _ _ h => h) (Or.inl ⟨by rfl, ?hya6⟩) hHeld ?resta6
        case hya6 => (intro w hSw; have hl := hSw.2.2.at_.map.look hwfx; rw [hfk] at hl; unfold Ky.v at hl; simp only [Option.getD_some, Option.isSome_some] at hl; (try dsimp only at hSw); go_simp; try with_reducible rfl)
        try simp only [Act.put, List.setIfInBounds_toArray, List.set_cons_zero, List.set_cons_succ]
        refine take_at (i := 7) (d := some 23) (v := ?va7) rfl rfl (by kernel_rfl) (by kernel_rfl) (by kernel_rfl) (fun _ _ _ h => h) (Or.inl ⟨by rfl, ?hya7⟩) hHeld ?resta7
        case hya7 => (intro w hSw; (try dsimp only at hSw); go_simp; try with_reducible rfl)
        try simp only [Act.put, List.setIfInBounds_toArray, List.set_cons_zero, List.set_cons_succ]
        refine take_at (i := 8) (d := some 31) (v := ?va8) rfl rfl (by kernel_rfl) (by kernel_rfl) (by kernel_rfl) (fun _ _ _ h => h) (Or.inl ⟨by rfl, ?hya8⟩) hHeld ?resta8
        case hya8 => (intro w hSw; (try dsimp only at hSw); go_simp; try with_reducible rfl)
        try simp only [Act.put, List.setIfInBounds_toArray, List.set_cons_zero, List.set_cons_succ]
        refine take_at (i := 9) (d := some 32) (v := ?va9) rfl rfl (by kernel_rfl) (by kernel_rfl) (by kernel_rfl) (fun _ _ _ h => h) (Or.inl ⟨by rfl, ?hya9⟩) hHeld ?resta9
        case hya9 => (intro w hSw; (try dsimp only at hSw); go_simp; try with_reducible rfl)
        try simp only [Act.put, List.setIfInBounds_toArray, List.set_cons_zero, List.set_cons_succ]
        refine wpAnyH_ready (rs := [10]) (by kernel_rfl) (by simp) ?_
        refine AllReadyH.cons rfl (fun K hK => ?_) AllReadyH.nil
        have hH0 := hHeld
        go_simp
        refine hK.out _ _ (S7.of (NewX.alloc hHeld.2.2 _)) (fun hHeld' => ?_)
        clear hK K hHeld
        have hHeld := hHeld'
        clear hHeld'
        try simp only [Act.put, List.setIfInBounds_toArray, List.set_cons_zero, List.set_cons_succ]
        refine wpAnyH_ready (rs := [11]) (by kernel_rfl) (by simp) ?_
        refine AllReadyH.cons rfl (fun K hK => ?_) AllReadyH.nil
        go_simp
        refine hK.out _ _ (S7.of (NewX.alloc hH0.2.2 _)) (fun hHeld' => ?_)
        clear hK K hHeld
        have hHeld := hHeld'
        clear hHeld'
        try simp only [Act.put, List.setIfInBounds_toArray, List.set_cons_zero, List.set_cons_succ]
        refine take_at (i := 12) (d := some 8) (v := ?va12) rfl rfl (by kernel_rfl) (by kernel_rfl) (by kernel_rfl) (fun _ _ _ h => h) (Or.inl ⟨by rfl, ?hya12⟩) hHeld ?resta12
        case hya12 => (intro w hSw; (try dsimp only at hSw); go_simp; try with_reducible rfl)
        try simp only [Act.put, List.setIfInBounds_toArray, List.set_cons_zero, List.set_cons_succ]
        refine wpAnyH_done (by kernel_rfl) ?_ _

        refine NoPanic.normal ?_
        go_wp2
        rw [← HR.out]
        exact new_fail hno hHeld.2.2.at_.below
      | none =>
        cases hmk2 : mayK ⟨id, bl, kd, af, be, gr⟩ with
        | false =>
          have hno : okKs ks = false := new_no hx (.inl hmk2)
          have HM := Aside.mk (fun W => mayKey_any ⟨id, bl, kd, af, be, gr⟩ W)
          rw [hmk2] at HM
          unfold Ky.v at HM
          clear hmk2
          refine wp_region_noPanic ?_
          refine wp_region_held_drew (S := fun W => W.cell? ⟨w1.heap.size + 1, 1, none⟩ = some (.map (some w1.heap.size)) ∧ W.cell? ⟨wr.heap.size, 0, none⟩ = some (.int .i64 id) ∧ NewX w w1 W A1 c1 ks k wr.heap.size ⟨id, bl, kd, af, be, gr⟩) (by kernel_rfl) (S7.of (HX.out.drewn)) (fun hHeld => ?_)
          refine take_at (i := 0) (d := some 24) (v := ?vb0) rfl rfl (by kernel_rfl) (by kernel_rfl) (by kernel_rfl) (fun _ _ _ h => h) (Or.inl ⟨by rfl, ?hyb0⟩) hHeld ?restb0
          case hyb0 => (intro w hSw; (try dsimp only at hSw); go_simp; try with_reducible rfl)
          try simp only [Act.put, List.setIfInBounds_toArray, List.set_cons_zero, List.set_cons_succ]
          refine take_at (i := 1) (d := some 25) (v := ?vb1) rfl rfl (by kernel_rfl) (by kernel_rfl) (by kernel_rfl) (fun _ _ _ h => h) (Or.inl ⟨by rfl, ?hyb1⟩) hHeld ?restb1
          case hyb1 => (intro w hSw; (try dsimp only at hSw); go_simp; try with_reducible rfl)
          try simp only [Act.put, List.setIfInBounds_toArray, List.set_cons_zero, List.set_cons_succ]
          refine take_at (i := 2) (d := some 26) (v := ?vb2) rfl rfl (by kernel_rfl) (by kernel_rfl) (by kernel_rfl) (fun _ _ _ h => h) (Or.inl ⟨by rfl, ?hyb2⟩) hHeld ?restb2
          case hyb2 => (intro w hSw; (try dsimp only at hSw); go_simp; try with_reducible rfl)
          try simp only [Act.put, List.setIfInBounds_toArray, List.set_cons_zero, List.set_cons_succ]
          refine take_at (i := 3) (d := some 27) (v := ?vb3) rfl rfl (by kernel_rfl) (by kernel_rfl) (by kernel_rfl) (fun _ _ _ h => h) (Or.inl ⟨by rfl, ?hyb3⟩) hHeld ?restb3
          case hyb3 => (intro w hSw; (try dsimp only at hSw); go_simp; try with_reducible rfl)
          try simp only [Act.put, List.setIfInBounds_toArray, List.set_cons_zero, List.set_cons_succ]
          refine take_at (i := 4) (d := some 28) (v := ?vb4) rfl rfl (by kernel_rfl) (by kernel_rfl) (by kernel_rfl) (fun _ _ _ h => h) (Or.inl ⟨by rfl, ?hyb4⟩) hHeld ?restb4
          case hyb4 => (intro w hSw; (try dsimp only at hSw); go_simp; try with_reducible rfl)
          try simp only [Act.put, List.setIfInBounds_toArray, List.set_cons_zero, List.set_cons_succ]
          refine take_at (i := 5) (d := some 29) (v := ?vb5) rfl rfl (by kernel_rfl) (by kernel_rfl) (by kernel_rfl) (fun _ _ _ h => h) (Or.inl ⟨by rfl, ?hyb5⟩) hHeld ?restb5
          case hyb5 => (intro w hSw; (try dsimp only at hSw); go_simp; try with_reducible rfl)
          try simp only [Act.put, List.setIfInBounds_toArray, List.set_cons_zero, List.set_cons_succ]
          refine take_at (i := 6) (d := some 30) (v := ?vb6) rfl rfl (by kernel_rfl) (by kernel_rfl) (by kernel_rfl) (fun _ _ _ h => h) (Or.inl ⟨by rfl, ?hyb6⟩) hHeld ?restb6
          case hyb6 => (intro w hSw; have hl := hSw.2.2.at_.map.look hwfx; rw [hfk] at hl; unfold Ky.v at hl; simp only [Option.getD_none, Option.isSome_none, zeroK] at hl; (try dsimp only at hSw); go_simp; try with_reducible rfl)
          try simp only [Act.put, List.setIfInBounds_toArray, List.set_cons_zero, List.set_cons_succ]
          refine take_at (i := 7) (d := some 23) (v := ?vb7) rfl rfl (by kernel_rfl) (by kernel_rfl) (by kernel_rfl) (fun _ _ _ h => h) (Or.inl ⟨by rfl, ?hyb7⟩) hHeld ?restb7
          case hyb7 => (intro w hSw; (try dsimp only at hSw); go_simp; try with_reducible rfl)
          try simp only [Act.put, List.setIfInBounds_toArray, List.set_cons_zero, List.set_cons_succ]
          refine take_at (i := 8) (d := some 31) (v := ?vb8) rfl rfl (by kernel_rfl) (by kernel_rfl) (by kernel_rfl) (fun _ _ _ h => h) (Or.inl ⟨by rfl, ?hyb8⟩) hHeld ?restb8
          case hyb8 => (intro w hSw; (try dsimp only at hSw); go_simp; try with_reducible rfl)
          try simp only [Act.put, List.setIfInBounds_toArray, List.set_cons_zero, List.set_cons_succ]
          refine take_at (i := 9) (d := some 32) (v := ?vb9) rfl rfl (by kernel_rfl) (by kernel_rfl) (by kernel_rfl) (fun _ _ _ h => h) (Or.inl ⟨by rfl, ?hyb9⟩) hHeld ?restb9
          case hyb9 => (intro w hSw; (try dsimp only at hSw); go_simp; try with_reducible rfl)
          try simp only [Act.put, List.setIfInBounds_toArray, List.set_cons_zero, List.set_cons_succ]
          refine wpAnyH_ready (rs := [10]) (by kernel_rfl) (by simp) ?_
          refine AllReadyH.cons rfl (fun K hK => ?_) AllReadyH.nil
          have hH0 := hHeld
          go_simp
          refine hK.out _ _ (S7.of (NewX.alloc hHeld.2.2 _)) (fun hHeld' => ?_)
          clear hK K hHeld
          have hHeld := hHeld'
          clear hHeld'
          try simp only [Act.put, List.setIfInBounds_toArray, List.set_cons_zero, List.set_cons_succ]
          refine wpAnyH_ready (rs := [11]) (by kernel_rfl) (by simp) ?_
          refine AllReadyH.cons rfl (fun K hK => ?_) AllReadyH.nil
          go_simp
          refine hK.out _ _ (S7.of (NewX.alloc hH0.2.2 _)) (fun hHeld' => ?_)
          clear hK K hHeld
          have hHeld := hHeld'
          clear hHeld'
          try simp only [Act.put, List.setIfInBounds_toArray, List.set_cons_zero, List.set_cons_succ]
          refine take_at (i := 12) (d := some 8) (v := ?vb12) rfl rfl (by kernel_rfl) (by kernel_rfl) (by kernel_rfl) (fun _ _ _ h => h) (Or.inl ⟨by rfl, ?hyb12⟩) hHeld ?restb12
          case hyb12 => (intro w hSw; (try dsimp only at hSw); go_simp; try with_reducible rfl)
          try simp only [Act.put, List.setIfInBounds_toArray, List.set_cons_zero, List.set_cons_succ]
          refine wpAnyH_done (by kernel_rfl) ?_ _

          refine NoPanic.normal ?_
          obtain ⟨b0, b1, b2, b3, b4, b5⟩ := box6 hHeld.2.2
          have HH := Aside.mk hHeld.2.2.at_.below
          clear hHeld
          go_wp2_with fail
          (with_reducible refine (HM.out _).mono ?_)
          rintro e w2 ⟨rfl, hb2⟩
          have HB := Aside.mk (below_then HH.out hb2)
          clear hb2 HH b0 b1 b2 b3 b4 b5
          go_wp2
          rw [← HR.out]
          exact new_fail hno HB.out
        | true =>
          have HM := Aside.mk (fun W => mayKey_any ⟨id, bl, kd, af, be, gr⟩ W)
          rw [hmk2] at HM
          unfold Ky.v at HM
          refine wp_region_noPanic ?_
          refine wp_region_held_drew (S := fun W => W.cell? ⟨w1.heap.size + 1, 1, none⟩ = some (.map (some w1.heap.size)) ∧ W.cell? ⟨wr.heap.size, 0, none⟩ = some (.int .i64 id) ∧ NewX w w1 W A1 c1 ks k wr.heap.size ⟨id, bl, kd, af, be, gr⟩) (by kernel_rfl) (S7.of (HX.out.drewn)) (fun hHeld => ?_)
          refine take_at (i := 0) (d := some 24) (v := ?vc0) rfl rfl (by kernel_rfl) (by kernel_rfl) (by kernel_rfl) (fun _ _ _ h => h) (Or.inl ⟨by rfl, ?hyc0⟩) hHeld ?restc0
          case hyc0 => (intro w hSw; (try dsimp only at hSw); go_simp; try with_reducible rfl)
          try simp only [Act.put, List.setIfInBounds_toArray, List.set_cons_zero, List.set_cons_succ]
          refine take_at (i := 1) (d := some 25) (v := ?vc1) rfl rfl (by kernel_rfl) (by kernel_rfl) (by kernel_rfl) (fun _ _ _ h => h) (Or.inl ⟨by rfl, ?hyc1⟩) hHeld ?restc1
          case hyc1 => (intro w hSw; (try dsimp only at hSw); go_simp; try with_reducible rfl)
          try simp only [Act.put, List.setIfInBounds_toArray, List.set_cons_zero, List.set_cons_succ]
          refine take_at (i := 2) (d := some 26) (v := ?vc2) rfl rfl (by kernel_rfl) (by kernel_rfl) (by kernel_rfl) (fun _ _ _ h => h) (Or.inl ⟨by rfl, ?hyc2⟩) hHeld ?restc2
          case hyc2 => (intro w hSw; (try dsimp only at hSw); go_simp; try with_reducible rfl)
          try simp only [Act.put, List.setIfInBounds_toArray, List.set_cons_zero, List.set_cons_succ]
          refine take_at (i := 3) (d := some 27) (v := ?vc3) rfl rfl (by kernel_rfl) (by kernel_rfl) (by kernel_rfl) (fun _ _ _ h => h) (Or.inl ⟨by rfl, ?hyc3⟩) hHeld ?restc3
          case hyc3 => (intro w hSw; (try dsimp only at hSw); go_simp; try with_reducible rfl)
          try simp only [Act.put, List.setIfInBounds_toArray, List.set_cons_zero, List.set_cons_succ]
          refine take_at (i := 4) (d := some 28) (v := ?vc4) rfl rfl (by kernel_rfl) (by kernel_rfl) (by kernel_rfl) (fun _ _ _ h => h) (Or.inl ⟨by rfl, ?hyc4⟩) hHeld ?restc4
          case hyc4 => (intro w hSw; (try dsimp only at hSw); go_simp; try with_reducible rfl)
          try simp only [Act.put, List.setIfInBounds_toArray, List.set_cons_zero, List.set_cons_succ]
          refine take_at (i := 5) (d := some 29) (v := ?vc5) rfl rfl (by kernel_rfl) (by kernel_rfl) (by kernel_rfl) (fun _ _ _ h => h) (Or.inl ⟨by rfl, ?hyc5⟩) hHeld ?restc5
          case hyc5 => (intro w hSw; (try dsimp only at hSw); go_simp; try with_reducible rfl)
          try simp only [Act.put, List.setIfInBounds_toArray, List.set_cons_zero, List.set_cons_succ]
          refine take_at (i := 6) (d := some 30) (v := ?vc6) rfl rfl (by kernel_rfl) (by kernel_rfl) (by kernel_rfl) (fun _ _ _ h => h) (Or.inl ⟨by rfl, ?hyc6⟩) hHeld ?restc6
          case hyc6 => (intro w hSw; have hl := hSw.2.2.at_.map.look hwfx; rw [hfk] at hl; unfold Ky.v at hl; simp only [Option.getD_none, Option.isSome_none, zeroK] at hl; (try dsimp only at hSw); go_simp; try with_reducible rfl)
          try simp only [Act.put, List.setIfInBounds_toArray, List.set_cons_zero, List.set_cons_succ]
          refine take_at (i := 7) (d := some 23) (v := ?vc7) rfl rfl (by kernel_rfl) (by kernel_rfl) (by kernel_rfl) (fun _ _ _ h => h) (Or.inl ⟨by rfl, ?hyc7⟩) hHeld ?restc7
          case hyc7 => (intro w hSw; (try dsimp only at hSw); go_simp; try with_reducible rfl)
          try simp only [Act.put, List.setIfInBounds_toArray, List.set_cons_zero, List.set_cons_succ]
          refine take_at (i := 8) (d := some 31) (v := ?vc8) rfl rfl (by kernel_rfl) (by kernel_rfl) (by kernel_rfl) (fun _ _ _ h => h) (Or.inl ⟨by rfl, ?hyc8⟩) hHeld ?restc8
          case hyc8 => (intro w hSw; (try dsimp only at hSw); go_simp; try with_reducible rfl)
          try simp only [Act.put, List.setIfInBounds_toArray, List.set_cons_zero, List.set_cons_succ]
          refine take_at (i := 9) (d := some 32) (v := ?vc9) rfl rfl (by kernel_rfl) (by kernel_rfl) (by kernel_rfl) (fun _ _ _ h => h) (Or.inl ⟨by rfl, ?hyc9⟩) hHeld ?restc9
          case hyc9 => (intro w hSw; (try dsimp only at hSw); go_simp; try with_reducible rfl)
          try simp only [Act.put, List.setIfInBounds_toArray, List.set_cons_zero, List.set_cons_succ]
          refine wpAnyH_ready (rs := [10]) (by kernel_rfl) (by simp) ?_
          refine AllReadyH.cons rfl (fun K hK => ?_) AllReadyH.nil
          have hH0 := hHeld
          go_simp
          refine hK.out _ _ (S7.of (NewX.alloc hHeld.2.2 _)) (fun hHeld' => ?_)
          clear hK K hHeld
          have hHeld := hHeld'
          clear hHeld'
          try simp only [Act.put, List.setIfInBounds_toArray, List.set_cons_zero, List.set_cons_succ]
          refine wpAnyH_ready (rs := [11]) (by kernel_rfl) (by simp) ?_
          refine AllReadyH.cons rfl (fun K hK => ?_) AllReadyH.nil
          go_simp
          refine hK.out _ _ (S7.of (NewX.alloc hH0.2.2 _)) (fun hHeld' => ?_)
          clear hK K hHeld
          have hHeld := hHeld'
          clear hHeld'
          try simp only [Act.put, List.setIfInBounds_toArray, List.set_cons_zero, List.set_cons_succ]
          refine take_at (i := 12) (d := some 8) (v := ?vc12) rfl rfl (by kernel_rfl) (by kernel_rfl) (by kernel_rfl) (fun _ _ _ h => h) (Or.inl ⟨by rfl, ?hyc12⟩) hHeld ?restc12
          case hyc12 => (intro w hSw; (try dsimp only at hSw); go_simp; try with_reducible rfl)
          try simp only [Act.put, List.setIfInBounds_toArray, List.set_cons_zero, List.set_cons_succ]
          refine wpAnyH_done (by kernel_rfl) ?_ _

          refine NoPanic.normal ?_
          obtain ⟨b0, b1, b2, b3, b4, b5⟩ := box6 hHeld.2.2
          have HH := Aside.mk hHeld.2.2
          clear hHeld
          have H2 := Aside.mk hmk2
          clear hmk2
          go_wp2_with fail
          (with_reducible refine (HM.out _).mono ?_)
          rintro e w2 ⟨rfl, hb2⟩
          have HB := Aside.mk (HH.out.below hb2)
          clear hb2 HH b0 b1 b2 b3 b4 b5
          go_wp2_with fail
          refine wp_region_noPanic ?_
          refine wp_region_held_drew (S := fun W => W.cell? ⟨w1.heap.size + 1, 1, none⟩ = some (.map (some w1.heap.size)) ∧ W.cell? ⟨wr.heap.size, 0, none⟩ = some (.int .i64 id) ∧ W.cell? ⟨wr.heap.size, 1, none⟩ = some (.bool bl) ∧ W.cell? ⟨wr.heap.size, 2, none⟩ = some (.int .u8 kd) ∧ W.cell? ⟨wr.heap.size, 3, none⟩ = some (.bool af) ∧ W.cell? ⟨wr.heap.size, 4, none⟩ = some (.bool be) ∧ W.cell? ⟨wr.heap.size, 5, none⟩ = some (.int .i64 gr)) (by kernel_rfl) (put_at HB.out.drewn) (fun hHeld => ?_)
          refine take_at (i := 0) (d := some 39) (v := ?vd0) rfl rfl (by kernel_rfl) (by kernel_rfl) (by kernel_rfl) (fun _ _ _ h => h) (Or.inl ⟨by rfl, ?hyd0⟩) hHeld ?restd0
          case hyd0 => (intro w hSw; (try dsimp only at hSw); go_simp; try with_reducible rfl)
          try simp only [Act.put, List.setIfInBounds_toArray, List.set_cons_zero, List.set_cons_succ]
          refine take_at (i := 1) (d := some 40) (v := ?vd1) rfl rfl (by kernel_rfl) (by kernel_rfl) (by kernel_rfl) (fun _ _ _ h => h) (Or.inl ⟨by rfl, ?hyd1⟩) hHeld ?restd1
          case hyd1 => (intro w hSw; (try dsimp only at hSw); go_simp; try with_reducible rfl)
          try simp only [Act.put, List.setIfInBounds_toArray, List.set_cons_zero, List.set_cons_succ]
          refine take_at (i := 2) (d := some 41) (v := ?vd2) rfl rfl (by kernel_rfl) (by kernel_rfl) (by kernel_rfl) (fun _ _ _ h => h) (Or.inl ⟨by rfl, ?hyd2⟩) hHeld ?restd2
          case hyd2 => (intro w hSw; (try dsimp only at hSw); go_simp; try with_reducible rfl)
          try simp only [Act.put, List.setIfInBounds_toArray, List.set_cons_zero, List.set_cons_succ]
          refine take_at (i := 3) (d := some 42) (v := ?vd3) rfl rfl (by kernel_rfl) (by kernel_rfl) (by kernel_rfl) (fun _ _ _ h => h) (Or.inl ⟨by rfl, ?hyd3⟩) hHeld ?restd3
          case hyd3 => (intro w hSw; (try dsimp only at hSw); go_simp; try with_reducible rfl)
          try simp only [Act.put, List.setIfInBounds_toArray, List.set_cons_zero, List.set_cons_succ]
          refine take_at (i := 4) (d := some 43) (v := ?vd4) rfl rfl (by kernel_rfl) (by kernel_rfl) (by kernel_rfl) (fun _ _ _ h => h) (Or.inl ⟨by rfl, ?hyd4⟩) hHeld ?restd4
          case hyd4 => (intro w hSw; (try dsimp only at hSw); go_simp; try with_reducible rfl)
          try simp only [Act.put, List.setIfInBounds_toArray, List.set_cons_zero, List.set_cons_succ]
          refine take_at (i := 5) (d := some 44) (v := ?vd5) rfl rfl (by kernel_rfl) (by kernel_rfl) (by kernel_rfl) (fun _ _ _ h => h) (Or.inl ⟨by rfl, ?hyd5⟩) hHeld ?restd5
          case hyd5 => (intro w hSw; (try dsimp only at hSw); go_simp; try with_reducible rfl)
          try simp only [Act.put, List.setIfInBounds_toArray, List.set_cons_zero, List.set_cons_succ]
          refine take_at (i := 6) (d := some 45) (v := ?vd6) rfl rfl (by kernel_rfl) (by kernel_rfl) (by kernel_rfl) (fun _ _ _ h => h) (Or.inl ⟨by rfl, ?hyd6⟩) hHeld ?restd6
          case hyd6 => (intro w hSw; (try dsimp only at hSw); go_simp; try with_reducible rfl)
          try simp only [Act.put, List.setIfInBounds_toArray, List.set_cons_zero, List.set_cons_succ]
          refine wpAnyH_ready (rs := [7]) (by kernel_rfl) (by simp) ?_
          refine AllReadyH.cons rfl (fun K hK => ?_) AllReadyH.nil
          obtain ⟨w3, hrun, hk3, hg3⟩ := KMap.put HB.out.drewn.at_.map (k := ⟨id, bl, kd, af, be, gr⟩) hwfx (by rw [List.length_take]; omega) hfk
          have hne := Aside.mk HN.out.size
          have HZ := Aside.mk (NewAt.put HB.out.drewn.at_ hx H2.out hfk HLT.out HB1.out.size hk3 hg3)
          unfold Ky.v at hrun
          go_simp
          refine hK.out _ _ (put_s10 hHeld hg3 hne.out) (fun hHeld' => ?_)
          clear hK K hHeld
          have hHeld := hHeld'
          clear hHeld'
          try simp only [Act.put, List.setIfInBounds_toArray, List.set_cons_zero, List.set_cons_succ]
          refine wpAnyH_done (by kernel_rfl) ?_ _

          refine NoPanic.normal ?_
          clear hHeld
          go_wp2
          go_roundw
          case rel => exact ⟨k + 1, by omega, by go_num, HZ⟩
          case measure => simp [intOf]; omega
    · obtain rfl : k = ks.length := by omega
      have n0 := HN.out.c0
      have HSo := Aside.mk (sort_any HN.out.row h64)
      go_wp2_with fail
      (with_reducible refine HSo.out.mono ?_)
      rintro e w2 ⟨rfl, srt, hp, hs, hsrc, hg⟩
      have HE := Aside.mk (new_end HN.out HLT.out HB1.out.size h64 hp hs hsrc hg)
      clear hp hs hsrc hg n0
      go_wp2
      rw [← HR.out]
      exact HE.out
set_option maxRecDepth 100000 in
set_option maxHeartbeats 1000000 in
theorem new_nil (ks : List Ky) (h0 : ks = []) (w : World) : Calls Try.prog 5 #[.slice none ks.length 0] w (NewPost w ks) := by
  have HC := Aside.mk (clone_keys none 0 ks w (fun _ => ⟨h0, rfl⟩) (by rw [h0]; exact Cells.nil _ _) (by rw [h0]; simp))
  have h64 : ks.length ≤ 64 := by rw [h0]; simp
  have g1 : (ks.length : Int) ≤ 64 := by omega
  have g0 : (ks.length : Int) ≤ 0 := by rw [h0]; simp
  have H0 := Aside.mk h0
  clear h0
  obtain ⟨R, hR⟩ : ∃ R, NewPost w ks = R := ⟨_, rfl⟩
  rw [hR]
  have HR := Aside.mk hR
  clear hR
  have hmk : ∀ W : World, (Instr.makeMap 37 none).run Try.prog W = .ok (.map (some W.heap.size)) (W.alloc (.map #[] 0)) := fun W => rfl
  go_enter Try.func5, Try.ntmps5
  go_wp2_with fail
  (with_reducible refine HC.out.mono ?_)
  rintro e w1 ⟨v, rfl, ho1, hb1⟩
  obtain ⟨A1, c1, rfl, hlt1⟩ := own_form ho1
  have HLT := Aside.mk hlt1
  clear hlt1
  have HO1 := Aside.mk ho1
  have HB1 := Aside.mk hb1
  clear ho1 hb1
  go_wp2_with fail
  go_loopw [19] (fun i wr => i = .int .i64 0 ∧ Aside (NewAt w w1 wr A1 c1 ks 0)) (fun i _ => 0)
  case atStart =>
    exact ⟨rfl, ⟨new_start HO1.out HB1.out⟩⟩
  case round =>
    obtain ⟨rfl, HN⟩ := hrel
    replace HN : Aside (NewAt w w1 wr A1 c1 ks ks.length) := by
      have : ks.length = 0 := by rw [H0.out]; rfl
      rw [this]; exact HN
    have n0 := HN.out.c0
    have HSo := Aside.mk (sort_any HN.out.row h64)
    go_wp2_with fail
    (with_reducible refine HSo.out.mono ?_)
    rintro e w2 ⟨rfl, srt, hp, hs, hsrc, hg⟩
    have HE := Aside.mk (new_end HN.out HLT.out HB1.out.size h64 hp hs hsrc hg)
    clear hp hs hsrc hg n0
    go_wp2
    rw [← HR.out]
    exact HE.out
set_option maxRecDepth 100000 in
theorem new_long (A : Option Addr) (c : Nat) (ks : List Ky) (w : World) (h64 : 64 < ks.length) (hl : ks.length ≤ 9223372036854775807) : Calls Try.prog 5 #[.slice A ks.length c] w (NewPost w ks) := by
  have HP := Aside.mk (new_fail (w := w) (w' := w) (ks := ks) (by unfold okKs; simp; omega) (below_refl w))
  have g1 : (64 : Int) < (ks.length : Int) := by omega
  obtain ⟨R, hR⟩ : ∃ R, NewPost w ks = R := ⟨_, rfl⟩
  rw [hR] at HP ⊢
  clear hR h64
  go_enter Try.func5, Try.ntmps5
  go_wp2
  exact HP.out
/-- New, of any slice of keys. -/
theorem new_any (A : Option Addr) (c : Nat) (ks : List Ky) (w : World) (hc : ks.length ≤ c) (hS : KSrc w A ks) (hA : A = none → c = 0) (hl : ks.length ≤ 9223372036854775807) (hwf : ∀ k ∈ ks, (Lit.int .i64 k.id).wf = true) :
    Calls Try.prog 5 #[.slice A ks.length c] w (NewPost w ks) := by
  by_cases h64 : ks.length ≤ 64
  · rcases A with _ | ad
    · obtain rfl := hA rfl
      exact new_nil ks (hS.1 rfl) w
    · exact new_some ad c ks w hc hS h64 hwf
  · exact new_long A c ks w (by omega) hl
end Go.Proofs.Ytaejlgdmalhhnaa
