/- Layer 7: a run of calls on a table of the law's own; known. -/
import Derived.Test.YtaejlgdmalhhnaaDoorIs
import Derived.Test.YtaejlgdmalhhnaaDoorPkB
set_option linter.unusedVariables false
set_option linter.unusedSimpArgs false
namespace Go.Proofs.YtaejlgdmalhhnaaDoor
open Go.RowKit Go.Maps

theorem Sch.turn {O : Nat → Prop} {lo hi : Nat} {w w' : World} {v : Value} {ks srt : List Ky} (h : Sch lo hi w v ks srt) (ht : Turn O w w') (hO : ∀ k, O k → hi ≤ k) : Sch lo hi w' v ks srt := by
  rcases h with h | ⟨g, A, c, m, hv, h⟩
  · exact .inl h
  · exact .inr ⟨g, A, c, m, hv, h.stays ⟨ht.size, fun k h1 h2 => ht.block k (Nat.lt_of_lt_of_le h2 h.top) (fun e => by have := hO k e; omega)⟩⟩
/-- In W, reached from w: a table of a schema, both laid since w. -/
structure Run (w W : World) (tb : Nat) (so : Option Addr) (mb lo hi : Nat) (ks srt : List Ky) (P : Ps) (free : List Int) (empty : Int) (cnt : Nat) (O : Nat → Prop) : Prop where
  below : Below w.heap.size w W
  tab : TabM w.heap.size O W tb (.pointer so) mb P free empty cnt
  sch : Sch lo hi W (.pointer so) ks srt
  high : ∀ k, O k → hi ≤ k
  top : hi ≤ W.heap.size
variable {w W W' : World} {tb : Nat} {so : Option Addr} {mb lo hi : Nat} {ks srt : List Ky} {P : Ps} {free : List Int} {empty : Int} {cnt : Nat} {O : Nat → Prop}
theorem TabM.lt {B : Nat} {sv : Value} (h : TabM B O W tb sv mb P free empty cnt) : ∀ k, O k → B ≤ k ∧ k < W.heap.size := by
  obtain ⟨pv, fv, E, _, h⟩ := h
  exact h.top
theorem Run.later (h : Run w W tb so mb lo hi ks srt P free empty cnt O) (hb : Below W.heap.size W W') : Run w W' tb so mb lo hi ks srt P free empty cnt O :=
  ⟨below_then h.below hb, h.tab.below hb, h.sch.below hb, h.high, Nat.le_trans h.top hb.size⟩
theorem Run.step {P' : Ps} {free' : List Int} {empty' : Int} {r : Value} {e : Ending} (h : Run w W tb so mb lo hi ks srt P free empty cnt O) (hp : OpPost w.heap.size O W tb (.pointer so) mb P' free' empty' (cnt + 1) r e W') :
    e = .returned r ∧ Run w W' tb so mb lo hi ks srt P' free' empty' (cnt + 1) (Grow O W W') := by
  obtain ⟨he, ht, hu⟩ := hp
  refine ⟨he, ⟨(h.below).trans (hu.below (fun k hk => (h.tab.lt k hk).1) h.below.size), ht, h.sch.turn hu h.high, fun k hk => ?_, Nat.le_trans h.top hu.size⟩⟩
  rcases hk with hk | hk
  · exact h.high k hk
  · have := h.top; omega
def RunPost (w W : World) (tb : Nat) (so : Option Addr) (mb lo hi : Nat) (ks srt : List Ky) (P : Ps) (free : List Int) (empty : Int) (cnt : Nat) (O : Nat → Prop) (r : Value) (e : Ending) (W' : World) : Prop :=
  e = .returned r ∧ Run w W' tb so mb lo hi ks srt P free empty cnt (Grow O W W') ∧ Turn O W W'
theorem run_add (A : Option Addr) (c : Nat) (l : List At) (h : Run w W tb so mb lo hi ks srt P free empty cnt O) (hcn : cnt ≤ 100000) (hT : Lib.Utf8Tabs 1 2 w) (hS : ASrc W A l) (hc : l.length ≤ c) (hl : l.length ≤ 9223372036854775807) (hcA : A = none → c = 0) (hAO : ∀ a, A = some a → ¬ O a.block) (hwf : ∀ a ∈ l, a.wfA) {P' : Ps} {free' : List Int} {empty' id err : Int} (ha : addP ks P free empty l = (P', free', empty', id, err)) :
    Calls Tryd.prog 35 #[.pointer (some ⟨tb, 0, none⟩), .slice A l.length c] W (RunPost w W tb so mb lo hi ks srt P' free' empty' (cnt + 1) O (.tuple #[.int .i64 id, .int .i64 err])) := by
  have h1 := add_any A c l h.tab hcn h.sch (tabs_below hT h.below) hS hc hl hcA hAO hwf
  rw [ha] at h1
  exact h1.mono fun e W' hp => ⟨(h.step hp).1, (h.step hp).2, hp.2.2⟩
theorem run_free (id : Int) (h : Run w W tb so mb lo hi ks srt P free empty cnt O) (hcn : cnt ≤ 100000) (hw : (Lit.int .i64 id).wf = true) {P' : Ps} {free' : List Int} {empty' err : Int} (ha : freeP P free empty id = (P', free', empty', err)) :
    Calls Tryd.prog 37 #[.pointer (some ⟨tb, 0, none⟩), .int .i64 id] W (RunPost w W tb so mb lo hi ks srt P' free' empty' (cnt + 1) O (.int .i64 err)) := by
  have h1 := free_any id h.tab hcn hw
  rw [ha] at h1
  exact h1.mono fun e W' hp => ⟨(h.step hp).1, (h.step hp).2, hp.2.2⟩
theorem run_hold (id : Int) (h : Run w W tb so mb lo hi ks srt P free empty cnt O) (hcn : cnt ≤ 100000) (hw : (Lit.int .i64 id).wf = true) {P' : Ps} {empty' err : Int} (ha : holdP P empty id = (P', empty', err)) :
    Calls Tryd.prog 39 #[.pointer (some ⟨tb, 0, none⟩), .int .i64 id] W (RunPost w W tb so mb lo hi ks srt P' free empty' (cnt + 1) O (.int .i64 err)) := by
  have h1 := hold_any id h.tab hcn hw
  rw [ha] at h1
  exact h1.mono fun e W' hp => ⟨(h.step hp).1, (h.step hp).2, hp.2.2⟩
theorem run_new (hb : Below w.heap.size w W) (hS : Sch lo hi W (.pointer so) ks srt) (ht : hi ≤ W.heap.size) : Run w (newW W (.pointer so)) (W.heap.size + 1) so W.heap.size lo hi ks srt [] [] 0 0 (fun k => W.heap.size ≤ k ∧ k < W.heap.size + 2) := by
  have h2 : Below W.heap.size W (newW W (.pointer so)) := below_alloc (below_alloc (below_refl W) _) _
  exact ⟨below_then hb h2, newM W _ hb.size, hS.below h2, fun k hk => by omega, Nat.le_trans ht h2.size⟩
/-- A set of one flag. -/
def flagO (n : Int) : Obj := .cells #[.int .i64 1, .int .u8 1, .int .i64 n, .int .u64 0, .string ⟨#[]⟩] 58
def flagA (n : Int) : List At := [⟨1, ⟨1, n, 0, ⟨#[]⟩⟩⟩]
theorem flags_any (n : Int) (w : World) : Calls Tryd.prog 72 #[.int .i64 n] w fun e w' => e = .returned (.slice (some ⟨w.heap.size, 0, none⟩) 1 1) ∧ w' = w.alloc (flagO n) := by
  unfold flagO
  go_enter Tryd.func72, Tryd.ntmps72
  go_wp2
  go_ret
  exact ⟨rfl, rfl⟩
theorem asrc_new (w : World) (cs : Array Value) (l : List At) (h : cs.toList = acells l) : ASrc (w.alloc (.cells cs 58)) (some ⟨w.heap.size, 0, none⟩) l := by
  refine ⟨(fun e => (by cases e)), fun ad e j k hj i v hi => ?_⟩
  cases e
  have h2 : (w.alloc (.cells cs 58)).heap[w.heap.size]? = some (.cells cs 58) := heap_alloc_new w _
  have h3 := acells_get l j k hj i v hi
  rw [addr_add_plain]
  unfold World.cell?
  simp only [h2]
  rw [← Array.getElem?_toList, h]
  exact h3
theorem run_flag (n : Int) (h : Run w W tb so mb lo hi ks srt P free empty cnt O) (hcn : cnt ≤ 100000) (hT : Lib.Utf8Tabs 1 2 w) (hn : (Lit.int .i64 n).wf = true) {P' : Ps} {free' : List Int} {empty' id err : Int} (ha : addP ks P free empty (flagA n) = (P', free', empty', id, err)) :
    Calls Tryd.prog 35 #[.pointer (some ⟨tb, 0, none⟩), .slice (some ⟨W.heap.size, 0, none⟩) 1 1] (W.alloc (flagO n)) (RunPost w (W.alloc (flagO n)) tb so mb lo hi ks srt P' free' empty' (cnt + 1) O (.tuple #[.int .i64 id, .int .i64 err])) :=
  run_add (some ⟨W.heap.size, 0, none⟩) 1 (flagA n) (h.later (below_alloc (below_refl W) _)) hcn hT (asrc_new W _ (flagA n) rfl) (by simp [flagA]) (by simp [flagA]) (fun e => by cases e) (fun a ha hO => by cases ha; have := (h.tab.lt _ hO).2; simp at this) (fun a ha => by simp [flagA] at ha; subst ha; exact ⟨(show (Lit.int .i64 1).wf = true by decide), hn, (show (0 : Nat) < 18446744073709551616 by decide)⟩) ha
theorem asrc_nil (w : World) : ASrc w none [] := ⟨fun _ => rfl, fun ad e => (by cases e)⟩
theorem run_nil (h : Run w W tb so mb lo hi ks srt P free empty cnt O) (hcn : cnt ≤ 100000) (hT : Lib.Utf8Tabs 1 2 w) {P' : Ps} {free' : List Int} {empty' id err : Int} (ha : addP ks P free empty [] = (P', free', empty', id, err)) :
    Calls Tryd.prog 35 #[.pointer (some ⟨tb, 0, none⟩), .slice none 0 0] W (RunPost w W tb so mb lo hi ks srt P' free' empty' (cnt + 1) O (.tuple #[.int .i64 id, .int .i64 err])) :=
  run_add none 0 [] h hcn hT (asrc_nil W) (Nat.le_refl _) (by simp) (fun _ => rfl) (fun a e => (by cases e)) (fun a ha => absurd ha (by simp)) ha
def kI : List Ky := [⟨1, false, 1, false, false, 0⟩]
def kIObj : Obj := .cells #[.int .i64 1, .bool false, .int .u8 1, .bool false, .bool false, .int .i64 0] 97
theorem kI_ok : okKs kI = true := by decide
theorem newI (W : World) : Calls Tryd.prog 30 #[.slice (some ⟨W.heap.size, 0, none⟩) 1 1] (W.alloc kIObj) (NewPost (W.alloc kIObj) kI) :=
  new_any (some ⟨W.heap.size, 0, none⟩) 1 kI (W.alloc kIObj) (by decide) (src_new W _ kI rfl) (fun e => by cases e) (by decide) (by decide)
end Go.Proofs.YtaejlgdmalhhnaaDoor
