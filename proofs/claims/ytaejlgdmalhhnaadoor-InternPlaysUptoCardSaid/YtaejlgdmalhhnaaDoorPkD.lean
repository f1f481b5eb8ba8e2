/- Texts put together: Ig, Ih, Ii, Ij, Ik, Il, Im. -/
import Derived.Test.YtaejlgdmalhhnaaDoorIf
import Derived.StringKeys
import Derived.Test.YtaejlgdmalhhnaaDoorPkB
/- Layer 7: a table in memory: its map of texts; what turns. -/
set_option linter.unusedVariables false
set_option linter.unusedSimpArgs false
namespace Go.Proofs.YtaejlgdmalhhnaaDoor
open Go.RowKit Go.Maps

/-- The blocks of O alone have turned; new ones may have come. -/
structure Turn (O : Nat → Prop) (w w' : World) : Prop where
  os : w'.os = w.os
  tape : w'.tape = w.tape
  output : w'.output = w.output
  size : w.heap.size ≤ w'.heap.size
  block : ∀ k, k < w.heap.size → ¬ O k → w'.heap[k]? = w.heap[k]?
theorem Turn.of_below {O : Nat → Prop} {w w' : World} (h : Below w.heap.size w w') : Turn O w w' := ⟨h.os, h.tape, h.output, h.size, fun k hk _ => h.block k hk⟩
theorem Turn.of_grown {O : Nat → Prop} {w w' : World} {row : Option Nat} (h : w.grownBy w' row) (hr : ∀ k, row = some k → O k) : Turn O w w' :=
  ⟨h.os, h.tape, h.output, h.size, fun k hk ho => h.block k hk (fun e => ho (hr k e.symm))⟩
theorem Turn.trans {O : Nat → Prop} {a b c : World} (h : Turn O a b) (k : Turn O b c) : Turn O a c :=
  ⟨k.os.trans h.os, k.tape.trans h.tape, k.output.trans h.output, Nat.le_trans h.size k.size, fun i hi ho => (k.block i (Nat.lt_of_lt_of_le hi h.size) ho).trans (h.block i hi ho)⟩
theorem Turn.mono {O O' : Nat → Prop} {a b : World} (h : Turn O a b) (ho : ∀ k, O k → O' k) : Turn O' a b := ⟨h.os, h.tape, h.output, h.size, fun k hk hn => h.block k hk (fun e => hn (ho k e))⟩
/-- What is new besides may turn too. -/
theorem Turn.then {O O' : Nat → Prop} {a b c : World} (h : Turn O a b) (k : Turn O' b c) (ho : ∀ i, O' i → O i ∨ a.heap.size ≤ i) : Turn O a c :=
  ⟨k.os.trans h.os, k.tape.trans h.tape, k.output.trans h.output, Nat.le_trans h.size k.size, fun i hi hn => (k.block i (Nat.lt_of_lt_of_le hi h.size) (fun e => (ho i e).elim hn (fun h' => by omega))).trans (h.block i hi hn)⟩
theorem Turn.below {O : Nat → Prop} {B : Nat} {w w' : World} (h : Turn O w w') (ho : ∀ k, O k → B ≤ k) (hB : B ≤ w.heap.size) : Below B w w' := ⟨h.os, h.tape, h.output, h.size, fun k hk => h.block k (by omega) (fun e => by have := ho k e; omega)⟩

theorem keyed9 : Keyed Tryd.prog 9 := string_keyed Tryd.underlying9
theorem zero3 (w : World) : (zeroValue 3).run Tryd.prog w = .ok (.int .i64 0) w := by kernel_rfl
/-- A map from texts to numbers, told as a function. -/
def IMap (w : World) (b cnt : Nat) (F : List UInt8 → Option Int) : Prop :=
  ∃ n D, w.ownsMap (H := Unit) Tryd.prog 9 (plainElem Tryd.prog 3) b n D ∧ n ≤ cnt ∧ IsMap D ∧ (∀ t, Maps.has D (.string t) = (F t).isSome ∧ D.atKey (.string t) (.lit (.int .i64 0)) = .lit (.int .i64 ((F t).getD 0)))
theorem IMap.lt {w : World} {b cnt : Nat} {F : List UInt8 → Option Int} (h : IMap w b cnt F) : b < w.heap.size := by obtain ⟨n, D, ho, r⟩ := h; exact ho.lt
theorem IMap.kept {w w' : World} {b cnt : Nat} {F : List UInt8 → Option Int} (h : IMap w b cnt F) (hb : w'.heap[b]? = w.heap[b]?) : IMap w' b cnt F := by
  obtain ⟨n, D, ⟨es, clock, hh, r⟩, q⟩ := h
  exact ⟨n, D, ⟨es, clock, hb.trans hh, r⟩, q⟩
theorem IMap.mono {w : World} {b cnt cnt' : Nat} {F : List UInt8 → Option Int} (h : IMap w b cnt F) (hc : cnt ≤ cnt') : IMap w b cnt' F := by
  obtain ⟨n, D, ho, hn, r⟩ := h
  exact ⟨n, D, ho, by omega, r⟩
theorem IMap.congr {w : World} {b cnt : Nat} {F G : List UInt8 → Option Int} (h : IMap w b cnt F) (e : ∀ t, F t = G t) : IMap w b cnt G := by
  obtain ⟨n, D, ho, hn, hm, hf⟩ := h
  exact ⟨n, D, ho, hn, hm, fun t => by rw [← e t]; exact hf t⟩
theorem IMap.new (w : World) (cnt : Nat) : IMap (w.alloc (.map #[] 0)) w.heap.size cnt (fun _ => none) :=
  ⟨0, .map [], World.ownsMap_made w Tryd.prog 9 _, Nat.zero_le _, isMap_empty, fun t => ⟨rfl, rfl⟩⟩
theorem key9 (t : List UInt8) (ht : t.length ≤ 1000000) : keyOf Tryd.prog 9 (.string ⟨t.toArray⟩) = some (.string t) := by
  have h := WideMaps.keyOf_string_mk (P := Tryd.prog) Tryd.underlying9 (s := ⟨t.toArray⟩) (by show t.toArray.size ≤ maxLen; simp [maxLen]; omega)
  simpa using h
theorem IMap.look {w : World} {b cnt : Nat} {F : List UInt8 → Option Int} (h : IMap w b cnt F) (t : List UInt8) (ht : t.length ≤ 1000000) :
    (Instr.lookup 79 (.map (some b)) (.string ⟨t.toArray⟩) true).run Tryd.prog w = .ok (.tuple #[.int .i64 ((F t).getD 0), .bool (F t).isSome]) w := by
  obtain ⟨n, D, ho, hn, hm, hf⟩ := h
  obtain ⟨v, ps, hr, hv⟩ := ho.look_ok keyed9 Tryd.underlying79 (zero3 w) (plainElem_int Tryd.underlying3 (by decide)) (key9 t ht)
  obtain ⟨h1, h2⟩ := hf t
  obtain ⟨a, rfl, ha, _⟩ := plainElem_int_inv Tryd.underlying3 hv
  rw [h2] at ha
  simp only [Prod.mk.injEq, DataW.lit.injEq, Lit.int.injEq, true_and, and_true] at ha
  rw [h1, ← ha.1] at hr
  exact hr
theorem IMap.put {w : World} {b cnt : Nat} {F : List UInt8 → Option Int} (h : IMap w b cnt F) (hc : cnt < 1000000) (t : List UInt8) (ht : t.length ≤ 1000000) (v : Int) (hv : (Lit.int .i64 v).wf = true) :
    ∃ w', (Instr.mapUpdate 79 (.map (some b)) (.string ⟨t.toArray⟩) (.int .i64 v)).run Tryd.prog w = .ok () w' ∧ IMap w' b (cnt + 1) (fun s => if s = t then some v else F s) ∧ w.grownBy w' (some b) := by
  obtain ⟨n, D, ho, hn, hm, hf⟩ := h
  obtain ⟨w', hr, ho', hg⟩ := ho.update keyed9 Tryd.underlying79 (by simp only [maxLen]; omega) (key9 t ht) (plainElem_int Tryd.underlying3 hv)
  have hk : WideAt.IsKeyLit (.string t) := keyed9.key (key9 t ht)
  refine ⟨w', hr, ⟨n + 1, _, ho', by omega, hm.put _ _, fun s => ?_⟩, hg⟩
  by_cases he : s = t
  · subst he
    simp only [if_true]
    rw [has_put_same hm hk, atKey_put_same hm hk]
    exact ⟨rfl, rfl⟩
  · have hne : (Lit.string s) ≠ (Lit.string t) := fun h => he (by injection h)
    simp only [he, if_false]
    rw [has_put_other hne, atKey_put_other hne]
    exact hf s
theorem IMap.drop {w : World} {b cnt : Nat} {F : List UInt8 → Option Int} (h : IMap w b cnt F) (t : List UInt8) (ht : t.length ≤ 1000000) (ty : TypeId) :
    ∃ w', (Builtin.delete_ #[79, 9] ty #[.map (some b), .string ⟨t.toArray⟩]).run Tryd.prog w = .ok (.tuple #[]) w' ∧ IMap w' b cnt (fun s => if s = t then none else F s) ∧ w.grownBy w' (some b) := by
  obtain ⟨n, D, ho, hn, hm, hf⟩ := h
  obtain ⟨w', hr, ho', hg⟩ := ho.drop keyed9 Tryd.underlying79 (key9 t ht) ty
  refine ⟨w', hr, ⟨n, _, ho', hn, hm.del _, fun s => ?_⟩, hg.grown⟩
  by_cases he : s = t
  · subst he
    simp only [if_true]
    rw [has_del_same, atKey_del_same]
    exact ⟨rfl, rfl⟩
  · have hne : (Lit.string s) ≠ (Lit.string t) := fun h => he (by injection h)
    simp only [he, if_false]
    rw [has_del_other hne, atKey_del_other hne]
    exact hf s

/-- A place: the slice that it holds, the set that this shows, how often it is held. -/
structure En where
  v : Value
  set : List At
  held : Int
def En.cells (e : En) : List Value := [e.v, .int .i64 e.held]
def ecells (E : List En) : List Value := E.flatMap En.cells
/-- What a table's map tells of a text: the number of the place that is held and shows a set of this text. -/
structure FSpec (E : List En) (F : List UInt8 → Option Int) : Prop where
  hit : ∀ (i : Nat) (a : En), E[i]? = some a → a.held ≠ 0 → F (textA a.set) = some ((i : Int) + 1)
  miss : ∀ t, (∀ a ∈ E, a.held ≠ 0 → textA a.set ≠ t) → F t = none
/-- A slice value that shows a set, in blocks of O. -/
def SetV (B : Nat) (O : Nat → Prop) (w : World) (v : Value) (l : List At) : Prop := w.ownsRow B 58 5 v l.length (acells l) ∧ ∀ k, v.ownBlock = some k → O k
theorem src_of_own {w : World} {B : Nat} {v : Value} {l : List At} (h : w.ownsRow B 58 5 v l.length (acells l)) : ∃ A c, v = .slice A l.length c ∧ l.length ≤ c ∧ (A = none → c = 0) ∧ ASrc w A l := by
  rcases h.2 with ⟨rfl, h2⟩ | ⟨g, cap, cur, rfl, hB, hh, hc, _⟩
  · obtain rfl := List.eq_nil_of_length_eq_zero h2
    exact ⟨none, 0, rfl, Nat.le_refl _, fun _ => rfl, fun _ => rfl, fun ad e => (by cases e)⟩
  · refine ⟨_, cap, rfl, hc, fun e => (by cases e), fun e => (by cases e), fun ad e j a hj i u hi => ?_⟩
    cases e
    exact World.ownsRow.cells h (g := g) rfl _ _ (acells_get l j a hj i u hi)
/-- A set that a table may hold. -/
def okSet (l : List At) : Prop := l ≠ [] ∧ l.length ≤ 64 ∧ ∀ a ∈ l, a.okT
/-- What a table's places keep. -/
structure TInv (E : List En) (free : List Int) (empty : Int) (cnt : Nat) : Prop where
  held : ∀ a ∈ E, 0 ≤ a.held ∧ a.held ≤ cnt ∧ (a.held ≠ 0 → okSet a.set)
  len : E.length ≤ cnt
  flen : free.length ≤ cnt
  nodup : free.Nodup
  free : ∀ f : Int, f ∈ free ↔ ∃ (i : Nat) (a : En), f = (i : Int) ∧ E[i]? = some a ∧ a.held = 0
  emp : 0 ≤ empty ∧ empty ≤ cnt
/-- A table that is there. -/
structure TabAt (B : Nat) (O : Nat → Prop) (w : World) (tb : Nat) (sv pv fv : Value) (mb : Nat) (E : List En) (free : List Int) (empty : Int) (cnt : Nat) : Prop where
  top : ∀ k, O k → B ≤ k ∧ k < w.heap.size
  tbO : O tb
  hb : w.heap[tb]? = some (.cells #[sv, pv, fv, .map (some mb), .int .i64 empty] 81)
  row : w.ownsRow B 132 2 pv E.length (ecells E)
  rowO : ∀ k, pv.ownBlock = some k → O k
  fr : OwnN w B 3 .i64 fv free
  frO : ∀ k, fv.ownBlock = some k → O k
  map : ∃ F, IMap w mb cnt F ∧ FSpec E F
  mbO : O mb
  sets : ∀ e ∈ E, SetV B O w e.v e.set
  inv : TInv E free empty cnt
theorem own_kept {w w' : World} {B n size : Nat} {e : TypeId} {v : Value} {xs : List Value} (h : w.ownsRow B e size v n xs) (hb : ∀ k, v.ownBlock = some k → w'.heap[k]? = w.heap[k]?) : w'.ownsRow B e size v n xs := by
  refine ⟨h.1, ?_⟩
  rcases h.2 with h2 | ⟨g, cap, cur, rfl, hB, hh, r⟩
  · exact .inl h2
  · exact .inr ⟨g, cap, cur, rfl, hB, (hb g rfl).trans hh, r⟩
theorem SetV.kept {B : Nat} {O : Nat → Prop} {w w' : World} {v : Value} {l : List At} (h : SetV B O w v l) (hb : ∀ k, O k → w'.heap[k]? = w.heap[k]?) : SetV B O w' v l :=
  ⟨own_kept h.1 (fun k hk => hb k (h.2 k hk)), h.2⟩
theorem SetV.mono {B : Nat} {O O' : Nat → Prop} {w : World} {v : Value} {l : List At} (h : SetV B O w v l) (ho : ∀ k, O k → O' k) : SetV B O' w v l := ⟨h.1, fun k hk => ho k (h.2 k hk)⟩
theorem TabAt.kept {B : Nat} {O : Nat → Prop} {w w' : World} {tb : Nat} {sv pv fv : Value} {mb : Nat} {E : List En} {free : List Int} {empty : Int} {cnt : Nat} (h : TabAt B O w tb sv pv fv mb E free empty cnt)
    (hs : w.heap.size ≤ w'.heap.size) (hb : ∀ k, O k → w'.heap[k]? = w.heap[k]?) : TabAt B O w' tb sv pv fv mb E free empty cnt :=
  ⟨fun k hk => ⟨(h.top k hk).1, Nat.lt_of_lt_of_le (h.top k hk).2 hs⟩, h.tbO, (hb tb h.tbO).trans h.hb, own_kept h.row (fun k hk => hb k (h.rowO k hk)), h.rowO, own_kept h.fr (fun k hk => hb k (h.frO k hk)), h.frO, h.map.imp (fun F hF => ⟨hF.1.kept (hb mb h.mbO), hF.2⟩), h.mbO, fun e he => (h.sets e he).kept hb, h.inv⟩
theorem TabAt.below {B : Nat} {O : Nat → Prop} {w w' : World} {tb : Nat} {sv pv fv : Value} {mb : Nat} {E : List En} {free : List Int} {empty : Int} {cnt : Nat} (h : TabAt B O w tb sv pv fv mb E free empty cnt) (hb : Below w.heap.size w w') : TabAt B O w' tb sv pv fv mb E free empty cnt :=
  h.kept hb.size (fun k hk => hb.block k (h.top k hk).2)
theorem TabAt.turn {B : Nat} {O Q : Nat → Prop} {w w' : World} {tb : Nat} {sv pv fv : Value} {mb : Nat} {E : List En} {free : List Int} {empty : Int} {cnt : Nat} (h : TabAt B O w tb sv pv fv mb E free empty cnt) (ht : Turn Q w w') (hQ : ∀ k, Q k → ¬ O k) : TabAt B O w' tb sv pv fv mb E free empty cnt :=
  h.kept ht.size (fun k hk => ht.block k (h.top k hk).2 (fun e => hQ k e hk))
end Go.Proofs.YtaejlgdmalhhnaaDoor
/- Layer 7: ready, asked, Held, Len. -/
set_option linter.unusedVariables false
set_option linter.unusedSimpArgs false
namespace Go.Proofs.YtaejlgdmalhhnaaDoor
open Go.RowKit Go.Maps

variable {B : Nat} {O : Nat → Prop} {w : World} {tb : Nat} {sv pv fv : Value} {mb : Nat} {E : List En} {free : List Int} {empty : Int} {cnt : Nat}
theorem TabAt.f0 (h : TabAt B O w tb sv pv fv mb E free empty cnt) : w.cell? ⟨tb, 0, none⟩ = some sv := by unfold World.cell?; simp only [h.hb]; rfl
theorem TabAt.f1 (h : TabAt B O w tb sv pv fv mb E free empty cnt) : w.cell? ⟨tb, 1, none⟩ = some pv := by unfold World.cell?; simp only [h.hb]; rfl
theorem TabAt.f2 (h : TabAt B O w tb sv pv fv mb E free empty cnt) : w.cell? ⟨tb, 2, none⟩ = some fv := by unfold World.cell?; simp only [h.hb]; rfl
theorem TabAt.f3 (h : TabAt B O w tb sv pv fv mb E free empty cnt) : w.cell? ⟨tb, 3, none⟩ = some (.map (some mb)) := by unfold World.cell?; simp only [h.hb]; rfl
theorem TabAt.f4 (h : TabAt B O w tb sv pv fv mb E free empty cnt) : w.cell? ⟨tb, 4, none⟩ = some (.int .i64 empty) := by unfold World.cell?; simp only [h.hb]; rfl
theorem ready_any (h : TabAt B O w tb sv pv fv mb E free empty cnt) : Calls Tryd.prog 83 #[.pointer (some ⟨tb, 0, none⟩)] w fun e w' => e = .returned (.bool true) ∧ w' = w := by
  have h3 := h.f3
  clear h
  have q79 : ∀ W : World, (binOp .neq 79 (.map (some mb)) (.map none)).run Tryd.prog W = .ok (.bool true) W := fun W => run_neq_map_nil W 79 9 3 (some mb) Tryd.underlying79
  go_enter Tryd.func83, Tryd.ntmps83
  go_wp2
  go_ret
  exact ⟨rfl, rfl⟩
theorem ready_nil (w : World) : Calls Tryd.prog 83 #[.pointer none] w fun e w' => e = .returned (.bool false) ∧ w' = w := by
  go_enter Tryd.func83, Tryd.ntmps83
  go_wp2
  go_ret
  exact ⟨rfl, rfl⟩
theorem ready_zero (tb : Nat) (w : World) (h3 : w.cell? ⟨tb, 3, none⟩ = some (.map none)) : Calls Tryd.prog 83 #[.pointer (some ⟨tb, 0, none⟩)] w fun e w' => e = .returned (.bool false) ∧ w' = w := by
  have q79 : ∀ W : World, (binOp .neq 79 (.map none) (.map none)).run Tryd.prog W = .ok (.bool false) W := fun W => run_neq_map_nil W 79 9 3 none Tryd.underlying79
  go_enter Tryd.func83, Tryd.ntmps83
  go_wp2
  go_ret
  exact ⟨rfl, rfl⟩
theorem ecells_len1 (e : En) : e.cells.length = 2 := rfl
theorem ecells_length (E : List En) : (ecells E).length = E.length * 2 := by
  induction E with
  | nil => rfl
  | cons a r ih => have e : ecells (a :: r) = a.cells ++ ecells r := by simp [ecells]
                   rw [e, List.length_append, ih, ecells_len1]; simp; omega
theorem ecells_get (l : List En) (j : Nat) (a : En) (hj : l[j]? = some a) (i : Nat) (v : Value) (hi : a.cells[i]? = some v) : (ecells l)[j * 2 + i]? = some v := by
  induction l generalizing j with
  | nil => simp at hj
  | cons x r ih =>
    have e : ecells (x :: r) = x.cells ++ ecells r := by simp [ecells]
    have hi6 : i < 2 := (List.getElem?_eq_some_iff.1 hi).1
    rw [e]
    cases j with
    | zero =>
      simp at hj; subst hj
      rw [List.getElem?_append_left (by rw [ecells_len1]; omega)]
      simpa using hi
    | succ j =>
      rw [List.getElem?_append_right (by rw [ecells_len1]; omega), ecells_len1]
      have e2 : (j + 1) * 2 + i - 2 = j * 2 + i := by omega
      rw [e2]
      exact ih j (by simpa using hj)
/-- The slice of places, and a place's two cells. -/
theorem TabAt.pv_form (h : TabAt B O w tb sv pv fv mb E free empty cnt) : (E = [] ∧ pv = .slice none 0 0) ∨ ∃ g c, pv = .slice (some ⟨g, 0, none⟩) E.length c ∧ E.length ≤ c := by
  rcases h.row.2 with ⟨h1, h2⟩ | ⟨g, cap, cur, h1, _, _, h2, _⟩
  · exact .inl ⟨List.eq_nil_of_length_eq_zero h2, h1⟩
  · exact .inr ⟨g, cap, h1, h2⟩
theorem TabAt.place (h : TabAt B O w tb sv pv fv mb E free empty cnt) {i : Nat} {e : En} (hi : E[i]? = some e) : ∃ pa c, pv = .slice (some pa) E.length c ∧ E.length ≤ c ∧ w.cell? (pa.add (i * 2)) = some e.v ∧ w.cell? ⟨(pa.add (i * 2)).block, (pa.add (i * 2)).off + 1, none⟩ = some (.int .i64 e.held) := by
  rcases h.pv_form with ⟨h1, _⟩ | ⟨g, c, rfl, hc⟩
  · subst h1; simp at hi
  · refine ⟨⟨g, 0, none⟩, c, rfl, hc, ?_, ?_⟩
    · exact World.ownsRow.cells h.row (g := g) rfl (i * 2) _ (ecells_get E i e hi 0 _ rfl)
    · have := World.ownsRow.cells h.row (g := g) rfl (i * 2 + 1) _ (ecells_get E i e hi 1 _ rfl)
      rw [addr_add_plain] at this ⊢
      exact this
theorem TabAt.pv_slice (h : TabAt B O w tb sv pv fv mb E free empty cnt) : ∃ A c, pv = .slice A E.length c := by
  rcases h.pv_form with ⟨h1, h2⟩ | ⟨g, c, h1, _⟩
  · subst h1; exact ⟨none, 0, h2⟩
  · exact ⟨_, c, h1⟩
/-- What asked tells of a number. -/
def askV (E : List En) (empty id : Int) : Value × Int × Int :=
  if id = 0 then (.slice none 0 0, empty, 0) else if id < 0 then (.slice none 0 0, 0, 5) else match E[(id - 1).toNat]? with
  | none => (.slice none 0 0, 0, 5)
  | some e => if e.held = 0 then (.slice none 0 0, 0, 5) else (e.v, e.held, 0)
def AskPost (w : World) (a : Value × Int × Int) (e : Ending) (w' : World) : Prop := e = .returned (.tuple #[.agg #[a.1, .int .i64 a.2.1], .int .i64 a.2.2]) ∧ Below w.heap.size w w'
set_option maxRecDepth 100000 in
set_option maxHeartbeats 1000000 in
theorem asked_any (id : Int) (h : TabAt B O w tb sv pv fv mb E free empty cnt) (hc : cnt ≤ 1000000) (hw : (Lit.int .i64 id).wf = true) :
    Calls Tryd.prog 90 #[.pointer (some ⟨tb, 0, none⟩), .int .i64 id] w (AskPost w (askV E empty id)) := by
  have HR := Aside.mk (ready_any (h.below (below_alloc (below_refl w) (.cells #[.slice none 0 0, .int .i64 0] 132))))
  have HO := Aside.mk (below_alloc (below_refl w) (.cells #[.slice none 0 0, .int .i64 0] 132))
  have H := Aside.mk (h.below (HO.out))
  have HE := Aside.mk (show E.length ≤ 1000000 by have := h.inv.len; omega)
  have hidb := wf_i64 hw
  clear h hw
  by_cases h0 : id = 0
  · subst h0
    have e0 : askV E empty 0 = (.slice none 0 0, empty, 0) := by unfold askV; rw [if_pos rfl]
    rw [e0]
    have f4 := H.out.f4
    obtain ⟨R, hR⟩ : ∃ R, AskPost w (.slice none 0 0, empty, 0) = R := ⟨_, rfl⟩
    rw [hR]
    have HRR := Aside.mk hR
    clear hR hidb
    go_enter Tryd.func90, Tryd.ntmps90
    go_wp2_with fail
    (with_reducible refine HR.out.mono ?_)
    rintro e w' ⟨rfl, rfl⟩
    go_wp2
    refine bodyPost_ret (v := .tuple #[.agg #[.slice none 0 0, .int .i64 empty], .int .i64 0]) (by simp [results, Tryd.results90, go_sem]) rfl ?_
    rw [← HRR.out]
    exact ⟨rfl, below_alloc (below_refl _) _⟩
  have hfail : ∀ (R : Ending → World → Prop), AskPost w (.slice none 0 0, 0, 5) = R → R (.returned (.tuple #[.agg #[.slice none 0 0, .int .i64 0], .int .i64 5])) (w.alloc (.cells #[.slice none 0 0, .int .i64 0] 132)) := by
    intro R hR
    rw [← hR]
    exact ⟨rfl, below_alloc (below_refl _) _⟩
  by_cases hneg : id < 0
  · have e0 : askV E empty id = (.slice none 0 0, 0, 5) := by unfold askV; rw [if_neg h0, if_pos hneg]
    rw [e0]
    have q0 : ((id : Int) == 0) = false := by simpa using h0
    obtain ⟨R, hR⟩ : ∃ R, AskPost w (.slice none 0 0, 0, 5) = R := ⟨_, rfl⟩
    have HF := Aside.mk (hfail R hR)
    rw [hR]
    clear hR hfail e0 h0
    go_enter Tryd.func90, Tryd.ntmps90
    go_wp2_with fail
    (with_reducible refine HR.out.mono ?_)
    rintro e w' ⟨rfl, rfl⟩
    go_wp2
    exact bodyPost_ret (v := .tuple #[.agg #[.slice none 0 0, .int .i64 0], .int .i64 5]) (by simp [results, Tryd.results90, go_sem]) rfl HF.out
  obtain ⟨i, rfl⟩ : ∃ i : Nat, id = (i : Int) + 1 := ⟨(id - 1).toNat, by omega⟩
  have ei : ((i : Int) + 1 - 1).toNat = i := by omega
  have q0 : (((i : Int) + 1) == 0) = false := by simp; omega
  have qn : ¬ ((i : Int) + 1 < 0) := by omega
  cases he : E[i]? with
  | none =>
    have e0 : askV E empty ((i : Int) + 1) = (.slice none 0 0, 0, 5) := by unfold askV; rw [if_neg h0, if_neg hneg, ei, he]
    rw [e0]
    have hge : (E.length : Int) < (i : Int) + 1 := by rw [List.getElem?_eq_none_iff] at he; omega
    have f1 := H.out.f1
    obtain ⟨A, c, hpv⟩ := H.out.pv_slice
    rw [hpv] at f1
    obtain ⟨R, hR⟩ : ∃ R, AskPost w (.slice none 0 0, 0, 5) = R := ⟨_, rfl⟩
    have HF := Aside.mk (hfail R hR)
    rw [hR]
    clear hR hfail e0 h0 hneg hpv ei he
    go_enter Tryd.func90, Tryd.ntmps90
    go_wp2_with fail
    (with_reducible refine HR.out.mono ?_)
    rintro e w' ⟨rfl, rfl⟩
    go_wp2
    exact bodyPost_ret (v := .tuple #[.agg #[.slice none 0 0, .int .i64 0], .int .i64 5]) (by simp [results, Tryd.results90, go_sem]) rfl HF.out
  | some x =>
    have hli : (i : Int) < (E.length : Int) := by have := (List.getElem?_eq_some_iff.1 he).1; omega
    have hlE : (E.length : Int) ≤ 1000000 := by have := HE.out; omega
    obtain ⟨pa, c, hpv, hcp, p0, p1⟩ := H.out.place he
    have hlc : (E.length : Int) ≤ (c : Int) := by omega
    have f1 := H.out.f1
    rw [hpv] at f1
    by_cases hx : x.held = 0
    · have e0 : askV E empty ((i : Int) + 1) = (.slice none 0 0, 0, 5) := by unfold askV; rw [if_neg h0, if_neg hneg, ei, he]; simp only; rw [if_pos hx]
      rw [e0]
      rw [hx] at p1
      obtain ⟨R, hR⟩ : ∃ R, AskPost w (.slice none 0 0, 0, 5) = R := ⟨_, rfl⟩
      have HF := Aside.mk (hfail R hR)
      rw [hR]
      clear hR hfail e0 h0 hneg hpv ei he hx hcp
      go_enter Tryd.func90, Tryd.ntmps90
      go_wp2_with fail
      (with_reducible refine HR.out.mono ?_)
      rintro e w' ⟨rfl, rfl⟩
      go_wp2
      exact bodyPost_ret (v := .tuple #[.agg #[.slice none 0 0, .int .i64 0], .int .i64 5]) (by simp [results, Tryd.results90, go_sem]) rfl HF.out
    · have e0 : askV E empty ((i : Int) + 1) = (x.v, x.held, 0) := by unfold askV; rw [if_neg h0, if_neg hneg, ei, he]; simp only; rw [if_neg hx]
      rw [e0]
      obtain ⟨xh, hxh⟩ : ∃ xh, x.held = xh := ⟨_, rfl⟩
      obtain ⟨xA, xc, hxv, _⟩ := src_of_own (H.out.sets x (List.mem_of_getElem? he)).1
      obtain ⟨xl, hxl⟩ : ∃ xl, x.set.length = xl := ⟨_, rfl⟩
      rw [hxl] at hxv
      rw [hxv] at p0 ⊢
      rw [hxh] at p1 hx ⊢
      have qh : ((xh : Int) == 0) = false := by simpa using hx
      obtain ⟨R, hR⟩ : ∃ R, AskPost w (.slice xA xl xc, xh, 0) = R := ⟨_, rfl⟩
      have HRR := Aside.mk hR
      rw [hR]
      clear hR hfail e0 h0 hneg hpv ei he hx hcp hxl hxv hxh
      go_enter Tryd.func90, Tryd.ntmps90
      go_wp2_with fail
      (with_reducible refine HR.out.mono ?_)
      rintro e w' ⟨rfl, rfl⟩
      go_wp2
      refine bodyPost_ret (v := .tuple #[.agg #[.slice xA xl xc, .int .i64 xh], .int .i64 0]) (by simp [results, Tryd.results90, go_sem]) rfl ?_
      rw [← HRR.out]
      exact ⟨rfl, below_alloc (below_refl _) _⟩
end Go.Proofs.YtaejlgdmalhhnaaDoor
/- Layer 7: Held, Len, Set; a table whose fields are written. -/
set_option linter.unusedVariables false
set_option linter.unusedSimpArgs false
namespace Go.Proofs.YtaejlgdmalhhnaaDoor
open Go.RowKit Go.Maps

variable {B : Nat} {O : Nat → Prop} {w : World} {tb : Nat} {sv pv fv : Value} {mb : Nat} {E : List En} {free : List Int} {empty : Int} {cnt : Nat}
theorem ask_slice (h : TabAt B O w tb sv pv fv mb E free empty cnt) (id : Int) : ∃ A c n, (askV E empty id).1 = .slice A n c := by
  unfold askV
  split
  · exact ⟨_, _, _, rfl⟩
  · split
    · exact ⟨_, _, _, rfl⟩
    · split
      · exact ⟨_, _, _, rfl⟩
      · rename_i e he
        split
        · exact ⟨_, _, _, rfl⟩
        · obtain ⟨A, c, hv, _⟩ := src_of_own (h.sets e (List.mem_of_getElem? he)).1
          exact ⟨A, c, _, hv⟩
set_option maxRecDepth 100000 in
theorem held_any (id : Int) (h : TabAt B O w tb sv pv fv mb E free empty cnt) (hc : cnt ≤ 1000000) (hw : (Lit.int .i64 id).wf = true) :
    Calls Tryd.prog 56 #[.pointer (some ⟨tb, 0, none⟩), .int .i64 id] w fun e w' => e = .returned (.int .i64 (askV E empty id).2.1) ∧ Below w.heap.size w w' := by
  have HA := Aside.mk (asked_any id h hc hw)
  obtain ⟨A, c, n, hv⟩ := ask_slice h id
  obtain ⟨⟨av, ah, ae⟩, ha⟩ : ∃ a, askV E empty id = a := ⟨_, rfl⟩
  rw [ha] at HA hv ⊢
  simp only at hv ⊢
  subst hv
  unfold AskPost at HA
  simp only at HA
  clear h hw ha
  go_enter Tryd.func56, Tryd.ntmps56
  go_wp2_with fail
  (with_reducible refine HA.out.mono ?_)
  rintro e w1 ⟨rfl, hb1⟩
  have HB := Aside.mk hb1
  clear hb1
  go_wp2
  go_ret
  exact ⟨rfl, below_alloc HB.out _⟩
set_option maxRecDepth 100000 in
theorem len7_any (h : TabAt B O w tb sv pv fv mb E free empty cnt) (hc : cnt ≤ 1000000) :
    Calls Tryd.prog 57 #[.pointer (some ⟨tb, 0, none⟩)] w fun e w' => e = .returned (.int .i64 (1 + (E.length : Int) - (free.length : Int))) ∧ Below w.heap.size w w' := by
  have HR := Aside.mk (ready_any h)
  have f1 := h.f1
  have f2 := h.f2
  obtain ⟨A, c, hpv⟩ := h.pv_slice
  rw [hpv] at f1
  obtain ⟨A2, c2, hfv, _⟩ := own_form h.fr
  rw [hfv] at f2
  have l1 : (E.length : Int) ≤ 1000000 := by have := h.inv.len; omega
  have l2 : (free.length : Int) ≤ 1000000 := by have := h.inv.flen; omega
  have HB := Aside.mk (below_refl w)
  clear h hpv hfv
  go_enter Tryd.func57, Tryd.ntmps57
  go_wp2_with fail
  (with_reducible refine HR.out.mono ?_)
  rintro e w' ⟨rfl, rfl⟩
  go_wp2_with fail
  have s1 : IntKind.i64.wrap (1 + (E.length : Int)) = 1 + (E.length : Int) := IntWalk.i64_in _ (by omega)
  have s2 : IntKind.i64.wrap (1 + (E.length : Int) - (free.length : Int)) = 1 + (E.length : Int) - (free.length : Int) := IntWalk.i64_in _ (by omega)
  go_quiet (fail)
  clear s1 s2
  go_wp2
  go_ret
  exact ⟨rfl, below_drewN HB.out _⟩
def setE (E : List En) (id : Int) : List At := if id = 0 then [] else ((E[(id - 1).toNat]?).map En.set).getD []
theorem ask_set (h : TabAt B O w tb sv pv fv mb E free empty cnt) {id : Int} (he : (askV E empty id).2.2 = 0) :
    ∃ A c, (askV E empty id).1 = .slice A (setE E id).length c ∧ (setE E id).length ≤ 64 ∧ (A = none → c = 0) ∧ ASrc w A (setE E id) := by
  unfold askV at he ⊢
  unfold setE
  by_cases h0 : id = 0
  · rw [if_pos h0]
    rw [if_pos h0]
    exact ⟨none, 0, rfl, by simp, fun _ => rfl, fun _ => rfl, fun ad e => (by cases e)⟩
  · rw [if_neg h0] at he ⊢
    rw [if_neg h0]
    by_cases h1 : id < 0
    · rw [if_pos h1] at he; cases he
    · rw [if_neg h1] at he ⊢
      cases hx : E[(id - 1).toNat]? with
      | none => rw [hx] at he; cases he
      | some x =>
        rw [hx] at he
        simp only at he ⊢
        by_cases hh : x.held = 0
        · rw [if_pos hh] at he; cases he
        · rw [if_neg hh]
          have hm := List.mem_of_getElem? hx
          obtain ⟨A, c, hv, hc, hA, hs⟩ := src_of_own (h.sets x hm).1
          exact ⟨A, c, hv, ((h.inv.held x hm).2.2 hh).2.1, hA, hs⟩
def SetPost (w : World) (l : List At) (err : Int) (e : Ending) (w' : World) : Prop :=
  Below w.heap.size w w' ∧ if err = 0 then ∃ u, e = .returned (.tuple #[u, .int .i64 0]) ∧ w'.ownsRow w.heap.size 58 5 u l.length (acells l) else e = .returned (.tuple #[.slice none 0 0, .int .i64 err])
theorem set_post {w1 w2 : World} {l : List At} {u : Value} (hb1 : Below w.heap.size w w1) (h : w2.ownsRow w1.heap.size 58 5 u l.length (acells l)) (hb2 : Below w1.heap.size w1 w2) : SetPost w l 0 (.returned (.tuple #[u, .int .i64 0])) w2 :=
  ⟨below_then hb1 hb2, by rw [if_pos rfl]; exact ⟨u, rfl, own_mono h hb1.size⟩⟩
set_option maxRecDepth 100000 in
theorem set_any (id : Int) (h : TabAt B O w tb sv pv fv mb E free empty cnt) (hc : cnt ≤ 1000000) (hw : (Lit.int .i64 id).wf = true) :
    Calls Tryd.prog 54 #[.pointer (some ⟨tb, 0, none⟩), .int .i64 id] w (SetPost w (setE E id) (askV E empty id).2.2) := by
  have HA := Aside.mk (asked_any id h hc hw)
  obtain ⟨A, c, n, hv⟩ := ask_slice h id
  by_cases he : (askV E empty id).2.2 = 0
  · obtain ⟨A', c', hv', h64, hA', hs⟩ := ask_set h he
    rw [hv] at hv'
    injection hv' with e1 e2 e3
    subst e1 e2 e3
    obtain ⟨l, hl⟩ : ∃ l, setE E id = l := ⟨_, rfl⟩
    rw [hl] at hs h64 hv ⊢
    rw [he]
    obtain ⟨⟨av, ah, ae⟩, ha⟩ : ∃ a, askV E empty id = a := ⟨_, rfl⟩
    rw [ha] at HA hv he
    simp only at hv he
    subst hv he
    unfold AskPost at HA
    simp only at HA
    have HS := Aside.mk hs
    have HAn := Aside.mk hA'
    have H64 := Aside.mk h64
    obtain ⟨R, hR⟩ : ∃ R, SetPost w l 0 = R := ⟨_, rfl⟩
    rw [hR]
    have HRR := Aside.mk hR
    clear h hw ha hR hs hA' h64 hl
    go_enter Tryd.func54, Tryd.ntmps54
    go_wp2_with fail
    (with_reducible refine HA.out.mono ?_)
    rintro e w1 ⟨rfl, hb1⟩
    have HB := Aside.mk (below_alloc hb1 (.cells #[.slice A l.length c, .int .i64 ah] 132))
    have HC := Aside.mk (copy_any A c l _ HAn.out (HS.out.below HB.out) (by have := H64.out; omega))
    clear hb1
    go_wp2_with fail
    (with_reducible refine HC.out.mono ?_)
    rintro e w2 ⟨u, rfl, ho, hb2⟩
    have HE := Aside.mk (set_post HB.out ho hb2)
    clear ho hb2
    go_wp2
    rw [← HRR.out]
    exact HE.out
  · obtain ⟨l, hl⟩ : ∃ l, setE E id = l := ⟨_, rfl⟩
    rw [hl]
    obtain ⟨⟨av, ah, ae⟩, ha⟩ : ∃ a, askV E empty id = a := ⟨_, rfl⟩
    rw [ha] at HA hv he ⊢
    simp only at hv he ⊢
    subst hv
    unfold AskPost at HA
    simp only at HA
    have q0 : ((ae : Int) != 0) = true := by simpa using he
    have HE := Aside.mk he
    obtain ⟨R, hR⟩ : ∃ R, SetPost w l ae = R := ⟨_, rfl⟩
    rw [hR]
    have HRR := Aside.mk hR
    clear h hw ha hR hl he
    go_enter Tryd.func54, Tryd.ntmps54
    go_wp2_with fail
    (with_reducible refine HA.out.mono ?_)
    rintro e w1 ⟨rfl, hb1⟩
    have HB := Aside.mk hb1
    clear hb1
    go_wp2
    rw [← HRR.out]
    exact ⟨below_alloc HB.out _, by rw [if_neg HE.out]; rfl⟩
end Go.Proofs.YtaejlgdmalhhnaaDoor
/- Layer 7: what a table holds in memory, its invariants left aside, and how each store turns it. -/
set_option linter.unusedVariables false
set_option linter.unusedSimpArgs false
namespace Go.Proofs.YtaejlgdmalhhnaaDoor
open Go.RowKit Go.Maps

structure TabR (B : Nat) (O : Nat → Prop) (w : World) (tb : Nat) (sv pv fv : Value) (mb : Nat) (E : List En) (free : List Int) (empty : Int) (cnt : Nat) (F : List UInt8 → Option Int) : Prop where
  top : ∀ k, O k → B ≤ k ∧ k < w.heap.size
  tbO : O tb
  hb : w.heap[tb]? = some (.cells #[sv, pv, fv, .map (some mb), .int .i64 empty] 81)
  row : w.ownsRow B 132 2 pv E.length (ecells E)
  rowO : ∀ k, pv.ownBlock = some k → O k
  fr : OwnN w B 3 .i64 fv free
  frO : ∀ k, fv.ownBlock = some k → O k
  map : IMap w mb cnt F
  mbO : O mb
  sets : ∀ e ∈ E, SetV B O w e.v e.set
variable {B : Nat} {O : Nat → Prop} {w w' : World} {tb : Nat} {sv pv fv : Value} {mb : Nat} {E : List En} {free : List Int} {empty : Int} {cnt : Nat} {F : List UInt8 → Option Int}
theorem TabAt.raw (h : TabAt B O w tb sv pv fv mb E free empty cnt) : ∃ F, TabR B O w tb sv pv fv mb E free empty cnt F ∧ FSpec E F := by
  obtain ⟨F, hF, hs⟩ := h.map
  exact ⟨F, ⟨h.top, h.tbO, h.hb, h.row, h.rowO, h.fr, h.frO, hF, h.mbO, h.sets⟩, hs⟩
theorem TabR.tab (h : TabR B O w tb sv pv fv mb E free empty cnt F) (hs : FSpec E F) (hi : TInv E free empty cnt) : TabAt B O w tb sv pv fv mb E free empty cnt :=
  ⟨h.top, h.tbO, h.hb, h.row, h.rowO, h.fr, h.frO, ⟨F, h.map, hs⟩, h.mbO, h.sets, hi⟩
theorem own_heap {e : TypeId} {size n : Nat} {v : Value} {xs : List Value} (h : w.ownsRow B e size v n xs) {g : Nat} (hg : v.ownBlock = some g) : ∃ cur, w.heap[g]? = some (.cells cur e (0, 0)) := by
  rcases h.2 with ⟨rfl, _⟩ | ⟨g', cap, cur, rfl, _, hh, _⟩
  · cases hg
  · cases hg; exact ⟨cur, hh⟩
theorem own_ne {e e' : TypeId} {size n k : Nat} {v : Value} {xs : List Value} {cs : Array Value} (h : w.ownsRow B e size v n xs) (hk : w.heap[k]? = some (.cells cs e' (0, 0))) (he : e ≠ e') : ∀ g, v.ownBlock = some g → g ≠ k := by
  intro g hg hgk
  obtain ⟨cur, hh⟩ := own_heap h hg
  rw [hgk, hk] at hh
  injection hh with hh
  injection hh with _ h2
  exact he h2.symm
theorem imap_heap {b : Nat} (h : IMap w b cnt F) : ∃ es clock, w.heap[b]? = some (.map es clock) := by
  obtain ⟨n, D, ⟨es, clock, hh, _⟩, _⟩ := h
  exact ⟨es, clock, hh⟩
theorem imap_ne {b k : Nat} {cs : Array Value} {e : TypeId} (h : IMap w b cnt F) (hk : w.heap[k]? = some (.cells cs e (0, 0))) : b ≠ k := by
  intro e
  obtain ⟨es, clock, hh⟩ := imap_heap h
  rw [e, hk] at hh
  cases hh
theorem set_same {α : Type} {l : List α} {i : Nat} {a : α} (h : l[i]? = some a) : l.set i a = l := by
  apply List.ext_getElem?
  intro t
  rw [List.getElem?_set]
  have hl := (List.getElem?_eq_some_iff.1 h).1
  by_cases ht : i = t
  · subst ht; simp only [hl, if_true]; exact h.symm
  · simp [ht]
theorem heap_keep (w : World) (a : Addr) (u : Value) {k : Nat} (h : k ≠ a.block) : (w.setCell a u).heap[k]? = w.heap[k]? := Below.heap_setCell _ _ _ _ h
theorem setCell_size (w : World) (a : Addr) (u : Value) : (w.setCell a u).heap.size = w.heap.size := by simp [World.setCell]
/-- A store into a field of the table's own block. -/
theorem TabR.field (h : TabR B O w tb sv pv fv mb E free empty cnt F) (i : Nat) (u : Value) :
    (w.setCell ⟨tb, i, none⟩ u).heap[tb]? = some (.cells ((#[sv, pv, fv, .map (some mb), .int .i64 empty] : Array Value).setIfInBounds i u) 81) ∧ (∀ k, k ≠ tb → (w.setCell ⟨tb, i, none⟩ u).heap[k]? = w.heap[k]?) ∧
    (∀ k, pv.ownBlock = some k → k ≠ tb) ∧ (∀ k, fv.ownBlock = some k → k ≠ tb) ∧ mb ≠ tb ∧ (∀ e ∈ E, ∀ k, e.v.ownBlock = some k → k ≠ tb) :=
  ⟨heap_setCell_same w tb i _ 81 u h.hb, fun k hk => heap_keep w _ u hk, own_ne h.row h.hb (by decide), own_ne h.fr h.hb (by decide), imap_ne h.map h.hb, fun e he => own_ne (h.sets e he).1 h.hb (by decide)⟩
theorem turn_set (w : World) (a : Addr) (u : Value) (h : O a.block) : Turn O w (w.setCell a u) := Turn.of_grown (setCell_grown w a u) (fun k hk => by cases hk; exact h)
theorem TabR.setEmpty (h : TabR B O w tb sv pv fv mb E free empty cnt F) (e' : Int) : TabR B O (w.setCell ⟨tb, 4, none⟩ (.int .i64 e')) tb sv pv fv mb E free e' cnt F := by
  obtain ⟨h1, h2, n1, n2, n3, n4⟩ := h.field 4 (.int .i64 e')
  exact ⟨fun k hk => by rw [setCell_size]; exact h.top k hk, h.tbO, h1, own_kept h.row (fun k hk => h2 k (n1 k hk)), h.rowO, own_kept h.fr (fun k hk => h2 k (n2 k hk)), h.frO, h.map.kept (h2 mb n3), h.mbO,
    fun e he => ⟨own_kept (h.sets e he).1 (fun k hk => h2 k (n4 e he k hk)), (h.sets e he).2⟩⟩
/-- The free row's field, the row itself laid anew. -/
theorem TabR.setFree (h : TabR B O w tb sv pv fv mb E free empty cnt F) {fv' : Value} {free' : List Int} (hf : OwnN w B 3 .i64 fv' free') (hO : ∀ k, fv'.ownBlock = some k → O k) : TabR B O (w.setCell ⟨tb, 2, none⟩ fv') tb sv pv fv' mb E free' empty cnt F := by
  obtain ⟨h1, h2, n1, n2, n3, n4⟩ := h.field 2 fv'
  exact ⟨fun k hk => by rw [setCell_size]; exact h.top k hk, h.tbO, h1, own_kept h.row (fun k hk => h2 k (n1 k hk)), h.rowO, own_kept hf (fun k hk => h2 k (own_ne hf h.hb (by decide) k hk)), hO, h.map.kept (h2 mb n3), h.mbO,
    fun e he => ⟨own_kept (h.sets e he).1 (fun k hk => h2 k (n4 e he k hk)), (h.sets e he).2⟩⟩
theorem TabR.setPlaces (h : TabR B O w tb sv pv fv mb E free empty cnt F) {pv' : Value} {E' : List En} (hp : w.ownsRow B 132 2 pv' E'.length (ecells E')) (hO : ∀ k, pv'.ownBlock = some k → O k) (hs : ∀ e ∈ E', SetV B O w e.v e.set) :
    TabR B O (w.setCell ⟨tb, 1, none⟩ pv') tb sv pv' fv mb E' free empty cnt F := by
  obtain ⟨h1, h2, n1, n2, n3, n4⟩ := h.field 1 pv'
  exact ⟨fun k hk => by rw [setCell_size]; exact h.top k hk, h.tbO, h1, own_kept hp (fun k hk => h2 k (own_ne hp h.hb (by decide) k hk)), hO, own_kept h.fr (fun k hk => h2 k (n2 k hk)), h.frO, h.map.kept (h2 mb n3), h.mbO,
    fun e he => ⟨own_kept (hs e he).1 (fun k hk => h2 k (own_ne (hs e he).1 h.hb (by decide) k hk)), (hs e he).2⟩⟩
/-- The map alone has turned. -/
theorem TabR.setMap (h : TabR B O w tb sv pv fv mb E free empty cnt F) {cnt' : Nat} {F' : List UInt8 → Option Int} (hg : w.grownBy w' (some mb)) (hm : IMap w' mb cnt' F') : TabR B O w' tb sv pv fv mb E free empty cnt' F' := by
  have keep : ∀ {e : TypeId} {size n : Nat} {v : Value} {xs : List Value}, w.ownsRow B e size v n xs → w'.ownsRow B e size v n xs := by
    intro e size n v xs ho
    refine own_kept ho (fun k hk => ?_)
    obtain ⟨cur, hh⟩ := own_heap ho hk
    exact hg.block k (Array.getElem?_eq_some_iff.1 hh).1 (fun e => by cases e; exact imap_ne h.map hh rfl)
  exact ⟨fun k hk => ⟨(h.top k hk).1, Nat.lt_of_lt_of_le (h.top k hk).2 hg.size⟩, h.tbO, (hg.block tb (Array.getElem?_eq_some_iff.1 h.hb).1 (fun e => by cases e; exact imap_ne h.map h.hb rfl)).trans h.hb, keep h.row, h.rowO, keep h.fr, h.frO, hm, h.mbO,
    fun e he => ⟨keep (h.sets e he).1, (h.sets e he).2⟩⟩
theorem ecells_set (E : List En) (i : Nat) (e : En) (hi : i < E.length) : ecells (E.set i e) = ((ecells E).set (i * 2) e.v).set (i * 2 + 1) (.int .i64 e.held) := by
  induction E generalizing i with
  | nil => simp at hi
  | cons a r ih =>
    have e1 : ecells (a :: r) = a.v :: .int .i64 a.held :: ecells r := by simp [ecells, En.cells]
    cases i with
    | zero => rw [e1]; simp [ecells, En.cells]
    | succ i =>
      rw [e1]
      have e2 : (i + 1) * 2 = i * 2 + 1 + 1 := by omega
      rw [List.set_cons_succ, e2]
      simp only [List.set_cons_succ]
      rw [← ih i (by simpa using hi)]
      simp [ecells, En.cells]
/-- One cell of the row of places is written: how often, or the set. -/
theorem TabR.setPlace (h : TabR B O w tb sv pv fv mb E free empty cnt F) {i : Nat} {e e' : En} (hi : E[i]? = some e) {pa : Addr} {c : Nat} (hpv : pv = .slice (some pa) E.length c) (hs : SetV B O w e'.v e'.set) (j : Nat) (u : Value)
    (hju : (j = 0 ∧ u = e'.v ∧ e'.held = e.held) ∨ (j = 1 ∧ u = .int .i64 e'.held ∧ e'.v = e.v)) :
    TabR B O (w.setCell ⟨pa.block, pa.off + i * 2 + j, none⟩ u) tb sv pv fv mb (E.set i e') free empty cnt F := by
  have hlt := (List.getElem?_eq_some_iff.1 hi).1
  rcases h.row.2 with ⟨h1, h2⟩ | ⟨g, cap, cur, h1, hB, hh, r⟩
  · omega
  rw [hpv] at h1
  injection h1 with a1 a2 a3
  injection a1 with a1
  subst a1 a3
  have hrow := h.row
  rw [hpv] at hrow
  have hst := (hrow.stored (i * 2 + j) u).1
  have ec : (ecells E).set (i * 2 + j) u = ecells (E.set i e') := by
    rw [ecells_set E i e' hlt]
    have g0 := ecells_get E i e hi 0 e.v rfl
    have g1 := ecells_get E i e hi 1 (.int .i64 e.held) rfl
    rcases hju with ⟨rfl, rfl, he⟩ | ⟨rfl, rfl, he⟩
    · rw [he, Nat.add_zero]
      exact (set_same (by rw [List.getElem?_set_ne (by omega)]; exact g1)).symm
    · rw [he, set_same (i := i * 2) g0]
  have keep : ∀ k, k ≠ g → (w.setCell ⟨g, 0 + i * 2 + j, none⟩ u).heap[k]? = w.heap[k]? := fun k hk => heap_keep w _ u hk
  have e0 : 0 + i * 2 + j = i * 2 + j := by omega
  have hnf := own_ne h.fr hh (by decide)
  have htb : tb ≠ g := by
    intro e
    have := h.hb
    rw [e, hh] at this
    injection this with this
    injection this with _ h2
    exact absurd h2 (by decide)
  refine ⟨fun k hk => by rw [setCell_size]; exact h.top k hk, h.tbO, (keep tb htb).trans h.hb, ?_, h.rowO, own_kept h.fr (fun k hk => keep k (hnf k hk)), h.frO, h.map.kept (keep mb (imap_ne h.map hh)), h.mbO, ?_⟩
  · rw [hpv, List.length_set, e0, ← ec]
    exact hst
  · intro x hx
    have hxs : SetV B O w x.v x.set := by
      rcases List.mem_or_eq_of_mem_set hx with hx | rfl
      · exact h.sets x hx
      · exact hs
    exact ⟨own_kept hxs.1 (fun k hk => keep k (own_ne hxs.1 hh (by decide) k hk)), hxs.2⟩
end Go.Proofs.YtaejlgdmalhhnaaDoor
/- Layer 7: what keeps a table's invariants, plain. -/
set_option linter.unusedVariables false
set_option linter.unusedSimpArgs false
namespace Go.Proofs.YtaejlgdmalhhnaaDoor
open Go.RowKit Go.Maps

variable {E : List En} {free : List Int} {empty : Int} {cnt cnt' : Nat} {F : List UInt8 → Option Int} {i : Nat} {e e' : En}
theorem set_at (hi : E[i]? = some e) (j : Nat) : (E.set i e')[j]? = if i = j then some e' else E[j]? := by
  rw [List.getElem?_set]
  have := (List.getElem?_eq_some_iff.1 hi).1
  by_cases h : i = j
  · subst h; simp [this]
  · simp [h]
theorem FSpec.held (h : FSpec E F) (hi : E[i]? = some e) (h0 : e.held ≠ 0) (hs : e'.set = e.set) (h1 : e'.held ≠ 0) : FSpec (E.set i e') F := by
  constructor
  · intro j a hj ha
    rw [set_at hi] at hj
    by_cases hij : i = j
    · subst hij; rw [if_pos rfl] at hj; cases hj; rw [hs]; exact h.hit i e hi h0
    · rw [if_neg hij] at hj; exact h.hit j a hj ha
  · intro t ht
    refine h.miss t (fun a ha hh => ?_)
    obtain ⟨j, hj, rfl⟩ := List.mem_iff_getElem.1 ha
    by_cases hij : i = j
    · subst hij
      have he : E[i] = e := by have := List.getElem?_eq_getElem hj; rw [hi] at this; exact (Option.some.inj this).symm
      rw [he, ← hs]
      exact ht e' (List.mem_of_getElem? (by rw [set_at hi, if_pos rfl] : (E.set i e')[i]? = some e')) h1
    · exact ht _ (List.mem_of_getElem? (by rw [set_at hi, if_neg hij]; exact List.getElem?_eq_getElem hj : (E.set i e')[j]? = some E[j])) hh
theorem TInv.mono (h : TInv E free empty cnt) (hc : cnt ≤ cnt') : TInv E free empty cnt' :=
  ⟨fun a ha => ⟨(h.held a ha).1, by have := (h.held a ha).2.1; omega, (h.held a ha).2.2⟩, by have := h.len; omega, by have := h.flen; omega, h.nodup, h.free, by have := h.emp; omega⟩
theorem TInv.setEmp (h : TInv E free empty cnt) {e' : Int} (hc : cnt ≤ cnt') (h0 : 0 ≤ e') (h1 : e' ≤ cnt') : TInv E free e' cnt' :=
  ⟨(h.mono hc).held, (h.mono hc).len, (h.mono hc).flen, h.nodup, h.free, h0, h1⟩
theorem TInv.setHeld (h : TInv E free empty cnt) (hi : E[i]? = some e) (h0 : e.held ≠ 0) (hs : e'.set = e.set) (h1 : e'.held ≠ 0) (h2 : 0 ≤ e'.held) (h3 : e'.held ≤ cnt') (hc : cnt ≤ cnt') : TInv (E.set i e') free empty cnt' := by
  have hm := h.mono hc
  refine ⟨fun a ha => ?_, by rw [List.length_set]; exact hm.len, hm.flen, h.nodup, fun f => ?_, hm.emp⟩
  · rcases List.mem_or_eq_of_mem_set ha with ha | rfl
    · exact hm.held a ha
    · exact ⟨h2, h3, fun _ => by rw [hs]; exact (h.held e (List.mem_of_getElem? hi)).2.2 h0⟩
  · rw [h.free]
    constructor
    · rintro ⟨j, a, hf, hj, ha⟩
      refine ⟨j, a, hf, ?_, ha⟩
      rw [set_at hi, if_neg (fun e => by subst e; rw [hi] at hj; cases hj; exact h0 ha)]
      exact hj
    · rintro ⟨j, a, hf, hj, ha⟩
      rw [set_at hi] at hj
      by_cases hij : i = j
      · rw [if_pos hij] at hj; cases hj; exact absurd ha h1
      · rw [if_neg hij] at hj; exact ⟨j, a, hf, hj, ha⟩
/-- A set is laid in a free place. -/
theorem FSpec.lay (h : FSpec E F) (hi : E[i]? = some e) (h0 : e.held = 0) (h1 : e'.held ≠ 0) (hn : F (textA e'.set) = none) : FSpec (E.set i e') (fun t => if t = textA e'.set then some ((i : Int) + 1) else F t) := by
  constructor
  · intro j a hj ha
    rw [set_at hi] at hj
    by_cases hij : i = j
    · subst hij; rw [if_pos rfl] at hj; cases hj; simp
    · rw [if_neg hij] at hj
      have h2 := h.hit j a hj ha
      by_cases ht : textA a.set = textA e'.set
      · rw [ht, hn] at h2; cases h2
      · simp only [ht, if_false]; exact h2
  · intro t ht
    have hne : t ≠ textA e'.set := fun e1 => ht e' (List.mem_of_getElem? (by rw [set_at hi, if_pos rfl] : (E.set i e')[i]? = some e')) h1 e1.symm
    simp only [hne, if_false]
    refine h.miss t (fun a ha hh => ?_)
    obtain ⟨j, hj, rfl⟩ := List.mem_iff_getElem.1 ha
    by_cases hij : i = j
    · subst hij
      have he : E[i] = e := by have := List.getElem?_eq_getElem hj; rw [hi] at this; exact (Option.some.inj this).symm
      rw [he] at hh; exact absurd h0 hh
    · exact ht _ (List.mem_of_getElem? (by rw [set_at hi, if_neg hij]; exact List.getElem?_eq_getElem hj : (E.set i e')[j]? = some E[j])) hh
theorem TInv.lay {fr : List Int} (h : TInv E (fr ++ [(i : Int)]) empty cnt) (hi : E[i]? = some e) (hs : okSet e'.set) (h1 : e'.held = 1) : TInv (E.set i e') fr empty (cnt + 1) := by
  have hm := h.mono (Nat.le_succ cnt)
  have hnd := List.nodup_append.1 h.nodup
  refine ⟨fun a ha => ?_, by rw [List.length_set]; exact hm.len, by have := hm.flen; rw [List.length_append] at this; omega, hnd.1, fun f => ?_, hm.emp⟩
  · rcases List.mem_or_eq_of_mem_set ha with ha | rfl
    · exact hm.held a ha
    · exact ⟨by omega, by omega, fun _ => hs⟩
  · constructor
    · intro hf
      obtain ⟨j, a, hfj, hj, ha⟩ := (h.free f).1 (by simp [hf])
      refine ⟨j, a, hfj, ?_, ha⟩
      rw [set_at hi, if_neg (fun e1 => hnd.2.2 f hf (i : Int) (by simp) (by rw [hfj, e1]))]
      exact hj
    · rintro ⟨j, a, hfj, hj, ha⟩
      rw [set_at hi] at hj
      by_cases hij : i = j
      · rw [if_pos hij] at hj; cases hj; omega
      · rw [if_neg hij] at hj
        have := (h.free f).2 ⟨j, a, hfj, hj, ha⟩
        rcases List.mem_append.1 this with h' | h'
        · exact h'
        · simp at h'; omega
/-- .. at the end. -/
theorem FSpec.push (h : FSpec E F) (h1 : e'.held ≠ 0) (hn : F (textA e'.set) = none) : FSpec (E ++ [e']) (fun t => if t = textA e'.set then some ((E.length : Int) + 1) else F t) := by
  constructor
  · intro j a hj ha
    by_cases hl : j < E.length
    · rw [List.getElem?_append_left hl] at hj
      have h2 := h.hit j a hj ha
      by_cases ht : textA a.set = textA e'.set
      · rw [ht, hn] at h2; cases h2
      · simp only [ht, if_false]; exact h2
    · rw [List.getElem?_append_right (by omega)] at hj
      have h0 : j - E.length = 0 := by
        rcases Nat.eq_zero_or_pos (j - E.length) with h | h
        · exact h
        · rw [List.getElem?_eq_none (by simp; omega)] at hj; cases hj
      rw [h0] at hj
      simp at hj
      subst hj
      have : j = E.length := by omega
      rw [this]; simp
  · intro t ht
    have hne : t ≠ textA e'.set := fun e1 => ht e' (by simp) h1 e1.symm
    simp only [hne, if_false]
    exact h.miss t (fun a ha hh => ht a (by simp [ha]) hh)
theorem TInv.push (h : TInv E [] empty cnt) (hs : okSet e'.set) (h1 : e'.held = 1) : TInv (E ++ [e']) [] empty (cnt + 1) := by
  have hm := h.mono (Nat.le_succ cnt)
  refine ⟨fun a ha => ?_, by rw [List.length_append]; have := h.len; simp; exact this, by simp, h.nodup, fun f => ?_, hm.emp⟩
  · rcases List.mem_append.1 ha with ha | ha
    · exact hm.held a ha
    · simp at ha; subst ha; exact ⟨by omega, by omega, fun _ => hs⟩
  · constructor
    · intro hf; cases hf
    · rintro ⟨j, a, hfj, hj, ha⟩
      by_cases hl : j < E.length
      · rw [List.getElem?_append_left hl] at hj
        exact (h.free f).2 ⟨j, a, hfj, hj, ha⟩
      · rw [List.getElem?_append_right (by omega)] at hj
        have h0 : j - E.length = 0 := by
          rcases Nat.eq_zero_or_pos (j - E.length) with h | h
          · exact h
          · rw [List.getElem?_eq_none (by simp; omega)] at hj; cases hj
        rw [h0] at hj
        simp at hj
        subst hj
        omega
/-- A set goes. -/
theorem FSpec.drop (h : FSpec E F) (hi : E[i]? = some e) (h0 : e.held ≠ 0) (h1 : e'.held = 0) : FSpec (E.set i e') (fun t => if t = textA e.set then none else F t) := by
  have hF := h.hit i e hi h0
  constructor
  · intro j a hj ha
    rw [set_at hi] at hj
    by_cases hij : i = j
    · rw [if_pos hij] at hj; cases hj; exact absurd h1 ha
    · rw [if_neg hij] at hj
      have h2 := h.hit j a hj ha
      by_cases ht : textA a.set = textA e.set
      · rw [ht, hF] at h2
        injection h2 with h2
        omega
      · simp only [ht, if_false]; exact h2
  · intro t ht
    by_cases hne : t = textA e.set
    · simp [hne]
    · simp only [hne, if_false]
      refine h.miss t (fun a ha hh => ?_)
      obtain ⟨j, hj, rfl⟩ := List.mem_iff_getElem.1 ha
      by_cases hij : i = j
      · subst hij
        have he : E[i] = e := by have := List.getElem?_eq_getElem hj; rw [hi] at this; exact (Option.some.inj this).symm
        rw [he]; exact fun e1 => hne e1.symm
      · exact ht _ (List.mem_of_getElem? (by rw [set_at hi, if_neg hij]; exact List.getElem?_eq_getElem hj : (E.set i e')[j]? = some E[j])) hh
theorem TInv.drop (h : TInv E free empty cnt) (hi : E[i]? = some e) (h0 : e.held ≠ 0) (h1 : e'.held = 0) : TInv (E.set i e') (free ++ [(i : Int)]) empty (cnt + 1) := by
  have hm := h.mono (Nat.le_succ cnt)
  have hni : (i : Int) ∉ free := by
    intro hf
    obtain ⟨j, a, hfj, hj, ha⟩ := (h.free _).1 hf
    obtain rfl : i = j := by omega
    rw [hi] at hj; cases hj; exact h0 ha
  refine ⟨fun a ha => ?_, by rw [List.length_set]; exact hm.len, by rw [List.length_append]; have := h.flen; simp; exact this, ?_, fun f => ?_, hm.emp⟩
  · rcases List.mem_or_eq_of_mem_set ha with ha | rfl
    · exact hm.held a ha
    · exact ⟨by omega, by omega, fun hh => absurd h1 hh⟩
  · rw [List.nodup_append]
    exact ⟨h.nodup, by simp, fun a ha b hb => by simp at hb; subst hb; exact fun e1 => hni (e1 ▸ ha)⟩
  · rw [List.mem_append, List.mem_singleton, h.free]
    constructor
    · rintro (⟨j, a, hfj, hj, ha⟩ | rfl)
      · refine ⟨j, a, hfj, ?_, ha⟩
        rw [set_at hi, if_neg (fun e1 => by subst e1; rw [hi] at hj; cases hj; exact h0 ha)]
        exact hj
      · exact ⟨i, e', rfl, by rw [set_at hi, if_pos rfl], h1⟩
    · rintro ⟨j, a, hfj, hj, ha⟩
      rw [set_at hi] at hj
      by_cases hij : i = j
      · subst hij; exact .inr hfj
      · rw [if_neg hij] at hj; exact .inl ⟨j, a, hfj, hj, ha⟩
end Go.Proofs.YtaejlgdmalhhnaaDoor
/- Layer 7: Hold. -/
set_option linter.unusedVariables false
set_option linter.unusedSimpArgs false
namespace Go.Proofs.YtaejlgdmalhhnaaDoor
open Go.RowKit Go.Maps

variable {B : Nat} {O : Nat → Prop} {w w' : World} {tb : Nat} {sv pv fv : Value} {mb : Nat} {E : List En} {free : List Int} {empty : Int} {cnt : Nat} {F : List UInt8 → Option Int}
def pr (e : En) : List At × Int := (e.set, e.held)
/-- A table that holds these sets. -/
def TabM (B : Nat) (O : Nat → Prop) (w : World) (tb : Nat) (sv : Value) (mb : Nat) (P : List (List At × Int)) (free : List Int) (empty : Int) (cnt : Nat) : Prop :=
  ∃ pv fv E, E.map pr = P ∧ TabAt B O w tb sv pv fv mb E free empty cnt
/-- The blocks of O, and what is new. -/
def Grow (O : Nat → Prop) (w w' : World) (k : Nat) : Prop := O k ∨ (w.heap.size ≤ k ∧ k < w'.heap.size)
theorem TabAt.grow (h : TabAt B O w' tb sv pv fv mb E free empty cnt) (hB : B ≤ w.heap.size) : TabAt B (Grow O w w') w' tb sv pv fv mb E free empty cnt :=
  ⟨fun k hk => hk.elim (fun h' => h.top k h') (fun h' => ⟨by omega, h'.2⟩), .inl h.tbO, h.hb, h.row, fun k hk => .inl (h.rowO k hk), h.fr, fun k hk => .inl (h.frO k hk), h.map, .inl h.mbO, fun e he => (h.sets e he).mono (fun k hk => .inl hk), h.inv⟩
theorem TabR.grow (h : TabR B O w' tb sv pv fv mb E free empty cnt F) (hB : B ≤ w.heap.size) : TabR B (Grow O w w') w' tb sv pv fv mb E free empty cnt F :=
  ⟨fun k hk => hk.elim (fun h' => h.top k h') (fun h' => ⟨by omega, h'.2⟩), .inl h.tbO, h.hb, h.row, fun k hk => .inl (h.rowO k hk), h.fr, fun k hk => .inl (h.frO k hk), h.map, .inl h.mbO, fun e he => (h.sets e he).mono (fun k hk => .inl hk)⟩
theorem TabAt.mono (h : TabAt B O w tb sv pv fv mb E free empty cnt) {cnt' : Nat} (hc : cnt ≤ cnt') : TabAt B O w tb sv pv fv mb E free empty cnt' :=
  ⟨h.top, h.tbO, h.hb, h.row, h.rowO, h.fr, h.frO, h.map.imp (fun F hF => ⟨hF.1.mono hc, hF.2⟩), h.mbO, h.sets, h.inv.mono hc⟩
theorem TabR.mono (h : TabR B O w tb sv pv fv mb E free empty cnt F) {cnt' : Nat} (hc : cnt ≤ cnt') : TabR B O w tb sv pv fv mb E free empty cnt' F :=
  ⟨h.top, h.tbO, h.hb, h.row, h.rowO, h.fr, h.frO, h.map.mono hc, h.mbO, h.sets⟩
theorem TabAt.baseB (h : TabAt B O w tb sv pv fv mb E free empty cnt) : B ≤ w.heap.size := by have := h.top tb h.tbO; omega
theorem TabAt.fz (h : TabAt B O w tb sv pv fv mb E free empty cnt) (i : Nat) : w.frozen? ⟨tb, i, none⟩ = false := frozen_of_row w tb i _ 81 h.hb
theorem TabAt.fzp (h : TabAt B O w tb sv pv fv mb E free empty cnt) {pa : Addr} {c : Nat} (hpv : pv = .slice (some pa) E.length c) (i j : Nat) : w.frozen? ⟨(pa.add i).block, (pa.add i).off + j, none⟩ = false := by
  rcases h.row.2 with ⟨h1, h2⟩ | ⟨g, cap, cur, h1, hB, hh, r⟩
  · rw [hpv] at h1; cases h1
  · rw [hpv] at h1
    injection h1 with a1 a2 a3
    injection a1 with a1
    subst a1
    exact frozen_of_row w _ _ cur 132 (by rw [addr_add_plain]; exact hh)
theorem place_addr (h : TabAt B O w tb sv pv fv mb E free empty cnt) {pa : Addr} {c : Nat} (hpv : pv = .slice (some pa) E.length c) (i j : Nat) : (⟨(pa.add i).block, (pa.add i).off + j, none⟩ : Addr) = ⟨pa.block, pa.off + i + j, none⟩ := by
  rcases h.row.2 with ⟨h1, h2⟩ | ⟨g, cap, cur, h1, hB, hh, r⟩
  · rw [hpv] at h1; cases h1
  · rw [hpv] at h1
    injection h1 with a1 a2 a3
    injection a1 with a1
    subst a1
    rw [addr_add_plain]; simp
theorem pa_block (h : TabAt B O w tb sv pv fv mb E free empty cnt) {pa : Addr} {c : Nat} (hpv : pv = .slice (some pa) E.length c) : O pa.block := h.rowO pa.block (by rw [hpv]; rfl)
theorem map_set_pr (E : List En) (i : Nat) (e : En) : (E.set i e).map pr = (E.map pr).set i (pr e) := by rw [List.map_set]
/-- One hold more, told of the sets alone. -/
def askP (P : List (List At × Int)) (empty id : Int) : Int × Int :=
  if id = 0 then (empty, 0) else if id < 0 then (0, 5) else match P[(id - 1).toNat]? with
  | none => (0, 5)
  | some p => if p.2 = 0 then (0, 5) else (p.2, 0)
theorem askP_eq (E : List En) (empty id : Int) : askP (E.map pr) empty id = ((askV E empty id).2.1, (askV E empty id).2.2) := by
  unfold askP askV
  split
  · rfl
  · split
    · rfl
    · rw [List.getElem?_map]
      cases E[(id - 1).toNat]? with
      | none => rfl
      | some e => simp only [Option.map_some, pr]; split <;> rfl
def heldP (P : List (List At × Int)) (i : Nat) (d : Int) : List (List At × Int) := match P[i]? with
  | none => P
  | some p => P.set i (p.1, p.2 + d)
def OpPost (B : Nat) (O : Nat → Prop) (w : World) (tb : Nat) (sv : Value) (mb : Nat) (P : List (List At × Int)) (free : List Int) (empty : Int) (cnt : Nat) (r : Value) (e : Ending) (w' : World) : Prop :=
  e = .returned r ∧ TabM B (Grow O w w') w' tb sv mb P free empty cnt ∧ Turn O w w'
theorem op_same {w1 : World} {r : Value} (h : TabAt B O w tb sv pv fv mb E free empty cnt) (hb : Below w.heap.size w w1) : OpPost B O w tb sv mb (E.map pr) free empty (cnt + 1) r (.returned r) w1 :=
  ⟨rfl, ⟨pv, fv, E, rfl, ((h.below hb).grow h.baseB).mono (Nat.le_succ cnt)⟩, Turn.of_below hb⟩
theorem op_empty {w1 : World} {r : Value} (h : TabAt B O w tb sv pv fv mb E free empty cnt) (hb : Below w.heap.size w w1) (e' : Int) (h0 : 0 ≤ e') (h1 : e' ≤ cnt + 1) :
    OpPost B O w tb sv mb (E.map pr) free e' (cnt + 1) r (.returned r) (w1.setCell ⟨tb, 4, none⟩ (.int .i64 e')) := by
  obtain ⟨F, hr, hF⟩ := (h.below hb).raw
  have ht : Turn O w (w1.setCell ⟨tb, 4, none⟩ (.int .i64 e')) := (Turn.of_below hb).trans (turn_set w1 ⟨tb, 4, none⟩ _ h.tbO)
  exact ⟨rfl, ⟨pv, fv, E, rfl, (((hr.setEmpty e').grow h.baseB).mono (Nat.le_succ cnt)).tab hF (h.inv.setEmp (Nat.le_succ cnt) h0 (by omega))⟩, ht⟩
theorem op_held {w1 : World} {r : Value} {i : Nat} {x : En} {pa : Addr} {c : Nat} (h : TabAt B O w tb sv pv fv mb E free empty cnt) (hb : Below w.heap.size w w1) (hx : E[i]? = some x) (hpv : pv = .slice (some pa) E.length c) (h0 : x.held ≠ 0) (h' : Int) (h1 : 1 ≤ h') (h2 : h' ≤ cnt + 1) :
    OpPost B O w tb sv mb ((E.map pr).set i (x.set, h')) free empty (cnt + 1) r (.returned r) (w1.setCell ⟨(pa.add (i * 2)).block, (pa.add (i * 2)).off + 1, none⟩ (.int .i64 h')) := by
  obtain ⟨F, hr, hF⟩ := (h.below hb).raw
  rw [place_addr (h.below hb) hpv (i * 2) 1]
  have ht : Turn O w (w1.setCell ⟨pa.block, pa.off + i * 2 + 1, none⟩ (.int .i64 h')) := (Turn.of_below hb).trans (turn_set w1 ⟨pa.block, pa.off + i * 2 + 1, none⟩ _ (show O pa.block from pa_block h hpv))
  have hs := hr.setPlace (e' := ⟨x.v, x.set, h'⟩) hx hpv (hr.sets x (List.mem_of_getElem? hx)) 1 (.int .i64 h') (.inr ⟨rfl, rfl, rfl⟩)
  refine ⟨rfl, ⟨pv, fv, E.set i ⟨x.v, x.set, h'⟩, map_set_pr E i _, ?_⟩, ht⟩
  exact ((hs.grow h.baseB).mono (Nat.le_succ cnt)).tab (hF.held hx h0 rfl (by simp only; omega)) (h.inv.setHeld hx h0 rfl (by simp only; omega) (by simp only; omega) (by simp only; omega) (Nat.le_succ cnt))
set_option maxRecDepth 100000 in
theorem hold_err (id : Int) (h : TabAt B O w tb sv pv fv mb E free empty cnt) (hc : cnt ≤ 100000) (hw : (Lit.int .i64 id).wf = true) (he : (askP (E.map pr) empty id).2 ≠ 0) :
    Calls Tryd.prog 39 #[.pointer (some ⟨tb, 0, none⟩), .int .i64 id] w (OpPost B O w tb sv mb (E.map pr) free empty (cnt + 1) (.int .i64 (askP (E.map pr) empty id).2)) := by
  have HA := Aside.mk (asked_any id h (by omega) hw)
  rw [askP_eq] at he ⊢
  obtain ⟨A, c, n, hv⟩ := ask_slice h id
  have HP := Aside.mk (fun (w1 : World) (ae : Int) (hb : Below w.heap.size w w1) => op_same (r := .int .i64 ae) h hb)
  obtain ⟨⟨av, ah, ae⟩, ha⟩ : ∃ a, askV E empty id = a := ⟨_, rfl⟩
  rw [ha] at HA hv he ⊢
  simp only at hv he ⊢
  subst hv
  unfold AskPost at HA
  simp only at HA
  have q0 : ((ae : Int) != 0) = true := by simpa using he
  obtain ⟨R, hR⟩ : ∃ R, OpPost B O w tb sv mb (E.map pr) free empty (cnt + 1) (.int .i64 ae) = R := ⟨_, rfl⟩
  rw [hR]
  have HRR := Aside.mk hR
  clear h hw ha hR he
  go_enter Tryd.func39, Tryd.ntmps39
  go_wp2_with fail
  (with_reducible refine HA.out.mono ?_)
  rintro e w1 ⟨rfl, hb1⟩
  have HB := Aside.mk hb1
  clear hb1
  go_wp2
  rw [← HRR.out]
  exact HP.out _ _ (below_alloc HB.out _)
set_option maxRecDepth 100000 in
theorem hold_zero (h : TabAt B O w tb sv pv fv mb E free empty cnt) (hc : cnt ≤ 100000) :
    Calls Tryd.prog 39 #[.pointer (some ⟨tb, 0, none⟩), .int .i64 0] w (OpPost B O w tb sv mb (E.map pr) free (empty + 1) (cnt + 1) (.int .i64 0)) := by
  have HA := Aside.mk (asked_any 0 h (by omega) (by decide))
  have ha : askV E empty 0 = (.slice none 0 0, empty, 0) := rfl
  rw [ha] at HA
  unfold AskPost at HA
  simp only at HA
  have HH := Aside.mk h
  have b0 : 0 ≤ empty ∧ empty ≤ 100000 := by have := h.inv.emp; omega
  obtain ⟨R, hR⟩ : ∃ R, OpPost B O w tb sv mb (E.map pr) free (empty + 1) (cnt + 1) (.int .i64 0) = R := ⟨_, rfl⟩
  rw [hR]
  have HRR := Aside.mk hR
  clear h ha hR
  go_enter Tryd.func39, Tryd.ntmps39
  go_wp2_with fail
  (with_reducible refine HA.out.mono ?_)
  rintro e w1 ⟨rfl, hb1⟩
  have HB := Aside.mk (below_alloc hb1 (.cells #[.slice none 0 0, .int .i64 empty] 132))
  have HT := Aside.mk (HH.out.below HB.out)
  clear hb1
  have f4 := HT.out.f4
  have z4 := HT.out.fz 4
  go_wp2
  rw [← HRR.out]
  exact op_empty HH.out HB.out (empty + 1) (by omega) (by have := HH.out.inv.emp; omega)
theorem askV_at {i : Nat} {x : En} (hx : E[i]? = some x) (h0 : x.held ≠ 0) : askV E empty ((i : Int) + 1) = (x.v, x.held, 0) := by
  unfold askV
  rw [if_neg (by omega), if_neg (by omega), show ((i : Int) + 1 - 1).toNat = i by omega, hx]
  simp only
  rw [if_neg h0]
set_option maxRecDepth 100000 in
set_option maxHeartbeats 1000000 in
theorem hold_at {i : Nat} {x : En} (h : TabAt B O w tb sv pv fv mb E free empty cnt) (hc : cnt ≤ 100000) (hx : E[i]? = some x) (h0 : x.held ≠ 0) :
    Calls Tryd.prog 39 #[.pointer (some ⟨tb, 0, none⟩), .int .i64 ((i : Int) + 1)] w (OpPost B O w tb sv mb ((E.map pr).set i (x.set, x.held + 1)) free empty (cnt + 1) (.int .i64 0)) := by
  have hil := (List.getElem?_eq_some_iff.1 hx).1
  have hli : (i : Int) < (E.length : Int) := by omega
  have hlE : (E.length : Int) ≤ 100000 := by have := h.inv.len; omega
  have HA := Aside.mk (asked_any ((i : Int) + 1) h (by omega) (WalkArith.wf_i64 (by omega)))
  rw [askV_at hx h0] at HA
  unfold AskPost at HA
  simp only at HA
  obtain ⟨xA, xc, hxv, _⟩ := src_of_own (h.sets x (List.mem_of_getElem? hx)).1
  obtain ⟨xl, hxl⟩ : ∃ xl, x.set.length = xl := ⟨_, rfl⟩
  rw [hxl] at hxv
  rw [hxv] at HA
  obtain ⟨pa, c, hpv, hcp, _, _⟩ := h.place hx
  have hlc : (E.length : Int) ≤ (c : Int) := by omega
  have hh := h.inv.held x (List.mem_of_getElem? hx)
  have HP := Aside.mk (fun (w1 : World) (hb : Below w.heap.size w w1) => op_held (r := .int .i64 0) h hb hx hpv h0 (x.held + 1) (by omega) (by omega))
  have HH := Aside.mk (fun (w1 : World) (hb : Below w.heap.size w w1) => h.below hb)
  have hF1 := Aside.mk (fun (w1 : World) (hb : Below w.heap.size w w1) => show w1.cell? ⟨(pa.add (i * 2)).block, (pa.add (i * 2)).off + 1, none⟩ = some (.int .i64 x.held) by
    obtain ⟨pa', c', hpv', _, _, hc1⟩ := (h.below hb).place hx
    rw [hpv] at hpv'
    injection hpv' with a1 a2 a3
    injection a1 with a1
    subst a1
    exact hc1)
  have hF2 := Aside.mk (fun (w1 : World) (hb : Below w.heap.size w w1) => (h.below hb).fzp hpv (i * 2) 1)
  have hF3 := Aside.mk (fun (w1 : World) (hb : Below w.heap.size w w1) => show w1.cell? ⟨tb, 1, none⟩ = some (.slice (some pa) E.length c) by rw [(h.below hb).f1, hpv])
  obtain ⟨xh, hxh⟩ : ∃ xh, x.held = xh := ⟨_, rfl⟩
  rw [hxh] at HA HP hF1 hh ⊢
  have b0 : 0 ≤ xh ∧ xh ≤ 100000 := by omega
  have q0 : (((i : Int) + 1) == 0) = false := by simp; omega
  obtain ⟨R, hR⟩ : ∃ R, OpPost B O w tb sv mb ((E.map pr).set i (x.set, xh + 1)) free empty (cnt + 1) (.int .i64 0) = R := ⟨_, rfl⟩
  rw [hR]
  have HRR := Aside.mk hR
  clear h hR hx h0 hxh hxv hpv hcp hh hxl
  go_enter Tryd.func39, Tryd.ntmps39
  go_wp2_with fail
  (with_reducible refine HA.out.mono ?_)
  rintro e w1 ⟨rfl, hb1⟩
  have HB := Aside.mk (below_alloc hb1 (.cells #[.slice xA xl xc, .int .i64 xh] 132))
  have f1 := hF1.out _ HB.out
  have f2 := hF2.out _ HB.out
  have f3 := hF3.out _ HB.out
  clear hb1
  go_wp2
  rw [← HRR.out]
  exact HP.out _ HB.out
end Go.Proofs.YtaejlgdmalhhnaaDoor
/- Layer 7: rows of a table that grow. -/
set_option linter.unusedVariables false
set_option linter.unusedSimpArgs false
namespace Go.Proofs.YtaejlgdmalhhnaaDoor
open Go.RowKit Go.Maps

variable {B : Nat} {O : Nat → Prop} {w w' : World} {tb : Nat} {sv pv fv : Value} {mb : Nat} {E : List En} {free : List Int} {empty : Int} {cnt : Nat} {F : List UInt8 → Option Int}
theorem own_own_ne {e e' : TypeId} {s s' n n' B' : Nat} {v v' : Value} {xs xs' : List Value} (h : w.ownsRow B e s v n xs) (h' : w.ownsRow B' e' s' v' n' xs') (he : e ≠ e') : ∀ k, v.ownBlock = some k → v'.ownBlock ≠ some k := by
  intro k hk hk'
  obtain ⟨cur, hh⟩ := own_heap h' hk'
  exact own_ne h hh he k hk rfl
theorem tb_ne {e : TypeId} {s n : Nat} {v : Value} {xs : List Value} {cs : Array Value} {e' : TypeId} (h : w.ownsRow B e s v n xs) (hk : w.heap[tb]? = some (.cells cs e' (0, 0))) (he : e ≠ e') : some tb ≠ v.ownBlock := fun e1 => own_ne h hk he tb e1.symm rfl
theorem mb_ne {e : TypeId} {s n : Nat} {v : Value} {xs : List Value} (h : w.ownsRow B e s v n xs) (hm : IMap w mb cnt F) : some mb ≠ v.ownBlock := by
  intro e1
  obtain ⟨cur, hh⟩ := own_heap h e1.symm
  exact imap_ne hm hh rfl
theorem own_lt {e : TypeId} {s n : Nat} {v : Value} {xs : List Value} (h : w.ownsRow B e s v n xs) {k : Nat} (hk : v.ownBlock = some k) : k < w.heap.size := by
  obtain ⟨cur, hh⟩ := own_heap h hk
  exact (Array.getElem?_eq_some_iff.1 hh).1
theorem TabR.growFree {w1 : World} {v1 : Value} {free' : List Int} (h : TabR B O w tb sv pv fv mb E free empty cnt F) (hg : w.grownBy w1 fv.ownBlock) (ho : OwnN w1 B 3 .i64 v1 free') (hat : v1.ownBlock = fv.ownBlock ∨ ∃ b, v1.ownBlock = some b ∧ w.heap.size ≤ b) :
    TabR B (Grow O w w1) (w1.setCell ⟨tb, 2, none⟩ v1) tb sv pv v1 mb E free' empty cnt F := by
  have htb : w1.heap[tb]? = w.heap[tb]? := hg.block tb (h.top tb h.tbO).2 (tb_ne h.fr h.hb (by decide))
  have hmb : w1.heap[mb]? = w.heap[mb]? := hg.block mb h.map.lt (mb_ne h.fr h.map)
  have hpv : ∀ k, pv.ownBlock = some k → w1.heap[k]? = w.heap[k]? := fun k hk => hg.block k (own_lt h.row hk) (fun e => own_own_ne h.row h.fr (by decide) k hk e.symm)
  have hse : ∀ e ∈ E, ∀ k, e.v.ownBlock = some k → w1.heap[k]? = w.heap[k]? := fun e he k hk => hg.block k (own_lt (h.sets e he).1 hk) (fun e1 => own_own_ne (h.sets e he).1 h.fr (by decide) k hk e1.symm)
  have hB := (h.top tb h.tbO).1
  have hlt := (h.top tb h.tbO).2
  have hgs := hg.size
  have hr : TabR B (Grow O w w1) w1 tb sv pv v1 mb E free' empty cnt F ∨ True := .inr trivial
  have hb1 := htb.trans h.hb
  have key : ∀ k, k ≠ tb → (w1.setCell ⟨tb, 2, none⟩ v1).heap[k]? = w1.heap[k]? := fun k hk => heap_keep w1 ⟨tb, 2, none⟩ v1 hk
  refine ⟨fun k hk => ?_, .inl h.tbO, heap_setCell_same w1 tb 2 _ 81 v1 hb1, ?_, fun k hk => .inl (h.rowO k hk), ?_, fun k hk => ?_, ?_, .inl h.mbO, fun e he => ⟨?_, fun k hk => .inl ((h.sets e he).2 k hk)⟩⟩
  · rw [setCell_size]
    rcases hk with hk | hk
    · have := h.top k hk; omega
    · omega
  · exact own_kept (own_kept h.row hpv) (fun k hk => key k (own_ne h.row h.hb (by decide) k hk))
  · exact own_kept ho (fun k hk => key k (own_ne ho hb1 (by decide) k hk))
  · rcases hat with e | ⟨b, e, hbb⟩
    · rw [e] at hk; exact .inl (h.frO k hk)
    · rw [e] at hk; cases hk; exact .inr ⟨hbb, own_lt ho e⟩
  · exact (h.map.kept hmb).kept (key mb (imap_ne h.map h.hb))
  · exact own_kept (own_kept (h.sets e he).1 (hse e he)) (fun k hk => key k (own_ne (h.sets e he).1 h.hb (by decide) k hk))
theorem TabR.growPlaces {w1 : World} {v1 : Value} {E' : List En} (h : TabR B O w tb sv pv fv mb E free empty cnt F) (hg : w.grownBy w1 pv.ownBlock) (ho : w1.ownsRow B 132 2 v1 E'.length (ecells E')) (hat : v1.ownBlock = pv.ownBlock ∨ ∃ b, v1.ownBlock = some b ∧ w.heap.size ≤ b)
    (hE : ∀ e ∈ E', e ∈ E ∨ (e.v = .slice none 0 0 ∧ e.set = [])) :
    TabR B (Grow O w w1) (w1.setCell ⟨tb, 1, none⟩ v1) tb sv v1 fv mb E' free empty cnt F := by
  have htb : w1.heap[tb]? = w.heap[tb]? := hg.block tb (h.top tb h.tbO).2 (tb_ne h.row h.hb (by decide))
  have hmb : w1.heap[mb]? = w.heap[mb]? := hg.block mb h.map.lt (mb_ne h.row h.map)
  have hfv : ∀ k, fv.ownBlock = some k → w1.heap[k]? = w.heap[k]? := fun k hk => hg.block k (own_lt h.fr hk) (fun e => own_own_ne h.fr h.row (by decide) k hk e.symm)
  have hse : ∀ e ∈ E, ∀ k, e.v.ownBlock = some k → w1.heap[k]? = w.heap[k]? := fun e he k hk => hg.block k (own_lt (h.sets e he).1 hk) (fun e1 => own_own_ne (h.sets e he).1 h.row (by decide) k hk e1.symm)
  have hB := (h.top tb h.tbO).1
  have hlt := (h.top tb h.tbO).2
  have hgs := hg.size
  have hb1 := htb.trans h.hb
  have key : ∀ k, k ≠ tb → (w1.setCell ⟨tb, 1, none⟩ v1).heap[k]? = w1.heap[k]? := fun k hk => heap_keep w1 ⟨tb, 1, none⟩ v1 hk
  have hs1 : ∀ e ∈ E', SetV B (Grow O w w1) w1 e.v e.set := by
    intro e he
    rcases hE e he with h1 | ⟨h1, h2⟩
    · exact ⟨own_kept (h.sets e h1).1 (hse e h1), fun k hk => .inl ((h.sets e h1).2 k hk)⟩
    · rw [h1, h2]; exact ⟨⟨rfl, .inl ⟨rfl, rfl⟩⟩, fun k hk => (by cases hk)⟩
  refine ⟨fun k hk => ?_, .inl h.tbO, heap_setCell_same w1 tb 1 _ 81 v1 hb1, ?_, fun k hk => ?_, ?_, fun k hk => .inl (h.frO k hk), ?_, .inl h.mbO, fun e he => ⟨?_, (hs1 e he).2⟩⟩
  · rw [setCell_size]
    rcases hk with hk | hk
    · have := h.top k hk; omega
    · omega
  · exact own_kept ho (fun k hk => key k (own_ne ho hb1 (by decide) k hk))
  · rcases hat with e | ⟨b, e, hbb⟩
    · rw [e] at hk; exact .inl (h.rowO k hk)
    · rw [e] at hk; cases hk; exact .inr ⟨hbb, own_lt ho e⟩
  · exact own_kept (own_kept h.fr hfv) (fun k hk => key k (own_ne h.fr h.hb (by decide) k hk))
  · exact (h.map.kept hmb).kept (key mb (imap_ne h.map h.hb))
  · exact own_kept (hs1 e he).1 (fun k hk => key k (own_ne (hs1 e he).1 hb1 (by decide) k hk))
theorem TabR.kept (h : TabR B O w tb sv pv fv mb E free empty cnt F) (hs : w.heap.size ≤ w'.heap.size) (hb : ∀ k, O k → w'.heap[k]? = w.heap[k]?) : TabR B O w' tb sv pv fv mb E free empty cnt F :=
  ⟨fun k hk => ⟨(h.top k hk).1, Nat.lt_of_lt_of_le (h.top k hk).2 hs⟩, h.tbO, (hb tb h.tbO).trans h.hb, own_kept h.row (fun k hk => hb k (h.rowO k hk)), h.rowO, own_kept h.fr (fun k hk => hb k (h.frO k hk)), h.frO, h.map.kept (hb mb h.mbO), h.mbO, fun e he => (h.sets e he).kept hb⟩
theorem TabR.below (h : TabR B O w tb sv pv fv mb E free empty cnt F) (hb : Below w.heap.size w w') : TabR B O w' tb sv pv fv mb E free empty cnt F := h.kept hb.size (fun k hk => hb.block k (h.top k hk).2)
theorem TabR.f0 (h : TabR B O w tb sv pv fv mb E free empty cnt F) : w.cell? ⟨tb, 0, none⟩ = some sv := by unfold World.cell?; simp only [h.hb]; rfl
theorem TabR.f1 (h : TabR B O w tb sv pv fv mb E free empty cnt F) : w.cell? ⟨tb, 1, none⟩ = some pv := by unfold World.cell?; simp only [h.hb]; rfl
theorem TabR.f2 (h : TabR B O w tb sv pv fv mb E free empty cnt F) : w.cell? ⟨tb, 2, none⟩ = some fv := by unfold World.cell?; simp only [h.hb]; rfl
theorem TabR.f3 (h : TabR B O w tb sv pv fv mb E free empty cnt F) : w.cell? ⟨tb, 3, none⟩ = some (.map (some mb)) := by unfold World.cell?; simp only [h.hb]; rfl
theorem TabR.fz (h : TabR B O w tb sv pv fv mb E free empty cnt F) (i : Nat) : w.frozen? ⟨tb, i, none⟩ = false := frozen_of_row w tb i _ 81 h.hb
theorem TabR.pv_some (h : TabR B O w tb sv pv fv mb E free empty cnt F) {i : Nat} {e : En} (hi : E[i]? = some e) : ∃ g c, pv = .slice (some ⟨g, 0, none⟩) E.length c ∧ E.length ≤ c ∧ O g ∧ w.cell? ⟨g, i * 2, none⟩ = some e.v ∧ w.cell? ⟨g, i * 2 + 1, none⟩ = some (.int .i64 e.held) ∧ (∀ j, w.frozen? ⟨g, j, none⟩ = false) := by
  rcases h.row.2 with ⟨h1, h2⟩ | ⟨g, cap, cur, h1, hB, hh, hc, _⟩
  · have := (List.getElem?_eq_some_iff.1 hi).1; omega
  · have hrow := h.row
    have hO := h.rowO
    subst h1
    refine ⟨g, cap, rfl, hc, hO g rfl, ?_, ?_, fun j => frozen_of_row w g j cur 132 hh⟩
    · have := World.ownsRow.cells hrow (g := g) rfl (i * 2) _ (ecells_get E i e hi 0 _ rfl)
      rw [addr_add_plain] at this; exact this
    · have := World.ownsRow.cells hrow (g := g) rfl (i * 2 + 1) _ (ecells_get E i e hi 1 _ rfl)
      rw [addr_add_plain] at this; exact this
/-- A place is emptied. -/
theorem TabR.wipe (h : TabR B O w tb sv pv fv mb E free empty cnt F) {i g c : Nat} {e : En} (hi : E[i]? = some e) (hpv : pv = .slice (some ⟨g, 0, none⟩) E.length c) :
    TabR B O ((w.setCell ⟨g, i * 2, none⟩ (.slice none 0 0)).setCell ⟨g, i * 2 + 1, none⟩ (.int .i64 0)) tb sv pv fv mb (E.set i ⟨.slice none 0 0, [], 0⟩) free empty cnt F := by
  have hn : ∀ w : World, SetV B O w (.slice none 0 0) [] := fun w => ⟨⟨rfl, .inl ⟨rfl, rfl⟩⟩, fun k hk => (by cases hk)⟩
  have h1 := h.setPlace (e' := ⟨.slice none 0 0, [], e.held⟩) hi hpv (hn _) 0 (.slice none 0 0) (.inl ⟨rfl, rfl, rfl⟩)
  simp only [Nat.zero_add, Nat.add_zero] at h1
  have hi2 : (E.set i ⟨.slice none 0 0, [], e.held⟩)[i]? = some ⟨.slice none 0 0, [], e.held⟩ := by rw [set_at hi, if_pos rfl]
  have h2 := h1.setPlace (e' := ⟨.slice none 0 0, [], 0⟩) hi2 (by rw [List.length_set]; exact hpv) (hn _) 1 (.int .i64 0) (.inr ⟨rfl, rfl, rfl⟩)
  simp only [Nat.zero_add] at h2
  rw [List.set_set] at h2
  exact h2
end Go.Proofs.YtaejlgdmalhhnaaDoor
