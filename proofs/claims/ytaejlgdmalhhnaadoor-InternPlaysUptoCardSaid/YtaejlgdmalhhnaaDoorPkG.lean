/- Texts put together: Da, Db, Dc, Dd. -/
import Derived.Test.YtaejlgdmalhhnaaDoorPkF
import Derived.Test.YtaejlgdmalhhnaaDoorPkL
import Derived.Test.YtaejlgdmalhhnaaDoorPkE
/- Layer 7, the document's table in memory: its stores. -/
set_option linter.unusedVariables false
set_option linter.unusedSimpArgs false
namespace Go.Proofs.YtaejlgdmalhhnaaDoor
open Go.RowKit Go.Maps

/-- The document's table: the sets (shown by slices), how often each is held, the loose places, how often the empty one is held. -/
structure DocAt (B : Nat) (O : Nat → Prop) (w : World) (db : Nat) (kv sv hv lv : Value) (S : List (Value × List At)) (H free : List Int) (empty : Int) : Prop where
  top : ∀ k, O k → B ≤ k ∧ k < w.heap.size
  dbO : O db
  hb : w.heap[db]? = some (.cells #[kv, sv, hv, lv, .int .i64 empty] 47)
  sets : w.ownsRow B 48 1 sv S.length (S.map (·.1))
  setsO : ∀ k, sv.ownBlock = some k → O k
  held : w.ownsRow B 3 1 hv H.length (nums .i64 H)
  heldO : ∀ k, hv.ownBlock = some k → O k
  loose : w.ownsRow B 3 1 lv free.length (nums .i64 free)
  looseO : ∀ k, lv.ownBlock = some k → O k
  ne : ∀ k, hv.ownBlock = some k → lv.ownBlock ≠ some k
  each : ∀ s ∈ S, SetV B O w s.1 s.2
variable {B db : Nat} {O : Nat → Prop} {w w' w1 : World} {kv sv hv lv v1 : Value} {S : List (Value × List At)} {H free : List Int} {empty : Int}
theorem DocAt.kept (h : DocAt B O w db kv sv hv lv S H free empty) (hs : w.heap.size ≤ w'.heap.size) (hb : ∀ k, O k → w'.heap[k]? = w.heap[k]?) : DocAt B O w' db kv sv hv lv S H free empty :=
  ⟨fun k hk => ⟨(h.top k hk).1, Nat.lt_of_lt_of_le (h.top k hk).2 hs⟩, h.dbO, (hb db h.dbO).trans h.hb, own_kept h.sets (fun k hk => hb k (h.setsO k hk)), h.setsO, own_kept h.held (fun k hk => hb k (h.heldO k hk)), h.heldO, own_kept h.loose (fun k hk => hb k (h.looseO k hk)), h.looseO, h.ne, fun e he => (h.each e he).kept hb⟩
theorem DocAt.below (h : DocAt B O w db kv sv hv lv S H free empty) (hb : Below w.heap.size w w') : DocAt B O w' db kv sv hv lv S H free empty := h.kept hb.size (fun k hk => hb.block k (h.top k hk).2)
theorem DocAt.turn {Q : Nat → Prop} (h : DocAt B O w db kv sv hv lv S H free empty) (ht : Turn Q w w') (hQ : ∀ k, Q k → ¬ O k) : DocAt B O w' db kv sv hv lv S H free empty :=
  h.kept ht.size (fun k hk => ht.block k (h.top k hk).2 (fun e => hQ k e hk))
theorem DocAt.wide {O' : Nat → Prop} (h : DocAt B O w db kv sv hv lv S H free empty) (ho : ∀ k, O k → O' k) (ht : ∀ k, O' k → B ≤ k ∧ k < w.heap.size) : DocAt B O' w db kv sv hv lv S H free empty :=
  ⟨ht, ho _ h.dbO, h.hb, h.sets, fun k hk => ho k (h.setsO k hk), h.held, fun k hk => ho k (h.heldO k hk), h.loose, fun k hk => ho k (h.looseO k hk), h.ne, fun e he => (h.each e he).mono ho⟩
/-- A store into a field of the table's own block. -/
theorem DocAt.field (h : DocAt B O w db kv sv hv lv S H free empty) (i : Nat) (u : Value) {sv' hv' lv' : Value} {H' free' : List Int} {S' : List (Value × List At)} {e' : Int}
    (hc : (#[kv, sv, hv, lv, .int .i64 empty] : Array Value).setIfInBounds i u = #[kv, sv', hv', lv', .int .i64 e'])
    (hs : w.ownsRow B 48 1 sv' S'.length (S'.map (·.1))) (hsO : ∀ k, sv'.ownBlock = some k → O k) (hh : w.ownsRow B 3 1 hv' H'.length (nums .i64 H')) (hhO : ∀ k, hv'.ownBlock = some k → O k)
    (hl : w.ownsRow B 3 1 lv' free'.length (nums .i64 free')) (hlO : ∀ k, lv'.ownBlock = some k → O k) (hne : ∀ k, hv'.ownBlock = some k → lv'.ownBlock ≠ some k) (he : ∀ s ∈ S', SetV B O w s.1 s.2) :
    DocAt B O (w.setCell ⟨db, i, none⟩ u) db kv sv' hv' lv' S' H' free' e' := by
  have key : ∀ k, k ≠ db → (w.setCell ⟨db, i, none⟩ u).heap[k]? = w.heap[k]? := fun k hk => heap_keep w ⟨db, i, none⟩ u hk
  refine ⟨fun k hk => by rw [setCell_size]; exact h.top k hk, h.dbO, ?_, own_kept hs (fun k hk => key k (own_ne hs h.hb (by decide) k hk)), hsO, own_kept hh (fun k hk => key k (own_ne hh h.hb (by decide) k hk)), hhO, own_kept hl (fun k hk => key k (own_ne hl h.hb (by decide) k hk)), hlO, hne,
    fun s hs' => ⟨own_kept (he s hs').1 (fun k hk => key k (own_ne (he s hs').1 h.hb (by decide) k hk)), (he s hs').2⟩⟩
  rw [heap_setCell_same w db i _ 47 u h.hb, hc]
theorem DocAt.setEmpty (h : DocAt B O w db kv sv hv lv S H free empty) (e' : Int) : DocAt B O (w.setCell ⟨db, 4, none⟩ (.int .i64 e')) db kv sv hv lv S H free e' :=
  h.field 4 _ rfl h.sets h.setsO h.held h.heldO h.loose h.looseO h.ne h.each
/-- A row of the table's that has been appended to: the others stay. -/
theorem grown_kept {e : TypeId} {s n : Nat} {v : Value} {xs : List Value} {row : Option Nat} (h : w.ownsRow B e s v n xs) (hg : w.grownBy w1 row) (hne : ∀ k, v.ownBlock = some k → row ≠ some k) : w1.ownsRow B e s v n xs :=
  own_kept h (fun k hk => hg.block k (own_lt h hk) (fun e => hne k hk e.symm))
theorem DocAt.baseB (h : DocAt B O w db kv sv hv lv S H free empty) : B ≤ w.heap.size := by have := h.top db h.dbO; omega
theorem DocAt.dbk (h : DocAt B O w db kv sv hv lv S H free empty) {e : TypeId} {s n : Nat} {v : Value} {xs : List Value} (ho : w.ownsRow B e s v n xs) (he : e ≠ 47) (hg : w.grownBy w1 v.ownBlock) : w1.heap[db]? = some (.cells #[kv, sv, hv, lv, .int .i64 empty] 47) :=
  (hg.block db (h.top db h.dbO).2 (fun e1 => own_ne ho h.hb he db e1.symm rfl)).trans h.hb
theorem hat_O {v : Value} (hO : ∀ k, v.ownBlock = some k → O k) {n s : Nat} {e : TypeId} {xs : List Value} (ho : w1.ownsRow B e s v1 n xs) (hat : v1.ownBlock = v.ownBlock ∨ ∃ b, v1.ownBlock = some b ∧ w.heap.size ≤ b) : ∀ k, v1.ownBlock = some k → Grow O w w1 k := by
  intro k hk
  rcases hat with e | ⟨b, e, hb⟩
  · rw [e] at hk; exact .inl (hO k hk)
  · rw [e] at hk; cases hk; exact .inr ⟨hb, own_lt ho e⟩
theorem grow_top (h : ∀ k, O k → B ≤ k ∧ k < w.heap.size) (hB : B ≤ w.heap.size) (hs : w.heap.size ≤ w1.heap.size) : ∀ k, Grow O w w1 k → B ≤ k ∧ k < w1.heap.size := by
  rintro k (hk | hk)
  · have := h k hk; omega
  · omega
theorem DocAt.growSets (h : DocAt B O w db kv sv hv lv S H free empty) (hg : w.grownBy w1 sv.ownBlock) (ho : w1.ownsRow B 48 1 v1 (S.length + 1) (S.map (·.1) ++ [.slice none 0 0])) (hat : v1.ownBlock = sv.ownBlock ∨ ∃ b, v1.ownBlock = some b ∧ w.heap.size ≤ b) :
    DocAt B (Grow O w w1) (w1.setCell ⟨db, 1, none⟩ v1) db kv v1 hv lv (S ++ [(.slice none 0 0, [])]) H free empty := by
  have h1 : DocAt B (Grow O w w1) w1 db kv sv hv lv [] H free empty ∨ True := .inr trivial
  have hne : ∀ {e : TypeId} {s n : Nat} {v : Value} {xs : List Value}, w.ownsRow B e s v n xs → e ≠ 48 → w1.ownsRow B e s v n xs := fun hv' he => grown_kept hv' hg (fun k hk e1 => own_own_ne hv' h.sets he k hk e1)
  have hhd := h.dbk h.sets (by decide) hg
  have key : ∀ k, k ≠ db → (w1.setCell ⟨db, 1, none⟩ v1).heap[k]? = w1.heap[k]? := fun k hk => heap_keep w1 ⟨db, 1, none⟩ v1 hk
  have a2 := hne h.held (by decide)
  have a3 := hne h.loose (by decide)
  have a4 : ∀ s ∈ S ++ [(.slice none 0 0, [])], SetV B (Grow O w w1) w1 s.1 s.2 := by
    intro s hs
    rcases List.mem_append.1 hs with hs | hs
    · exact ⟨hne (h.each s hs).1 (by decide), fun k hk => .inl ((h.each s hs).2 k hk)⟩
    · simp only [List.mem_singleton] at hs; subst hs; exact ⟨⟨rfl, .inl ⟨rfl, rfl⟩⟩, fun k hk => (by cases hk)⟩
  refine ⟨fun k hk => by rw [setCell_size]; exact grow_top h.top h.baseB hg.size k hk, .inl h.dbO, heap_setCell_same w1 db 1 _ 47 v1 hhd, ?_, hat_O h.setsO ho hat, own_kept a2 (fun k hk => key k (own_ne a2 hhd (by decide) k hk)), fun k hk => .inl (h.heldO k hk),
    own_kept a3 (fun k hk => key k (own_ne a3 hhd (by decide) k hk)), fun k hk => .inl (h.looseO k hk), h.ne, fun s hs => ⟨own_kept (a4 s hs).1 (fun k hk => key k (own_ne (a4 s hs).1 hhd (by decide) k hk)), (a4 s hs).2⟩⟩
  rw [List.length_append, List.map_append]
  exact own_kept ho (fun k hk => key k (own_ne ho hhd (by decide) k hk))
theorem DocAt.growHeld (h : DocAt B O w db kv sv hv lv S H free empty) {x : Int} (hg : w.grownBy w1 hv.ownBlock) (ho : w1.ownsRow B 3 1 v1 (H.length + 1) (nums .i64 H ++ nums .i64 [x])) (hat : v1.ownBlock = hv.ownBlock ∨ ∃ b, v1.ownBlock = some b ∧ w.heap.size ≤ b) :
    DocAt B (Grow O w w1) (w1.setCell ⟨db, 2, none⟩ v1) db kv sv v1 lv S (H ++ [x]) free empty := by
  have hne : ∀ {e : TypeId} {s n : Nat} {v : Value} {xs : List Value}, w.ownsRow B e s v n xs → e ≠ 3 → w1.ownsRow B e s v n xs := fun hv' he => grown_kept hv' hg (fun k hk e1 => own_own_ne hv' h.held he k hk e1)
  have hhd := h.dbk h.held (by decide) hg
  have key : ∀ k, k ≠ db → (w1.setCell ⟨db, 2, none⟩ v1).heap[k]? = w1.heap[k]? := fun k hk => heap_keep w1 ⟨db, 2, none⟩ v1 hk
  have a1 := hne h.sets (by decide)
  have a3 := grown_kept h.loose hg (fun k hk e1 => h.ne k e1 hk)
  have a4 : ∀ s ∈ S, SetV B (Grow O w w1) w1 s.1 s.2 := fun s hs => ⟨hne (h.each s hs).1 (by decide), fun k hk => .inl ((h.each s hs).2 k hk)⟩
  refine ⟨fun k hk => by rw [setCell_size]; exact grow_top h.top h.baseB hg.size k hk, .inl h.dbO, heap_setCell_same w1 db 2 _ 47 v1 hhd, own_kept a1 (fun k hk => key k (own_ne a1 hhd (by decide) k hk)), fun k hk => .inl (h.setsO k hk), ?_, hat_O h.heldO ho hat,
    own_kept a3 (fun k hk => key k (own_ne a3 hhd (by decide) k hk)), fun k hk => .inl (h.looseO k hk), fun k hk hk' => ?_, fun s hs => ⟨own_kept (a4 s hs).1 (fun k hk => key k (own_ne (a4 s hs).1 hhd (by decide) k hk)), (a4 s hs).2⟩⟩
  · rw [List.length_append, nums_append]
    exact own_kept ho (fun k hk => key k (own_ne ho hhd (by decide) k hk))
  · rcases hat with e | ⟨b, e, hb⟩
    · rw [e] at hk; exact h.ne k hk hk'
    · rw [e] at hk; cases hk; have := own_lt h.loose hk'; omega
theorem DocAt.growLoose (h : DocAt B O w db kv sv hv lv S H free empty) {x : Int} (hg : w.grownBy w1 lv.ownBlock) (ho : w1.ownsRow B 3 1 v1 (free.length + 1) (nums .i64 free ++ nums .i64 [x])) (hat : v1.ownBlock = lv.ownBlock ∨ ∃ b, v1.ownBlock = some b ∧ w.heap.size ≤ b) :
    DocAt B (Grow O w w1) (w1.setCell ⟨db, 3, none⟩ v1) db kv sv hv v1 S H (free ++ [x]) empty := by
  have hne : ∀ {e : TypeId} {s n : Nat} {v : Value} {xs : List Value}, w.ownsRow B e s v n xs → e ≠ 3 → w1.ownsRow B e s v n xs := fun hv' he => grown_kept hv' hg (fun k hk e1 => own_own_ne hv' h.loose he k hk e1)
  have hhd := h.dbk h.loose (by decide) hg
  have key : ∀ k, k ≠ db → (w1.setCell ⟨db, 3, none⟩ v1).heap[k]? = w1.heap[k]? := fun k hk => heap_keep w1 ⟨db, 3, none⟩ v1 hk
  have a1 := hne h.sets (by decide)
  have a3 := grown_kept h.held hg (fun k hk e1 => h.ne k hk e1)
  have a4 : ∀ s ∈ S, SetV B (Grow O w w1) w1 s.1 s.2 := fun s hs => ⟨hne (h.each s hs).1 (by decide), fun k hk => .inl ((h.each s hs).2 k hk)⟩
  refine ⟨fun k hk => by rw [setCell_size]; exact grow_top h.top h.baseB hg.size k hk, .inl h.dbO, heap_setCell_same w1 db 3 _ 47 v1 hhd, own_kept a1 (fun k hk => key k (own_ne a1 hhd (by decide) k hk)), fun k hk => .inl (h.setsO k hk), own_kept a3 (fun k hk => key k (own_ne a3 hhd (by decide) k hk)), fun k hk => .inl (h.heldO k hk), ?_, hat_O h.looseO ho hat,
    fun k hk hk' => ?_, fun s hs => ⟨own_kept (a4 s hs).1 (fun k hk => key k (own_ne (a4 s hs).1 hhd (by decide) k hk)), (a4 s hs).2⟩⟩
  · rw [List.length_append, nums_append]
    exact own_kept ho (fun k hk => key k (own_ne ho hhd (by decide) k hk))
  · rcases hat with e | ⟨b, e, hb⟩
    · rw [e] at hk'; exact h.ne k hk hk'
    · rw [e] at hk'; cases hk'; have := own_lt h.held hk; omega
/-- The loose places, copied short of the last one. -/
theorem DocAt.newLoose (h : DocAt B O w db kv sv hv lv S H free empty) {fr : List Int} (hb : Below w.heap.size w w1) (ho : w1.ownsRow w.heap.size 3 1 v1 fr.length (nums .i64 fr)) :
    DocAt B (Grow O w w1) (w1.setCell ⟨db, 3, none⟩ v1) db kv sv hv v1 S H fr empty := by
  have h1 := (h.below hb).wide (O' := Grow O w w1) (fun k hk => .inl hk) (grow_top h.top h.baseB hb.size)
  have hv1 : ∀ k, v1.ownBlock = some k → w.heap.size ≤ k ∧ k < w1.heap.size := fun k hk => ⟨own_base ho k hk, own_lt ho hk⟩
  exact h1.field 3 v1 rfl h1.sets h1.setsO h1.held h1.heldO (own_mono ho h.baseB) (fun k hk => .inr (hv1 k hk)) (fun k hk hk' => by have := own_lt h.held hk; have := hv1 k hk'; omega) h1.each
theorem map_set_fst (S : List (Value × List At)) (i : Nat) (s : Value × List At) : (S.set i s).map (·.1) = (S.map (·.1)).set i s.1 := by rw [List.map_set]
/-- A set is laid in a place. -/
theorem DocAt.putSet {sA : Option Addr} {n c : Nat} {sa : Addr} (h : DocAt B O w db kv sv hv lv S H free empty) (hsv : sv = .slice (some sa) n c) {i : Nat} {l : List At} (hb : Below w.heap.size w w1) (ho : w1.ownsRow w.heap.size 58 5 v1 l.length (acells l)) :
    DocAt B (Grow O w w1) (w1.setCell (sa.add i) v1) db kv sv hv lv (S.set i (v1, l)) H free empty := by
  have h1 := (h.below hb).wide (O' := Grow O w w1) (fun k hk => .inl hk) (grow_top h.top h.baseB hb.size)
  subst hsv
  obtain rfl : n = S.length := by
    rcases h.sets.2 with ⟨e, _⟩ | ⟨_, _, _, e, _⟩
    · cases e
    · injection e with e1 e2 e3
  obtain ⟨g, cur, rfl, hg, hh, _⟩ := row_at h1.sets
  rw [addr_add_plain]
  have key : ∀ k, k ≠ g → (w1.setCell ⟨g, i, none⟩ v1).heap[k]? = w1.heap[k]? := fun k hk => heap_keep w1 ⟨g, i, none⟩ v1 hk
  have hne : ∀ {e : TypeId} {s n : Nat} {v : Value} {xs : List Value} {B' : Nat}, w1.ownsRow B' e s v n xs → e ≠ 48 → (w1.setCell ⟨g, i, none⟩ v1).ownsRow B' e s v n xs := fun hv' he => own_kept hv' (fun k hk => key k (own_ne hv' hh he k hk))
  have hgdb : db ≠ g := by
    intro e
    have := h1.hb
    rw [e, hh] at this
    injection this with this
    injection this with _ h2
    exact absurd h2 (by decide)
  refine ⟨fun k hk => by rw [setCell_size]; exact h1.top k hk, h1.dbO, (key db hgdb).trans h1.hb, ?_, h1.setsO, hne h1.held (by decide), h1.heldO, hne h1.loose (by decide), h1.looseO, h1.ne, fun s hs => ?_⟩
  · rw [List.length_set, map_set_fst]
    exact (h1.sets.stored i v1).1
  · rcases List.mem_or_eq_of_mem_set hs with hs | rfl
    · exact ⟨hne (h1.each s hs).1 (by decide), (h1.each s hs).2⟩
    · exact ⟨own_mono (hne ho (by decide)) h.baseB, fun k hk => .inr ⟨own_base ho k hk, own_lt ho hk⟩⟩
theorem DocAt.putHeld {n c : Nat} {ha : Addr} (h : DocAt B O w db kv sv hv lv S H free empty) (hhv : hv = .slice (some ha) n c) (i : Nat) (x : Int) :
    DocAt B O (w.setCell (ha.add i) (.int .i64 x)) db kv sv hv lv S (H.set i x) free empty := by
  subst hhv
  obtain rfl : n = H.length := by
    rcases h.held.2 with ⟨e, _⟩ | ⟨_, _, _, e, _⟩
    · cases e
    · injection e with e1 e2 e3
  obtain ⟨g, cur, rfl, hg, hh, _⟩ := row_at h.held
  rw [addr_add_plain]
  have key : ∀ k, k ≠ g → (w.setCell ⟨g, i, none⟩ (.int .i64 x)).heap[k]? = w.heap[k]? := fun k hk => heap_keep w ⟨g, i, none⟩ (.int .i64 x) hk
  have hne : ∀ {e : TypeId} {s n : Nat} {v : Value} {xs : List Value}, w.ownsRow B e s v n xs → e ≠ 3 → (w.setCell ⟨g, i, none⟩ (.int .i64 x)).ownsRow B e s v n xs := fun hv' he => own_kept hv' (fun k hk => key k (own_ne hv' hh he k hk))
  have hgdb : db ≠ g := by
    intro e
    have := h.hb
    rw [e, hh] at this
    injection this with this
    injection this with _ h2
    exact absurd h2 (by decide)
  refine ⟨fun k hk => by rw [setCell_size]; exact h.top k hk, h.dbO, (key db hgdb).trans h.hb, hne h.sets (by decide), h.setsO, ?_, h.heldO, own_kept h.loose (fun k hk => key k (fun e => h.ne g rfl (by rw [← e]; exact hk))), h.looseO, h.ne, fun s hs => ⟨hne (h.each s hs).1 (by decide), (h.each s hs).2⟩⟩
  rw [List.length_set, nums_set]
  exact (h.held.stored i _).1
end Go.Proofs.YtaejlgdmalhhnaaDoor
/- Layer 5, the document's: whether keys rise, and why a set may not be (printed by gen_dmayA.py). -/
set_option linter.unusedVariables false
set_option linter.unusedSimpArgs false
namespace Go.Proofs.YtaejlgdmalhhnaaDoor
open Go.RowKit Go.Maps

def keyAt (l : List At) (j : Nat) : Int := ((l[j]?).map (·.key)).getD 0
def risesB (l : List At) : Bool := decide (∀ j < l.length, 1 ≤ j → keyAt l (j - 1) < keyAt l j)
theorem keyAt_some {l : List At} {j : Nat} {a : At} (h : l[j]? = some a) : keyAt l j = a.key := by unfold keyAt; rw [h]; rfl
theorem mayA_doc (ks : List Ky) (l : List At) : mayA ks l = if risesB l = false ∨ 64 < l.length then 3 else if ∀ a ∈ l, mayV a.v = true then (if ∀ a ∈ l, fitsK ks a.key a.v = true then 0 else 4) else 3 := by
  have hok : (∀ k < l.length, okAt l k = true) ↔ (risesB l = true ∧ ∀ a ∈ l, mayV a.v = true) := by
    constructor
    · intro h
      refine ⟨decide_eq_true (fun j hj h1 => ?_), fun a ha => ?_⟩
      · obtain ⟨i, rfl⟩ : ∃ i, j = i + 1 := ⟨j - 1, by omega⟩
        have := h (i + 1) hj
        unfold okAt at this
        rw [List.getElem?_eq_getElem hj] at this
        simp only [Bool.and_eq_true, decide_eq_true_iff] at this
        rw [keyAt_some (List.getElem?_eq_getElem hj)]
        exact this.1
      · obtain ⟨j, hj, rfl⟩ := List.mem_iff_getElem.1 ha
        have := h j hj
        unfold okAt at this
        rw [List.getElem?_eq_getElem hj] at this
        simp only [Bool.and_eq_true] at this
        exact this.2
    · rintro ⟨h1, h2⟩ k hk
      have h1 := of_decide_eq_true h1
      unfold okAt
      rw [List.getElem?_eq_getElem hk]
      simp only [Bool.and_eq_true]
      refine ⟨?_, h2 _ (List.getElem_mem hk)⟩
      cases k with
      | zero => rfl
      | succ j =>
        have := h1 (j + 1) hk (by omega)
        rw [keyAt_some (List.getElem?_eq_getElem hk)] at this
        exact decide_eq_true this
  unfold mayA
  by_cases h64 : 64 < l.length
  · rw [if_pos h64, if_pos (show risesB l = false ∨ 64 < l.length from .inr h64)]
  · rw [if_neg h64]
    by_cases hr : risesB l = true
    · rw [if_neg (show ¬ (risesB l = false ∨ 64 < l.length) from fun h => h.elim (fun h => by rw [hr] at h; cases h) h64)]
      by_cases hv : ∀ a ∈ l, mayV a.v = true
      · rw [if_pos (show ∀ k < l.length, okAt l k = true from hok.2 ⟨hr, hv⟩), if_pos hv]
      · rw [if_neg (show ¬ ∀ k < l.length, okAt l k = true from fun h => hv (hok.1 h).2), if_neg hv]
    · rw [if_neg (show ¬ ∀ k < l.length, okAt l k = true from fun h => hr (hok.1 h).1), if_pos (show risesB l = false ∨ 64 < l.length from .inl (by simpa using hr))]
set_option maxRecDepth 100000 in
set_option maxHeartbeats 2000000 in
theorem rising_any (A : Option Addr) (c : Nat) (l : List At) (w : World) (hS : ASrc w A l) (hc : l.length ≤ c) (hl : l.length ≤ 100000) :
    Calls Tryd.prog 108 #[.slice A l.length c] w fun e w' => e = .returned (.bool (risesB l)) ∧ Below w.heap.size w w' := by
  have HS := Aside.mk hS
  have g1 : (l.length : Int) ≤ (c : Int) := by omega
  have g2 : (l.length : Int) ≤ 100000 := by omega
  obtain ⟨b, hb⟩ : ∃ b, risesB l = b := ⟨_, rfl⟩
  rw [hb]
  have HB := Aside.mk hb
  have HL := Aside.mk hl
  clear hS hc hl hb
  go_enter Tryd.func108, Tryd.ntmps108
  go_wp2_with fail
  go_loopw [3] (fun i wr => ∃ k : Nat, 1 ≤ k ∧ (k ≤ l.length ∨ k = 1) ∧ i = .int .i64 k ∧ Aside (Below w.heap.size w wr ∧ ∀ j < k, 1 ≤ j → keyAt l (j - 1) < keyAt l j)) (fun i _ => l.length - (intOf i).toNat)
  case atStart => exact ⟨1, Nat.le_refl _, .inr rfl, rfl, ⟨below_refl w, fun j h1 h2 => absurd h2 (by omega)⟩⟩
  case round =>
    obtain ⟨k, h1, hk, rfl, HN⟩ := hrel
    have HK := Aside.mk hk
    by_cases hlt : k < l.length
    · have hkz : (k : Int) < (l.length : Int) := by omega
      obtain ⟨j, rfl⟩ : ∃ j, k = j + 1 := ⟨k - 1, by omega⟩
      have hjz : ((j + 1 : Nat) : Int) - 1 = (j : Int) := by omega
      have hjl : (j : Int) < (l.length : Int) := by omega
      have hjs : ((j + 1 : Nat) : Int) = (j : Int) + 1 := by omega
      obtain ⟨⟨key, ⟨kd, n, f, s⟩⟩, hx⟩ : ∃ a, l[j + 1]? = some a := ⟨_, List.getElem?_eq_getElem hlt⟩
      obtain ⟨⟨key', ⟨kd', n', f', s'⟩⟩, hx'⟩ : ∃ a, l[j]? = some a := ⟨_, List.getElem?_eq_getElem (by omega)⟩
      rcases hAA : A with _ | ad
      · have := HS.out.1 hAA; rw [this] at hlt; exact absurd hlt (by simp)
      subst hAA
      obtain ⟨s0, _⟩ := (HS.out.below HN.out.1).five hx
      obtain ⟨t0, _⟩ := (HS.out.below HN.out.1).five hx'
      have HX := Aside.mk (keyAt_some hx)
      have HX' := Aside.mk (keyAt_some hx')
      simp only at HX HX'
      clear hx hx' hk h1
      by_cases hge : key ≤ key'
      · have q : decide (key ≤ key') = true := decide_eq_true hge
        have HZ := Aside.mk (show b = false by
          rw [← HB.out]
          refine decide_eq_false (fun h => ?_)
          have := h (j + 1) (by omega) (by omega)
          rw [HX.out, show j + 1 - 1 = j by omega, HX'.out] at this
          omega)
        clear hge
        go_wp2_with fail
        go_quiet (fail)
        have HBn := Aside.mk (below_drewN HN.out.1 nq)
        go_wp2
        go_ret
        exact ⟨by have h := HZ.out; subst h; rfl, HBn.out⟩
      · have q : decide (key ≤ key') = false := decide_eq_false hge
        have HZ := Aside.mk (show ∀ i < j + 1 + 1, 1 ≤ i → keyAt l (i - 1) < keyAt l i by
          intro i hi h1
          rcases Nat.lt_or_ge i (j + 1) with h | h
          · exact HN.out.2 i h h1
          · obtain rfl : i = j + 1 := by omega
            rw [HX.out, show j + 1 - 1 = j by omega, HX'.out]; omega)
        clear hge
        go_wp2_with fail
        go_quiet (fail)
        have HBn := Aside.mk (below_drewN HN.out.1 nq)
        go_wp2
        go_roundw
        case rel => exact ⟨j + 1 + 1, by omega, .inl (by omega), by go_num, ⟨HBn.out, HZ.out⟩⟩
        case measure => simp [intOf]; omega
    · have hge : ¬ ((k : Int) < (l.length : Int)) := by omega
      have HZ := Aside.mk (show b = true by
        rw [← HB.out]
        exact decide_eq_true (fun j hj h1 => HN.out.2 j (by omega) h1))
      clear hlt hk
      go_wp2
      go_ret
      exact ⟨by have h := HZ.out; subst h; rfl, HN.out.1⟩
/-- A set's values are of a size that the document reads. -/
def okSz (l : List At) : Prop := ∀ a ∈ l, a.v.s.size ≤ 1048576
set_option maxRecDepth 100000 in
set_option maxHeartbeats 4000000 in
theorem dMayA_any (KA : Option Addr) (kc : Nat) (ks : List Ky) (A : Option Addr) (c : Nat) (l : List At) (w : World) (hkc : ks.length ≤ kc) (hkl : ks.length ≤ 9223372036854775807) (hK : KSrc w KA ks) (hS : ASrc w A l) (hc : l.length ≤ c) (hl : l.length ≤ 100000) (hwf : ∀ a ∈ l, a.wfA) (hsz : okSz l) :
    Calls Tryd.prog 88 #[.slice KA ks.length kc, .slice A l.length c] w (MayPost w (mayA ks l)) := by
  have HS := Aside.mk hS
  have HR0 := Aside.mk (rising_any A c l w hS hc hl)
  have g1 : (l.length : Int) ≤ (c : Int) := by omega
  have g2 : (l.length : Int) ≤ 100000 := by omega
  have HMv := Aside.mk (fun (a : At) (ha : a ∈ l) (W : World) => show Calls Tryd.prog 44 #[a.v.v] W fun e w' => e = .returned (.bool (mayV a.v)) ∧ Below W.heap.size W w' from by
    have h := mayR_any a.v W (hwf a ha).2.2 (by have := hsz a ha; omega)
    rw [mayR_mayV a.v (hwf a ha).2.2] at h
    exact h)
  have HFt := Aside.mk (fun (a : At) (ha : a ∈ l) (W : World) (hb : Below w.heap.size w W) => dFits_any KA kc ks a.key a.v W hkc hkl (hK.below hb) (hwf a ha).2.2 (by have := hsz a ha; omega))
  obtain ⟨r, hr⟩ : ∃ r, mayA ks l = r := ⟨_, rfl⟩
  rw [hr]
  have HRr := Aside.mk ((mayA_doc ks l).symm.trans hr)
  obtain ⟨R, hR⟩ : ∃ R, MayPost w r = R := ⟨_, rfl⟩
  rw [hR]
  have HRR := Aside.mk hR
  obtain ⟨b, hb⟩ : ∃ b, risesB l = b := ⟨_, rfl⟩
  rw [hb] at HR0 HRr
  clear hS hc hl hkc hkl hK hwf hsz hR hr hb
  by_cases hbad : b = false ∨ 64 < l.length
  · have HZ := Aside.mk (show r = 3 by rw [← HRr.out, if_pos hbad])
    cases b with
    | false =>
      clear hbad
      go_enter Tryd.func88, Tryd.ntmps88
      go_wp2_with fail
      (with_reducible refine HR0.out.mono ?_)
      rintro e w1 ⟨rfl, hb1⟩
      have HB1 := Aside.mk hb1
      clear hb1
      go_wp2
      rw [← HRR.out]
      exact ⟨by rw [HZ.out]; rfl, HB1.out⟩
    | true =>
      have h64 : (64 : Int) < (l.length : Int) := by rcases hbad with h | h; · cases h
                                                     · omega
      clear hbad
      go_enter Tryd.func88, Tryd.ntmps88
      go_wp2_with fail
      (with_reducible refine HR0.out.mono ?_)
      rintro e w1 ⟨rfl, hb1⟩
      have HB1 := Aside.mk hb1
      clear hb1
      go_wp2
      rw [← HRR.out]
      exact ⟨by rw [HZ.out]; rfl, HB1.out⟩
  have hbt : b = true := by cases b; · exact absurd (.inl rfl) hbad
                            · rfl
  subst hbt
  have h64 : (l.length : Int) ≤ 64 := by have := fun h => hbad (.inr h); omega
  have HL := Aside.mk (show l.length ≤ 64 by omega)
  rw [if_neg hbad] at HRr
  clear hbad
  go_enter Tryd.func88, Tryd.ntmps88
  go_wp2_with fail
  (with_reducible refine HR0.out.mono ?_)
  rintro e w1 ⟨rfl, hb1⟩
  have HB1 := Aside.mk hb1
  clear hb1
  go_wp2_with fail
  go_loopw [5] (fun i wr => ∃ k : Nat, k ≤ l.length ∧ i = .int .i64 k ∧ Aside (Below w.heap.size w wr ∧ ∀ j < k, ∀ a, l[j]? = some a → mayV a.v = true)) (fun i _ => l.length - (intOf i).toNat)
  case atStart => exact ⟨0, Nat.zero_le _, rfl, ⟨HB1.out, fun j h => absurd h (by omega)⟩⟩
  case round =>
    obtain ⟨k, hk, rfl, HN⟩ := hrel
    by_cases hlt : k < l.length
    · have hkz : (k : Int) < (l.length : Int) := by omega
      obtain ⟨⟨key, ⟨kd, n, f, s⟩⟩, hx⟩ : ∃ a, l[k]? = some a := ⟨_, List.getElem?_eq_getElem hlt⟩
      rcases hAA : A with _ | ad
      · have := HS.out.1 hAA; rw [this] at hlt; exact absurd hlt (by simp)
      subst hAA
      obtain ⟨s0, s1, s2, s3, s4⟩ := (HS.out.below HN.out.1).five hx
      have HM := Aside.mk (HMv.out _ (List.mem_of_getElem? hx) wr)
      unfold Val.v at HM
      simp only at HM
      have HX := Aside.mk hx
      clear hx
      cases hm : mayV ⟨kd, n, f, s⟩ with
      | false =>
        rw [hm] at HM
        have HZ := Aside.mk (show r = 3 by rw [← HRr.out, if_neg (fun h => by have := h _ (List.mem_of_getElem? HX.out); simp only at this; rw [hm] at this; cases this)])
        clear hm
        go_wp2_with fail
        (with_reducible refine HM.out.mono ?_)
        rintro e w2 ⟨rfl, hb2⟩
        have HB2 := Aside.mk (below_then HN.out.1 hb2)
        clear hb2
        go_wp2
        rw [← HRR.out]
        exact ⟨by rw [HZ.out]; rfl, HB2.out⟩
      | true =>
        rw [hm] at HM
        have HZ := Aside.mk (show ∀ j < k + 1, ∀ a, l[j]? = some a → mayV a.v = true by
          intro j hj a ha
          rcases Nat.lt_or_ge j k with h | h
          · exact HN.out.2 j h a ha
          · obtain rfl : j = k := by omega
            rw [HX.out] at ha; cases ha; exact hm)
        clear hm
        go_wp2_with fail
        (with_reducible refine HM.out.mono ?_)
        rintro e w2 ⟨rfl, hb2⟩
        have HB2 := Aside.mk (below_then HN.out.1 hb2)
        clear hb2 s0 s1 s2 s3 s4
        go_wp2
        go_roundw
        case rel => exact ⟨k + 1, by omega, by go_num, ⟨HB2.out, HZ.out⟩⟩
        case measure => simp [intOf]; omega
    · have hkk : k = l.length := by omega
      have HV := Aside.mk (show ∀ a ∈ l, mayV a.v = true by
        intro a ha
        obtain ⟨j, hj, rfl⟩ := List.mem_iff_getElem.1 ha
        exact HN.out.2 j (by omega) _ (List.getElem?_eq_getElem hj))
      have hge : ¬ ((k : Int) < (l.length : Int)) := by omega
      have HBw := Aside.mk HN.out.1
      have HRs := HRr
      clear hkk hlt hk HN
      go_wp2_with fail
      go_loopw [6] (fun i wr => ∃ k : Nat, k ≤ l.length ∧ i = .int .i64 k ∧ Aside (Below w.heap.size w wr ∧ ∀ j < k, ∀ a, l[j]? = some a → fitsK ks a.key a.v = true)) (fun i _ => l.length - (intOf i).toNat)
      case atStart => exact ⟨0, Nat.zero_le _, rfl, ⟨HBw.out, fun j h => absurd h (by omega)⟩⟩
      case round =>
        obtain ⟨k, hk, rfl, HN⟩ := hrel
        by_cases hlt : k < l.length
        · have hkz : (k : Int) < (l.length : Int) := by omega
          obtain ⟨⟨key, ⟨kd, n, f, s⟩⟩, hx⟩ : ∃ a, l[k]? = some a := ⟨_, List.getElem?_eq_getElem hlt⟩
          rcases hAA : A with _ | ad
          · have := HS.out.1 hAA; rw [this] at hlt; exact absurd hlt (by simp)
          subst hAA
          obtain ⟨s0, s1, s2, s3, s4⟩ := (HS.out.below HN.out.1).five hx
          have FF := Aside.mk (fun (W : World) (hb : Below wr.heap.size wr W) => HFt.out _ (List.mem_of_getElem? hx) W (below_then HN.out.1 hb))
          unfold Val.v at FF
          simp only at FF
          have HX := Aside.mk hx
          clear hx
          cases hm : fitsK ks key ⟨kd, n, f, s⟩ with
          | false =>
            rw [hm] at FF
            have HZ := Aside.mk (show r = 4 by rw [← HRs.out, if_pos HV.out, if_neg (fun h => by have := h _ (List.mem_of_getElem? HX.out); simp only at this; rw [hm] at this; cases this)])
            clear hm
            go_wp2_with fail
            refine wp_region_noPanic ?_
            refine wp_region_held_drew (S := fun W => (W.cell? (ad.add (k * 5)) = some (.int .i64 key) ∧ W.cell? ⟨(ad.add (k * 5)).block, (ad.add (k * 5)).off + 1, none⟩ = some (.int .u8 kd) ∧ W.cell? ⟨(ad.add (k * 5)).block, (ad.add (k * 5)).off + 2, none⟩ = some (.int .i64 n) ∧ W.cell? ⟨(ad.add (k * 5)).block, (ad.add (k * 5)).off + 3, none⟩ = some (.int .u64 (f : Int)) ∧ W.cell? ⟨(ad.add (k * 5)).block, (ad.add (k * 5)).off + 4, none⟩ = some (.string s)) ∧ Below wr.heap.size wr W) (by kernel_rfl) (⟨⟨s0, s1, s2, s3, s4⟩, below_drewN (below_refl wr) 1⟩) (fun hHeld => ?_)
            refine take_at (i := 0) (d := some 34) (v := ?vf0) rfl rfl (by kernel_rfl) (by kernel_rfl) (by kernel_rfl) (fun _ _ _ h => h) (Or.inl ⟨by rfl, ?hyf0⟩) hHeld ?restf0
            case hyf0 => (intro w hSw; (try dsimp only at hSw); go_simp; try with_reducible rfl)
            try simp only [Act.put, List.setIfInBounds_toArray, List.set_cons_zero, List.set_cons_succ]
            refine take_at (i := 1) (d := some 35) (v := ?vf1) rfl rfl (by kernel_rfl) (by kernel_rfl) (by kernel_rfl) (fun _ _ _ h => h) (Or.inl ⟨by rfl, ?hyf1⟩) hHeld ?restf1
            case hyf1 => (intro w hSw; (try dsimp only at hSw); go_simp; try with_reducible rfl)
            try simp only [Act.put, List.setIfInBounds_toArray, List.set_cons_zero, List.set_cons_succ]
            refine take_at (i := 2) (d := some 36) (v := ?vf2) rfl rfl (by kernel_rfl) (by kernel_rfl) (by kernel_rfl) (fun _ _ _ h => h) (Or.inl ⟨by rfl, ?hyf2⟩) hHeld ?restf2
            case hyf2 => (intro w hSw; (try dsimp only at hSw); go_simp; try with_reducible rfl)
            try simp only [Act.put, List.setIfInBounds_toArray, List.set_cons_zero, List.set_cons_succ]
            refine take_at (i := 3) (d := some 37) (v := ?vf3) rfl rfl (by kernel_rfl) (by kernel_rfl) (by kernel_rfl) (fun _ _ _ h => h) (Or.inl ⟨by rfl, ?hyf3⟩) hHeld ?restf3
            case hyf3 => (intro w hSw; (try dsimp only at hSw); go_simp; try with_reducible rfl)
            try simp only [Act.put, List.setIfInBounds_toArray, List.set_cons_zero, List.set_cons_succ]
            refine take_at (i := 4) (d := some 38) (v := ?vf4) rfl rfl (by kernel_rfl) (by kernel_rfl) (by kernel_rfl) (fun _ _ _ h => h) (Or.inl ⟨by rfl, ?hyf4⟩) hHeld ?restf4
            case hyf4 => (intro w hSw; (try dsimp only at hSw); go_simp; try with_reducible rfl)
            try simp only [Act.put, List.setIfInBounds_toArray, List.set_cons_zero, List.set_cons_succ]
            refine take_at (i := 5) (d := some 39) (v := ?vf5) rfl rfl (by kernel_rfl) (by kernel_rfl) (by kernel_rfl) (fun _ _ _ h => h) (Or.inl ⟨by rfl, ?hyf5⟩) hHeld ?restf5
            case hyf5 => (intro w hSw; (try dsimp only at hSw); go_simp; try with_reducible rfl)
            try simp only [Act.put, List.setIfInBounds_toArray, List.set_cons_zero, List.set_cons_succ]
            refine take_at (i := 6) (d := some 40) (v := ?vf6) rfl rfl (by kernel_rfl) (by kernel_rfl) (by kernel_rfl) (fun _ _ _ h => h) (Or.inl ⟨by rfl, ?hyf6⟩) hHeld ?restf6
            case hyf6 => (intro w hSw; (try dsimp only at hSw); go_simp; try with_reducible rfl)
            try simp only [Act.put, List.setIfInBounds_toArray, List.set_cons_zero, List.set_cons_succ]
            refine take_at (i := 7) (d := some 41) (v := ?vf7) rfl rfl (by kernel_rfl) (by kernel_rfl) (by kernel_rfl) (fun _ _ _ h => h) (Or.inl ⟨by rfl, ?hyf7⟩) hHeld ?restf7
            case hyf7 => (intro w hSw; (try dsimp only at hSw); go_simp; try with_reducible rfl)
            try simp only [Act.put, List.setIfInBounds_toArray, List.set_cons_zero, List.set_cons_succ]
            refine take_at (i := 8) (d := some 42) (v := ?vf8) rfl rfl (by kernel_rfl) (by kernel_rfl) (by kernel_rfl) (fun _ _ _ h => h) (Or.inl ⟨by rfl, ?hyf8⟩) hHeld ?restf8
            case hyf8 => (intro w hSw; (try dsimp only at hSw); go_simp; try with_reducible rfl)
            try simp only [Act.put, List.setIfInBounds_toArray, List.set_cons_zero, List.set_cons_succ]
            refine take_at (i := 9) (d := some 43) (v := ?vf9) rfl rfl (by kernel_rfl) (by kernel_rfl) (by kernel_rfl) (fun _ _ _ h => h) (Or.inl ⟨by rfl, ?hyf9⟩) hHeld ?restf9
            case hyf9 => (intro w hSw; (try dsimp only at hSw); go_simp; try with_reducible rfl)
            try simp only [Act.put, List.setIfInBounds_toArray, List.set_cons_zero, List.set_cons_succ]
            refine take_at (i := 10) (d := some 44) (v := ?vf10) rfl rfl (by kernel_rfl) (by kernel_rfl) (by kernel_rfl) (fun _ _ _ h => h) (Or.inl ⟨by rfl, ?hyf10⟩) hHeld ?restf10
            case hyf10 => (intro w hSw; (try dsimp only at hSw); go_simp; try with_reducible rfl)
            try simp only [Act.put, List.setIfInBounds_toArray, List.set_cons_zero, List.set_cons_succ]
            refine wpAnyH_ready (rs := [11]) (by kernel_rfl) (by simp) ?_
            refine AllReadyH.cons rfl (fun K hK => ?_) AllReadyH.nil
            go_simp
            (with_reducible refine (FF.out _ hHeld.2).mono ?_)
            rintro e w' ⟨rfl, hb⟩
            refine hK.out _ _ (⟨⟨cell_below hb hHeld.1.1, cell_below hb hHeld.1.2.1, cell_below hb hHeld.1.2.2.1, cell_below hb hHeld.1.2.2.2.1, cell_below hb hHeld.1.2.2.2.2⟩, below_then hHeld.2 hb⟩) (fun hHeld' => ?_)
            clear hK K hHeld hb
            have hHeld := hHeld'
            clear hHeld'
            try simp only [Act.put, List.setIfInBounds_toArray, List.set_cons_zero, List.set_cons_succ]
            refine take_at (i := 12) (d := some 46) (v := ?vf12) rfl rfl (by kernel_rfl) (by kernel_rfl) (by kernel_rfl) (fun _ _ _ h => h) (Or.inl ⟨by rfl, ?hyf12⟩) hHeld ?restf12
            case hyf12 => (intro w hSw; (try dsimp only at hSw); go_simp; try with_reducible rfl)
            try simp only [Act.put, List.setIfInBounds_toArray, List.set_cons_zero, List.set_cons_succ]
            refine wpAnyH_done (by kernel_rfl) ?_ _

            refine NoPanic.normal ?_
            have HB2 := Aside.mk (below_then HN.out.1 hHeld.2)
            clear hHeld
            go_wp2
            rw [← HRR.out]
            exact ⟨by rw [HZ.out]; rfl, HB2.out⟩
          | true =>
            rw [hm] at FF
            have HZ := Aside.mk (show ∀ j < k + 1, ∀ a, l[j]? = some a → fitsK ks a.key a.v = true by
              intro j hj a ha
              rcases Nat.lt_or_ge j k with h | h
              · exact HN.out.2 j h a ha
              · obtain rfl : j = k := by omega
                rw [HX.out] at ha; cases ha; exact hm)
            clear hm
            go_wp2_with fail
            refine wp_region_noPanic ?_
            refine wp_region_held_drew (S := fun W => (W.cell? (ad.add (k * 5)) = some (.int .i64 key) ∧ W.cell? ⟨(ad.add (k * 5)).block, (ad.add (k * 5)).off + 1, none⟩ = some (.int .u8 kd) ∧ W.cell? ⟨(ad.add (k * 5)).block, (ad.add (k * 5)).off + 2, none⟩ = some (.int .i64 n) ∧ W.cell? ⟨(ad.add (k * 5)).block, (ad.add (k * 5)).off + 3, none⟩ = some (.int .u64 (f : Int)) ∧ W.cell? ⟨(ad.add (k * 5)).block, (ad.add (k * 5)).off + 4, none⟩ = some (.string s)) ∧ Below wr.heap.size wr W) (by kernel_rfl) (⟨⟨s0, s1, s2, s3, s4⟩, below_drewN (below_refl wr) 1⟩) (fun hHeld => ?_)
            refine take_at (i := 0) (d := some 34) (v := ?vt0) rfl rfl (by kernel_rfl) (by kernel_rfl) (by kernel_rfl) (fun _ _ _ h => h) (Or.inl ⟨by rfl, ?hyt0⟩) hHeld ?restt0
            case hyt0 => (intro w hSw; (try dsimp only at hSw); go_simp; try with_reducible rfl)
            try simp only [Act.put, List.setIfInBounds_toArray, List.set_cons_zero, List.set_cons_succ]
            refine take_at (i := 1) (d := some 35) (v := ?vt1) rfl rfl (by kernel_rfl) (by kernel_rfl) (by kernel_rfl) (fun _ _ _ h => h) (Or.inl ⟨by rfl, ?hyt1⟩) hHeld ?restt1
            case hyt1 => (intro w hSw; (try dsimp only at hSw); go_simp; try with_reducible rfl)
            try simp only [Act.put, List.setIfInBounds_toArray, List.set_cons_zero, List.set_cons_succ]
            refine take_at (i := 2) (d := some 36) (v := ?vt2) rfl rfl (by kernel_rfl) (by kernel_rfl) (by kernel_rfl) (fun _ _ _ h => h) (Or.inl ⟨by rfl, ?hyt2⟩) hHeld ?restt2
            case hyt2 => (intro w hSw; (try dsimp only at hSw); go_simp; try with_reducible rfl)
            try simp only [Act.put, List.setIfInBounds_toArray, List.set_cons_zero, List.set_cons_succ]
            refine take_at (i := 3) (d := some 37) (v := ?vt3) rfl rfl (by kernel_rfl) (by kernel_rfl) (by kernel_rfl) (fun _ _ _ h => h) (Or.inl ⟨by rfl, ?hyt3⟩) hHeld ?restt3
            case hyt3 => (intro w hSw; (try dsimp only at hSw); go_simp; try with_reducible rfl)
            try simp only [Act.put, List.setIfInBounds_toArray, List.set_cons_zero, List.set_cons_succ]
            refine take_at (i := 4) (d := some 38) (v := ?vt4) rfl rfl (by kernel_rfl) (by kernel_rfl) (by kernel_rfl) (fun _ _ _ h => h) (Or.inl ⟨by rfl, ?hyt4⟩) hHeld ?restt4
            case hyt4 => (intro w hSw; (try dsimp only at hSw); go_simp; try with_reducible rfl)
            try simp only [Act.put, List.setIfInBounds_toArray, List.set_cons_zero, List.set_cons_succ]
            refine take_at (i := 5) (d := some 39) (v := ?vt5) rfl rfl (by kernel_rfl) (by kernel_rfl) (by kernel_rfl) (fun _ _ _ h => h) (Or.inl ⟨by rfl, ?hyt5⟩) hHeld ?restt5
            case hyt5 => (intro w hSw; (try dsimp only at hSw); go_simp; try with_reducible rfl)
            try simp only [Act.put, List.setIfInBounds_toArray, List.set_cons_zero, List.set_cons_succ]
            refine take_at (i := 6) (d := some 40) (v := ?vt6) rfl rfl (by kernel_rfl) (by kernel_rfl) (by kernel_rfl) (fun _ _ _ h => h) (Or.inl ⟨by rfl, ?hyt6⟩) hHeld ?restt6
            case hyt6 => (intro w hSw; (try dsimp only at hSw); go_simp; try with_reducible rfl)
            try simp only [Act.put, List.setIfInBounds_toArray, List.set_cons_zero, List.set_cons_succ]
            refine take_at (i := 7) (d := some 41) (v := ?vt7) rfl rfl (by kernel_rfl) (by kernel_rfl) (by kernel_rfl) (fun _ _ _ h => h) (Or.inl ⟨by rfl, ?hyt7⟩) hHeld ?restt7
            case hyt7 => (intro w hSw; (try dsimp only at hSw); go_simp; try with_reducible rfl)
            try simp only [Act.put, List.setIfInBounds_toArray, List.set_cons_zero, List.set_cons_succ]
            refine take_at (i := 8) (d := some 42) (v := ?vt8) rfl rfl (by kernel_rfl) (by kernel_rfl) (by kernel_rfl) (fun _ _ _ h => h) (Or.inl ⟨by rfl, ?hyt8⟩) hHeld ?restt8
            case hyt8 => (intro w hSw; (try dsimp only at hSw); go_simp; try with_reducible rfl)
            try simp only [Act.put, List.setIfInBounds_toArray, List.set_cons_zero, List.set_cons_succ]
            refine take_at (i := 9) (d := some 43) (v := ?vt9) rfl rfl (by kernel_rfl) (by kernel_rfl) (by kernel_rfl) (fun _ _ _ h => h) (Or.inl ⟨by rfl, ?hyt9⟩) hHeld ?restt9
            case hyt9 => (intro w hSw; (try dsimp only at hSw); go_simp; try with_reducible rfl)
            try simp only [Act.put, List.setIfInBounds_toArray, List.set_cons_zero, List.set_cons_succ]
            refine take_at (i := 10) (d := some 44) (v := ?vt10) rfl rfl (by kernel_rfl) (by kernel_rfl) (by kernel_rfl) (fun _ _ _ h => h) (Or.inl ⟨by rfl, ?hyt10⟩) hHeld ?restt10
            case hyt10 => (intro w hSw; (try dsimp only at hSw); go_simp; try with_reducible rfl)
            try simp only [Act.put, List.setIfInBounds_toArray, List.set_cons_zero, List.set_cons_succ]
            refine wpAnyH_ready (rs := [11]) (by kernel_rfl) (by simp) ?_
            refine AllReadyH.cons rfl (fun K hK => ?_) AllReadyH.nil
            go_simp
            (with_reducible refine (FF.out _ hHeld.2).mono ?_)
            rintro e w' ⟨rfl, hb⟩
            refine hK.out _ _ (⟨⟨cell_below hb hHeld.1.1, cell_below hb hHeld.1.2.1, cell_below hb hHeld.1.2.2.1, cell_below hb hHeld.1.2.2.2.1, cell_below hb hHeld.1.2.2.2.2⟩, below_then hHeld.2 hb⟩) (fun hHeld' => ?_)
            clear hK K hHeld hb
            have hHeld := hHeld'
            clear hHeld'
            try simp only [Act.put, List.setIfInBounds_toArray, List.set_cons_zero, List.set_cons_succ]
            refine take_at (i := 12) (d := some 46) (v := ?vt12) rfl rfl (by kernel_rfl) (by kernel_rfl) (by kernel_rfl) (fun _ _ _ h => h) (Or.inl ⟨by rfl, ?hyt12⟩) hHeld ?restt12
            case hyt12 => (intro w hSw; (try dsimp only at hSw); go_simp; try with_reducible rfl)
            try simp only [Act.put, List.setIfInBounds_toArray, List.set_cons_zero, List.set_cons_succ]
            refine wpAnyH_done (by kernel_rfl) ?_ _

            refine NoPanic.normal ?_
            have HB2 := Aside.mk (below_then HN.out.1 hHeld.2)
            clear hHeld
            go_wp2
            go_roundw
            case rel => exact ⟨k + 1, by omega, by go_num, ⟨HB2.out, HZ.out⟩⟩
            case measure => simp [intOf]; omega
        · have hge : ¬ ((k : Int) < (l.length : Int)) := by omega
          have HZ := Aside.mk (show r = 0 by
            rw [← HRs.out, if_pos HV.out, if_pos]
            intro a ha
            obtain ⟨j, hj, rfl⟩ := List.mem_iff_getElem.1 ha
            exact HN.out.2 j (by omega) _ (List.getElem?_eq_getElem hj))
          clear hlt hk
          go_wp2
          rw [← HRR.out]
          exact ⟨by rw [HZ.out], HN.out.1⟩
end Go.Proofs.YtaejlgdmalhhnaaDoor
/- Layer 7, the document's: Has and Find of a table. -/
set_option linter.unusedVariables false
set_option linter.unusedSimpArgs false
namespace Go.Proofs.YtaejlgdmalhhnaaDoor
open Go.RowKit Go.Maps

variable {B db : Nat} {O : Nat → Prop} {w w' w1 : World} {kv sv hv lv v1 : Value} {S : List (Value × List At)} {H free : List Int} {empty : Int}
theorem DocAt.f0 (h : DocAt B O w db kv sv hv lv S H free empty) : w.cell? ⟨db, 0, none⟩ = some kv := by unfold World.cell?; simp only [h.hb]; rfl
theorem DocAt.f1 (h : DocAt B O w db kv sv hv lv S H free empty) : w.cell? ⟨db, 1, none⟩ = some sv := by unfold World.cell?; simp only [h.hb]; rfl
theorem DocAt.f2 (h : DocAt B O w db kv sv hv lv S H free empty) : w.cell? ⟨db, 2, none⟩ = some hv := by unfold World.cell?; simp only [h.hb]; rfl
theorem DocAt.f3 (h : DocAt B O w db kv sv hv lv S H free empty) : w.cell? ⟨db, 3, none⟩ = some lv := by unfold World.cell?; simp only [h.hb]; rfl
theorem DocAt.f4 (h : DocAt B O w db kv sv hv lv S H free empty) : w.cell? ⟨db, 4, none⟩ = some (.int .i64 empty) := by unfold World.cell?; simp only [h.hb]; rfl
theorem DocAt.fz (h : DocAt B O w db kv sv hv lv S H free empty) (i : Nat) : w.frozen? ⟨db, i, none⟩ = false := frozen_of_row w db i _ 47 h.hb
/-- A row of numbers as it is read. -/
theorem nums_slice {l : List Int} {v : Value} (h : w.ownsRow B 3 1 v l.length (nums .i64 l)) : ∃ A c, v = .slice A l.length c ∧ l.length ≤ c ∧ l.length ≤ 9223372036854775807 ∧ ∀ (i : Nat) x, l[i]? = some x → ∃ a, A = some a ∧ w.cell? (a.add i) = some (.int .i64 x) := by
  obtain ⟨A, c, h1, h2, h3, h4⟩ := Cells.of_own h
  refine ⟨A, c, h1, h2, h3, fun i x hi => ?_⟩
  obtain ⟨a, ha, hc⟩ := h4 (by rw [nums_length]; have := (List.getElem?_eq_some_iff.1 hi).1; omega)
  exact ⟨a, ha, hc i _ (by unfold nums; rw [List.getElem?_map, hi]; rfl)⟩
theorem sets_slice (h : w.ownsRow B 48 1 sv S.length (S.map (·.1))) : ∃ A c, sv = .slice A S.length c ∧ S.length ≤ c ∧ S.length ≤ 9223372036854775807 ∧ ∀ (i : Nat) s, S[i]? = some s → ∃ a, A = some a ∧ w.cell? (a.add i) = some s.1 := by
  obtain ⟨A, c, h1, h2, h3, h4⟩ := Cells.of_own h
  refine ⟨A, c, h1, h2, h3, fun i x hi => ?_⟩
  obtain ⟨a, ha, hc⟩ := h4 (by rw [List.length_map]; have := (List.getElem?_eq_some_iff.1 hi).1; omega)
  exact ⟨a, ha, hc i _ (by rw [List.getElem?_map, hi]; rfl)⟩
def hasD (H : List Int) (id : Int) : Bool := if id = 0 then true else if id ≤ 0 then false else match H[(id - 1).toNat]? with
  | none => false
  | some x => decide (0 < x)
set_option maxRecDepth 100000 in
set_option maxHeartbeats 1000000 in
theorem has_doc (id : Int) (h : DocAt B O w db kv sv hv lv S H free empty) (hl : H.length ≤ 1000000) (hw : (Lit.int .i64 id).wf = true) :
    Calls Tryd.prog 34 #[.pointer (some ⟨db, 0, none⟩), .int .i64 id] w fun e w' => e = .returned (.bool (hasD H id)) ∧ w' = w := by
  have f2 := h.f2
  obtain ⟨hA, hc, rfl, h1, h2, h3⟩ := nums_slice h.held
  have hid := wf_i64 hw
  have g1 : (H.length : Int) ≤ (hc : Int) := by omega
  have g2 : (H.length : Int) ≤ 1000000 := by omega
  clear h hw
  by_cases h0 : id = 0
  · subst h0
    have e : hasD H 0 = true := by unfold hasD; rw [if_pos rfl]
    rw [e]
    go_enter Tryd.func34, Tryd.ntmps34
    go_wp2
    go_ret
    exact ⟨rfl, rfl⟩
  have q0 : ((id : Int) == 0) = false := by simpa using h0
  by_cases hneg : id ≤ 0
  · have e : hasD H id = false := by unfold hasD; rw [if_neg h0, if_pos hneg]
    rw [e]
    have q1 : decide (0 < id) = false := decide_eq_false (by omega)
    clear h0 h3
    go_enter Tryd.func34, Tryd.ntmps34
    go_wp2
    go_ret
    exact ⟨rfl, rfl⟩
  obtain ⟨i, rfl⟩ : ∃ i : Nat, id = (i : Int) + 1 := ⟨(id - 1).toNat, by omega⟩
  have ei : ((i : Int) + 1 - 1).toNat = i := by omega
  have q1 : decide ((0 : Int) < (i : Int) + 1) = true := decide_eq_true (by omega)
  cases hx : H[i]? with
  | none =>
    have e : hasD H ((i : Int) + 1) = false := by unfold hasD; rw [if_neg h0, if_neg hneg, ei, hx]
    rw [e]
    have hge : (H.length : Int) < (i : Int) + 1 := by rw [List.getElem?_eq_none_iff] at hx; omega
    have q2 : decide ((i : Int) + 1 ≤ (H.length : Int)) = false := decide_eq_false (by omega)
    clear h0 hneg h3 hx ei
    go_enter Tryd.func34, Tryd.ntmps34
    go_wp2
    go_ret
    exact ⟨rfl, rfl⟩
  | some x =>
    have e : hasD H ((i : Int) + 1) = decide (0 < x) := by unfold hasD; rw [if_neg h0, if_neg hneg, ei, hx]
    rw [e]
    obtain ⟨ha, rfl, hcx⟩ := h3 i x hx
    have hlt : (i : Int) < (H.length : Int) := by have := (List.getElem?_eq_some_iff.1 hx).1; omega
    have q2 : decide ((i : Int) + 1 ≤ (H.length : Int)) = true := decide_eq_true (by omega)
    clear h0 hneg h3 hx ei
    go_enter Tryd.func34, Tryd.ntmps34
    go_wp2
    go_ret
    exact ⟨rfl, rfl⟩
/-- What the document's table keeps, plain: as many sets as counts; none is held less than no time; no set is long. -/
structure DPl (S : List (Value × List At)) (H : List Int) : Prop where
  len : S.length = H.length
  nn : ∀ x ∈ H, 0 ≤ x
  sz : ∀ s ∈ S, s.2.length ≤ 64
def psOf (S : List (Value × List At)) (H : List Int) : Ps := (S.map (·.2)).zip H
theorem psOf_at (S : List (Value × List At)) (H : List Int) (i : Nat) : (psOf S H)[i]? = match S[i]?, H[i]? with
    | some s, some x => some (s.2, x)
    | _, _ => none := by
  unfold psOf
  rw [List.zip, List.getElem?_zipWith, List.getElem?_map]
  cases S[i]? <;> cases H[i]? <;> rfl
theorem psOf_len (S : List (Value × List At)) (H : List Int) (h : S.length = H.length) : (psOf S H).length = S.length := by unfold psOf; rw [List.length_zip, List.length_map]; omega
theorem findP_at {P : Ps} {l : List At} {k : Nat} {p : List At × Int} (hk : P[k]? = some p) (h1 : p.2 ≠ 0) (h2 : p.1 = l) (hn : ∀ j < k, ∀ q, P[j]? = some q → ¬ (q.2 ≠ 0 ∧ q.1 = l)) : findP P l = some k := by
  unfold findP
  rw [List.findIdx?_eq_some_iff_getElem]
  obtain ⟨hl, he⟩ := List.getElem?_eq_some_iff.1 hk
  refine ⟨hl, by simp [he, h1, h2], fun j hj => ?_⟩
  have := hn j hj _ (List.getElem?_eq_getElem (by omega))
  simp only [Bool.and_eq_true, bne_iff_ne, decide_eq_true_iff]
  exact this
theorem findP_not {P : Ps} {l : List At} (hn : ∀ j < P.length, ∀ q, P[j]? = some q → ¬ (q.2 ≠ 0 ∧ q.1 = l)) : findP P l = none := by
  unfold findP
  rw [List.findIdx?_eq_none_iff]
  intro p hp
  obtain ⟨j, hj, rfl⟩ := List.mem_iff_getElem.1 hp
  have := hn j hj _ (List.getElem?_eq_getElem hj)
  rw [Bool.eq_false_iff]
  simp only [ne_eq, Bool.and_eq_true, bne_iff_ne, decide_eq_true_iff]
  exact this
def FindDPost (w : World) (r : Option Nat) (e : Ending) (w' : World) : Prop := e = .returned (.int .i64 (match r with | some i => (i : Int) | none => -1)) ∧ Below w.heap.size w w'
set_option maxRecDepth 100000 in
set_option maxHeartbeats 2000000 in
theorem find_doc (A : Option Addr) (c : Nat) (l : List At) (h : DocAt B O w db kv sv hv lv S H free empty) (hp : DPl S H) (hl : H.length ≤ 1000000) (hS : ASrc w A l) (hc : l.length ≤ c) (hll : l.length ≤ 9223372036854775807) :
    Calls Tryd.prog 89 #[.pointer (some ⟨db, 0, none⟩), .slice A l.length c] w (FindDPost w (findP (psOf S H) l)) := by
  have HS := Aside.mk hS
  have HD := Aside.mk h
  have HPl := Aside.mk hp
  have HC := Aside.mk hc
  have HLl := Aside.mk hll
  have hlen := hp.len
  obtain ⟨hA, hcc, hhv, h1, _, _⟩ := nums_slice h.held
  obtain ⟨sA, scc, hsv, h4, _, _⟩ := sets_slice h.sets
  subst hhv hsv
  rw [← hlen] at h1
  have g1 : (S.length : Int) ≤ (hcc : Int) := by omega
  have g2 : (S.length : Int) ≤ (scc : Int) := by omega
  have g3 : (S.length : Int) ≤ 1000000 := by omega
  have HLe := Aside.mk hlen
  obtain ⟨R, hR⟩ : ∃ R, FindDPost w (findP (psOf S H) l) = R := ⟨_, rfl⟩
  rw [hR]
  have HR := Aside.mk hR
  clear hS h hp hl hc hR h1 h4 hll hlen
  go_enter Tryd.func89, Tryd.ntmps89
  go_wp2_with fail
  go_loopw [5] (fun i wr => ∃ k : Nat, k ≤ S.length ∧ i = .int .i64 k ∧ Aside (Below w.heap.size w wr ∧ ∀ j < k, ∀ q, (psOf S H)[j]? = some q → ¬ (q.2 ≠ 0 ∧ q.1 = l))) (fun i _ => S.length - (intOf i).toNat)
  case atStart => exact ⟨0, Nat.zero_le _, rfl, ⟨below_refl w, fun j h => absurd h (by omega)⟩⟩
  case round =>
    obtain ⟨k, hk, rfl, HN⟩ := hrel
    have HDw := Aside.mk (HD.out.below HN.out.1)
    have f1 := HDw.out.f1
    have f2 := HDw.out.f2
    rw [← HLe.out] at f2
    by_cases hlt : k < S.length
    · have hkz : (k : Int) < (S.length : Int) := by omega
      obtain ⟨⟨sv1, sl⟩, hs⟩ : ∃ s, S[k]? = some s := ⟨_, List.getElem?_eq_getElem hlt⟩
      obtain ⟨x, hx⟩ : ∃ x, H[k]? = some x := ⟨_, List.getElem?_eq_getElem (by have := HLe.out; omega)⟩
      obtain ⟨_, _, e1, _, _, h3⟩ := nums_slice HDw.out.held
      injection e1 with e1
      subst e1
      obtain ⟨ha, rfl, hcx⟩ := h3 k x hx
      obtain ⟨_, _, e2, _, _, h4⟩ := sets_slice HDw.out.sets
      injection e2 with e2
      subst e2
      obtain ⟨sa, rfl, hcs⟩ := h4 k _ hs
      have hnn := HPl.out.nn x (List.mem_of_getElem? hx)
      have HP := Aside.mk (show (psOf S H)[k]? = some (sl, x) by rw [psOf_at, hs, hx])
      obtain ⟨A', c', hv', hc', _, hs'⟩ := src_of_own (HDw.out.each _ (List.mem_of_getElem? hs)).1
      have hsz := HPl.out.sz _ (List.mem_of_getElem? hs)
      simp only at hv' hs' hsz hc' hcs
      subst hv'
      have HSm := Aside.mk (sameQ_any A' A c' c sl l wr hs' (HS.out.below HN.out.1) hc' HC.out (by omega) HLl.out)
      have HSz := Aside.mk hsz
      clear h3 h4 hs hx hs' hc' hsz
      by_cases hx0 : x = 0
      · have q : decide (0 < x) = false := decide_eq_false (by omega)
        have HZ := Aside.mk (show ∀ j < k + 1, ∀ q, (psOf S H)[j]? = some q → ¬ (q.2 ≠ 0 ∧ q.1 = l) by
          intro j hj q hq
          rcases Nat.lt_or_ge j k with h | h
          · exact HN.out.2 j h q hq
          · obtain rfl : j = k := by omega
            rw [HP.out] at hq; cases hq; exact fun h => h.1 hx0)
        clear hx0 hnn
        go_wp2
        go_roundw
        case rel => exact ⟨k + 1, by omega, by go_num, ⟨HN.out.1, HZ.out⟩⟩
        case measure => simp [intOf]; omega
      · have q : decide (0 < x) = true := decide_eq_true (by omega)
        have HX0 := Aside.mk hx0
        by_cases he : sl = l
        · have HE := Aside.mk he
          rw [decide_eq_true he] at HSm
          clear hx0 hnn he
          go_wp2_with fail
          (with_reducible refine HSm.out.mono ?_)
          rintro e w2 ⟨rfl, hd⟩
          have HB2 := Aside.mk (below_then HN.out.1 (drew_below hd))
          have HF := Aside.mk (findP_at HP.out HX0.out HE.out HN.out.2)
          clear hd
          go_wp2
          rw [← HR.out]
          unfold FindDPost
          rw [HF.out]
          exact ⟨rfl, HB2.out⟩
        · rw [decide_eq_false he] at HSm
          have HZ := Aside.mk (show ∀ j < k + 1, ∀ q, (psOf S H)[j]? = some q → ¬ (q.2 ≠ 0 ∧ q.1 = l) by
            intro j hj q hq
            rcases Nat.lt_or_ge j k with h | h
            · exact HN.out.2 j h q hq
            · obtain rfl : j = k := by omega
              rw [HP.out] at hq; cases hq; exact fun h => he h.2)
          clear hx0 hnn he
          go_wp2_with fail
          (with_reducible refine HSm.out.mono ?_)
          rintro e w2 ⟨rfl, hd⟩
          have HB2 := Aside.mk (below_then HN.out.1 (drew_below hd))
          clear hd hcx hcs f1 f2
          go_wp2
          go_roundw
          case rel => exact ⟨k + 1, by omega, by go_num, ⟨HB2.out, HZ.out⟩⟩
          case measure => simp [intOf]; omega
    · have hge : ¬ ((k : Int) < (S.length : Int)) := by omega
      have HF := Aside.mk (findP_not (P := psOf S H) (l := l) (fun j hj => HN.out.2 j (by rw [psOf_len S H HLe.out] at hj; omega)))
      clear hlt hk
      go_wp2
      rw [← HR.out]
      unfold FindDPost
      rw [HF.out]
      exact ⟨rfl, HN.out.1⟩
end Go.Proofs.YtaejlgdmalhhnaaDoor
/- Layer 7, the document's: Hold and Free of a table. -/
set_option linter.unusedVariables false
set_option linter.unusedSimpArgs false
namespace Go.Proofs.YtaejlgdmalhhnaaDoor
open Go.RowKit Go.Maps

variable {B db : Nat} {O : Nat → Prop} {w w' w1 : World} {kv sv hv lv v1 : Value} {S : List (Value × List At)} {H free : List Int} {empty : Int} {D : Ps}
/-- The document's table, told of its sets. -/
def DocM (B : Nat) (O : Nat → Prop) (w : World) (db : Nat) (kv : Value) (D : Ps) (free : List Int) (empty : Int) : Prop :=
  ∃ sv hv lv S H, DocAt B O w db kv sv hv lv S H free empty ∧ DPl S H ∧ psOf S H = D
def DocPost (B : Nat) (O : Nat → Prop) (w : World) (db : Nat) (kv : Value) (D : Ps) (free : List Int) (empty : Int) (r : Value) (e : Ending) (w' : World) : Prop :=
  e = .returned r ∧ DocM B (Grow O w w') w' db kv D free empty ∧ Turn O w w'
theorem DocM.below (h : DocM B O w db kv D free empty) (hb : Below w.heap.size w w') : DocM B O w' db kv D free empty := by
  obtain ⟨sv, hv, lv, S, H, h, hp, e⟩ := h
  exact ⟨sv, hv, lv, S, H, h.below hb, hp, e⟩
theorem DocM.turn {Q : Nat → Prop} (h : DocM B O w db kv D free empty) (ht : Turn Q w w') (hQ : ∀ k, Q k → ¬ O k) : DocM B O w' db kv D free empty := by
  obtain ⟨sv, hv, lv, S, H, h, hp, e⟩ := h
  exact ⟨sv, hv, lv, S, H, h.turn ht hQ, hp, e⟩
theorem grow_of (h : ∀ k, O k → B ≤ k ∧ k < w.heap.size) (hB : B ≤ w.heap.size) (hs : w.heap.size ≤ w'.heap.size) : ∀ k, Grow O w w' k → B ≤ k ∧ k < w'.heap.size := grow_top h hB hs
/-- The end of a call that made nothing new. -/
theorem DocAt.wideG (h : DocAt B O w' db kv sv hv lv S H free empty) (ht : ∀ k, O k → B ≤ k ∧ k < w.heap.size) (hB : B ≤ w.heap.size) (hs : w.heap.size ≤ w'.heap.size) : DocAt B (Grow O w w') w' db kv sv hv lv S H free empty :=
  h.wide (fun k hk => .inl hk) (grow_top ht hB hs)
theorem psOf_heldSet {i : Nat} {s : Value × List At} (hs : S[i]? = some s) (x : Int) : psOf S (H.set i x) = (psOf S H).set i (s.2, x) := by
  apply List.ext_getElem?
  intro j
  have hl := (List.getElem?_eq_some_iff.1 hs).1
  by_cases h : i = j
  · subst h
    have e1 : (psOf S (H.set i x))[i]? = if i < H.length then some (s.2, x) else none := by
      rw [psOf_at, hs]
      by_cases hH : i < H.length
      · rw [if_pos hH, List.getElem?_set_self hH]
      · rw [if_neg hH, List.getElem?_eq_none (by rw [List.length_set]; omega)]
    have e2 : (psOf S H).length = min S.length H.length := by unfold psOf; rw [List.length_zip, List.length_map]
    rw [e1]
    by_cases hH : i < H.length
    · rw [if_pos hH, List.getElem?_set_self (by omega)]
    · rw [if_neg hH, List.getElem?_eq_none (by rw [List.length_set]; omega)]
  · rw [List.getElem?_set_ne h, psOf_at, psOf_at, List.getElem?_set_ne h]
theorem psOf_two {i : Nat} {p : List At × Int} (h : (psOf S H)[i]? = some p) : ∃ s, S[i]? = some s ∧ H[i]? = some p.2 ∧ s.2 = p.1 := by
  rw [psOf_at] at h
  cases hs : S[i]? with
  | none => rw [hs] at h; cases h
  | some s =>
    cases hH : H[i]? with
    | none => rw [hs, hH] at h; cases h
    | some x => rw [hs, hH] at h; cases h; exact ⟨s, rfl, rfl, rfl⟩
theorem DPl.heldSet (h : DPl S H) (i : Nat) (x : Int) (hx : 0 ≤ x) : DPl S (H.set i x) :=
  ⟨by rw [List.length_set]; exact h.len, fun y hy => by rcases List.mem_or_eq_of_mem_set hy with hy | rfl; · exact h.nn y hy
                                                        · exact hx, h.sz⟩
/-- What the document's calls are told of sizes. -/
structure DBd (D : Ps) (free : List Int) (empty : Int) : Prop where
  len : D.length ≤ 1000000
  held : ∀ p ∈ D, p.2 ≤ 1000000
  flen : free.length ≤ 1000000
  emp : 0 ≤ empty ∧ empty ≤ 1000000
set_option maxRecDepth 100000 in
theorem hold_doc0 (h : DocM B O w db kv D free empty) (hd : DBd D free empty) :
    Calls Tryd.prog 40 #[.pointer (some ⟨db, 0, none⟩), .int .i64 0] w (DocPost B O w db kv D free (empty + 1) (.tuple #[])) := by
  obtain ⟨sv, hv, lv, S, H, h, hp, hD⟩ := h
  have f4 := h.f4
  have z4 := h.fz 4
  have he := hd.emp
  have HZ := Aside.mk (show DocPost B O w db kv D free (empty + 1) (.tuple #[]) (.returned (.tuple #[])) (w.setCell ⟨db, 4, none⟩ (.int .i64 (empty + 1))) from
    ⟨rfl, ⟨sv, hv, lv, S, H, (h.setEmpty (empty + 1)).wideG h.top h.baseB (by rw [setCell_size]; exact Nat.le_refl _), hp, hD⟩, turn_set w ⟨db, 4, none⟩ _ h.dbO⟩)
  obtain ⟨R, hR⟩ : ∃ R, DocPost B O w db kv D free (empty + 1) (.tuple #[]) = R := ⟨_, rfl⟩
  rw [hR] at HZ ⊢
  clear h hp hd hD hR
  go_enter Tryd.func40, Tryd.ntmps40
  go_wp2
  go_end0
  exact HZ.out
set_option maxRecDepth 100000 in
set_option maxHeartbeats 1000000 in
theorem hold_docI {i : Nat} {p : List At × Int} (h : DocM B O w db kv D free empty) (hd : DBd D free empty) (hi : D[i]? = some p) :
    Calls Tryd.prog 40 #[.pointer (some ⟨db, 0, none⟩), .int .i64 ((i : Int) + 1)] w (DocPost B O w db kv (D.set i (p.1, p.2 + 1)) free empty (.tuple #[])) := by
  obtain ⟨sv, hv, lv, S, H, h, hp, rfl⟩ := h
  obtain ⟨s, hs, hx, hsp⟩ := psOf_two hi
  have hlp := psOf_len S H hp.len
  have hlt := (List.getElem?_eq_some_iff.1 hx).1
  have hb1 := hd.held p (List.mem_of_getElem? hi)
  have hb0 := hp.nn _ (List.mem_of_getElem? hx)
  have hll := hd.len
  obtain ⟨hA, hc, rfl, h1, h2, h3⟩ := nums_slice h.held
  obtain ⟨ha, rfl, hcx⟩ := h3 i p.2 hx
  have z := row_fz0 h.held i
  have f2 := h.f2
  have HZ := Aside.mk (show DocPost B O w db kv ((psOf S H).set i (p.1, p.2 + 1)) free empty (.tuple #[]) (.returned (.tuple #[])) (w.setCell (ha.add i) (.int .i64 (p.2 + 1))) from
    ⟨rfl, ⟨sv, _, lv, S, H.set i (p.2 + 1), (h.putHeld rfl i (p.2 + 1)).wideG h.top h.baseB (by rw [setCell_size]; exact Nat.le_refl _), hp.heldSet i _ (by omega), by rw [psOf_heldSet hs, hsp]⟩, turn_set w (ha.add i) _ (by
      obtain ⟨g, cur, rfl, _⟩ := row_at h.held
      rw [addr_block]
      exact h.heldO g rfl)⟩)
  obtain ⟨R, hR⟩ : ∃ R, DocPost B O w db kv ((psOf S H).set i (p.1, p.2 + 1)) free empty (.tuple #[]) = R := ⟨_, rfl⟩
  rw [hR] at HZ ⊢
  obtain ⟨x, hxx⟩ : ∃ x, p.2 = x := ⟨_, rfl⟩
  rw [hxx] at hcx HZ hb0 hb1
  have g1 : (H.length : Int) ≤ (hc : Int) := by omega
  have g2 : (H.length : Int) ≤ 1000000 := by have := hp.len; omega
  have g3 : (i : Int) < (H.length : Int) := by omega
  have q0 : (((i : Int) + 1) == 0) = false := by simp; omega
  clear h hp hd hR h3 hs hx hsp hi hxx hlp hll
  go_enter Tryd.func40, Tryd.ntmps40
  go_wp2
  go_end0
  exact HZ.out
/-- What Free leaves in the document's table. -/
def freeD (D : Ps) (free : List Int) (i : Nat) (p : List At × Int) : Ps × List Int := (D.set i (p.1, p.2 - 1), if p.2 = 1 then free ++ [(i : Int)] else free)
set_option maxRecDepth 100000 in
theorem free_doc0 (h : DocM B O w db kv D free empty) (hd : DBd D free empty) :
    Calls Tryd.prog 38 #[.pointer (some ⟨db, 0, none⟩), .int .i64 0] w (DocPost B O w db kv D free (max (empty - 1) 0) (.tuple #[])) := by
  obtain ⟨sv, hv, lv, S, H, h, hp, hD⟩ := h
  have f4 := h.f4
  have z4 := h.fz 4
  have he := hd.emp
  by_cases h0 : 0 < empty
  · have e : max (empty - 1) 0 = empty - 1 := by omega
    rw [e]
    have HZ := Aside.mk (show DocPost B O w db kv D free (empty - 1) (.tuple #[]) (.returned (.tuple #[])) (w.setCell ⟨db, 4, none⟩ (.int .i64 (empty - 1))) from
      ⟨rfl, ⟨sv, hv, lv, S, H, (h.setEmpty (empty - 1)).wideG h.top h.baseB (by rw [setCell_size]; exact Nat.le_refl _), hp, hD⟩, turn_set w ⟨db, 4, none⟩ _ h.dbO⟩)
    obtain ⟨R, hR⟩ : ∃ R, DocPost B O w db kv D free (empty - 1) (.tuple #[]) = R := ⟨_, rfl⟩
    rw [hR] at HZ ⊢
    clear h hp hd hD hR e
    go_enter Tryd.func38, Tryd.ntmps38
    go_wp2
    exact bodyPost_ret (results_none rfl _ _ _) rfl HZ.out
  · have e : max (empty - 1) 0 = empty := by omega
    rw [e]
    have HZ := Aside.mk (show DocPost B O w db kv D free empty (.tuple #[]) (.returned (.tuple #[])) w from
      ⟨rfl, ⟨sv, hv, lv, S, H, h.wideG h.top h.baseB (Nat.le_refl _), hp, hD⟩, Turn.of_below (below_refl w)⟩)
    obtain ⟨R, hR⟩ : ∃ R, DocPost B O w db kv D free empty (.tuple #[]) = R := ⟨_, rfl⟩
    rw [hR] at HZ ⊢
    have q : ¬ (0 < empty) := h0
    clear h hp hd hD hR e h0
    go_enter Tryd.func38, Tryd.ntmps38
    go_wp2
    exact bodyPost_ret (results_none rfl _ _ _) rfl HZ.out
end Go.Proofs.YtaejlgdmalhhnaaDoor
