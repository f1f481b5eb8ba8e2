/- Rows of the call's own that are written place by place: plain lemmas. -/
import Derived.Test.YtaejlgdmalhhnaaDoorMe
import Derived.Test.YtaejlgdmalhhnaaDoorMc
import Derived.Test.YtaejlgdmalhhnaaDoorMd
set_option linter.unusedVariables false
set_option linter.unusedSimpArgs false
namespace Go.Proofs.YtaejlgdmalhhnaaDoor
open Go.RowKit Go.Maps

/-- The first k have been written over. -/
def overw {α : Type} (f : α → α) (l : List α) (k : Nat) : List α := (l.take k).map f ++ l.drop k
theorem overw_zero {α : Type} (f : α → α) (l : List α) : overw f l 0 = l := by simp [overw]
theorem overw_length {α : Type} (f : α → α) (l : List α) (k : Nat) : (overw f l k).length = l.length := by simp [overw]; omega
theorem overw_at {α : Type} {f : α → α} {l : List α} {k : Nat} : (overw f l k)[k]? = l[k]? := by
  unfold overw
  rcases Nat.lt_or_ge k l.length with h | h
  · rw [List.getElem?_append_right (by rw [List.length_map, List.length_take]; omega), List.length_map, List.length_take, List.getElem?_drop]
    congr 1
    omega
  · rw [List.getElem?_eq_none (by simp; omega), List.getElem?_eq_none h]
theorem overw_next {α : Type} {f : α → α} {l : List α} {k : Nat} {x : α} (h : l[k]? = some x) : overw f l (k + 1) = (overw f l k).set k (f x) := by
  have hk := (List.getElem?_eq_some_iff.1 h).1
  unfold overw
  have e1 : l.take (k + 1) = l.take k ++ [x] := by rw [List.take_succ_eq_append_getElem hk, (List.getElem?_eq_some_iff.1 h).2]
  have e2 : l.drop k = x :: l.drop (k + 1) := by rw [List.drop_eq_getElem_cons hk, (List.getElem?_eq_some_iff.1 h).2]
  rw [e1, e2, List.map_append, List.append_assoc, List.set_append_right k (f x) (by rw [List.length_map, List.length_take]; omega), List.length_map, List.length_take]
  have e3 : k - min k l.length = 0 := by omega
  rw [e3]
  rfl
theorem kcells_set (l : List Ky) (k : Nat) (y : Ky) (hk : k < l.length) (x : Ky) (hx : l[k]? = some x) (i : Nat) (u : Value) (hu : y.cells = x.cells.set i u) (hi : i < 6) : kcells (l.set k y) = (kcells l).set (k * 6 + i) u := by
  induction l generalizing k with
  | nil => simp at hk
  | cons a r ih =>
    have e : ∀ (a : Ky) (r : List Ky), kcells (a :: r) = a.cells ++ kcells r := fun a r => by simp [kcells]
    cases k with
    | zero =>
      simp at hx
      subst hx
      rw [List.set_cons_zero, e, e, hu, List.set_append_left _ _ (by rw [cells_len]; omega), Nat.zero_mul, Nat.zero_add]
    | succ k =>
      rw [List.set_cons_succ, e, e, ih k (by simpa using hk) (by simpa using hx), List.set_append_right _ _ (by rw [cells_len]; omega), cells_len]
      have e2 : (k + 1) * 6 + i - 6 = k * 6 + i := by omega
      rw [e2]
theorem nums_set (k : IntKind) (l : List Int) (i : Nat) (z : Int) : nums k (l.set i z) = (nums k l).set i (.int k z) := by
  unfold nums
  rw [List.map_set]
theorem own_stay {w w' : World} {B n size : Nat} {e : TypeId} {v : Value} {xs : List Value} (h : w.ownsRow B e size v n xs) (hb : ∀ k, v.ownBlock = some k → w'.heap[k]? = w.heap[k]?) : w'.ownsRow B e size v n xs := by
  refine ⟨h.1, ?_⟩
  rcases h.2 with h2 | ⟨g, cap, cur, rfl, hB, hh, r⟩
  · exact .inl h2
  · exact .inr ⟨g, cap, cur, rfl, hB, (hb g rfl).trans hh, r⟩
theorem own_blk {w : World} {B n c size : Nat} {e : TypeId} {A : Option Addr} {xs : List Value} {a : Addr} (h : w.ownsRow B e size (.slice A n c) n xs) (ha : A = some a) : a.block < w.heap.size := by
  subst ha
  rcases h.2 with ⟨h1, _⟩ | ⟨g, cap, cur, h1, hB, hh, hc, _⟩
  · cases h1
  · injection h1 with a1 a2 a3
    injection a1 with a1
    subst a1
    exact (Array.getElem?_eq_some_iff.1 hh).1
variable {w w0 : World} {B n c size : Nat} {e : TypeId} {xs : List Value} {ad : Addr}
theorem row_at (h : w.ownsRow B e size (.slice (some ad) n c) n xs) : ∃ g cur, ad = ⟨g, 0, none⟩ ∧ B ≤ g ∧ w.heap[g]? = some (.cells cur e (0, 0)) ∧ n ≤ c := by
  rcases h.2 with ⟨h1, _⟩ | ⟨g, cap, cur, h1, hB, hh, hc, _⟩
  · cases h1
  · injection h1 with a1 a2 a3
    injection a1 with a1
    subst a1 a3
    exact ⟨g, cur, rfl, hB, hh, hc⟩
theorem row_fz (h : w.ownsRow B e size (.slice (some ad) n c) n xs) (j i : Nat) : w.frozen? ⟨(ad.add j).block, (ad.add j).off + i, none⟩ = false := by
  obtain ⟨g, cur, rfl, _, hh, _⟩ := row_at h
  exact frozen_of_row w _ _ cur e (by rw [addr_add_plain]; exact hh)
theorem row_fz0 (h : w.ownsRow B e size (.slice (some ad) n c) n xs) (j : Nat) : w.frozen? (ad.add j) = false := by
  obtain ⟨g, cur, rfl, _, hh, _⟩ := row_at h
  rw [addr_add_plain]
  exact frozen_of_row w _ _ cur e hh
theorem row_put (h : w.ownsRow B e size (.slice (some ad) n c) n xs) (j i : Nat) (u : Value) : (w.setCell ⟨(ad.add j).block, (ad.add j).off + i, none⟩ u).ownsRow B e size (.slice (some ad) n c) n (xs.set (j + i) u) := by
  obtain ⟨g, cur, rfl, _, hh, _⟩ := row_at h
  rw [addr_add_plain]
  exact (h.stored (j + i) u).1
theorem row_put0 (h : w.ownsRow B e size (.slice (some ad) n c) n xs) (j : Nat) (u : Value) : (w.setCell (ad.add j) u).ownsRow B e size (.slice (some ad) n c) n (xs.set j u) := by
  obtain ⟨g, cur, rfl, _, hh, _⟩ := row_at h
  rw [addr_add_plain]
  exact (h.stored j u).1
theorem row_below (h : w.ownsRow B e size (.slice (some ad) n c) n xs) (hb : Below B w0 w) (j : Nat) (a : Addr) (ha : a.block = (ad.add j).block) (u : Value) : Below B w0 (w.setCell a u) := by
  obtain ⟨g, cur, rfl, hg, hh, _⟩ := row_at h
  rw [addr_add_plain] at ha
  refine hb.setCell ?_ u
  rw [ha]
  exact hg
/-- A row of keys of the call's own, the first k written over. -/
structure KOver (w0 w : World) (f : Ky → Ky) (ad : Addr) (c : Nat) (l : List Ky) (k : Nat) : Prop where
  below : Below w0.heap.size w0 w
  own : w.ownsRow w0.heap.size 97 6 (.slice (some ad) l.length c) l.length (kcells (overw f l k))
theorem KOver.six {f : Ky → Ky} {l : List Ky} {k : Nat} (h : KOver w0 w f ad c l k) {x : Ky} (hx : l[k]? = some x) :
    w.cell? (ad.add (k * 6)) = some (.int .i64 x.id) ∧ w.cell? ⟨(ad.add (k * 6)).block, (ad.add (k * 6)).off + 1, none⟩ = some (.bool x.bl) ∧ w.cell? ⟨(ad.add (k * 6)).block, (ad.add (k * 6)).off + 2, none⟩ = some (.int .u8 x.kd) ∧
    w.cell? ⟨(ad.add (k * 6)).block, (ad.add (k * 6)).off + 3, none⟩ = some (.bool x.af) ∧ w.cell? ⟨(ad.add (k * 6)).block, (ad.add (k * 6)).off + 4, none⟩ = some (.bool x.be) ∧ w.cell? ⟨(ad.add (k * 6)).block, (ad.add (k * 6)).off + 5, none⟩ = some (.int .i64 x.gr) := by
  have ho := h.own
  have e : l.length = (overw f l k).length := (overw_length f l k).symm
  obtain ⟨g, cur, rfl, _⟩ := row_at ho
  have hs : KSrc w (some ⟨g, 0, none⟩) (overw f l k) := by
    refine src_of_row (row_of_own (B := w0.heap.size) (c := c) ?_)
    rw [← e]
    exact ho
  exact hs.six (by rw [overw_at]; exact hx)
theorem KOver.put {f : Ky → Ky} {l : List Ky} {k : Nat} (h : KOver w0 w f ad c l k) {x : Ky} (hx : l[k]? = some x) {i : Nat} {u : Value} (hi : i < 6) (hu : (f x).cells = x.cells.set i u) :
    KOver w0 (w.setCell ⟨(ad.add (k * 6)).block, (ad.add (k * 6)).off + i, none⟩ u) f ad c l (k + 1) := by
  have hk := (List.getElem?_eq_some_iff.1 hx).1
  refine ⟨row_below h.own h.below (k * 6) ⟨(ad.add (k * 6)).block, (ad.add (k * 6)).off + i, none⟩ rfl u, ?_⟩
  rw [overw_next hx, kcells_set (overw f l k) k (f x) (by rw [overw_length]; exact hk) x (by rw [overw_at]; exact hx) i u hu hi]
  exact row_put h.own (k * 6) i u
theorem KOver.put0 {f : Ky → Ky} {l : List Ky} {k : Nat} (h : KOver w0 w f ad c l k) {x : Ky} (hx : l[k]? = some x) {u : Value} (hu : (f x).cells = x.cells.set 0 u) :
    KOver w0 (w.setCell (ad.add (k * 6)) u) f ad c l (k + 1) := by
  have hk := (List.getElem?_eq_some_iff.1 hx).1
  refine ⟨row_below h.own h.below (k * 6) _ rfl u, ?_⟩
  rw [overw_next hx, kcells_set (overw f l k) k (f x) (by rw [overw_length]; exact hk) x (by rw [overw_at]; exact hx) 0 u hu (by omega)]
  exact row_put0 h.own (k * 6) u
theorem KOver.drew {f : Ky → Ky} {l : List Ky} {k : Nat} (h : KOver w0 w f ad c l k) (n : Nat) : KOver w0 (w.drewN n) f ad c l k := ⟨below_drewN h.below n, own_below h.own (below_drewN (below_refl w) n)⟩
/-- A row of numbers of the call's own, the first k written over. -/
structure NOver (w0 w : World) (ad : Addr) (c : Nat) (l : List Int) (k : Nat) : Prop where
  below : Below w0.heap.size w0 w
  own : w.ownsRow w0.heap.size 3 1 (.slice (some ad) l.length c) l.length (nums .i64 (overw (fun _ => -1) l k))
theorem NOver.cell {l : List Int} {k : Nat} (h : NOver w0 w ad c l k) {x : Int} (hx : l[k]? = some x) : w.cell? (ad.add k) = some (.int .i64 x) := by
  obtain ⟨g, cur, rfl, _⟩ := row_at h.own
  exact World.ownsRow.cells h.own (g := g) rfl k (.int .i64 x) (by unfold nums; rw [List.getElem?_map, overw_at, hx]; rfl)
theorem NOver.put {l : List Int} {k : Nat} (h : NOver w0 w ad c l k) {x : Int} (hx : l[k]? = some x) : NOver w0 (w.setCell (ad.add k) (.int .i64 (-1))) ad c l (k + 1) := by
  refine ⟨row_below h.own h.below k _ rfl _, ?_⟩
  rw [overw_next hx, nums_set]
  exact row_put0 h.own k _
theorem NOver.drew {l : List Int} {k : Nat} (h : NOver w0 w ad c l k) (n : Nat) : NOver w0 (w.drewN n) ad c l k := ⟨below_drewN h.below n, own_below h.own (below_drewN (below_refl w) n)⟩
theorem ne_key_self (k : Ky) (w : World) : (binOp .neq 97 (.agg #[.int .i64 k.id, .bool k.bl, .int .u8 k.kd, .bool k.af, .bool k.be, .int .i64 k.gr]) (.agg #[.int .i64 k.id, .bool k.bl, .int .u8 k.kd, .bool k.af, .bool k.be, .int .i64 k.gr])).run Tryd.prog w = .ok (.bool false) w := by
  simp [binOp, Op.equal, Op.maxDepth, go_sem]
end Go.Proofs.YtaejlgdmalhhnaaDoor
