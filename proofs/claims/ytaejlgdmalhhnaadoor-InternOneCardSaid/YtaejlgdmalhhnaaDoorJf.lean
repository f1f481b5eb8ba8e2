/- Layer 7: InternOne's own rows, beside the table. -/
import Derived.Test.YtaejlgdmalhhnaaDoorJe
set_option linter.unusedVariables false
set_option linter.unusedSimpArgs false
namespace Go.Proofs.YtaejlgdmalhhnaaDoor
open Go.RowKit Go.Maps

theorem info48 : (Tryd.prog.info? 48).map (fun i => (i.zero, i.size, i.bytes)) = some (some (.slice none 0 0), 1, 24) := by kernel_rfl
variable {w W W' : World} {tb : Nat} {so : Option Addr} {mb lo hi : Nat} {ks srt : List Ky} {P : Ps} {free : List Int} {empty : Int} {cnt : Nat} {O : Nat → Prop}
/-- What turns is neither the table's nor the schema's. -/
theorem Run.turnQ {Q : Nat → Prop} (h : Run w W tb so mb lo hi ks srt P free empty cnt O) (ht : Turn Q W W') (hQ : ∀ k, Q k → w.heap.size ≤ k ∧ hi ≤ k ∧ ¬ O k) : Run w W' tb so mb lo hi ks srt P free empty cnt O :=
  ⟨h.below.trans (ht.below (fun k hk => (hQ k hk).1) h.below.size), h.tab.turn ht (fun k hk => (hQ k hk).2.2), h.sch.turn ht (fun k hk => (hQ k hk).2.1), h.high, Nat.le_trans h.top ht.size⟩
/-- The ids and the sets, in rows of the law's own. -/
structure Both (w W : World) (hi : Nat) (O : Nat → Prop) (iv sv : Value) (E : List (Int × Sl)) : Prop where
  ids : W.ownsRow w.heap.size 3 1 iv E.length (nums .i64 (E.map (·.1)))
  sets : W.ownsRow w.heap.size 48 1 sv E.length (E.map (·.2.v))
  io : ∀ g, iv.ownBlock = some g → hi ≤ g ∧ ¬ O g
  so : ∀ g, sv.ownBlock = some g → hi ≤ g ∧ ¬ O g
  ne : ∀ g, iv.ownBlock = some g → sv.ownBlock ≠ some g
variable {iv sv v1 v2 : Value} {E : List (Int × Sl)} {w1 w2 : World}
theorem Both.nil (w W : World) (hi : Nat) (O : Nat → Prop) : Both w W hi O (.slice none 0 0) (.slice none 0 0) [] :=
  ⟨⟨rfl, .inl ⟨rfl, rfl⟩⟩, ⟨rfl, .inl ⟨rfl, rfl⟩⟩, fun g h => (by cases h), fun g h => (by cases h), fun g h => (by cases h)⟩
theorem own_ltk {w : World} {B n size : Nat} {e : TypeId} {v : Value} {xs : List Value} (h : w.ownsRow B e size v n xs) : ∀ g, v.ownBlock = some g → g < w.heap.size := fun g hg => by
  obtain ⟨cur, hc⟩ := own_heap h hg
  exact (Array.getElem?_eq_some_iff.1 hc).1
theorem Both.turn (h : Both w W hi O iv sv E) (ht : Turn O W W') : Both w W' hi (Grow O W W') iv sv E :=
  ⟨own_kept h.ids (fun k hk => ht.block k (own_ltk h.ids k hk) (h.io k hk).2), own_kept h.sets (fun k hk => ht.block k (own_ltk h.sets k hk) (h.so k hk).2),
    fun g hg => ⟨(h.io g hg).1, fun hG => hG.elim (h.io g hg).2 (fun h' => by have := own_ltk h.ids g hg; omega)⟩,
    fun g hg => ⟨(h.so g hg).1, fun hG => hG.elim (h.so g hg).2 (fun h' => by have := own_ltk h.sets g hg; omega)⟩, h.ne⟩
theorem Both.below (h : Both w W hi O iv sv E) (hb : Below W.heap.size W W') : Both w W' hi O iv sv E :=
  ⟨own_below h.ids hb, own_below h.sets hb, h.io, h.so, h.ne⟩
theorem Both.mid (h : Both w W hi O iv sv E) (g1 : W.grownBy w1 iv.ownBlock) : w1.ownsRow w.heap.size 48 1 sv E.length (E.map (·.2.v)) :=
  own_kept h.sets (fun k hk => g1.block k (own_ltk h.sets k hk) (fun e => h.ne k e.symm hk))
theorem Both.push {id : Int} {s : Sl} (h : Both w W hi O iv sv E) (hO : ∀ k, O k → k < W.heap.size) (hhi : hi ≤ W.heap.size)
    (o1 : w1.ownsRow w.heap.size 3 1 v1 (E.length + 1) (nums .i64 (E.map (·.1)) ++ nums .i64 [id])) (g1 : W.grownBy w1 iv.ownBlock) (a1 : v1.ownBlock = iv.ownBlock ∨ ∃ b, v1.ownBlock = some b ∧ W.heap.size ≤ b)
    (o2 : w2.ownsRow w.heap.size 48 1 v2 (E.length + 1) (E.map (·.2.v) ++ [s.v])) (g2 : w1.grownBy w2 sv.ownBlock) (a2 : v2.ownBlock = sv.ownBlock ∨ ∃ b, v2.ownBlock = some b ∧ w1.heap.size ≤ b) :
    Both w w2 hi O v1 v2 (E ++ [(id, s)]) := by
  have hs1 := g1.size
  have l1 := own_ltk o1
  have n1 : ∀ g, v1.ownBlock = some g → sv.ownBlock ≠ some g := fun g hg hs => by
    rcases a1 with a1 | ⟨b, a1, hb⟩
    · exact h.ne g (a1 ▸ hg) hs
    · rw [hg] at a1; cases a1; have := own_ltk h.sets g hs; omega
  refine ⟨?_, ?_, fun g hg => ?_, fun g hg => ?_, fun g hg hs => ?_⟩
  · rw [List.length_append, List.map_append, nums_append]
    exact own_kept o1 (fun k hk => g2.block k (l1 k hk) (fun e => n1 k hk e.symm))
  · rw [List.length_append, List.map_append]; exact o2
  · rcases a1 with a1 | ⟨b, a1, hb⟩
    · exact h.io g (a1 ▸ hg)
    · rw [hg] at a1; cases a1; exact ⟨by omega, fun e => by have := hO _ e; omega⟩
  · rcases a2 with a2 | ⟨b, a2, hb⟩
    · exact h.so g (a2 ▸ hg)
    · rw [hg] at a2; cases a2; exact ⟨by omega, fun e => by have := hO _ e; omega⟩
  · rcases a2 with a2 | ⟨b, a2, hb⟩
    · exact n1 g hg (a2 ▸ hs)
    · rw [hs] at a2; cases a2; have := l1 _ hg; omega
/-- What the law has behind k sets that came. -/
def One (w W : World) (tb : Nat) (so : Option Addr) (mb lo hi : Nat) (ks srt : List Ky) (iv sv : Value) (E : List (Int × Sl)) (k : Nat) : Prop :=
  ∃ P free empty cnt O, Run w W tb so mb lo hi ks srt P free empty cnt O ∧ Got P empty (E.map fun q => (q.1, q.2.l)) ∧ Both w W hi O iv sv E ∧ cnt ≤ k ∧ E.length ≤ k
theorem own_wide {W : World} {B n size : Nat} {e : TypeId} {v : Value} {xs : List Value} (h : W.ownsRow B e size v n xs) : ∀ g, v.ownBlock = some g → B ≤ g := own_base h
theorem One.push {id : Int} {s : Sl} {k : Nat} (hR : Run w W tb so mb lo hi ks srt P free empty cnt O) (hG : Got P empty ((E ++ [(id, s)]).map fun q => (q.1, q.2.l))) (h : Both w W hi O iv sv E) (hc : cnt ≤ k + 1) (hE : E.length ≤ k)
    (o1 : w1.ownsRow w.heap.size 3 1 v1 (E.length + 1) (nums .i64 (E.map (·.1)) ++ nums .i64 [id])) (g1 : W.grownBy w1 iv.ownBlock) (a1 : v1.ownBlock = iv.ownBlock ∨ ∃ b, v1.ownBlock = some b ∧ W.heap.size ≤ b)
    (o2 : w2.ownsRow w.heap.size 48 1 v2 (E.length + 1) (E.map (·.2.v) ++ [s.v])) (g2 : w1.grownBy w2 sv.ownBlock) (a2 : v2.ownBlock = sv.ownBlock ∨ ∃ b, v2.ownBlock = some b ∧ w1.heap.size ≤ b) :
    One w w2 tb so mb lo hi ks srt v1 v2 (E ++ [(id, s)]) (k + 1) := by
  have r1 := hR.turnQ (Turn.of_grown (O := fun k => iv.ownBlock = some k) g1 (fun k hk => hk)) (fun k hk => ⟨own_base h.ids k hk, h.io k hk⟩)
  have r2 := r1.turnQ (Turn.of_grown (O := fun k => sv.ownBlock = some k) g2 (fun k hk => hk)) (fun k hk => ⟨own_base h.sets k hk, h.so k hk⟩)
  exact ⟨P, free, empty, cnt, O, r2, hG, h.push (fun k hk => (hR.tab.lt k hk).2) hR.top o1 g1 a1 o2 g2 a2, hc, by rw [List.length_append]; exact Nat.succ_le_succ hE⟩
theorem One.later {k : Nat} (h : One w W tb so mb lo hi ks srt iv sv E k) (hb : Below W.heap.size W W') : One w W' tb so mb lo hi ks srt iv sv E k := by
  obtain ⟨P, free, empty, cnt, O, hR, hG, hB, hc, hE⟩ := h
  exact ⟨P, free, empty, cnt, O, hR.later hb, hG, hB.below hb, hc, hE⟩
theorem One.mono {k k' : Nat} (h : One w W tb so mb lo hi ks srt iv sv E k) (hk : k ≤ k') : One w W tb so mb lo hi ks srt iv sv E k' := by
  obtain ⟨P, free, empty, cnt, O, hR, hG, hB, hc, hE⟩ := h
  exact ⟨P, free, empty, cnt, O, hR, hG, hB, by omega, by omega⟩
/-- The rows as they are read. -/
theorem Both.reads (h : Both w W hi O iv sv E) : ∃ iA ic sA sc, iv = .slice iA E.length ic ∧ sv = .slice sA E.length sc ∧ E.length ≤ ic ∧ E.length ≤ sc ∧
    ∀ (i : Nat) (q : Int × Sl), E[i]? = some q → ∃ ia sa, iA = some ia ∧ sA = some sa ∧ W.cell? (ia.add i) = some (.int .i64 q.1) ∧ W.cell? (sa.add i) = some q.2.v := by
  obtain ⟨iA, ic, h1, h2, _, h3⟩ := Cells.of_own h.ids
  obtain ⟨sA, sc, h4, h5, _, h6⟩ := Cells.of_own h.sets
  refine ⟨iA, ic, sA, sc, h1, h4, h2, h5, fun i q hq => ?_⟩
  have hi := (List.getElem?_eq_some_iff.1 hq).1
  obtain ⟨ia, ha, hc⟩ := h3 (by rw [nums_length, List.length_map]; omega)
  obtain ⟨sa, hsa, hsc⟩ := h6 (by rw [List.length_map]; omega)
  exact ⟨ia, sa, ha, hsa, hc i _ (by simp [nums, hq]), hsc i _ (by simp [hq])⟩
theorem One.cell {k : Nat} {iA sA : Option Addr} {n n' ic sc : Nat} (h : One w W tb so mb lo hi ks srt (.slice iA n ic) (.slice sA n' sc) E k) : ∀ (i : Nat) (q : Int × Sl), E[i]? = some q → ∃ ia sa, iA = some ia ∧ sA = some sa ∧ W.cell? (ia.add i) = some (.int .i64 q.1) ∧ W.cell? (sa.add i) = some (.slice q.2.A q.2.l.length q.2.c) := by
  obtain ⟨P, free, empty, cnt, O, hR, hG, hB, hc, hE⟩ := h
  obtain ⟨iA', ic', sA', sc', e1, e2, _, _, hx⟩ := hB.reads
  injection e1 with e1
  injection e2 with e2
  subst e1 e2
  exact hx
theorem One.set {k : Nat} (h : One w W tb so mb lo hi ks srt iv sv E k) (hk : k ≤ 1000) {q : Int × Sl} (hq : q ∈ E) : Calls Tryd.prog 54 #[.pointer (some ⟨tb, 0, none⟩), .int .i64 q.1] W (SetPost W q.2.l 0) := by
  obtain ⟨P, free, empty, cnt, O, hR, hG, hB, hc, hE⟩ := h
  have hH := hG.holds _ (List.mem_map_of_mem (f := fun q : Int × Sl => (q.1, q.2.l)) hq)
  obtain ⟨d, hd1, hask, hset⟩ := hH.ask
  have h := setM q.1 hR.tab (by omega) (Holds.wf hH hR.tab (by omega))
  simp only at hset hask
  rw [hset, hask] at h
  exact h
theorem One.same {k : Nat} (h : One w W tb so mb lo hi ks srt iv sv E k) {q q' : Int × Sl} (hq : q ∈ E) (hq' : q' ∈ E) : (q.1 = q'.1 ↔ q.2.l = q'.2.l) := by
  obtain ⟨P, free, empty, cnt, O, hR, hG, hB, hc, hE⟩ := h
  exact (hG.holds _ (List.mem_map_of_mem (f := fun q : Int × Sl => (q.1, q.2.l)) hq)).alike hR.tab.pinv (hG.holds _ (List.mem_map_of_mem (f := fun q : Int × Sl => (q.1, q.2.l)) hq'))
theorem One.zero {k : Nat} (h : One w W tb so mb lo hi ks srt iv sv E k) {q : Int × Sl} (hq : q ∈ E) : (q.1 = 0 ↔ q.2.l = []) := by
  obtain ⟨P, free, empty, cnt, O, hR, hG, hB, hc, hE⟩ := h
  exact (hG.holds _ (List.mem_map_of_mem (f := fun q : Int × Sl => (q.1, q.2.l)) hq)).zero
theorem One.below {k : Nat} (h : One w W tb so mb lo hi ks srt iv sv E k) : Below w.heap.size w W := by
  obtain ⟨P, free, empty, cnt, O, hR, _⟩ := h
  exact hR.below
/-- What is left of the rows while the law frees. -/
def Two (w W : World) (tb : Nat) (so : Option Addr) (mb lo hi : Nat) (ks srt : List Ky) (iv sv : Value) (E : List (Int × Sl)) (j k : Nat) : Prop :=
  ∃ P free empty cnt O, Run w W tb so mb lo hi ks srt P free empty cnt O ∧ Left P empty ((E.map (·.1)).drop j) ∧ Both w W hi O iv sv E ∧ cnt ≤ k + j
theorem One.two {k : Nat} (h : One w W tb so mb lo hi ks srt iv sv E k) : Two w W tb so mb lo hi ks srt iv sv E 0 k := by
  obtain ⟨P, free, empty, cnt, O, hR, hG, hB, hc, hE⟩ := h
  refine ⟨P, free, empty, cnt, O, hR, ?_, hB, hc⟩
  have := hG.left
  rw [List.map_map] at this
  exact this
theorem Two.cell {j k : Nat} {iA sA : Option Addr} {n n' ic sc : Nat} (h : Two w W tb so mb lo hi ks srt (.slice iA n ic) (.slice sA n' sc) E j k) : ∀ (i : Nat) (q : Int × Sl), E[i]? = some q → ∃ ia sa, iA = some ia ∧ sA = some sa ∧ W.cell? (ia.add i) = some (.int .i64 q.1) ∧ W.cell? (sa.add i) = some (.slice q.2.A q.2.l.length q.2.c) := by
  obtain ⟨P, free, empty, cnt, O, hR, hG, hB, hc⟩ := h
  obtain ⟨iA', ic', sA', sc', e1, e2, _, _, hx⟩ := hB.reads
  injection e1 with e1
  injection e2 with e2
  subst e1 e2
  exact hx
theorem Two.pop {j k : Nat} (h : Two w W tb so mb lo hi ks srt iv sv E j k) (hk : k + j ≤ 1000) {q : Int × Sl} (hq : E[j]? = some q) : Calls Tryd.prog 37 #[.pointer (some ⟨tb, 0, none⟩), .int .i64 q.1] W fun e W' => e = .returned (.int .i64 0) ∧ Two w W' tb so mb lo hi ks srt iv sv E (j + 1) k := by
  obtain ⟨P, free, empty, cnt, O, hR, hL, hB, hc⟩ := h
  have hd : (E.map (·.1)).drop j = q.1 :: (E.map (·.1)).drop (j + 1) := by
    have hj := (List.getElem?_eq_some_iff.1 hq)
    rw [List.drop_eq_getElem_cons (by rw [List.length_map]; exact hj.1)]
    obtain ⟨h1, h2⟩ := hj
    simp [h2]
  rw [hd] at hL
  have hw : (Lit.int .i64 q.1).wf = true := by
    have := hR.tab.len
    rcases hL.at_ q.1 (by simp) with h | ⟨i, h, h'⟩
    · rw [h]; decide
    · rw [h']; exact WalkArith.wf_i64 (by omega)
  obtain ⟨P', free', empty', hf, hL'⟩ := hL.pop hR.tab.pinv
  exact (run_free q.1 hR (by omega) hw hf).mono fun e W' hp => ⟨hp.1, P', free', empty', cnt + 1, _, hp.2.1, hL', hB.turn hp.2.2, by omega⟩
theorem Two.out {j k : Nat} (h : Two w W tb so mb lo hi ks srt iv sv E j k) (hj : j = E.length) : ∃ P free cnt O, Run w W tb so mb lo hi ks srt P free 0 cnt O ∧ free.length = P.length ∧ cnt ≤ k + j := by
  obtain ⟨P, free, empty, cnt, O, hR, hL, hB, hc⟩ := h
  rw [List.drop_eq_nil_of_le (by rw [List.length_map]; omega)] at hL
  obtain ⟨h1, h2⟩ := hL.out hR.tab.pinv
  subst h2
  exact ⟨P, free, cnt, O, hR, h1, hc⟩
end Go.Proofs.YtaejlgdmalhhnaaDoor
