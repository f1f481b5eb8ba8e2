/- What stays: blocks of a range; a look-up by its run equation; a schema in memory. -/
import Derived.Test.YtaejlgdmalhhnaaSf
import Derived.Test.YtaejlgdmalhhnaaSp
set_option linter.unusedVariables false
set_option linter.unusedSimpArgs false
namespace Go.Proofs.Ytaejlgdmalhhnaa
open Go.RowKit Go.Maps

/-- The blocks from lo up to hi are as they were. -/
structure Stays (lo hi : Nat) (w w' : World) : Prop where
  size : w.heap.size ≤ w'.heap.size
  block : ∀ k, lo ≤ k → k < hi → w'.heap[k]? = w.heap[k]?
theorem Stays.of_below {lo hi : Nat} {w w' : World} (hb : Below w.heap.size w w') (h : hi ≤ w.heap.size) : Stays lo hi w w' := ⟨hb.size, fun k _ hk => hb.block k (by omega)⟩
theorem Stays.of_below' {B lo hi : Nat} {w w' : World} (hb : Below B w w') (h : hi ≤ B) : Stays lo hi w w' := ⟨hb.size, fun k _ hk => hb.block k (by omega)⟩
theorem Stays.of_grown {lo hi : Nat} {w w' : World} {row : Option Nat} (hg : w.grownBy w' row) (h : hi ≤ w.heap.size) (hr : ∀ k, row = some k → k < lo ∨ hi ≤ k) : Stays lo hi w w' :=
  ⟨hg.size, fun k h1 h2 => hg.block k (by omega) (fun e => by have := hr k e.symm; omega)⟩
theorem Stays.trans {lo hi : Nat} {a b c : World} (h : Stays lo hi a b) (k : Stays lo hi b c) : Stays lo hi a c := ⟨Nat.le_trans h.size k.size, fun i h1 h2 => (k.block i h1 h2).trans (h.block i h1 h2)⟩
theorem Stays.cell {lo hi : Nat} {w w' : World} (h : Stays lo hi w w') {a : Addr} (h1 : lo ≤ a.block) (h2 : a.block < hi) : w'.cell? a = w.cell? a := World.cell?_of_block (h.block _ h1 h2)
theorem Stays.setCell {lo hi : Nat} (w : World) {a : Addr} (v : Value) (h : a.block < lo ∨ hi ≤ a.block) : Stays lo hi w (w.setCell a v) :=
  ⟨by simp [World.setCell], fun k h1 h2 => Below.heap_setCell _ _ _ _ (by omega)⟩
theorem KMap.stays {lo hi : Nat} {w w' : World} {b : Nat} {ks : List Ky} (h : KMap w b ks) (hs : Stays lo hi w w') (h1 : lo ≤ b) (h2 : b < hi) : KMap w' b ks := by
  obtain ⟨n, D, ⟨es, clock, hh, r⟩, q⟩ := h
  exact ⟨n, D, ⟨es, clock, (hs.block b h1 h2).trans hh, r⟩, q⟩
theorem KMap.grown {w w' : World} {row : Option Nat} {b : Nat} {ks : List Ky} (h : KMap w b ks) (hg : w.grownBy w' row) (hne : some b ≠ row) : KMap w' b ks := by
  obtain ⟨n, D, ho, r⟩ := h
  exact ⟨n, D, ho.kept hg hne, r⟩
theorem KMap.lt {w : World} {b : Nat} {ks : List Ky} (h : KMap w b ks) : b < w.heap.size := by
  obtain ⟨n, D, ho, r⟩ := h
  exact ho.lt
theorem addr_block (a : Addr) (n : Nat) : (a.add n).block = a.block := by unfold Addr.add; split <;> rfl
theorem KSrc.stays {lo hi : Nat} {w w' : World} {A : Option Addr} {ks : List Ky} (h : KSrc w A ks) (hs : Stays lo hi w w') (ha : ∀ a, A = some a → lo ≤ a.block ∧ a.block < hi) : KSrc w' A ks := by
  refine ⟨h.1, fun ad he j k hj i v hi => ?_⟩
  have := ha ad he
  rw [hs.cell (by rw [addr_block]; omega) (by rw [addr_block]; omega)]
  exact h.2 ad he j k hj i v hi
theorem setCell_grown (w : World) (a : Addr) (v : Value) : w.grownBy (w.setCell a v) (some a.block) :=
  ⟨rfl, rfl, rfl, by simp [World.setCell], fun k _ hk => Below.heap_setCell _ _ _ _ (fun e => hk (by rw [e]))⟩

section
variable {P : Program} {ops : Array Oper} {rest : List Oper} {o : Oper} {a : Act} {w : World} {Q : Exit → Act → World → Prop}
/-- A look-up, by its run equation. -/
theorem lookup_run (hg : o.guard = none) (m x : Operand) (t : TypeId) (mv kv v : Value) (hop : o.op = Op.lookup t m x true) (hm : a.eval m = mv) (hx : a.eval x = kv) (hrun : (Instr.lookup t mv kv true).run P w = .ok v w)
    (hK : wpList P ops Q rest (a.put o.dst v) w) : wpList P ops Q (o :: rest) a w := by
  refine wpList_plain hg fun K' hK' => ?_
  unfold Oper.wp
  simp [execOp, hop, hm, hx, hrun, Result.andThen]
  exact hK' _ _ hK
end

section
variable {P : Program} {ops : Array Oper} {rest : List Oper} {o : Oper} {a : Act} {Q : Exit → Act → World → Prop}
/-- append(v, y0, y1, ..), the box's block spelled as the walk has it. -/
theorem app_lit2 {w0 W : World} (g base : Nat) (hg : g = W.heap.size) (hgd : o.guard = none) (s x : Operand) (t e : TypeId) (z : Value) (size bytes : Nat) (cs : Array Value)
    (ho : o.op = .call { callee := .builtin .append, args := #[s, x], argTypes := #[t, t] })
    (ht : P.underlying t = some (.slice e)) (hinfo : (P.info? e).map (fun i => (i.zero, i.size, i.bytes)) = some (some z, size, bytes)) (hz : z.cells.size = size) (hsz : 0 < size)
    (v : Value) (n m : Nat) (xs ys : List Value) (hs : a.eval s = v) (hx : a.eval x = .slice (some ⟨g, 0, none⟩) m m) (hcs : cs.toList = ys) (hy : ys.length = m * size) (h1 : ∀ u ∈ ys, u.oneCell' = true)
    (HO : W.ownsRow base e size v n xs) (HB : Below base w0 W) (hbase : base ≤ W.heap.size) (h63 : n + m ≤ 9223372036854775807) (hl : (n + m) * bytes ≤ 140737488355328)
    (h : ∀ v1 w1, w1.ownsRow base e size v1 (n + m) (xs ++ ys) → Below base w0 w1 → W.grownBy w1 v.ownBlock → (v1.ownBlock = v.ownBlock ∨ ∃ b, v1.ownBlock = some b ∧ W.heap.size ≤ b) → wpList P ops Q rest (a.put o.dst v1) w1) :
    wpList P ops Q (o :: rest) a (W.alloc (.cells cs e)) := by
  subst hg
  exact app_lit base hgd s x t e z size bytes cs ho ht hinfo hz hsz v n m xs ys hs hx hcs hy h1 HO HB hbase h63 hl h
end
/-- What a field of map type holds: nil, or a map of keys. -/
def MapV (lo hi : Nat) (w : World) (m : Value) (ks : List Ky) : Prop := (m = .map none ∧ ks = []) ∨ ∃ b, m = .map (some b) ∧ lo ≤ b ∧ b < hi ∧ KMap w b ks
theorem MapV.stays {lo hi : Nat} {w w' : World} {m : Value} {ks : List Ky} (h : MapV lo hi w m ks) (hs : Stays lo hi w w') : MapV lo hi w' m ks := by
  rcases h with ⟨rfl, rfl⟩ | ⟨b, rfl, h1, h2, hk⟩
  · exact .inl ⟨rfl, rfl⟩
  · exact .inr ⟨b, rfl, h1, h2, hk.stays hs h1 h2⟩
theorem MapV.look {lo hi : Nat} {w : World} {m : Value} {ks : List Ky} (h : MapV lo hi w m ks) {id : Int} (hw : (Lit.int .i64 id).wf = true) :
    (Instr.lookup 37 m (.int .i64 id) true).run Try.prog w = .ok (.tuple #[((findK ks id).getD zeroK).v, .bool (findK ks id).isSome]) w := by
  rcases h with ⟨rfl, rfl⟩ | ⟨b, rfl, _, _, hk⟩
  · exact look_nil (w := w) true keyed3 Try.underlying37 (zero97 w) (keyOf_int_mk Try.underlying3 hw)
  · exact hk.look hw
/-- A schema that is there: its two fields. -/
structure SchAt (lo hi : Nat) (w : World) (g : Nat) (A : Option Addr) (c : Nat) (m : Value) (ks srt : List Ky) : Prop where
  ge : lo ≤ g
  lt : g < hi
  top : hi ≤ w.heap.size
  c0 : w.cell? ⟨g, 0, none⟩ = some (.slice A srt.length c)
  cm : w.cell? ⟨g, 1, none⟩ = some m
  map : MapV lo hi w m ks
  src : KSrc w A srt
  at_ : ∀ a, A = some a → lo ≤ a.block ∧ a.block < hi
  nil : A = none → srt = [] ∧ c = 0
  cap : srt.length ≤ c
theorem SchAt.stays {lo hi : Nat} {w w' : World} {g : Nat} {A : Option Addr} {c : Nat} {m : Value} {ks srt : List Ky} (h : SchAt lo hi w g A c m ks srt) (hs : Stays lo hi w w') : SchAt lo hi w' g A c m ks srt :=
  ⟨h.ge, h.lt, Nat.le_trans h.top hs.size, (hs.cell h.ge h.lt).trans h.c0, (hs.cell h.ge h.lt).trans h.cm, h.map.stays hs, h.src.stays hs h.at_, h.at_, h.nil, h.cap⟩
/-- What a value of type *Schema stands for: its keys as they came, and by rising IDs. -/
def Sch (lo hi : Nat) (w : World) (v : Value) (ks srt : List Ky) : Prop :=
  (v = .pointer none ∧ ks = [] ∧ srt = []) ∨ ∃ g A c m, v = .pointer (some ⟨g, 0, none⟩) ∧ SchAt lo hi w g A c m ks srt
theorem Sch.stays {lo hi : Nat} {w w' : World} {v : Value} {ks srt : List Ky} (h : Sch lo hi w v ks srt) (hs : Stays lo hi w w') : Sch lo hi w' v ks srt := by
  rcases h with h | ⟨g, A, c, m, hv, h⟩
  · exact .inl h
  · exact .inr ⟨g, A, c, m, hv, h.stays hs⟩
theorem Sch.below {lo hi : Nat} {w w' : World} {v : Value} {ks srt : List Ky} (h : Sch lo hi w v ks srt) (hb : Below w.heap.size w w') : Sch lo hi w' v ks srt := by
  rcases h with h | ⟨g, A, c, m, hv, h⟩
  · exact .inl h
  · exact .inr ⟨g, A, c, m, hv, h.stays (Stays.of_below hb h.top)⟩
end Go.Proofs.Ytaejlgdmalhhnaa
