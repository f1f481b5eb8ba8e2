/- How the script of calls that a caller hands in is opened, with a bound on its texts. -/
import Derived.Test.YtaejlgdmalhhnaaDoorFa
import Derived.Test.YtaejlgdmalhhnaaDoorEi
set_option linter.unusedVariables false
set_option linter.unusedSimpArgs false
set_option linter.constructorNameAsVariable false
namespace Go.Proofs.YtaejlgdmalhhnaaDoor
open Go.ChangeShapes Go.WideShapes Go.ChangeAt Go.RowKit Go.Deep

/-- A part's bulk is at most the whole's. -/
theorem bulk_part {H : Type} {d : DataW H} {l : List (DataW H)} (h : d ∈ l) : Rows.uptoBulk d ≤ Rows.uptoBulkAll l := by
  induction l with
  | nil => cases h
  | cons x r ih =>
    simp only [Rows.uptoBulkAll]
    cases List.mem_cons.1 h with
    | inl e => subst e; omega
    | inr e => have := ih e; omega
theorem bulk_agg {H : Type} {d : DataW H} {l : List (DataW H)} {b : Nat} (h : d ∈ l) (hb : Rows.uptoBulk (.agg l) ≤ b) : Rows.uptoBulk d ≤ b := by
  have h1 := bulk_part h
  simp only [Rows.uptoBulk] at hb
  omega
theorem bulk_slice {H : Type} {d : DataW H} {l r : List (DataW H)} {b : Nat} (h : d ∈ l) (hb : Rows.uptoBulk (.slice l r) ≤ b) : Rows.uptoBulk d ≤ b := by
  have h1 := bulk_part h
  simp only [Rows.uptoBulk] at hb
  omega
section
variable {H : Type} {enc : TypeId × Value → H} {P : Program} {w : World} {base : Nat} {spare : Nat → Bool} {held : Bool} {b : Nat}
/-- A slice whose elements are told by their cells. -/
theorem open_elemsB {α : Type} (R : List Value → α → Prop) {t e : TypeId} {C fuel : Nat} {cs : List Value} {x : DataW H × List MemPlace} (ht : P.underlying t = some (.slice e)) (hC : P.cellsOf e = C)
    (hR : ∀ n cs y, DataW.trod enc P w base spare held n e cs = some y → Rows.uptoBulk y.1 ≤ b → ∃ a, R cs a) (h : DataW.trod enc P w base spare held fuel t cs = some x) (hbk : Rows.uptoBulk x.1 ≤ b) :
    ∃ (A : Option Addr) (cap : Nat) (xs : List α), cs = [.slice A xs.length cap] ∧ xs.length ≤ cap ∧ cap ≤ maxLen ∧ (A = none → xs = [] ∧ cap = 0) ∧
      ∀ ad, A = some ad → ∀ j a, xs[j]? = some a → ∃ cs', R cs' a ∧ ∀ i v, cs'[i]? = some v → w.cell? (ad.add (j * C + i)) = some v := by
  rcases open_slice ht h with ⟨rfl, _⟩ | ⟨a, len, cap, m, n, D, Pl, rfl, hb, hl, hm, hmm, hx, hi⟩
  · exact ⟨none, 0, [], rfl, Nat.le_refl _, by simp [maxLen], fun _ => ⟨rfl, rfl⟩, fun ad h => (by cases h)⟩
  · have hlm : len ≤ m := by rw [hmm]; split <;> omega
    have hex : ∀ i : Nat, i < len → ∃ a' : α, ∃ cs', R cs' a' ∧ ∀ j v, cs'[j]? = some v → w.cell? (a.add (i * C + j)) = some v := by
      intro i hil
      obtain ⟨cs', hc, ht'⟩ := hi i (by omega)
      rw [hC] at hc
      obtain ⟨a', ha⟩ := hR n cs' _ ht' (bulk_slice (List.mem_map.2 ⟨i, List.mem_range.2 hil, rfl⟩) (by rw [hx] at hbk; exact hbk))
      obtain ⟨_, hcl, hat⟩ := World.cells?_some hc
      refine ⟨a', cs', ha, fun j v hj => ?_⟩
      have hjl : j < C := by have := (List.getElem?_eq_some_iff.1 hj).1; omega
      have h1 := hat j hjl
      rw [Go.Deep.add_add] at h1
      rw [h1]; exact hj
    have hli : ∀ k : Nat, k ≤ len → ∃ xs : List α, xs.length = k ∧ ∀ j a', xs[j]? = some a' → ∃ cs', R cs' a' ∧ ∀ i v, cs'[i]? = some v → w.cell? (a.add (j * C + i)) = some v := by
      intro k
      induction k with
      | zero => intro _; exact ⟨[], rfl, fun j a' h => by simp at h⟩
      | succ k ih =>
        intro hk
        obtain ⟨xs, hxl, hxs⟩ := ih (by omega)
        obtain ⟨a', ha'⟩ := hex k (by omega)
        refine ⟨xs ++ [a'], by simp [hxl], fun j b hj => ?_⟩
        by_cases hjk : j < xs.length
        · rw [List.getElem?_append_left hjk] at hj
          exact hxs j b hj
        · rw [List.getElem?_append_right (by omega)] at hj
          have : j - xs.length = 0 := by
            rcases Nat.eq_zero_or_pos (j - xs.length) with h | h
            · exact h
            · rw [List.getElem?_eq_none (by simp; omega)] at hj; cases hj
          rw [this] at hj
          simp at hj
          subst hj
          have e : j = k := by omega
          rw [e]
          exact ha'
    obtain ⟨xs, hxl, hxs⟩ := hli len (Nat.le_refl _)
    exact ⟨some a, cap, xs, by rw [hxl], by omega, hm, fun h => (by cases h), fun ad h j a' hj => (by cases h; exact hxs j a' hj)⟩
theorem trod_str1B {t : TypeId} {n : Nat} {v : Value} {y : DataW H × List MemPlace} (ht : P.underlying t = some .string) (h : DataW.trod enc P w base spare held n t [v] = some y) (hb : Rows.uptoBulk y.1 ≤ b) :
    ∃ s : ByteArray, v = .string s ∧ s.size ≤ b := by
  cases n with
  | zero => simp [DataW.trod] at h
  | succ n =>
    cases v <;> simp [DataW.trod, ht] at h
    rename_i s
    refine ⟨s, rfl, ?_⟩
    obtain ⟨_, h⟩ := h
    rw [← h] at hb
    simp only [Rows.uptoBulk] at hb
    simp at hb
    omega
end
section
variable {H : Type} {enc : TypeId × Value → H} {w : World} {base : Nat} {spare : Nat → Bool} {held : Bool} {n b : Nat} {cs : List Value} {y : DataW H × List MemPlace}
set_option maxRecDepth 100000 in
theorem trod_valB (h : DataW.trod enc Tryd.prog w base spare held n 56 cs = some y) (hb : Rows.uptoBulk y.1 ≤ b) : ∃ v : Val, cs = v.cells ∧ (Lit.int .u8 v.k).wf = true ∧ (Lit.int .i64 v.n).wf = true ∧ v.f < 18446744073709551616 ∧ v.s.size ≤ b := by
  obtain ⟨xs, n', _, hy, hlen, hx, hf⟩ := DataW.trod_struct Tryd.underlying56 h
  rw [cells56] at hlen
  match cs, hlen with
  | [c0, c1, c2, c3], _ =>
    have hx4 : xs.length = 4 := hx
    have g : ∀ i, i < 4 → ∃ y, xs[i]? = some y := fun i hi => ⟨_, List.getElem?_eq_getElem (by omega)⟩
    have h0 := hf 0 _ rfl
    have h1 := hf 1 _ rfl
    have h2 := hf 2 _ rfl
    have h3 := hf 3 _ rfl
    obtain ⟨y0, e0⟩ := g 0 (by omega)
    obtain ⟨y1, e1⟩ := g 1 (by omega)
    obtain ⟨y2, e2⟩ := g 2 (by omega)
    obtain ⟨y3, e3⟩ := g 3 (by omega)
    simp only [cells5, cells2, cells54, cells9, e0, e1, e2, e3, List.drop_zero, List.drop_succ_cons, List.take_succ_cons, List.take_zero] at h0 h1 h2 h3
    obtain ⟨k, rfl, w0⟩ := trod_int1 Tryd.underlying5 h0
    obtain ⟨m, rfl, w1⟩ := trod_int1 Tryd.underlying2 h1
    obtain ⟨f, rfl, w2⟩ := trod_int1 Tryd.underlying54 h2
    obtain ⟨s, rfl, hs⟩ := trod_str1B Tryd.underlying9 h3 (bulk_agg (List.mem_map.2 ⟨y3, List.mem_of_getElem? e3, rfl⟩) (by rw [hy] at hb; exact hb))
    have hf := wf_u64 w2
    refine ⟨⟨k, m, f.toNat, s⟩, ?_, w0, w1, ?_, hs⟩
    · unfold Val.cells; simp only; rw [Int.toNat_of_nonneg hf.1]
    · show f.toNat < 18446744073709551616; omega
set_option maxRecDepth 100000 in
theorem trod_attrB (h : DataW.trod enc Tryd.prog w base spare held n 58 cs = some y) (hb : Rows.uptoBulk y.1 ≤ b) : ∃ a : At, cs = a.cells ∧ (a.wfA ∧ a.v.s.size ≤ b) := by
  obtain ⟨xs, n', _, hy, hlen, hx, hf⟩ := DataW.trod_struct Tryd.underlying58 h
  rw [cells58] at hlen
  match cs, hlen with
  | [c0, c1, c2, c3, c4], _ =>
    have hx2 : xs.length = 2 := hx
    have g : ∀ i, i < 2 → ∃ y, xs[i]? = some y := fun i hi => ⟨_, List.getElem?_eq_getElem (by omega)⟩
    have h0 := hf 0 _ rfl
    have h1 := hf 1 _ rfl
    obtain ⟨y0, e0⟩ := g 0 (by omega)
    obtain ⟨y1, e1⟩ := g 1 (by omega)
    simp only [cells3, cells56, e0, e1, List.drop_zero, List.drop_succ_cons, List.take_succ_cons, List.take_zero] at h0 h1
    obtain ⟨k, rfl, w0⟩ := trod_int1 Tryd.underlying3 h0
    obtain ⟨v, hv, _, wn, wf, ws⟩ := trod_valB h1 (bulk_agg (List.mem_map.2 ⟨y1, List.mem_of_getElem? e1, rfl⟩) (by rw [hy] at hb; exact hb))
    have hv' : [c1, c2, c3, c4] = v.cells := hv
    exact ⟨⟨k, v⟩, by unfold At.cells; rw [hv']; rfl, ⟨w0, wn, wf⟩, ws⟩
set_option maxRecDepth 100000 in
theorem trod_attrsB (h : DataW.trod enc Tryd.prog w base spare held n 48 cs = some y) (hb : Rows.uptoBulk y.1 ≤ b) : ∃ (A : Option Addr) (cap : Nat) (l : List At), cs = [.slice A l.length cap] ∧ l.length ≤ cap ∧ l.length ≤ 9223372036854775807 ∧ (A = none → cap = 0) ∧ ASrc w A l ∧ ∀ a ∈ l, a.wfA ∧ a.v.s.size ≤ b := by
  obtain ⟨A, cap, l, rfl, hl, hm, hA, hx⟩ := open_elemsB (b := b) (fun cs (a : At) => cs = a.cells ∧ (a.wfA ∧ a.v.s.size ≤ b)) Tryd.underlying48 cells58 (fun n cs y h hb => trod_attrB h hb) h hb
  simp only [maxLen] at hm
  refine ⟨A, cap, l, rfl, hl, by omega, fun h => (hA h).2, ⟨fun h => (hA h).1, fun ad h j a hj i v hi => ?_⟩, fun a ha => ?_⟩
  · obtain ⟨cs', ⟨rfl, _⟩, hc⟩ := hx ad h j a hj
    exact hc i v hi
  · obtain ⟨j, hj, rfl⟩ := List.mem_iff_getElem.1 ha
    rcases A with _ | ad
    · rw [(hA rfl).1] at hj; exact absurd hj (by simp)
    · obtain ⟨cs', ⟨_, hw⟩, _⟩ := hx ad rfl j _ (List.getElem?_eq_getElem hj)
      exact hw
def Opc.cells (x : Opc) : List Value := [.int .i64 x.kind, .int .i64 x.id, x.s.v]
def Opc.ok (W : World) (b : Nat) (x : Opc) : Prop := x.s.ok W ∧ (∀ a ∈ x.s.l, a.v.s.size ≤ b) ∧ (Lit.int .i64 x.id).wf = true
theorem cells50 : Tryd.prog.cellsOf 50 = 3 := by kernel_rfl
set_option maxRecDepth 100000 in
theorem trod_op (h : DataW.trod enc Tryd.prog w base spare held n 50 cs = some y) (hb : Rows.uptoBulk y.1 ≤ b) : ∃ x : Opc, cs = x.cells ∧ x.ok w b := by
  obtain ⟨xs, n', _, hy, hlen, hx, hf⟩ := DataW.trod_struct Tryd.underlying50 h
  rw [cells50] at hlen
  match cs, hlen with
  | [c0, c1, c2], _ =>
    have hx3 : xs.length = 3 := hx
    have g : ∀ i, i < 3 → ∃ y, xs[i]? = some y := fun i hi => ⟨_, List.getElem?_eq_getElem (by omega)⟩
    have h0 := hf 0 _ rfl
    have h1 := hf 1 _ rfl
    obtain ⟨y0, e0⟩ := g 0 (by omega)
    obtain ⟨y1, e1⟩ := g 1 (by omega)
    obtain ⟨y2, e2⟩ := g 2 (by omega)
    have h2' : DataW.trod enc Tryd.prog w base spare held n' 48 (List.take (Tryd.prog.cellsOf 48) (List.drop 2 [c0, c1, c2])) = some y2 := (hf 2 _ rfl).trans e2
    rw [cells48] at h2'
    have h2 : DataW.trod enc Tryd.prog w base spare held n' 48 [c2] = some y2 := h2'
    simp only [cells3, cells48, e0, e1, e2, List.drop_zero, List.drop_succ_cons, List.take_succ_cons, List.take_zero] at h0 h1
    obtain ⟨kd, rfl, w0⟩ := trod_int1 Tryd.underlying3 h0
    obtain ⟨id, rfl, w1⟩ := trod_int1 Tryd.underlying3 h1
    obtain ⟨A, c, l, hc, r1, r2, r3, r4, r5⟩ := trod_attrsB h2 (bulk_agg (List.mem_map.2 ⟨y2, List.mem_of_getElem? e2, rfl⟩) (by rw [hy] at hb; exact hb))
    obtain rfl : c2 = .slice A l.length c := by simpa using hc
    exact ⟨⟨kd, id, ⟨A, c, l⟩⟩, rfl, ⟨r1, r2, r3, r4, fun a ha => (r5 a ha).1⟩, fun a ha => (r5 a ha).2, w1⟩
end
set_option maxRecDepth 100000 in
theorem open_ops {H : Type} {enc : TypeId × Value → H} {W : World} {base b : Nat} {v : Value} {d : DataW H} {p : List MemPlace} (hv : Value.okWide Tryd.prog W .any base 36 v) (h : DataW.Trod enc Tryd.prog W 0 (fun _ => true) true 36 v d p) (hb : Rows.uptoBulk d ≤ b) :
    ∃ (A : Option Addr) (cap : Nat) (L : List Opc), v = .slice A L.length cap ∧ L.length ≤ cap ∧ L.length ≤ 9223372036854775807 ∧ (A = none → cap = 0) ∧ OSrc W A L ∧ ∀ x ∈ L, x.ok W b := by
  obtain ⟨a0, len, cap, rfl⟩ := okWide_slice Tryd.underlying36 hv
  obtain ⟨fuel, hf⟩ := h
  obtain ⟨A, cap', L, hcs, hl, hm, hA, hx⟩ := open_elemsB (b := b) (fun cs (x : Opc) => cs = x.cells ∧ x.ok W b) Tryd.underlying36 cells50 (fun n cs y h hb => trod_op h hb) hf hb
  simp only [maxLen] at hm
  simp [Value.cells] at hcs
  obtain ⟨rfl, rfl, rfl⟩ := hcs
  refine ⟨a0, cap, L, rfl, hl, by omega, fun h => (hA h).2, ⟨fun h => (hA h).1, fun ad h j x hj => ?_⟩, fun x hx' => ?_⟩
  · obtain ⟨cs', ⟨rfl, _⟩, hc⟩ := hx ad h j x hj
    have q : ∀ i v, x.cells[i]? = some v → W.cell? ((ad.add (j * 3)).add i) = some v := fun i v hi => by rw [addr_add_add]; exact hc i v hi
    have q0 := q 0 _ rfl
    have q1 := q 1 _ rfl
    have q2 := q 2 _ rfl
    exact ⟨by simpa using hc 0 _ rfl, q1, q2⟩
  · obtain ⟨j, hj, rfl⟩ := List.mem_iff_getElem.1 hx'
    rcases a0 with _ | ad
    · rw [(hA rfl).1] at hj; exact absurd hj (by simp)
    · obtain ⟨cs', ⟨_, hw⟩, _⟩ := hx ad rfl j _ (List.getElem?_eq_getElem hj)
      exact hw
theorem internPlays_walk (A : Option Addr) (c : Nat) (ks : List Ky) (AL : Option Addr) (cL : Nat) (L : List Opc) (w : World) (hc : ks.length ≤ c) (hl : ks.length ≤ 9223372036854775807) (hA : A = none → c = 0) (hS : KSrc w A ks) (hwf : ∀ k ∈ ks, (Lit.int .i64 k.id).wf = true) (hcL : L.length ≤ cL) (hLl : L.length ≤ 9223372036854775807) (hLS : OSrc w AL L) (hLo : ∀ x ∈ L, x.ok w 1048576) (hT : Lib.Utf8Tabs 1 2 w) :
    Calls Tryd.prog 7 #[.slice A ks.length c, .slice AL L.length cL] w fun e w' => e = .returned (.bool true) ∧ Below w.heap.size w w' := by
  by_cases hk : okKs ks = false ∨ 100 < L.length
  · exact plays_known A c ks AL cL L.length w hc hl hA hS hwf hT hLl hk
  · have h1 : okKs ks = true := by
      cases h : okKs ks with
      | false => exact absurd (.inl h) hk
      | true => rfl
    exact plays_in A c ks AL cL L w hc hl hA hS hwf hT hcL hLS (fun x hx => ⟨(hLo x hx).1, (hLo x hx).2.1, (hLo x hx).2.2⟩) h1 (by have := fun h => hk (.inr h); omega)
end Go.Proofs.YtaejlgdmalhhnaaDoor
