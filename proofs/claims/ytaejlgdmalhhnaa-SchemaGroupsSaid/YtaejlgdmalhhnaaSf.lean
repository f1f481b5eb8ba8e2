/- Layer 4: New. -/
import Derived.Test.YtaejlgdmalhhnaaSe
import Derived.Lib.SmallJoins
set_option linter.unusedVariables false
set_option linter.unusedSimpArgs false
namespace Go.Proofs.Ytaejlgdmalhhnaa
open Go.RowKit Go.Maps

/-- A row of keys that a slice shows. -/
def KSrc (w : World) (A : Option Addr) (ks : List Ky) : Prop := (A = none → ks = []) ∧ ∀ ad, A = some ad → ∀ j k, ks[j]? = some k → ∀ i v, k.cells[i]? = some v → w.cell? (ad.add (j * 6 + i)) = some v
def okPre (ks : List Ky) : Prop := (∀ k ∈ ks, mayK k = true) ∧ ks.Pairwise (fun a b => a.id ≠ b.id)
instance (ks : List Ky) : Decidable (okPre ks) := by unfold okPre; infer_instance
def okKs (ks : List Ky) : Bool := decide (ks.length ≤ 64) && decide (okPre ks)
theorem KSrc.cells {w : World} {A : Option Addr} {ks : List Ky} (h : KSrc w A ks) : Cells w A (kcells ks) := by
  intro h0
  rcases A with _ | ad
  · have := h.1 rfl; subst this; simp [kcells] at h0
  · refine ⟨ad, rfl, fun t u ht => ?_⟩
    have hl := (List.getElem?_eq_some_iff.1 ht).1
    rw [kcells_length] at hl
    have hj : t / 6 < ks.length := by omega
    have key : ∀ (l : List Ky) (t : Nat) (u : Value), (kcells l)[t]? = some u → ∃ k, l[t / 6]? = some k ∧ k.cells[t % 6]? = some u := by
      intro l
      induction l with
      | nil => intro t u h; simp [kcells] at h
      | cons k r ih =>
        intro t u h
        have e : kcells (k :: r) = k.cells ++ kcells r := by simp [kcells]
        rw [e] at h
        by_cases h6 : t < 6
        · rw [List.getElem?_append_left (by rw [cells_len]; exact h6)] at h
          refine ⟨k, ?_, ?_⟩
          · rw [Nat.div_eq_of_lt h6]; rfl
          · rw [Nat.mod_eq_of_lt h6]; exact h
        · rw [List.getElem?_append_right (by rw [cells_len]; omega), cells_len] at h
          obtain ⟨k', h1, h2⟩ := ih _ _ h
          refine ⟨k', ?_, ?_⟩
          · have : t / 6 = (t - 6) / 6 + 1 := by omega
            rw [this]; exact h1
          · have : t % 6 = (t - 6) % 6 := by omega
            rw [this]; exact h2
    obtain ⟨k, h1, h2⟩ := key ks t u ht
    have := h.2 ad rfl _ _ h1 _ _ h2
    have e : t / 6 * 6 + t % 6 = t := by omega
    rw [e] at this
    exact this
theorem own_form {w : World} {B n : Nat} {e : TypeId} {size : Nat} {v : Value} {xs : List Value} (h : w.ownsRow B e size v n xs) : ∃ A c, v = .slice A n c ∧ (∀ blk, v.ownBlock = some blk → blk < w.heap.size) := by
  have hlt : ∀ blk, v.ownBlock = some blk → blk < w.heap.size := by
    intro blk hb
    rcases h.2 with ⟨rfl, _⟩ | ⟨g, cap, cur, rfl, _, hh, _⟩
    · cases hb
    · cases hb
      exact (Array.getElem?_eq_some_iff.1 hh).1
  rcases Go.Joins.ownsRow_forms h with ⟨rfl, rfl⟩ | ⟨g, cap, rfl⟩
  · exact ⟨none, 0, rfl, hlt⟩
  · exact ⟨some ⟨g, 0, none⟩, cap, rfl, hlt⟩
/-- The six cells of one key of a row, as the walk spells them. -/
theorem KSrc.six {w : World} {ad : Addr} {ks : List Ky} (h : KSrc w (some ad) ks) {k : Nat} {x : Ky} (hk : ks[k]? = some x) :
    w.cell? (ad.add (k * 6)) = some (.int .i64 x.id) ∧ w.cell? ⟨(ad.add (k * 6)).block, (ad.add (k * 6)).off + 1, none⟩ = some (.bool x.bl) ∧ w.cell? ⟨(ad.add (k * 6)).block, (ad.add (k * 6)).off + 2, none⟩ = some (.int .u8 x.kd) ∧ w.cell? ⟨(ad.add (k * 6)).block, (ad.add (k * 6)).off + 3, none⟩ = some (.bool x.af) ∧ w.cell? ⟨(ad.add (k * 6)).block, (ad.add (k * 6)).off + 4, none⟩ = some (.bool x.be) ∧ w.cell? ⟨(ad.add (k * 6)).block, (ad.add (k * 6)).off + 5, none⟩ = some (.int .i64 x.gr) := by
  have g : ∀ i v, x.cells[i]? = some v → w.cell? ((ad.add (k * 6)).add i) = some v := by
    intro i v hi
    rw [addr_add_add]
    exact h.2 ad rfl k x hk i v hi
  exact ⟨g 0 _ rfl, g 1 _ rfl, g 2 _ rfl, g 3 _ rfl, g 4 _ rfl, g 5 _ rfl⟩
theorem KSrc.below {w w1 : World} {A : Option Addr} {ks : List Ky} (h : KSrc w A ks) (hb : Below w.heap.size w w1) : KSrc w1 A ks :=
  ⟨h.1, fun ad ha j k hj i v hi => cell_below hb (h.2 ad ha j k hj i v hi)⟩
theorem KMap.below {w w1 : World} {b : Nat} {ks : List Ky} (h : KMap w b ks) (hb : Below w.heap.size w w1) : KMap w1 b ks := by
  obtain ⟨n, D, ho, r⟩ := h
  exact ⟨n, D, ho.kept (row := none) ⟨hb.os, hb.tape, hb.output, hb.size, fun i hi _ => hb.block i hi⟩ (by simp), r⟩
structure NewAt (w w1 wr : World) (A1 : Option Addr) (c1 : Nat) (ks : List Ky) (k : Nat) : Prop where
  below : Below w.heap.size w wr
  c0 : wr.cell? ⟨w1.heap.size + 1, 0, none⟩ = some (.slice A1 ks.length c1)
  cm : wr.cell? ⟨w1.heap.size + 1, 1, none⟩ = some (.map (some w1.heap.size))
  map : KMap wr w1.heap.size (ks.take k)
  row : wr.ownsRow w.heap.size 25 6 (.slice A1 ks.length c1) ks.length (kcells ks)
  pre : okPre (ks.take k)
  size : w1.heap.size + 1 < wr.heap.size
end Go.Proofs.Ytaejlgdmalhhnaa
