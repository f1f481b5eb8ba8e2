/- Layer 3, plain law: the order of values is one. -/
import Derived.Test.YtaejlgdmalhhnaaDoorVm
set_option linter.unusedVariables false
set_option linter.unusedSimpArgs false
namespace Go.Proofs.YtaejlgdmalhhnaaDoor

theorem u8_tri (a b : UInt8) : (a < b ∧ ¬ b < a ∧ a ≠ b) ∨ (b < a ∧ ¬ a < b ∧ a ≠ b) ∨ (a = b ∧ ¬ a < b ∧ ¬ b < a) := by
  have h1 : (a < b) ↔ a.toNat < b.toNat := Iff.rfl
  have h2 : (b < a) ↔ b.toNat < a.toNat := Iff.rfl
  have h3 : (a = b) ↔ a.toNat = b.toNat := ⟨fun h => by rw [h], fun h => UInt8.toNat_inj.1 h⟩
  rw [h1, h2, ne_eq, h3]; omega
theorem bytes_tri : ∀ (x y : List UInt8), (Op.bytesLess x y = true ∧ Op.bytesLess y x = false ∧ x ≠ y) ∨ (Op.bytesLess x y = false ∧ Op.bytesLess y x = true ∧ x ≠ y) ∨ (Op.bytesLess x y = false ∧ Op.bytesLess y x = false ∧ x = y)
  | [], [] => by simp [Op.bytesLess]
  | [], _ :: _ => by simp [Op.bytesLess]
  | _ :: _, [] => by simp [Op.bytesLess]
  | a :: x, b :: y => by
    simp only [Op.bytesLess]
    rcases u8_tri a b with ⟨h1, h2, h3⟩ | ⟨h1, h2, h3⟩ | ⟨h1, h2, h3⟩
    · left; simp [h1, h2, h3, Ne.symm h3]
    · right; left; simp [h1, h2, h3, Ne.symm h3]
    · subst h1
      rcases bytes_tri x y with h | h | h
      · simp [h2, h.1, h.2.1, h.2.2]
      · simp [h2, h.1, h.2.1, h.2.2]
      · obtain ⟨e1, e2, e3⟩ := h
        subst e3
        simp [h2, e1]
theorem bytes_trans : ∀ (x y z : List UInt8), Op.bytesLess x y = true → Op.bytesLess y z = true → Op.bytesLess x z = true
  | _, [], _ => by simp [Op.bytesLess]
  | _, _ :: _, [] => by simp [Op.bytesLess]
  | [], _ :: _, _ :: _ => by simp [Op.bytesLess]
  | a :: x, b :: y, c :: z => by
    have ih := bytes_trans x y z
    simp only [Op.bytesLess, Bool.or_eq_true, decide_eq_true_eq, Bool.and_eq_true, beq_iff_eq]
    have h1 : (a < b) ↔ a.toNat < b.toNat := Iff.rfl
    have h2 : (b < c) ↔ b.toNat < c.toNat := Iff.rfl
    have h3 : (a < c) ↔ a.toNat < c.toNat := Iff.rfl
    have h4 : (a = b) ↔ a.toNat = b.toNat := ⟨fun h => by rw [h], fun h => UInt8.toNat_inj.1 h⟩
    have h5 : (b = c) ↔ b.toNat = c.toNat := ⟨fun h => by rw [h], fun h => UInt8.toNat_inj.1 h⟩
    have h6 : (a = c) ↔ a.toNat = c.toNat := ⟨fun h => by rw [h], fun h => UInt8.toNat_inj.1 h⟩
    rw [h1, h2, h3, h4, h5, h6]
    rintro (p | ⟨p, p'⟩) (q | ⟨q, q'⟩)
    · left; omega
    · left; omega
    · left; omega
    · right; exact ⟨by omega, ih p' q'⟩
/-- A value's place in the order, as numbers and bytes. -/
theorem mayV_parts {v : Val} (h : mayV v = true) : (v.k = 1 ∧ v = ⟨1, v.n, 0, ⟨#[]⟩⟩) ∨ (v.k = 2 ∧ v = ⟨2, v.n, 0, ⟨#[]⟩⟩) ∨ (v.k = 3 ∧ v = ⟨3, 0, v.f, ⟨#[]⟩⟩) ∨ (v.k = 4 ∧ v = ⟨4, 0, 0, v.s⟩) := by
  unfold mayV at h
  by_cases h1 : v.k = 1
  · rw [if_pos h1] at h
    have h := of_decide_eq_true h
    left; refine ⟨h1, ?_⟩
    obtain ⟨k, n, f, s⟩ := v
    simp only [Val.mk.injEq] at h ⊢
    exact ⟨h.1, trivial, h.2.2.1, h.2.2.2⟩
  rw [if_neg h1] at h
  by_cases h2 : v.k = 2
  · rw [if_pos h2] at h
    right; left; exact ⟨h2, of_decide_eq_true h⟩
  rw [if_neg h2] at h
  by_cases h3 : v.k = 3
  · rw [if_pos h3] at h
    have h := of_decide_eq_true h
    right; right; left; refine ⟨h3, ?_⟩
    obtain ⟨k, n, f, s⟩ := v
    simp only [Val.mk.injEq] at h ⊢
    exact ⟨h.1, h.2.1, trivial, h.2.2.2⟩
  rw [if_neg h3] at h
  by_cases h4 : v.k = 4
  · rw [if_pos h4] at h
    simp only [decide_eq_true_eq, Bool.if_false_right] at h
    right; right; right; refine ⟨h4, ?_⟩
    obtain ⟨k, n, f, s⟩ := v
    simp only [Val.mk.injEq] at h h4 ⊢
    exact ⟨h4, h.1, h.2.1, trivial⟩
  · rw [if_neg h4] at h; cases h
def lessK (a b : Val) : Bool := if a.k = b.k then (if a.k = 4 then Op.bytesLess a.s.toList b.s.toList else if a.k = 3 then decide (rankN a.f < rankN b.f) else decide (a.n < b.n)) else decide (a.k < b.k)
theorem lessV_K {a b : Val} (ha : mayV a = true) (hb : mayV b = true) (fa : a.f < 18446744073709551616) (fb : b.f < 18446744073709551616) : lessV a b = lessK a b := by
  unfold lessV lessK
  rw [ha, hb]
  simp only [Bool.and_true, if_true]
  by_cases hk : a.k = b.k
  · rw [if_pos hk, if_pos hk]
    by_cases h3 : a.k = 3
    · have h4 : ¬ a.k = 4 := by omega
      rw [if_neg h4, if_pos h3, if_neg h4, if_pos h3, lessF_rank (okF_may fa ha h3) (okF_may fb hb (by omega))]
    · rw [if_neg h3, if_neg h3]
  · rw [if_neg hk, if_neg hk]
theorem ba_list {s t : ByteArray} (h : s.toList = t.toList) : s = t := by
  rw [ByteArray.toList_eq, ByteArray.toList_eq] at h
  apply ByteArray.ext; apply Array.ext'; exact h
theorem lessK_tri {a b : Val} (ha : mayV a = true) (hb : mayV b = true) (fa : a.f < 18446744073709551616) (fb : b.f < 18446744073709551616) :
    (lessK a b = true ∧ lessK b a = false ∧ a ≠ b) ∨ (lessK a b = false ∧ lessK b a = true ∧ a ≠ b) ∨ (lessK a b = false ∧ lessK b a = false ∧ a = b) := by
  by_cases hk : a.k = b.k
  · unfold lessK
    rw [if_pos hk, if_pos hk.symm, ← hk]
    rcases mayV_parts ha with ⟨k1, e1⟩ | ⟨k1, e1⟩ | ⟨k1, e1⟩ | ⟨k1, e1⟩ <;> rcases mayV_parts hb with ⟨k2, e2⟩ | ⟨k2, e2⟩ | ⟨k2, e2⟩ | ⟨k2, e2⟩ <;> (first | (exfalso; omega) | skip)
    · rw [if_neg (by omega), if_neg (by omega), if_neg (by omega), if_neg (by omega)]
      rcases Int.lt_trichotomy a.n b.n with h | h | h
      · left; refine ⟨decide_eq_true h, decide_eq_false (by omega), fun e => by rw [e] at h; omega⟩
      · right; right; refine ⟨decide_eq_false (by omega), decide_eq_false (by omega), by rw [e1, e2, h]⟩
      · right; left; refine ⟨decide_eq_false (by omega), decide_eq_true h, fun e => by rw [e] at h; omega⟩
    · rw [if_neg (by omega), if_neg (by omega), if_neg (by omega), if_neg (by omega)]
      rcases Int.lt_trichotomy a.n b.n with h | h | h
      · left; refine ⟨decide_eq_true h, decide_eq_false (by omega), fun e => by rw [e] at h; omega⟩
      · right; right; refine ⟨decide_eq_false (by omega), decide_eq_false (by omega), by rw [e1, e2, h]⟩
      · right; left; refine ⟨decide_eq_false (by omega), decide_eq_true h, fun e => by rw [e] at h; omega⟩
    · rw [if_neg (by omega), if_pos (by omega), if_neg (by omega), if_pos (by omega)]
      rcases Nat.lt_trichotomy (rankN a.f) (rankN b.f) with h | h | h
      · left; refine ⟨decide_eq_true h, decide_eq_false (by omega), fun e => by rw [e] at h; omega⟩
      · right; right; refine ⟨decide_eq_false (by omega), decide_eq_false (by omega), by rw [e1, e2, rank_inj (okF_may fa ha k1) (okF_may fb hb k2) h]⟩
      · right; left; refine ⟨decide_eq_false (by omega), decide_eq_true h, fun e => by rw [e] at h; omega⟩
    · rw [if_pos (by omega), if_pos (by omega)]
      rcases bytes_tri a.s.toList b.s.toList with ⟨h1, h2, h3⟩ | ⟨h1, h2, h3⟩ | ⟨h1, h2, h3⟩
      · left; exact ⟨h1, h2, fun e => h3 (by rw [e])⟩
      · right; left; exact ⟨h1, h2, fun e => h3 (by rw [e])⟩
      · right; right; exact ⟨h1, h2, by rw [e1, e2, ba_list h3]⟩
  · unfold lessK
    rw [if_neg hk, if_neg (fun e => hk e.symm)]
    rcases Int.lt_trichotomy a.k b.k with h | h | h
    · left; refine ⟨decide_eq_true h, decide_eq_false (by omega), fun e => hk (by rw [e])⟩
    · exact absurd h hk
    · right; left; refine ⟨decide_eq_false (by omega), decide_eq_true h, fun e => hk (by rw [e])⟩
theorem lessK_trans {a b c : Val} (h1 : lessK a b = true) (h2 : lessK b c = true) : lessK a c = true := by
  unfold lessK at *
  by_cases hab : a.k = b.k
  · rw [if_pos hab] at h1
    by_cases hbc : b.k = c.k
    · rw [if_pos hbc] at h2
      rw [if_pos (by omega)]
      by_cases k4 : a.k = 4
      · rw [if_pos k4] at h1 ⊢
        rw [if_pos (by omega)] at h2
        exact bytes_trans _ _ _ h1 h2
      · rw [if_neg k4] at h1 ⊢
        rw [if_neg (by omega)] at h2
        by_cases k3 : a.k = 3
        · rw [if_pos k3] at h1 ⊢
          rw [if_pos (by omega)] at h2
          simp only [decide_eq_true_eq] at *; omega
        · rw [if_neg k3] at h1 ⊢
          rw [if_neg (by omega)] at h2
          simp only [decide_eq_true_eq] at *; omega
    · rw [if_neg hbc] at h2
      rw [if_neg (by omega)]
      simp only [decide_eq_true_eq] at *; omega
  · rw [if_neg hab] at h1
    by_cases hbc : b.k = c.k
    · rw [if_neg (by omega)]
      simp only [decide_eq_true_eq] at *; omega
    · rw [if_neg hbc] at h2
      simp only [decide_eq_true_eq] at h1 h2
      rw [if_neg (by omega)]
      simp only [decide_eq_true_eq]; omega
/-- Of numbers of one kind the smaller is ahead. -/
theorem less_number {a b : Val} (ha : mayV a = true) (hb : mayV b = true) (fa : a.f < 18446744073709551616) (fb : b.f < 18446744073709551616) (hx : (numB a).isSome = true) (hy : (numB b).isSome = true) (hk : a.k = b.k)
    (ho : (Ieee.double.order ((numB a).getD 0) ((numB b).getD 0) == some .lt) = true) : lessV a b = true := by
  by_cases k3 : a.k = 3
  · rw [numB_3 ha k3, numB_3 hb (by omega)] at ho
    simp only [Option.getD_some] at ho
    have hl : lessV a b = lessF a.f b.f := by
      unfold lessV; rw [ha, hb]; simp only [Bool.and_true, if_true]; rw [if_pos hk, if_neg (by omega), if_pos k3]
    rw [hl]
    have ho' : Ieee.double.order a.f b.f = some .lt := by simpa using ho
    have n1 : nanB a.f = false := by
      rw [nanB_noneB fa]
      cases h : noneB a.f
      · rfl
      · rw [order_nan _ (noneB_ge h)] at ho'; cases ho'
    have n2 : nanB b.f = false := by
      rw [nanB_noneB fb]
      cases h : noneB b.f
      · rfl
      · obtain ⟨s, t, hr⟩ := read_nan (noneB_ge h)
        unfold Ieee.Format.order at ho'
        rw [hr] at ho'
        cases hq : Ieee.double.read a.f <;> rw [hq] at ho' <;> cases ho'
    rw [lessF_3 n1 n2 (by rw [ho']; rfl), ho']; rfl
  · by_cases k2 : a.k = 2
    · rw [numB_2 ha k2, numB_2 hb (by omega)] at ho
      simp only [Option.getD_some] at ho
      have hl : lessV a b = decide (a.n < b.n) := by
        unfold lessV; rw [ha, hb]; simp only [Bool.and_true, if_true]; rw [if_pos hk, if_neg (by omega), if_neg k3]
      rw [hl, decide_eq_true_eq]
      by_cases h : a.n < b.n
      · exact h
      · rw [ofInt_mono (by omega)] at ho; cases ho
    · rw [numB_else k3 k2] at hx; cases hx
end Go.Proofs.YtaejlgdmalhhnaaDoor
