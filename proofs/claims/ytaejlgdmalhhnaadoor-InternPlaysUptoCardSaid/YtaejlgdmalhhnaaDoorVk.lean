/- Layer 3, plain law: the code's answers are the document's; whole numbers as floats. -/
import Derived.Test.YtaejlgdmalhhnaaDoorVj
set_option linter.unusedVariables false
namespace Go.Proofs.YtaejlgdmalhhnaaDoor
open Ieee

theorem floatW_ref {b : Nat} (hb : b < 18446744073709551616) : floatW b = refFloatW b := by unfold floatW refFloatW; rw [nanB_noneB hb]
theorem floatW_lt {b : Nat} (hb : b < 18446744073709551616) : floatW b < 18446744073709551616 := by unfold floatW nanW; split <;> omega
theorem flag_fits (n : Int) : (n = flagN (n == 1)) ↔ (n = 0 ∨ n = 1) := by
  unfold flagN
  by_cases h : n = 1
  · subst h; simp
  · rw [beq_eq_false_iff_ne.2 h]; simp; omega
theorem mayR_mayV (v : Val) (hf : v.f < 18446744073709551616) : mayR v = mayV v := by
  obtain ⟨k, n, f, s⟩ := v
  simp only at hf
  unfold mayR mayV
  simp only
  by_cases h1 : k = 1
  · rw [if_pos h1, if_pos h1]
    subst h1
    rw [Bool.eq_iff_iff]
    simp only [Bool.and_eq_true, decide_eq_true_eq, Bool.or_eq_true, beq_iff_eq, Val.mk.injEq, true_and]
    have := flag_fits n
    constructor
    · rintro ⟨⟨h2, h3⟩, h4⟩; exact ⟨this.2 h4, h2, h3⟩
    · rintro ⟨h2, h3, h4⟩; exact ⟨⟨h3, h4⟩, this.1 h2⟩
  rw [if_neg h1, if_neg h1]
  by_cases h2 : k = 2
  · rw [if_pos h2, if_pos h2]
  rw [if_neg h2, if_neg h2]
  by_cases h3 : k = 3
  · rw [if_pos h3, if_pos h3]
    subst h3
    rw [floatW_ref hf]
    unfold refFloatW
    cases hn : noneB f
    · rw [Bool.eq_iff_iff]
      simp
    · rw [Bool.eq_iff_iff]
      simp only [Bool.and_eq_true, decide_eq_true_eq, Bool.or_eq_true, beq_iff_eq, Val.mk.injEq, true_and, Bool.not_true, Bool.false_eq_true, false_or, if_true]
      constructor
      · rintro ⟨⟨a, b⟩, c⟩; exact ⟨a, c, b⟩
      · rintro ⟨a, c, b⟩; exact ⟨⟨a, b⟩, c⟩
  rw [if_neg h3, if_neg h3]
  by_cases h4 : k = 4
  · rw [if_pos h4, if_pos h4]
    subst h4
    rw [Bool.eq_iff_iff]
    simp only [Bool.and_eq_true, decide_eq_true_eq, Val.mk.injEq, true_and, and_true, beq_iff_eq]
    rcases readF_cases s.data.toList with ⟨a, b⟩ | ⟨a, b, c⟩
    · rw [a, b]; simp; constructor
      · rintro ⟨⟨x, y⟩, z⟩; exact ⟨x, y, z⟩
      · rintro ⟨x, y, z⟩; exact ⟨⟨x, y⟩, z⟩
    · rw [a, b]; simp
  rw [if_neg h4, if_neg h4]
theorem numR_numB (v : Val) (hf : v.f < 18446744073709551616) : numR v = numB v := by unfold numR numB; rw [mayR_mayV v hf]
theorem nanW_none : noneB nanW = true := by decide
/-- A word that a value may hold. -/
def okF (x : Nat) : Prop := x < 18446744073709551616 ∧ (noneB x = true → x = nanW)
theorem noneB_ge {x : Nat} (h : noneB x = true) : 9218868437227405312 < x % 9223372036854775808 := by simpa [noneB] using h
theorem noneB_le {x : Nat} (h : noneB x = false) : x % 9223372036854775808 ≤ 9218868437227405312 := by simpa [noneB] using h
theorem rank_num {x : Nat} (hx : x < 18446744073709551616) (h : noneB x = false) : rankN x < 18446744073709551615 ∧ (rankN x : Int) = 9223372036854775808 + (if 9223372036854775808 ≤ x then sv x - 1 else sv x) := by
  have h1 := noneB_le h
  unfold rankN sv
  have hx2 : x ≠ 9221120237041090560 := by omega
  rw [if_neg hx2]
  by_cases a : 9223372036854775808 ≤ x <;> simp only [a, if_true, if_false] <;> omega
theorem rank_nan : rankN nanW = 18446744073709551615 := by decide
theorem lessF_rank {x y : Nat} (hx : okF x) (hy : okF y) : lessF x y = decide (rankN x < rankN y) := by
  unfold lessF
  rw [nanB_noneB hx.1, nanB_noneB hy.1]
  cases hnx : noneB x
  · obtain ⟨rx, ex⟩ := rank_num hx.1 hnx
    cases hny : noneB y
    · obtain ⟨ry, ey⟩ := rank_num hy.1 hny
      simp only [Bool.false_eq_true, if_false]
      rw [order_sv hx.1 hy.1 (noneB_le hnx) (noneB_le hny)]
      have hd : decide (rankN x < rankN y) = decide ((rankN x : Int) < (rankN y : Int)) := by rw [decide_eq_decide]; omega
      rw [hd, ex, ey]
      have l1 := noneB_le hnx
      have l2 := noneB_le hny
      have hx1 := hx.1
      have hy1 := hy.1
      clear hd ex ey rx ry hnx hny
      unfold signB sv
      generalize x % 9223372036854775808 = r at *
      generalize y % 9223372036854775808 = s at *
      simp only [compare, compareOfLessAndEq]
      by_cases a : 9223372036854775808 ≤ x <;> by_cases b : 9223372036854775808 ≤ y <;> simp only [a, b, if_true, if_false, decide_true, decide_false] <;>
      (repeat' split) <;> simp_all <;> omega
    · have := hy.2 hny
      subst this
      rw [rank_nan]
      simp only [Bool.false_eq_true, if_false, if_true]
      exact (decide_eq_true rx).symm
  · have := hx.2 hnx
    subst this
    rw [if_pos rfl, rank_nan]
    symm
    rw [decide_eq_false_iff_not]
    have : rankN y ≤ 18446744073709551615 := by
      have := hy.1
      unfold rankN; split <;> (try split) <;> omega
    omega
theorem rank_inj {x y : Nat} (hx : okF x) (hy : okF y) (h : rankN x = rankN y) : x = y := by
  cases hnx : noneB x
  · obtain ⟨rx, ex⟩ := rank_num hx.1 hnx
    cases hny : noneB y
    · obtain ⟨ry, ey⟩ := rank_num hy.1 hny
      rw [h, ey] at ex
      have l1 := noneB_le hnx
      have l2 := noneB_le hny
      have hx1 := hx.1
      have hy1 := hy.1
      unfold sv at ex
      split at ex <;> split at ex <;> omega
    · have := hy.2 hny
      subst this
      rw [rank_nan] at h
      omega
  · have := hx.2 hnx
    subst this
    cases hny : noneB y
    · obtain ⟨ry, ey⟩ := rank_num hy.1 hny
      rw [rank_nan] at h
      omega
    · exact (hy.2 hny).symm
theorem okF_may {v : Val} (hf : v.f < 18446744073709551616) (hm : mayV v = true) (hk : v.k = 3) : okF v.f := by
  refine ⟨hf, fun hn => ?_⟩
  unfold mayV at hm
  rw [if_neg (by omega), if_neg (by omega), if_pos hk] at hm
  have h := of_decide_eq_true hm
  have h2 : v.f = floatW v.f := congrArg Val.f h
  rw [floatW_ref hf] at h2
  unfold refFloatW at h2
  rw [hn] at h2
  exact h2
theorem lessR_lessV (a b : Val) (ha : a.f < 18446744073709551616) (hb : b.f < 18446744073709551616) : lessR a b = lessV a b := by
  unfold lessR lessV
  rw [mayR_mayV a ha, mayR_mayV b hb]
  cases hma : mayV a
  · rfl
  cases hmb : mayV b
  · rfl
  simp only [Bool.and_true, if_true]
  by_cases hk : a.k = b.k
  · rw [if_pos hk, if_pos hk]
    by_cases h3 : a.k = 3
    · rw [if_pos h3, if_neg (by omega), if_pos h3, lessF_rank (okF_may ha hma h3) (okF_may hb hmb (by omega))]
    · rw [if_neg h3]
      by_cases h4 : a.k = 4
      · rw [if_pos h4, if_pos h4]
      · rw [if_neg h4, if_neg h4, if_neg h3]
  · rw [if_neg hk, if_neg hk]

/-! Whole numbers as floats. -/
def keptOf (m : Nat) : Nat := Toward.even.cut false (m <<< (52 - m.log2)) (m.log2 - 52)
def rungOf (m : Nat) : Nat := if m = 0 then 0 else min ((m.log2 + 1022) * 4503599627370496 + keptOf m) 9218868437227405312
theorem cut_even (s t : Bool) (n d : Nat) : Toward.even.cut s n d = Toward.even.cut t n d := rfl
theorem nearest_rung (neg : Bool) (m : Nat) : double.nearest neg m 0 = double.word neg (rungOf m) := by
  unfold Format.nearest rungOf
  simp only [db, di, dl]
  by_cases h : m = 0
  · rw [if_pos h, if_pos h]
  · rw [if_neg h, if_neg h]
    have e0 : (max (0 + (m.log2 : Int) - (double.fractionBits : Int)) (-1074)) = (m.log2 : Int) - 52 := by
      have : double.fractionBits = 52 := rfl
      rw [this]; omega
    rw [e0]
    have e1 : (0 - ((m.log2 : Int) - 52)).toNat = 52 - m.log2 := by omega
    have e2 : ((m.log2 : Int) - 52 - 0).toNat = m.log2 - 52 := by omega
    have e3 : ((m.log2 : Int) - 52 - -1074).toNat = m.log2 + 1022 := by omega
    rw [e1, e2, e3]
    rfl
theorem log_le {m : Nat} (h : m ≠ 0) : 2 ^ m.log2 ≤ m := Nat.log2_self_le h
theorem log_lt (m : Nat) : m < 2 ^ (m.log2 + 1) := Nat.lt_log2_self
theorem log_mono {a b : Nat} (ha : a ≠ 0) (h : a ≤ b) : a.log2 ≤ b.log2 := by
  rw [Nat.le_log2 (by omega)]
  exact Nat.le_trans (log_le ha) h
theorem kept_small {m : Nat} (h : m.log2 ≤ 52) : keptOf m = m * 2 ^ (52 - m.log2) := by
  unfold keptOf Toward.cut
  have : m.log2 - 52 = 0 := by omega
  rw [this]
  simp [Nat.shiftLeft_eq, Nat.mod_one]
theorem kept_big {m : Nat} (h : 52 < m.log2) : keptOf m = m / 2 ^ (m.log2 - 52) + (decide (2 ^ (m.log2 - 52) < 2 * (m % 2 ^ (m.log2 - 52))) || (2 ^ (m.log2 - 52) == 2 * (m % 2 ^ (m.log2 - 52)) && m / 2 ^ (m.log2 - 52) % 2 == 1)).toNat := by
  unfold keptOf Toward.cut
  have e1 : 52 - m.log2 = 0 := by omega
  rw [e1, Nat.shiftLeft_zero]
  have e2 : min (m.log2 - 52) (m.log2 + 2) = m.log2 - 52 := by omega
  simp only [e2, Nat.shiftLeft_eq, Nat.one_mul]
theorem kept_bd {m : Nat} (h : m ≠ 0) : 4503599627370496 ≤ keptOf m ∧ keptOf m ≤ 9007199254740992 := by
  have h1 := log_le h
  have h2 := log_lt m
  by_cases hl : m.log2 ≤ 52
  · rw [kept_small hl]
    have p1 : 2 ^ m.log2 * 2 ^ (52 - m.log2) = 4503599627370496 := by rw [← Nat.pow_add, show m.log2 + (52 - m.log2) = 52 by omega]
    have p2 : 2 ^ (m.log2 + 1) * 2 ^ (52 - m.log2) = 9007199254740992 := by rw [← Nat.pow_add, show m.log2 + 1 + (52 - m.log2) = 53 by omega]
    constructor
    · rw [← p1]; exact Nat.mul_le_mul_right _ h1
    · rw [← p2]; exact Nat.mul_le_mul_right _ (by omega)
  · rw [kept_big (by omega)]
    have hp : 0 < 2 ^ (m.log2 - 52) := Nat.two_pow_pos _
    have p1 : 4503599627370496 * 2 ^ (m.log2 - 52) = 2 ^ m.log2 := by rw [show (4503599627370496 : Nat) = 2 ^ 52 by rfl, ← Nat.pow_add, show 52 + (m.log2 - 52) = m.log2 by omega]
    have p2 : 9007199254740992 * 2 ^ (m.log2 - 52) = 2 ^ (m.log2 + 1) := by rw [show (9007199254740992 : Nat) = 2 ^ 53 by rfl, ← Nat.pow_add, show 53 + (m.log2 - 52) = m.log2 + 1 by omega]
    have l1 : 4503599627370496 ≤ m / 2 ^ (m.log2 - 52) := (Nat.le_div_iff_mul_le hp).2 (by omega)
    have l2 : m / 2 ^ (m.log2 - 52) < 9007199254740992 := (Nat.div_lt_iff_lt_mul hp).2 (by omega)
    have l3 := Bool.toNat_le (decide (2 ^ (m.log2 - 52) < 2 * (m % 2 ^ (m.log2 - 52))) || (2 ^ (m.log2 - 52) == 2 * (m % 2 ^ (m.log2 - 52)) && m / 2 ^ (m.log2 - 52) % 2 == 1))
    omega
theorem kept_mono {a b : Nat} (h : a ≤ b) (e : a.log2 = b.log2) : keptOf a ≤ keptOf b := by
  by_cases hl : a.log2 ≤ 52
  · rw [kept_small hl, kept_small (by omega), ← e]
    exact Nat.mul_le_mul_right _ h
  · rw [kept_big (by omega), kept_big (by omega), ← e]
    have hp : 0 < 2 ^ (a.log2 - 52) := Nat.two_pow_pos _
    generalize 2 ^ (a.log2 - 52) = g at *
    have hd : a / g ≤ b / g := Nat.div_le_div_right h
    have ea := Nat.div_add_mod a g
    have eb := Nat.div_add_mod b g
    by_cases hq : a / g = b / g
    · rw [← hq] at eb ⊢
      have hr : a % g ≤ b % g := by omega
      generalize a / g = q at *
      generalize a % g = r at *
      generalize b % g = s at *
      have : (decide (g < 2 * r) || (g == 2 * r && q % 2 == 1)).toNat ≤ (decide (g < 2 * s) || (g == 2 * s && q % 2 == 1)).toNat := by
        by_cases x1 : g < 2 * r
        · rw [decide_eq_true x1, decide_eq_true (by omega : g < 2 * s)]; simp
        · by_cases x2 : g = 2 * r
          · by_cases x3 : g < 2 * s
            · rw [decide_eq_true x3]; simp [Bool.toNat_le]
            · have : r = s := by omega
              rw [this]; exact Nat.le_refl _
          · rw [decide_eq_false x1, beq_eq_false_iff_ne.2 x2]; simp
      omega
    · have l3 := Bool.toNat_le (decide (g < 2 * (a % g)) || (g == 2 * (a % g) && a / g % 2 == 1))
      omega
theorem rung_mono {a b : Nat} (h : a ≤ b) : rungOf a ≤ rungOf b := by
  unfold rungOf
  by_cases ha : a = 0
  · rw [if_pos ha]; exact Nat.zero_le _
  rw [if_neg ha, if_neg (by omega)]
  have ka := kept_bd ha
  have kb := kept_bd (m := b) (by omega)
  have hl := log_mono ha h
  have : (a.log2 + 1022) * 4503599627370496 + keptOf a ≤ (b.log2 + 1022) * 4503599627370496 + keptOf b := by
    by_cases he : a.log2 = b.log2
    · have := kept_mono h he
      rw [he]; omega
    · omega
  omega
theorem rung_lt (a : Nat) : rungOf a ≤ 9218868437227405312 := by unfold rungOf; split <;> omega
theorem sv_word (neg : Bool) {r : Nat} (h : r ≤ 9218868437227405312) : sv (double.word neg r) = (if neg then -(r : Int) else (r : Int)) ∧ double.word neg r < 18446744073709551616 ∧ double.word neg r % 9223372036854775808 ≤ 9218868437227405312 := by
  unfold Format.word sv
  rw [dw]
  cases neg <;> simp <;> omega
theorem floatOfInt_word (n : Int) : floatOfInt .f64 n = double.word (decide (n < 0)) (rungOf n.natAbs) := nearest_rung _ _
theorem ofInt_mono {m n : Int} (h : n ≤ m) : (double.order (floatOfInt .f64 m) (floatOfInt .f64 n) == some .lt) = false := by
  rw [floatOfInt_word, floatOfInt_word]
  obtain ⟨a1, a2, a3⟩ := sv_word (decide (m < 0)) (rung_lt m.natAbs)
  obtain ⟨b1, b2, b3⟩ := sv_word (decide (n < 0)) (rung_lt n.natAbs)
  rw [order_sv a2 b2 a3 b3, a1, b1]
  have : ¬ ((if decide (m < 0) = true then -(rungOf m.natAbs : Int) else (rungOf m.natAbs : Int)) < (if decide (n < 0) = true then -(rungOf n.natAbs : Int) else (rungOf n.natAbs : Int))) := by
    by_cases hm : m < 0
    · have hn : n < 0 := by omega
      have := rung_mono (a := m.natAbs) (b := n.natAbs) (by omega)
      simp only [hm, hn, decide_true, if_true]; omega
    · by_cases hn : n < 0
      · simp only [hm, hn, decide_true, decide_false, if_true]; simp <;> omega
      · have := rung_mono (a := n.natAbs) (b := m.natAbs) (by omega)
        simp only [hm, hn, decide_false]; simp; omega
  simp only [compare, compareOfLessAndEq]
  generalize (if decide (m < 0) = true then -(rungOf m.natAbs : Int) else (rungOf m.natAbs : Int)) = X at *
  generalize (if decide (n < 0) = true then -(rungOf n.natAbs : Int) else (rungOf n.natAbs : Int)) = Y at *
  rw [if_neg this]
  by_cases hxy : X = Y
  · rw [if_pos hxy]; rfl
  · rw [if_neg hxy]; rfl
theorem ofInt_lt (n : Int) : floatOfInt .f64 n < 18446744073709551616 ∧ noneB (floatOfInt .f64 n) = false := by
  rw [floatOfInt_word]
  obtain ⟨a1, a2, a3⟩ := sv_word (decide (n < 0)) (rung_lt n.natAbs)
  exact ⟨a2, by unfold noneB; rw [decide_eq_false]; omega⟩

theorem read_word (neg : Bool) {r : Nat} (h1 : 4503599627370496 ≤ r) (h : r < 9218868437227405312) :
    double.read (double.word neg r) = .number neg (4503599627370496 + r % 4503599627370496) (-1074 + ((r / 4503599627370496 - 1 : Nat) : Int)) := by
  unfold Format.read Format.word
  simp only [dw, db, di, dl]
  cases neg
  · have e1 : (r / 9223372036854775808 % 2 == 1) = false := beq_eq_false_iff_ne.2 (by omega)
    have e2 : r % 9223372036854775808 = r := by omega
    simp only [Bool.false_eq_true, if_false, e1, e2]
    rw [if_neg (by omega), if_pos h]
  · have e1 : ((9223372036854775808 + r) / 9223372036854775808 % 2 == 1) = true := beq_iff_eq.2 (by omega)
    have e2 : (9223372036854775808 + r) % 9223372036854775808 = r := by omega
    simp only [if_true, e1, e2]
    rw [if_neg (by omega), if_pos h]
theorem exact_int {n : Int} (h : n.natAbs < 9007199254740992) : floatToIntVal .f64 (floatOfInt .f64 n) .i64 = some n := by
  have hN : ∀ x : Option Int, x = some n → (match x with | some n => if IntKind.i64.min ≤ n ∧ n ≤ IntKind.i64.max then some n else none | none => none) = some n := by
    intro x hx
    subst hx
    have h1 : IntKind.i64.min = -9223372036854775808 := rfl
    have h2 : IntKind.i64.max = 9223372036854775807 := rfl
    simp only [h1, h2]
    rw [if_pos (by omega)]
  unfold floatToIntVal
  apply hN
  by_cases hz : n = 0
  · subst hz; decide +kernel
  rw [floatOfInt_word]
  have hm : n.natAbs ≠ 0 := by omega
  have h1 := log_le hm
  have hl : n.natAbs.log2 ≤ 52 := by
    have := (Nat.log2_lt hm (k := 53)).2 h
    omega
  have p0 := kept_bd hm
  have ek := kept_small hl
  have hlt : keptOf n.natAbs < 9007199254740992 := by
    rw [ek]
    have p2 : 2 ^ (n.natAbs.log2 + 1) * 2 ^ (52 - n.natAbs.log2) = 9007199254740992 := by rw [← Nat.pow_add, show n.natAbs.log2 + 1 + (52 - n.natAbs.log2) = 53 by omega]
    rw [← p2]
    exact Nat.mul_lt_mul_of_pos_right (log_lt _) (Nat.two_pow_pos _)
  have er : rungOf n.natAbs = (n.natAbs.log2 + 1022) * 4503599627370496 + keptOf n.natAbs := by
    unfold rungOf; rw [if_neg hm]; omega
  show (FloatKind.f64.decode (double.word (decide (n < 0)) (rungOf n.natAbs))).toInt .zero = some n
  unfold FloatKind.decode FloatKind.format
  simp only
  rw [read_word _ (by omega) (by omega)]
  have em : 4503599627370496 + rungOf n.natAbs % 4503599627370496 = n.natAbs * 2 ^ (52 - n.natAbs.log2) := by rw [← ek, er]; omega
  have ed : -1074 + ((rungOf n.natAbs / 4503599627370496 - 1 : Nat) : Int) = (n.natAbs.log2 : Int) - 52 := by rw [er]; omega
  rw [em, ed]
  have hg : ∀ g : Nat, g = 52 - n.natAbs.log2 → (n.natAbs * 2 ^ (52 - n.natAbs.log2)) / (1 <<< g) = n.natAbs := by
    intro g hg
    rw [hg, Nat.shiftLeft_eq, Nat.one_mul, Nat.mul_div_cancel _ (Nat.two_pow_pos _)]
  unfold Datum.toInt Datum.integral Toward.cut
  simp only
  have t1 : ((n.natAbs.log2 : Int) - 52).toNat = 0 := by omega
  have t2 : (-((n.natAbs.log2 : Int) - 52)).toNat = 52 - n.natAbs.log2 := by omega
  rw [t1, t2, Nat.shiftLeft_zero]
  have hlog : 52 - n.natAbs.log2 ≤ (n.natAbs * 2 ^ (52 - n.natAbs.log2)).log2 := by
    rw [Nat.le_log2 (by rw [← ek]; omega), ← ek]
    have : 2 ^ (52 - n.natAbs.log2) ≤ 2 ^ 52 := Nat.pow_le_pow_right (by omega) (by omega)
    omega
  rw [show min (52 - n.natAbs.log2) ((n.natAbs * 2 ^ (52 - n.natAbs.log2)).log2 + 2) = 52 - n.natAbs.log2 by omega]
  rw [hg _ rfl]
  unfold signed
  simp only [Bool.toNat_false, Nat.add_zero, Nat.shiftLeft_zero]
  by_cases hn : n < 0
  · rw [decide_eq_true hn, if_pos rfl]; congr 1; omega
  · rw [decide_eq_false hn]; simp; omega
end Go.Proofs.YtaejlgdmalhhnaaDoor
