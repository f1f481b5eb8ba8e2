/- Layer 3, plain law: float64 words and their order. -/
import Derived.Test.YtaejlgdmalhhnaaDoorVi
import Derived.Laws.FloatArith
set_option linter.unusedVariables false
namespace Go.Proofs.YtaejlgdmalhhnaaDoor
open Ieee

def mgn (r : Nat) : Nat := if r < 4503599627370496 then r else (4503599627370496 + r % 4503599627370496) * 2 ^ (r / 4503599627370496 - 1)
theorem mgn_step (r : Nat) : mgn r < mgn (r + 1) := by
  unfold mgn
  by_cases h : r + 1 < 4503599627370496
  · rw [if_pos (by omega), if_pos h]; omega
  rw [if_neg h]
  by_cases h1 : r < 4503599627370496
  · have : r = 4503599627370495 := by omega
    subst this
    decide
  rw [if_neg h1]
  by_cases h2 : r % 4503599627370496 = 4503599627370495
  · have e1 : (r + 1) % 4503599627370496 = 0 := by omega
    have e2 : (r + 1) / 4503599627370496 - 1 = (r / 4503599627370496 - 1) + 1 := by omega
    rw [e1, e2, h2, Nat.pow_succ]
    have hp : 0 < 2 ^ (r / 4503599627370496 - 1) := Nat.two_pow_pos _
    omega
  · have e1 : (r + 1) % 4503599627370496 = r % 4503599627370496 + 1 := by omega
    have e2 : (r + 1) / 4503599627370496 = r / 4503599627370496 := by omega
    rw [e1, e2]
    have hp : 0 < 2 ^ (r / 4503599627370496 - 1) := Nat.two_pow_pos _
    exact Nat.mul_lt_mul_of_pos_right (by omega) hp
theorem mgn_lt {r s : Nat} (h : r < s) : mgn r < mgn s := by
  induction s with
  | zero => omega
  | succ s ih =>
    by_cases h1 : r < s
    · exact Nat.lt_trans (ih h1) (mgn_step s)
    · obtain rfl : r = s := by omega
      exact mgn_step r
theorem mgn_zero : mgn 0 = 0 := by decide
/-- The signed rung of a word. -/
def sv (b : Nat) : Int := if 9223372036854775808 ≤ b then -((b % 9223372036854775808 : Nat) : Int) else ((b % 9223372036854775808 : Nat) : Int)
def vv (b : Nat) : Int := if 9223372036854775808 ≤ b then -(mgn (b % 9223372036854775808) : Int) else (mgn (b % 9223372036854775808) : Int)
theorem vv_cmp (x y : Nat) : compare (vv x) (vv y) = compare (sv x) (sv y) := by
  have h : ∀ {a b : Nat}, a < b → mgn a < mgn b := mgn_lt
  generalize hr : x % 9223372036854775808 = r
  generalize hs : y % 9223372036854775808 = s
  have hrs : (r < s ∧ mgn r < mgn s) ∨ (r = s ∧ mgn r = mgn s) ∨ (s < r ∧ mgn s < mgn r) := by
    rcases Nat.lt_trichotomy r s with h1 | h1 | h1
    · exact .inl ⟨h1, h h1⟩
    · exact .inr (.inl ⟨h1, by rw [h1]⟩)
    · exact .inr (.inr ⟨h1, h h1⟩)
  have hr0 : (r = 0 ∧ mgn r = 0) ∨ (0 < r ∧ 0 < mgn r) := by
    rcases Nat.eq_zero_or_pos r with h1 | h1
    · exact .inl ⟨h1, by rw [h1]; exact mgn_zero⟩
    · exact .inr ⟨h1, by have := h h1; rw [mgn_zero] at this; exact this⟩
  have hs0 : (s = 0 ∧ mgn s = 0) ∨ (0 < s ∧ 0 < mgn s) := by
    rcases Nat.eq_zero_or_pos s with h1 | h1
    · exact .inl ⟨h1, by rw [h1]; exact mgn_zero⟩
    · exact .inr ⟨h1, by have := h h1; rw [mgn_zero] at this; exact this⟩
  unfold vv sv
  rw [hr, hs]
  generalize mgn r = R at *
  generalize mgn s = S at *
  simp only [compare, compareOfLessAndEq]
  by_cases a : 9223372036854775808 ≤ x <;> by_cases b : 9223372036854775808 ≤ y <;> simp only [a, b, if_true, if_false] <;>
  (repeat' split) <;> first | rfl | omega
theorem dw : double.signWeight = 9223372036854775808 := by decide
theorem db : double.binade = 4503599627370496 := by decide
theorem di : double.infRung = 9218868437227405312 := by decide
theorem dl : double.leastPlace = -1074 := by decide
theorem neg_of {b : Nat} (hb : b < 18446744073709551616) : (b / 9223372036854775808 % 2 == 1) = decide (9223372036854775808 ≤ b) := by
  by_cases h : 9223372036854775808 ≤ b
  · rw [decide_eq_true h, beq_iff_eq]; omega
  · rw [decide_eq_false h, beq_eq_false_iff_ne]; omega
/-- What a word reads as. -/
theorem read_num {b : Nat} (hb : b < 18446744073709551616) (h : b % 9223372036854775808 < 9218868437227405312) :
    ∃ (m i : Nat), double.read b = .number (decide (9223372036854775808 ≤ b)) m (-1074 + (i : Int)) ∧ m * 2 ^ i = mgn (b % 9223372036854775808) := by
  unfold Format.read
  simp only [dw, db, di, dl, neg_of hb]
  by_cases h1 : b % 9223372036854775808 < 4503599627370496
  · refine ⟨b % 9223372036854775808, 0, ?_, ?_⟩
    · rw [if_pos h1]; rfl
    · unfold mgn; rw [if_pos h1]; simp
  · refine ⟨4503599627370496 + b % 9223372036854775808 % 4503599627370496, b % 9223372036854775808 / 4503599627370496 - 1, ?_, ?_⟩
    · rw [if_neg h1, if_pos h]
    · unfold mgn; rw [if_neg h1]
theorem read_inf {b : Nat} (hb : b < 18446744073709551616) (h : b % 9223372036854775808 = 9218868437227405312) : double.read b = .infinity (decide (9223372036854775808 ≤ b)) := by
  unfold Format.read
  simp only [dw, db, di, dl, neg_of hb]
  rw [if_neg (by omega), if_neg (by omega), if_pos h]
theorem read_nan {b : Nat} (h : 9218868437227405312 < b % 9223372036854775808) : ∃ s t, double.read b = .nan s t := by
  unfold Format.read
  simp only [dw, db, di, dl]
  rw [if_neg (by omega), if_neg (by omega), if_neg (by omega)]
  exact ⟨_, _, rfl⟩
theorem cmp_mul (a b : Int) (c : Nat) (hc : 0 < c) : compare (a * (c : Int)) (b * (c : Int)) = compare a b := by
  have hc : (0 : Int) < (c : Int) := by omega
  simp only [compare, compareOfLessAndEq]
  have h1 : a * (c : Int) < b * (c : Int) ↔ a < b := Int.mul_lt_mul_right hc
  have h2 : a * (c : Int) = b * (c : Int) ↔ a = b := by
    constructor
    · intro h; exact Int.eq_of_mul_eq_mul_right (by omega) h
    · intro h; rw [h]
  simp only [h1, h2]
theorem signed_mul (s : Bool) (m u k : Nat) : signed s m u * ((2 ^ k : Nat) : Int) = (if s then -((m * 2 ^ (u + k) : Nat) : Int) else ((m * 2 ^ (u + k) : Nat) : Int)) := by
  unfold signed
  cases s
  · simp only [Bool.false_eq_true, if_false]; rw [Nat.shiftLeft_eq, ← Int.natCast_mul, Nat.pow_add, Nat.mul_assoc]
  · simp only [if_true]; rw [Nat.shiftLeft_eq, Int.neg_mul, ← Int.natCast_mul, Nat.pow_add, Nat.mul_assoc]
/-- The order of two words that are numbers or infinities. -/
theorem order_sv {x y : Nat} (hx : x < 18446744073709551616) (hy : y < 18446744073709551616) (nx : x % 9223372036854775808 ≤ 9218868437227405312) (ny : y % 9223372036854775808 ≤ 9218868437227405312) :
    double.order x y = some (compare (sv x) (sv y)) := by
  rw [← vv_cmp]
  unfold Format.order
  by_cases ex : x % 9223372036854775808 = 9218868437227405312
  · rw [read_inf hx ex]
    by_cases ey : y % 9223372036854775808 = 9218868437227405312
    · rw [read_inf hy ey]
      simp only [Datum.order]
      unfold vv
      rw [ex, ey]
      have hp : 0 < mgn 9218868437227405312 := by have := mgn_lt (r := 0) (s := 9218868437227405312) (by omega); rw [mgn_zero] at this; exact this
      generalize mgn 9218868437227405312 = R at *
      simp only [compare, compareOfLessAndEq]
      by_cases a : 9223372036854775808 ≤ x <;> by_cases b : 9223372036854775808 ≤ y <;> simp only [a, b, if_true, if_false, decide_true, decide_false, Bool.toNat_true, Bool.toNat_false] <;> (repeat' split) <;> first | rfl | omega
    · obtain ⟨m, i, hr, hm⟩ := read_num hy (by omega)
      rw [hr]
      simp only [Datum.order]
      unfold vv
      rw [ex]
      have hp := mgn_lt (r := y % 9223372036854775808) (s := 9218868437227405312) (by omega)
      generalize mgn 9218868437227405312 = R at *
      generalize mgn (y % 9223372036854775808) = S at *
      simp only [compare, compareOfLessAndEq]
      by_cases a : 9223372036854775808 ≤ x <;> by_cases b : 9223372036854775808 ≤ y <;> simp only [a, b, if_true, if_false, decide_true, decide_false] <;> (repeat' split) <;> first | rfl | omega | simp_all
  · obtain ⟨m, i, hr, hm⟩ := read_num hx (by omega)
    rw [hr]
    by_cases ey : y % 9223372036854775808 = 9218868437227405312
    · rw [read_inf hy ey]
      simp only [Datum.order]
      unfold vv
      rw [ey]
      have hp := mgn_lt (r := x % 9223372036854775808) (s := 9218868437227405312) (by omega)
      generalize mgn 9218868437227405312 = R at *
      generalize mgn (x % 9223372036854775808) = S at *
      simp only [compare, compareOfLessAndEq]
      by_cases a : 9223372036854775808 ≤ x <;> by_cases b : 9223372036854775808 ≤ y <;> simp only [a, b, if_true, if_false, decide_true, decide_false] <;> (repeat' split) <;> first | rfl | omega | simp_all
    · obtain ⟨n, j, hs, hn⟩ := read_num hy (by omega)
      rw [hs]
      simp only [Datum.order]
      rw [Option.some.injEq]
      have hmin : min (-1074 + (i : Int)) (-1074 + (j : Int)) = -1074 + ((min i j : Nat) : Int) := by omega
      rw [hmin]
      have e1 : (-1074 + (i : Int) - (-1074 + ((min i j : Nat) : Int))).toNat + min i j = i := by omega
      have e2 : (-1074 + (j : Int) - (-1074 + ((min i j : Nat) : Int))).toNat + min i j = j := by omega
      rw [← cmp_mul _ _ (2 ^ min i j) (Nat.two_pow_pos _), signed_mul, signed_mul, e1, e2, hm, hn]
      unfold vv
      by_cases a : 9223372036854775808 ≤ x <;> by_cases b : 9223372036854775808 ≤ y <;> simp only [a, b, if_true, if_false, decide_true, decide_false, Bool.false_eq_true]
theorem order_nan {x : Nat} (y : Nat) (h : 9218868437227405312 < x % 9223372036854775808) : double.order x y = none := by
  obtain ⟨s, t, hr⟩ := read_nan h
  unfold Format.order
  rw [hr]
  rfl
theorem nanB_noneB {b : Nat} (hb : b < 18446744073709551616) : nanB b = noneB b := by
  unfold nanB noneB
  by_cases h : 9218868437227405312 < b % 9223372036854775808
  · rw [order_nan _ h, decide_eq_true h]; rfl
  · rw [order_sv hb hb (by omega) (by omega), decide_eq_false h]
    have : compare (sv b) (sv b) = .eq := by simp [compare, compareOfLessAndEq]
    rw [this]; rfl
end Go.Proofs.YtaejlgdmalhhnaaDoor
