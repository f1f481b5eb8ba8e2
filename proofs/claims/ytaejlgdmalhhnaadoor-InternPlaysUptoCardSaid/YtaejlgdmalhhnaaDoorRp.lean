/- Layer 1, plain: the runes that bytes hold, by the decoder's own steps; the reference's one step is that step. No walk stands here. -/
import Derived.Test.YtaejlgdmalhhnaaDoorRa
import Derived.Lib.ValidAsc
namespace Go.Proofs.YtaejlgdmalhhnaaDoor
open Go.Lib

def runesGo : Nat → List UInt8 → List Int
  | 0, _ => []
  | n + 1, l => if l = [] then [] else ((decodeL l).1 : Int) :: runesGo n (l.drop (decodeL l).2)
/-- The runes of bytes, step by step. -/
def runesD (l : List UInt8) : List Int := runesGo l.length l
theorem runesGo_nil : ∀ n, runesGo n [] = []
  | 0 => rfl
  | _ + 1 => by simp [runesGo]
theorem runesGo_fuel : ∀ (n m : Nat) (l : List UInt8), l.length ≤ n → l.length ≤ m → runesGo n l = runesGo m l
  | 0, m, l, hn, _ => by
    have : l = [] := List.eq_nil_of_length_eq_zero (by omega)
    subst this
    rw [runesGo_nil, runesGo_nil]
  | n + 1, 0, l, _, hm => by
    have : l = [] := List.eq_nil_of_length_eq_zero (by omega)
    subst this
    rw [runesGo_nil, runesGo_nil]
  | n + 1, m + 1, l, hn, hm => by
    unfold runesGo
    by_cases hne : l = []
    · simp [hne]
    · have hw := decodeL_width l
      have hl : 0 < l.length := List.length_pos_iff.2 hne
      rw [if_neg hne, if_neg hne, runesGo_fuel n m (l.drop (decodeL l).2) (by rw [List.length_drop]; omega) (by rw [List.length_drop]; omega)]
theorem runesD_nil : runesD [] = [] := rfl
theorem runesD_step (l : List UInt8) (hne : l ≠ []) : runesD l = ((decodeL l).1 : Int) :: runesD (l.drop (decodeL l).2) := by
  have hl : 0 < l.length := List.length_pos_iff.2 hne
  have hw := decodeL_width l
  obtain ⟨n, hn⟩ : ∃ n, l.length = n + 1 := ⟨l.length - 1, by omega⟩
  unfold runesD
  rw [hn]
  show (if l = [] then [] else _) = _
  rw [if_neg hne, runesGo_fuel n (l.drop (decodeL l).2).length _ (by rw [List.length_drop]; omega) (Nat.le_refl _)]
/-- What Read answers: the runes, and the error's number. -/
def readF (l : List UInt8) : List Int × Int := if validD l then (runesD l, 0) else ([], 3)
theorem readF_t {l : List UInt8} (h : validD l = true) : readF l = (runesD l, 0) := by unfold readF; rw [if_pos h]
theorem readF_f {l : List UInt8} (h : validD l = false) : readF l = ([], 3) := by unfold readF; rw [if_neg (by simp [h])]

/-- Does the decoder's step say that nothing is there? -/
def badStep (l : List UInt8) : Bool := decide ((decodeL l).1 = 65533 ∧ (decodeL l).2 = 1)
/-- The reference's step. -/
def nextF (l : List UInt8) : Int × Int := if badStep l then (0, 0) else (((decodeL l).1 : Int), ((decodeL l).2 : Int))

/-! ### the reference's step, as it is written -/
/-- How many bytes the first one says, and the bits that it bears. -/
def leadF (b : Nat) : Nat × Int := if 240 ≤ b then (4, (b : Int) - 240) else if 224 ≤ b then (3, (b : Int) - 224) else if 192 ≤ b then (2, (b : Int) - 192) else (1, b)
def accv (l : List UInt8) (r0 : Int) : Nat → Int
  | 0 => r0
  | k + 1 => accv l r0 k * 64 + ((l.getD (k + 1) 0).toNat : Int) - 128
def contB (b : UInt8) : Bool := decide (128 ≤ b.toNat ∧ b.toNat ≤ 191)
def contTo (l : List UInt8) (k : Nat) : Prop := ∀ j, j < k → contB (l.getD (j + 1) 0) = true
theorem accv_bd (l : List UInt8) (r0 : Int) (h0 : 0 ≤ r0) (h1 : r0 ≤ 127) : ∀ k, k ≤ 3 → contTo l k → 0 ≤ accv l r0 k ∧ accv l r0 k ≤ 33554431
  | 0, _, _ => ⟨h0, by simp [accv]; omega⟩
  | 1, _, hc => by
    have a := hc 0 (by omega); unfold contB at a; have a := of_decide_eq_true a
    simp only [accv]; omega
  | 2, _, hc => by
    have a := hc 0 (by omega); unfold contB at a; have a := of_decide_eq_true a
    have b := hc 1 (by omega); unfold contB at b; have b := of_decide_eq_true b
    simp only [accv]; omega
  | 3, _, hc => by
    have a := hc 0 (by omega); unfold contB at a; have a := of_decide_eq_true a
    have b := hc 1 (by omega); unfold contB at b; have b := of_decide_eq_true b
    have c := hc 2 (by omega); unfold contB at c; have c := of_decide_eq_true c
    simp only [accv]; omega
  | k + 4, h, _ => by omega

theorem accv_bd2 (l : List UInt8) (r0 : Int) (h0 : 0 ≤ r0) (h1 : r0 ≤ 127) : ∀ k, k ≤ 2 → contTo l k → 0 ≤ accv l r0 k ∧ accv l r0 k ≤ 524287
  | 0, _, _ => ⟨h0, by simp [accv]; omega⟩
  | 1, _, hc => by
    have a := hc 0 (by omega); unfold contB at a; have a := of_decide_eq_true a
    simp only [accv]; omega
  | 2, _, hc => by
    have a := hc 0 (by omega); unfold contB at a; have a := of_decide_eq_true a
    have b := hc 1 (by omega); unfold contB at b; have b := of_decide_eq_true b
    simp only [accv]; omega
  | k + 3, h, _ => by omega
theorem badStep_t {l : List UInt8} (h : decodeN l.length (l.getD 0 0).toNat (l.getD 1 0).toNat (l.getD 2 0).toNat (l.getD 3 0).toNat = (65533, 1)) : nextF l = (0, 0) := by
  unfold nextF badStep; rw [decodeL_N, h]; rfl
theorem nextF_eq {l : List UInt8} {r n : Nat} (h : decodeN l.length (l.getD 0 0).toNat (l.getD 1 0).toNat (l.getD 2 0).toNat (l.getD 3 0).toNat = (r, n)) (hn : 2 ≤ n ∨ r < 128) : nextF l = ((r : Int), (n : Int)) := by
  unfold nextF badStep; rw [decodeL_N, h, if_neg (by simp; omega)]

theorem enc_len_cases (r : Int) : (enc r).length = if r ≤ 127 then 1 else if r ≤ 2047 then 2 else if r ≤ 65535 then 3 else 4 := by
  unfold enc; repeat' split
  all_goals rfl

section
variable (l : List UInt8)
set_option maxRecDepth 100000
set_option maxHeartbeats 4000000
/-- One byte that begins no rune. -/
theorem next_bad (h0 : 128 ≤ (l.getD 0 0).toNat) (h1 : (l.getD 0 0).toNat < 192) : nextF l = (0, 0) := badStep_t (by
  unfold decodeN; repeat' split
  all_goals first | rfl | (exfalso; omega))
theorem next_short (n : Nat) (hn : (leadF (l.getD 0 0).toNat).1 = n) (h : l.length < n) (h0 : 0 < l.length) : nextF l = (0, 0) := badStep_t (by
  subst hn
  unfold leadF at h
  unfold decodeN
  have := (l.getD 0 0).toNat_lt
  repeat' split
  all_goals first | rfl | (exfalso; (repeat' split at h) <;> simp only at h <;> omega))
theorem next_cont (j : Nat) (hj : j + 1 < (leadF (l.getD 0 0).toNat).1) (h : contB (l.getD (j + 1) 0) = false) : nextF l = (0, 0) := badStep_t (by
  unfold contB at h
  have h := of_decide_eq_false h
  have := (l.getD 0 0).toNat_lt
  have b1 := (l.getD 1 0).toNat_lt
  have b2 := (l.getD 2 0).toNat_lt
  have b3 := (l.getD 3 0).toNat_lt
  unfold leadF at hj
  have hj3 : j = 0 ∨ j = 1 ∨ j = 2 := by (repeat' split at hj) <;> simp only at hj <;> omega
  unfold decodeN
  rcases hj3 with rfl | rfl | rfl <;> simp only [Nat.zero_add, Nat.reduceAdd] at h hj <;> (repeat' split at hj) <;> simp only at hj <;> (repeat' split)
  all_goals first | rfl | (exfalso; omega))
theorem may_iff (r : Int) : may r = true ↔ ((0 ≤ r ∧ r < 55296) ∨ (57343 < r ∧ r ≤ 1114111)) := by unfold may; simp
theorem tail_N (n b0 b1 b2 b3 m : Nat) (r0 V : Int) (hL : leadF b0 = (m, r0)) (h1 : ¬ (128 ≤ b0 ∧ b0 < 192)) (hb0 : b0 < 256) (hn : m ≤ n)
    (hc1 : 2 ≤ m → 128 ≤ b1 ∧ b1 ≤ 191) (hc2 : 3 ≤ m → 128 ≤ b2 ∧ b2 ≤ 191) (hc3 : 4 ≤ m → 128 ≤ b3 ∧ b3 ≤ 191)
    (hV : V = if m = 1 then r0 else if m = 2 then r0 * 64 + b1 - 128 else if m = 3 then (r0 * 64 + b1 - 128) * 64 + b2 - 128 else ((r0 * 64 + b1 - 128) * 64 + b2 - 128) * 64 + b3 - 128) :
    (may V = true ∧ (enc V).length = m ∧ ∃ r : Nat, V = r ∧ decodeN n b0 b1 b2 b3 = (r, m) ∧ (2 ≤ m ∨ r < 128)) ∨ (¬ (may V = true ∧ (enc V).length = m) ∧ decodeN n b0 b1 b2 b3 = (65533, 1)) := by
  have e := congrArg Prod.fst hL
  have e' := congrArg Prod.snd hL
  unfold leadF at e e'
  rw [may_iff, enc_len_cases]
  by_cases c4 : 240 ≤ b0
  · rw [if_pos c4] at e e'
    simp only at e e'
    subst e e'
    have a := hc1 (by omega); have b := hc2 (by omega); have c := hc3 (by omega)
    simp only [Nat.reduceEqDiff, if_false] at hV
    by_cases hok : b0 / 8 = 30 ∧ 65536 ≤ V ∧ V ≤ 1114111
    · refine .inl ⟨by omega, by rw [if_neg (by omega), if_neg (by omega), if_neg (by omega)], V.toNat, by omega, ?_, by omega⟩
      unfold decodeN
      rw [if_neg (by omega), if_neg (by omega), if_neg (by omega), if_pos (by omega), if_pos (by omega)]
      apply Prod.ext <;> simp only <;> omega
    · refine .inr ⟨?_, ?_⟩
      · repeat' split
        all_goals omega
      · unfold decodeN
        repeat' split
        all_goals first | rfl | (exfalso; omega)
  rw [if_neg c4] at e e'
  by_cases c3 : 224 ≤ b0
  · rw [if_pos c3] at e e'
    simp only at e e'
    subst e e'
    have a := hc1 (by omega); have b := hc2 (by omega)
    simp only [Nat.reduceEqDiff, if_false, if_true] at hV
    by_cases hok : 2048 ≤ V ∧ (V < 55296 ∨ 57343 < V)
    · refine .inl ⟨by omega, by rw [if_neg (by omega), if_neg (by omega), if_pos (by omega)], V.toNat, by omega, ?_, by omega⟩
      unfold decodeN
      rw [if_neg (by omega), if_neg (by omega), if_pos (by omega), if_pos (by omega)]
      apply Prod.ext <;> simp only <;> omega
    · refine .inr ⟨?_, ?_⟩
      · repeat' split
        all_goals omega
      · unfold decodeN
        repeat' split
        all_goals first | rfl | (exfalso; omega)
  rw [if_neg c3] at e e'
  by_cases c2 : 192 ≤ b0
  · rw [if_pos c2] at e e'
    simp only at e e'
    subst e e'
    have a := hc1 (by omega)
    simp only [Nat.reduceEqDiff, if_false, if_true] at hV
    by_cases hok : 128 ≤ V
    · refine .inl ⟨by omega, by rw [if_neg (by omega), if_pos (by omega)], V.toNat, by omega, ?_, by omega⟩
      unfold decodeN
      rw [if_neg (by omega), if_pos (by omega), if_pos (by omega)]
      apply Prod.ext <;> simp only <;> omega
    · refine .inr ⟨?_, ?_⟩
      · repeat' split
        all_goals omega
      · unfold decodeN
        repeat' split
        all_goals first | rfl | (exfalso; omega)
  · rw [if_neg c2] at e e'
    simp only at e e'
    subst e e'
    simp only [if_true] at hV
    refine .inl ⟨by omega, by rw [if_pos (by omega)], b0, by omega, ?_, by omega⟩
    unfold decodeN
    rw [if_pos (by omega)]
theorem next_tail {n : Nat} {r0 : Int} (hL : leadF (l.getD 0 0).toNat = (n, r0)) (h1 : ¬ (128 ≤ (l.getD 0 0).toNat ∧ (l.getD 0 0).toNat < 192)) (hn : n ≤ l.length) (hc : contTo l (n - 1)) :
    (may (accv l r0 (n - 1)) = true ∧ (enc (accv l r0 (n - 1))).length = n → nextF l = (accv l r0 (n - 1), (n : Int))) ∧
    (¬ (may (accv l r0 (n - 1)) = true ∧ (enc (accv l r0 (n - 1))).length = n) → nextF l = (0, 0)) := by
  have hn4 : n = 1 ∨ n = 2 ∨ n = 3 ∨ n = 4 := by
    have e := congrArg Prod.fst hL
    unfold leadF at e
    (repeat' split at e) <;> simp only at e <;> omega
  have cc : ∀ j, j < n - 1 → 128 ≤ (l.getD (j + 1) 0).toNat ∧ (l.getD (j + 1) 0).toNat ≤ 191 := fun j hj => by
    have a := hc j hj; unfold contB at a; exact of_decide_eq_true a
  have hV : accv l r0 (n - 1) = if n = 1 then r0 else if n = 2 then r0 * 64 + ((l.getD 1 0).toNat : Int) - 128 else if n = 3 then (r0 * 64 + ((l.getD 1 0).toNat : Int) - 128) * 64 + ((l.getD 2 0).toNat : Int) - 128 else ((r0 * 64 + ((l.getD 1 0).toNat : Int) - 128) * 64 + ((l.getD 2 0).toNat : Int) - 128) * 64 + ((l.getD 3 0).toNat : Int) - 128 := by
    rcases hn4 with rfl | rfl | rfl | rfl <;> rfl
  rcases tail_N l.length (l.getD 0 0).toNat (l.getD 1 0).toNat (l.getD 2 0).toNat (l.getD 3 0).toNat n r0 _ hL h1 (l.getD 0 0).toNat_lt hn (fun h => cc 0 (by omega)) (fun h => cc 1 (by omega)) (fun h => cc 2 (by omega)) hV with ⟨hm, he, r, hr, hd, hz⟩ | ⟨hno, hd⟩
  · exact ⟨fun _ => by rw [hr]; exact nextF_eq hd hz, fun h => absurd ⟨hm, he⟩ h⟩
  · exact ⟨fun h => absurd h hno, fun _ => badStep_t hd⟩
end
end Go.Proofs.YtaejlgdmalhhnaaDoor
