/- Layer 1, plain: texts stand in the order of their runes. No walk stands here. -/
import Derived.Test.YtaejlgdmalhhnaaDoorRq
namespace Go.Proofs.YtaejlgdmalhhnaaDoor
open Go.Lib

def bl : List Int → List Int → Bool
  | _, [] => false
  | [], _ :: _ => true
  | a :: x, b :: y => decide (a < b) || (decide (a = b) && bl x y)
theorem bl_lt {a b : Int} {x y : List Int} (h : a < b) : bl (a :: x) (b :: y) = true := by simp [bl, h]
theorem bl_gt {a b : Int} {x y : List Int} (h : b < a) : bl (a :: x) (b :: y) = false := by
  simp only [bl]; rw [decide_eq_false (by omega), decide_eq_false (by omega)]; rfl
theorem bl_eq {a b : Int} {x y : List Int} (h : a = b) : bl (a :: x) (b :: y) = bl x y := by subst h; simp [bl]
theorem u8_lt {x y : Int} (h0 : 0 ≤ x) (h1 : x < 256) (k0 : 0 ≤ y) (k1 : y < 256) : (UInt8.ofNat x.toNat < UInt8.ofNat y.toNat) ↔ x < y := by
  rw [UInt8.lt_iff_toNat_lt]; have := u8_of h0 h1; have := u8_of k0 k1; omega
theorem u8_eq {x y : Int} (h0 : 0 ≤ x) (h1 : x < 256) (k0 : 0 ≤ y) (k1 : y < 256) : (UInt8.ofNat x.toNat = UInt8.ofNat y.toNat) ↔ x = y := by
  constructor
  · intro e
    have := u8_of h0 h1; have := u8_of k0 k1
    rw [e] at *; omega
  · rintro rfl; rfl
theorem bytesLess_bl : ∀ (a b : List Int), (∀ x ∈ a, 0 ≤ x ∧ x < 256) → (∀ x ∈ b, 0 ≤ x ∧ x < 256) → Op.bytesLess (toU a) (toU b) = bl a b
  | a, [], _, _ => by cases a <;> simp [toU, Op.bytesLess, bl]
  | [], b :: y, _, _ => by simp [toU, Op.bytesLess, bl]
  | a :: x, b :: y, ha, hb => by
    have h1 := ha a (by simp)
    have h2 := hb b (by simp)
    have ih := bytesLess_bl x y (fun z hz => ha z (by simp [hz])) (fun z hz => hb z (by simp [hz]))
    have e1 : decide (UInt8.ofNat a.toNat < UInt8.ofNat b.toNat) = decide (a < b) := decide_eq_decide.2 (u8_lt h1.1 h1.2 h2.1 h2.2)
    have e2 : (UInt8.ofNat a.toNat == UInt8.ofNat b.toNat) = decide (a = b) := by
      rw [Bool.eq_iff_iff]; simp [u8_eq h1.1 h1.2 h2.1 h2.2]
    simp only [toU, List.map_cons, Op.bytesLess, bl]
    rw [e1, e2]
    have ih' : Op.bytesLess (List.map (fun n => UInt8.ofNat n.toNat) x) (List.map (fun n => UInt8.ofNat n.toNat) y) = bl x y := ih
    rw [ih']
theorem bl_same {r : Int} (x y : List Int) : ∀ e : List Int, bl (e ++ x) (e ++ y) = bl x y
  | [] => rfl
  | a :: e => by rw [List.cons_append, List.cons_append, bl_eq rfl, bl_same (r := r) x y e]
set_option maxHeartbeats 1000000 in
theorem bl_enc {r s : Int} (hr : may r = true) (hs : may s = true) (h : r < s) (x y : List Int) : bl (enc r ++ x) (enc s ++ y) = true ∧ bl (enc s ++ y) (enc r ++ x) = false := by
  obtain ⟨r0, r1, _⟩ := may_cases hr
  obtain ⟨s0, s1, _⟩ := may_cases hs
  have er1 : r / 64 / 64 = r / 4096 := by omega
  have er2 : r / 4096 / 64 = r / 262144 := by omega
  have es1 : s / 64 / 64 = s / 4096 := by omega
  have es2 : s / 4096 / 64 = s / 262144 := by omega
  by_cases c1 : r ≤ 127
  · rw [enc1 c1]
    by_cases d1 : s ≤ 127
    · rw [enc1 d1]; exact ⟨bl_lt h, bl_gt h⟩
    by_cases d2 : s ≤ 2047
    · rw [enc2 (by omega) d2]; exact ⟨bl_lt (by omega), bl_gt (by omega)⟩
    by_cases d3 : s ≤ 65535
    · rw [enc3 (by omega) d3]; exact ⟨bl_lt (by omega), bl_gt (by omega)⟩
    · rw [enc4 (by omega)]; exact ⟨bl_lt (by omega), bl_gt (by omega)⟩
  by_cases c2 : r ≤ 2047
  · rw [enc2 (by omega) c2]
    by_cases d2 : s ≤ 2047
    · rw [enc2 (by omega) d2]
      by_cases q : r / 64 < s / 64
      · exact ⟨bl_lt (by omega), bl_gt (by omega)⟩
      · simp only [List.cons_append]
        exact ⟨by rw [bl_eq (by omega)]; exact bl_lt (by omega), by rw [bl_eq (by omega)]; exact bl_gt (by omega)⟩
    by_cases d3 : s ≤ 65535
    · rw [enc3 (by omega) d3]; exact ⟨bl_lt (by omega), bl_gt (by omega)⟩
    · rw [enc4 (r := s) (by omega)]; exact ⟨bl_lt (by omega), bl_gt (by omega)⟩
  by_cases c3 : r ≤ 65535
  · rw [enc3 (by omega) c3]
    by_cases d3 : s ≤ 65535
    · rw [enc3 (by omega) d3]
      by_cases q : r / 4096 < s / 4096
      · exact ⟨bl_lt (by omega), bl_gt (by omega)⟩
      · simp only [List.cons_append]
        by_cases q2 : r / 64 % 64 < s / 64 % 64
        · exact ⟨by rw [bl_eq (by omega)]; exact bl_lt (by omega), by rw [bl_eq (by omega)]; exact bl_gt (by omega)⟩
        · exact ⟨by rw [bl_eq (by omega), bl_eq (by omega)]; exact bl_lt (by omega), by rw [bl_eq (by omega), bl_eq (by omega)]; exact bl_gt (by omega)⟩
    · rw [enc4 (r := s) (by omega)]; exact ⟨bl_lt (by omega), bl_gt (by omega)⟩
  · rw [enc4 (r := r) (by omega), enc4 (r := s) (by omega)]
    by_cases q : r / 262144 < s / 262144
    · exact ⟨bl_lt (by omega), bl_gt (by omega)⟩
    · simp only [List.cons_append]
      by_cases q1 : r / 4096 % 64 < s / 4096 % 64
      · exact ⟨by rw [bl_eq (by omega)]; exact bl_lt (by omega), by rw [bl_eq (by omega)]; exact bl_gt (by omega)⟩
      · by_cases q2 : r / 64 % 64 < s / 64 % 64
        · exact ⟨by rw [bl_eq (by omega), bl_eq (by omega)]; exact bl_lt (by omega), by rw [bl_eq (by omega), bl_eq (by omega)]; exact bl_gt (by omega)⟩
        · exact ⟨by rw [bl_eq (by omega), bl_eq (by omega), bl_eq (by omega)]; exact bl_lt (by omega), by rw [bl_eq (by omega), bl_eq (by omega), bl_eq (by omega)]; exact bl_gt (by omega)⟩

/-- The order of two rows, rune by rune. -/
def runeLess : List Int → List Int → Bool
  | _, [] => false
  | [], _ :: _ => true
  | a :: x, b :: y => decide (a < b) || (decide (a = b) && runeLess x y)
theorem enc_cons (r : Int) : ∃ a t, enc r = a :: t := by
  have := enc_pos r
  match h : enc r, this with
  | a :: t, _ => exact ⟨a, t, rfl⟩
theorem bl_runes : ∀ (a b : List Int), a.all may = true → b.all may = true → bl (a.flatMap enc) (b.flatMap enc) = runeLess a b
  | a, [], _, _ => by cases a <;> simp [bl, runeLess]
  | [], b :: y, _, _ => by
    obtain ⟨c, t, e⟩ := enc_cons b
    simp [bl, runeLess, e]
  | a :: x, b :: y, ha, hb => by
    simp only [List.all_cons, Bool.and_eq_true] at ha hb
    rw [List.flatMap_cons, List.flatMap_cons]
    simp only [runeLess]
    rcases Int.lt_trichotomy a b with h | h | h
    · rw [(bl_enc ha.1 hb.1 h _ _).1]; simp [h]
    · subst h
      rw [bl_same (r := a), bl_runes x y ha.2 hb.2]
      simp
    · rw [(bl_enc hb.1 ha.1 h _ _).2, decide_eq_false (by omega), decide_eq_false (by omega)]; rfl
theorem less_runes {a b : List Int} (ha : a.all may = true) (hb : b.all may = true) : Op.bytesLess (bytesU a) (bytesU b) = runeLess a b := by
  rw [(bytesU_t ha).1, (bytesU_t hb).1, bytesLess_bl _ _ ?_ ?_, bl_runes a b ha hb]
  · intro x hx
    simp only [List.mem_flatMap] at hx
    obtain ⟨r, hr, hx⟩ := hx
    exact enc_range (List.all_eq_true.1 ha r hr) x hx
  · intro x hx
    simp only [List.mem_flatMap] at hx
    obtain ⟨r, hr, hx⟩ := hx
    exact enc_range (List.all_eq_true.1 hb r hr) x hx
/-- By the first place at which they are not alike. -/
theorem runeLess_at : ∀ (k : Nat) (a b : List Int), k ≤ a.length → k ≤ b.length → (∀ j, j < k → a.getD j 0 = b.getD j 0) → (k < a.length → k < b.length → a.getD k 0 ≠ b.getD k 0) →
    runeLess a b = (decide (k < b.length) && (decide (k = a.length) || decide (a.getD k 0 < b.getD k 0)))
  | k, a, [], _, hb, _, _ => by
    obtain rfl : k = 0 := by simpa using hb
    cases a <;> simp [runeLess]
  | k, [], b :: y, ha, _, _, _ => by
    obtain rfl : k = 0 := by simpa using ha
    simp [runeLess]
  | 0, a :: x, b :: y, _, _, _, hn => by
    have h := hn (by simp) (by simp)
    simp only [List.getD_cons_zero] at h
    simp [runeLess, h]
  | k + 1, a :: x, b :: y, ha, hb, hp, hn => by
    have h0 := hp 0 (by omega)
    simp only [List.getD_cons_zero] at h0
    subst h0
    have ih := runeLess_at k x y (by simpa using ha) (by simpa using hb) (fun j hj => by have := hp (j + 1) (by omega); simpa using this) (fun h1 h2 => by
      have := hn (by simpa using h1) (by simpa using h2); simpa using this)
    simp [runeLess, ih]

/-! ### how many bytes -/
def sizeOne (r : Int) : Int := 1 + (if 128 ≤ r then 1 else 0) + (if 2048 ≤ r then 1 else 0) + (if 65536 ≤ r then 1 else 0)
def sizes (l : List Int) : Int := (l.map sizeOne).sum
theorem sizeOne_enc (r : Int) : ((enc r).length : Int) = sizeOne r := by
  rw [enc_len_cases]; unfold sizeOne
  repeat' split
  all_goals omega
theorem sizes_U {l : List Int} (h : l.all may = true) : ((bytesU l).length : Int) = sizes l := by
  rw [(bytesU_t h).1, toU_length]
  clear h
  induction l with
  | nil => rfl
  | cons r l ih =>
    rw [List.flatMap_cons, List.length_append]
    have := sizeOne_enc r
    simp only [sizes, List.map_cons, List.sum_cons] at ih ⊢
    omega
theorem sizes_snoc (l : List Int) (x : Int) : sizes (l ++ [x]) = sizes l + sizeOne x := by simp [sizes]
theorem sizes_bd (l : List Int) : 0 ≤ sizes l ∧ sizes l ≤ 4 * l.length := by
  induction l with
  | nil => simp [sizes]
  | cons r l ih =>
    have h : 1 ≤ sizeOne r ∧ sizeOne r ≤ 4 := by
      unfold sizeOne
      repeat' split
      all_goals omega
    simp only [sizes, List.map_cons, List.sum_cons, List.length_cons] at ih ⊢
    omega
end Go.Proofs.YtaejlgdmalhhnaaDoor
