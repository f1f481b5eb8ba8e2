/- Layer 1: Newlines, and the reference's Newlines, one, Bytes, Same. -/
import Derived.Test.YtaejlgdmalhhnaaDoorRb
namespace Go.Proofs.YtaejlgdmalhhnaaDoor
open Go.RowKit

/-- How many newlines there are. -/
def cnt (l : List Int) : Int := ((l.countP (fun x => x == 10) : Nat) : Int)
theorem cnt_le (l : List Int) : 0 ≤ cnt l ∧ cnt l ≤ l.length := by
  unfold cnt; exact ⟨by omega, by have := List.countP_le_length (p := fun x : Int => x == 10) (l := l); omega⟩
theorem cnt_snoc (l : List Int) (x : Int) : cnt (l ++ [x]) = cnt l + if x = 10 then 1 else 0 := by
  unfold cnt; rw [List.countP_append]; by_cases h : x = 10 <;> simp [h]
theorem cnt_append (l m : List Int) : cnt (l ++ m) = cnt l + cnt m := by unfold cnt; rw [List.countP_append]; omega

set_option maxRecDepth 100000 in
set_option maxHeartbeats 800000 in
theorem newlines_any (A : Option Addr) (c : Nat) (l : List Int) (w : World) (hn : Nums w .i32 A l) :
    Calls Tryd.prog 28 #[.slice A l.length c] w fun e w' => e = .returned (.int .i64 (cnt l)) ∧ w = w' := by
  have hlen := hn.1
  have HN := Aside.mk hn
  clear hn
  go_enter Tryd.func28, Tryd.ntmps28
  go_wp2
  go_loop [3, 8] (fun n i => ∃ k : Nat, k ≤ l.length ∧ i = .int .i64 k ∧ n = .int .i64 (cnt (l.take k))) (fun _ i => l.length - (intOf i).toNat)
  case atStart => exact ⟨0, Nat.zero_le _, rfl, rfl⟩
  case round =>
    obtain ⟨k, hk, rfl, rfl⟩ := hrel
    have hb := cnt_le (l.take k)
    rw [List.length_take] at hb
    by_cases hlt : k < l.length
    · obtain ⟨ad, rfl, hc⟩ := HN.out.at_ hlt
      have hs := cnt_snoc (l.take k) (l.getD k 0)
      rw [← take_succ_getD l k hlt] at hs
      obtain ⟨x, hx⟩ : ∃ x, l.getD k 0 = x := ⟨_, rfl⟩
      rw [hx] at hc hs
      have Hs := Aside.mk hs
      clear hs hx
      by_cases h10 : x = 10
      · have hb10 : (x == 10) = true := by simp [h10]
        go_wp2
        go_round
        case rel => exact ⟨k + 1, by omega, by go_num, by rw [Hs.out, if_pos h10]⟩
        case measure => simp [intOf]; omega
      · have hb10 : (x == 10) = false := by simp [h10]
        go_wp2
        go_round
        case rel => exact ⟨k + 1, by omega, by go_num, by rw [Hs.out, if_neg h10]; go_num⟩
        case measure => simp [intOf]; omega
    · obtain rfl : k = l.length := by omega
      go_wp2
      go_ret
      exact ⟨rfl, rfl⟩

set_option maxRecDepth 100000 in
set_option maxHeartbeats 800000 in
theorem refNewlines_any (A : Option Addr) (c : Nat) (l : List Int) (w : World) (hn : Nums w .i32 A l) :
    Calls Tryd.prog 29 #[.slice A l.length c] w fun e w' => e = .returned (.int .i64 (cnt l)) ∧ w = w' := by
  have hlen := hn.1
  have HN := Aside.mk hn
  clear hn
  go_enter Tryd.func29, Tryd.ntmps29
  go_wp2
  go_loop [3, 4] (fun n i => ∃ k : Nat, k ≤ l.length ∧ i = .int .i64 k ∧ n = .int .i64 (cnt (l.take k))) (fun _ i => l.length - (intOf i).toNat)
  case atStart => exact ⟨0, Nat.zero_le _, rfl, rfl⟩
  case round =>
    obtain ⟨k, hk, rfl, rfl⟩ := hrel
    have hb := cnt_le (l.take k)
    rw [List.length_take] at hb
    by_cases hlt : k < l.length
    · obtain ⟨ad, rfl, hc⟩ := HN.out.at_ hlt
      have hs := cnt_snoc (l.take k) (l.getD k 0)
      rw [← take_succ_getD l k hlt] at hs
      obtain ⟨x, hx⟩ : ∃ x, l.getD k 0 = x := ⟨_, rfl⟩
      rw [hx] at hc hs
      have Hs := Aside.mk hs
      clear hs hx
      by_cases h10 : x = 10
      · have hb10 : (x == 10) = true := by simp [h10]
        go_wp2
        go_round
        case rel => exact ⟨k + 1, by omega, by go_num, by rw [Hs.out, if_pos h10]⟩
        case measure => simp [intOf]; omega
      · have hb10 : (x == 10) = false := by simp [h10]
        go_wp2
        go_round
        case rel => exact ⟨k + 1, by omega, by go_num, by rw [Hs.out, if_neg h10]; go_num⟩
        case measure => simp [intOf]; omega
    · obtain rfl : k = l.length := by omega
      go_wp2
      go_ret
      exact ⟨rfl, rfl⟩

theorem six_any (n : Int) (h0 : 0 ≤ n) (h1 : n ≤ 1114111) (w : World) : Calls Tryd.prog 99 #[.int .i32 n] w fun e w' => e = .returned (.int .u8 (128 + n % 64)) ∧ w = w' := by
  go_enter Tryd.func99, Tryd.ntmps99
  go_wp2
  go_ret
  exact ⟨rfl, rfl⟩

/-- The bytes of one rune, in a new block. -/
def OneRune (w : World) (r : Int) (e : Ending) (w' : World) : Prop :=
  e = .returned (.slice (some ⟨w.heap.size, 0, none⟩) (enc r).length (enc r).length) ∧ w' = w.alloc (.cells (nums .u8 (enc r)).toArray 5)
set_option maxRecDepth 100000 in
theorem one_any (r : Int) (h0 : 0 ≤ r) (h1 : r ≤ 1114111) (w : World) : Calls Tryd.prog 74 #[.int .i32 r] w (OneRune w r) := by
  have hs : ∀ n W, 0 ≤ n → n ≤ 1114111 → Calls Tryd.prog 99 #[.int .i32 n] W fun e w' => e = .returned (.int .u8 (128 + n % 64)) ∧ W = w' := fun n W a b => six_any n a b W
  have Hs := Aside.mk hs
  clear hs
  by_cases h2 : r ≤ 127
  · have he := Aside.mk (enc1 h2)
    go_enter Tryd.func74, Tryd.ntmps74
    go_wp2_with (go_at_call 99; refine (Hs.out _ _ (by omega) (by omega)).mono ?_; rintro e w' ⟨rfl, rfl⟩)
    go_ret
    unfold OneRune; rw [he.out]; exact ⟨rfl, rfl⟩
  by_cases h3 : r ≤ 2047
  · have he := Aside.mk (enc2 (by omega) h3)
    go_enter Tryd.func74, Tryd.ntmps74
    go_wp2_with (go_at_call 99; refine (Hs.out _ _ (by omega) (by omega)).mono ?_; rintro e w' ⟨rfl, rfl⟩)
    go_ret
    unfold OneRune; rw [he.out]; exact ⟨rfl, rfl⟩
  by_cases h4 : r ≤ 65535
  · have he := Aside.mk (enc3 (by omega) h4)
    go_enter Tryd.func74, Tryd.ntmps74
    go_wp2_with (go_at_call 99; refine (Hs.out _ _ (by omega) (by omega)).mono ?_; rintro e w' ⟨rfl, rfl⟩)
    go_ret
    unfold OneRune; rw [he.out]; exact ⟨rfl, rfl⟩
  · have he := Aside.mk (enc4 (r := r) (by omega))
    go_enter Tryd.func74, Tryd.ntmps74
    go_wp2_with (go_at_call 99; refine (Hs.out _ _ (by omega) (by omega)).mono ?_; rintro e w' ⟨rfl, rfl⟩)
    go_ret
    unfold OneRune; rw [he.out]; exact ⟨rfl, rfl⟩
end Go.Proofs.YtaejlgdmalhhnaaDoor
