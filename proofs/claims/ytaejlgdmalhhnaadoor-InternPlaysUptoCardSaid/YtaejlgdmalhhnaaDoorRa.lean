/- Layer 1: what ValidRune, AppendRune, May, Bytes and Newlines come to, over this seat's program. -/
import Derived.Test.YtaejlgdmalhhnaaDoorKit
namespace Go.Proofs.YtaejlgdmalhhnaaDoor
open Go.RowKit

/-- Whether a rune may be. -/
def may (r : Int) : Bool := decide ((0 ≤ r ∧ r < 55296) ∨ (57343 < r ∧ r ≤ 1114111))
/-- The bytes of a rune that may be. -/
def enc (r : Int) : List Int :=
  if r ≤ 127 then [r] else if r ≤ 2047 then [192 + r / 64, 128 + r % 64]
  else if r ≤ 65535 then [224 + r / 4096, 128 + r / 64 % 64, 128 + r % 64]
  else [240 + r / 262144, 128 + r / 4096 % 64, 128 + r / 64 % 64, 128 + r % 64]
theorem may_t {r : Int} (h : (0 ≤ r ∧ r < 55296) ∨ (57343 < r ∧ r ≤ 1114111)) : true = may r := (decide_eq_true h).symm
theorem may_f {r : Int} (h : ¬ ((0 ≤ r ∧ r < 55296) ∨ (57343 < r ∧ r ≤ 1114111))) : false = may r := (decide_eq_false h).symm
theorem may_i {r : Int} {p : Prop} [Decidable p] (h : p ↔ ((0 ≤ r ∧ r < 55296) ∨ (57343 < r ∧ r ≤ 1114111))) : decide p = may r := by
  unfold may; exact decide_eq_decide.2 h

theorem validRune_any (r : Int) (w : World) : Calls Tryd.prog 77 #[.int .i32 r] w fun e w' => e = .returned (.bool (may r)) ∧ w = w' := by
  go_enter Tryd.func77, Tryd.ntmps77
  go_wp2
  all_goals (go_ret; refine ⟨?_, rfl⟩)
  all_goals first | exact ret_bool (may_t (by omega)) | exact ret_bool (may_f (by omega)) | exact ret_bool (may_i (by omega)) | exact ret_bool (by rw [Bool.eq_iff_iff]; simp [may]; omega)

theorem may_any (r : Int) (w : World) : Calls Tryd.prog 26 #[.int .i32 r] w fun e w' => e = .returned (.bool (may r)) ∧ w = w' := by
  go_enter Tryd.func26, Tryd.ntmps26
  go_wp2_with (go_at_call 77; refine (validRune_any _ _).mono ?_; rintro e w' ⟨rfl, rfl⟩)
  go_ret
  exact ⟨rfl, rfl⟩

theorem refMay_any (r : Int) (w : World) : Calls Tryd.prog 27 #[.int .i32 r] w fun e w' => e = .returned (.bool (may r)) ∧ w = w' := by
  go_enter Tryd.func27, Tryd.ntmps27
  go_wp2
  all_goals (go_ret; refine ⟨?_, rfl⟩)
  all_goals first | exact ret_bool (may_t (by omega)) | exact ret_bool (may_f (by omega)) | exact ret_bool (may_i (by omega)) | exact ret_bool (by rw [Bool.eq_iff_iff]; simp [may]; omega)

theorem may_cases {r : Int} (h : may r = true) : 0 ≤ r ∧ r ≤ 1114111 ∧ (r < 55296 ∨ 57343 < r) := by
  unfold may at h; have := of_decide_eq_true h; omega

theorem enc1 {r : Int} (h : r ≤ 127) : enc r = [r] := by simp [enc, h]
theorem enc2 {r : Int} (h : 127 < r) (h' : r ≤ 2047) : enc r = [192 + r / 64, 128 + r % 64] := by
  unfold enc; rw [if_neg (by omega), if_pos h']
theorem enc3 {r : Int} (h : 2047 < r) (h' : r ≤ 65535) : enc r = [224 + r / 4096, 128 + r / 64 % 64, 128 + r % 64] := by
  unfold enc; rw [if_neg (by omega), if_neg (by omega), if_pos h']
theorem enc4 {r : Int} (h : 65535 < r) : enc r = [240 + r / 262144, 128 + r / 4096 % 64, 128 + r / 64 % 64, 128 + r % 64] := by
  unfold enc; rw [if_neg (by omega), if_neg (by omega), if_neg (by omega)]
theorem enc_length_le (r : Int) : (enc r).length ≤ 4 := by
  unfold enc
  repeat' split
  all_goals simp

section
variable {w0 w : World} {v : Value} {xs : List Int} {r : Int}
set_option maxRecDepth 100000 in
set_option maxHeartbeats 400000 in
theorem appendNon_any (hr : may r = true) (h127 : 127 < r) (HO : OwnN w w0.heap.size 5 .u8 v xs) (HB : Below w0.heap.size w0 w) (hl : xs.length + 4 ≤ 140737488355328) :
    Calls Tryd.prog 98 #[v, .int .i32 r] w fun e w' => ∃ v', e = .returned v' ∧ OwnN w' w0.heap.size 5 .u8 v' (xs ++ enc r) ∧ Below w0.heap.size w0 w' := by
  have hm := may_cases hr
  obtain ⟨hm0, hm1, hm2⟩ := hm
  have hz : (0 : Int) ≤ r := hm0
  have HOa := Aside.mk HO
  have HBa := Aside.mk HB
  clear HO HB hr
  by_cases h2 : r ≤ 2047
  · have h128 : 128 ≤ r := by omega
    go_enter Tryd.func98, Tryd.ntmps98
    go_wp2_with (at_builtin; refine app_lit (w0 := w0) w0.heap.size rfl (.tmp 14) (.tmp 23) 23 5 (.int .u8 0) 1 1 _ rfl Tryd.underlying23 info5 rfl (by decide) v xs.length 2 (nums .u8 xs) (nums .u8 [192 + r / 64, 128 + r % 64]) rfl rfl rfl rfl (nums_one _ _) HOa.out HBa.out HBa.out.size (by omega) (by omega) ?_; intro v1 w1 hown hb1 hg1 _)
    go_ret
    exact ⟨_, rfl, by rw [enc2 h127 h2]; exact own_n hown, hb1⟩
  by_cases h3 : r ≤ 65535
  · have h2048 : 2048 ≤ r := by omega
    rcases hm2 with hm2 | hm2
    · skip
      go_enter Tryd.func98, Tryd.ntmps98
      go_wp2_with (at_builtin; refine app_lit (w0 := w0) w0.heap.size rfl (.tmp 34) (.tmp 48) 23 5 (.int .u8 0) 1 1 _ rfl Tryd.underlying23 info5 rfl (by decide) v xs.length 3 (nums .u8 xs) (nums .u8 [224 + r / 4096, 128 + r / 64 % 64, 128 + r % 64]) rfl rfl rfl rfl (nums_one _ _) HOa.out HBa.out HBa.out.size (by omega) (by omega) ?_; intro v1 w1 hown hb1 hg1 _)
      go_ret
      exact ⟨_, rfl, by rw [enc3 (by omega) h3]; exact own_n hown, hb1⟩
    · have hn : ¬ r < 55296 := by omega
      go_enter Tryd.func98, Tryd.ntmps98
      go_wp2_with (at_builtin; refine app_lit (w0 := w0) w0.heap.size rfl (.tmp 34) (.tmp 48) 23 5 (.int .u8 0) 1 1 _ rfl Tryd.underlying23 info5 rfl (by decide) v xs.length 3 (nums .u8 xs) (nums .u8 [224 + r / 4096, 128 + r / 64 % 64, 128 + r % 64]) rfl rfl rfl rfl (nums_one _ _) HOa.out HBa.out HBa.out.size (by omega) (by omega) ?_; intro v1 w1 hown hb1 hg1 _)
      go_ret
      exact ⟨_, rfl, by rw [enc3 (by omega) h3]; exact own_n hown, hb1⟩
  · have h65 : 65536 ≤ r := by omega
    have hn : ¬ r < 55296 := by omega
    go_enter Tryd.func98, Tryd.ntmps98
    go_wp2_with (at_builtin; refine app_lit (w0 := w0) w0.heap.size rfl (.tmp 57) (.tmp 76) 23 5 (.int .u8 0) 1 1 _ rfl Tryd.underlying23 info5 rfl (by decide) v xs.length 4 (nums .u8 xs) (nums .u8 [240 + r / 262144, 128 + r / 4096 % 64, 128 + r / 64 % 64, 128 + r % 64]) rfl rfl rfl rfl (nums_one _ _) HOa.out HBa.out HBa.out.size (by omega) (by omega) ?_; intro v1 w1 hown hb1 hg1 _)
    go_ret
    exact ⟨_, rfl, by rw [enc4 (by omega)]; exact own_n hown, hb1⟩
set_option maxRecDepth 100000 in
theorem appendRune_any (hr : may r = true) (HO : OwnN w w0.heap.size 5 .u8 v xs) (HB : Below w0.heap.size w0 w) (hl : xs.length + 4 ≤ 140737488355328) :
    Calls Tryd.prog 73 #[v, .int .i32 r] w fun e w' => ∃ v', e = .returned v' ∧ OwnN w' w0.heap.size 5 .u8 v' (xs ++ enc r) ∧ Below w0.heap.size w0 w' := by
  obtain ⟨hm0, hm1, hm2⟩ := may_cases hr
  by_cases h1 : r ≤ 127
  · have HOa := Aside.mk HO
    have HBa := Aside.mk HB
    clear HO HB hr
    go_enter Tryd.func73, Tryd.ntmps73
    go_wp2_with (at_builtin; refine app_lit (w0 := w0) w0.heap.size rfl (.tmp 8) (.tmp 11) 23 5 (.int .u8 0) 1 1 _ rfl Tryd.underlying23 info5 rfl (by decide) v xs.length 1 (nums .u8 xs) (nums .u8 [r]) rfl rfl rfl rfl (nums_one _ _) HOa.out HBa.out HBa.out.size (by omega) (by omega) ?_; intro v1 w1 hown hb1 hg1 _)
    go_ret
    exact ⟨_, rfl, by rw [enc1 h1]; exact own_n hown, hb1⟩
  · have h128 : 128 ≤ r := by omega
    have hc := appendNon_any hr (by omega) HO HB hl
    have Hc := Aside.mk hc
    clear hc HO HB hr
    go_enter Tryd.func73, Tryd.ntmps73
    go_wp2_with (go_at_call 98; refine Hc.out.mono ?_; rintro e w' ⟨v1, rfl, hown, hb1⟩)
    go_ret
    exact ⟨_, rfl, hown, hb1⟩
end
end Go.Proofs.YtaejlgdmalhhnaaDoor
