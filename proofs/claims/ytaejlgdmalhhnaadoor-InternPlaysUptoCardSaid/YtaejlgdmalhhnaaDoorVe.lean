/- Layer 3: small functions of floats and their words. -/
import Derived.Test.YtaejlgdmalhhnaaDoorVd
import Derived.Laws.Bits64
import Derived.Laws.BitsLemmas
set_option linter.unusedVariables false
namespace Go.Proofs.YtaejlgdmalhhnaaDoor
open Go.RowKit

def signB (b : Nat) : Bool := decide (9223372036854775808 ≤ b)
def noneB (f : Nat) : Bool := decide (9218868437227405312 < f % 9223372036854775808)
def rankN (f : Nat) : Nat := if f = 9221120237041090560 then 18446744073709551615 else if 9223372036854775808 ≤ f then 9223372036854775807 - f % 9223372036854775808 else 9223372036854775808 + f

theorem signbit_any (b : Nat) (w : World) (hb : b < 18446744073709551616) : Calls Tryd.prog 96 #[.float .f64 b] w fun e w' => e = .returned (.bool (signB b)) ∧ w = w' := by
  have h47 := call47 b
  by_cases h : 9223372036854775808 ≤ b
  · have hs : signB b = true := by unfold signB; rw [decide_eq_true h]
    have hw : IntKind.i64.wrap (b : Int) = (b : Int) - 18446744073709551616 := by
      rw [IntKind.wrap_i64]; omega
    have hd : decide ((b : Int) - 18446744073709551616 < 0) = true := by rw [decide_eq_true]; omega
    rw [hs]
    clear hs h
    go_enter Tryd.func96, Tryd.ntmps96
    go_wp2
    go_ret
    exact ⟨rfl, rfl⟩
  · have hs : signB b = false := by unfold signB; rw [decide_eq_false h]
    have hw : IntKind.i64.wrap (b : Int) = (b : Int) := by
      rw [IntKind.wrap_i64]; omega
    have hd : decide ((b : Int) < 0) = false := by rw [decide_eq_false]; omega
    rw [hs]
    clear hs h
    go_enter Tryd.func96, Tryd.ntmps96
    go_wp2
    go_ret
    exact ⟨rfl, rfl⟩
theorem none_any (f : Nat) (w : World) (hb : f < 18446744073709551616) : Calls Tryd.prog 93 #[.int .u64 (f : Int)] w fun e w' => e = .returned (.bool (noneB f)) ∧ w = w' := by
  have hm : ((f : Int).tmod 9223372036854775808) = ((f % 9223372036854775808 : Nat) : Int) := by rw [Int.tmod_eq_emod_of_nonneg (by omega)]; omega
  have hw : IntKind.u64.wrap ((f % 9223372036854775808 : Nat) : Int) = ((f % 9223372036854775808 : Nat) : Int) := by
    rw [IntKind.wrap_u64]; omega
  have hd : decide ((9218868437227405312 : Int) < ((f % 9223372036854775808 : Nat) : Int)) = noneB f := by unfold noneB; rw [decide_eq_decide]; omega
  obtain ⟨R, hR⟩ : ∃ R, noneB f = R := ⟨_, rfl⟩
  rw [hR] at hd ⊢
  clear hR
  obtain ⟨g, hg⟩ : ∃ g : Int, ((f % 9223372036854775808 : Nat) : Int) = g := ⟨_, rfl⟩
  rw [hg] at hm hw hd
  have g0 : 0 ≤ g := by omega
  have g1 : g < 9223372036854775808 := by omega
  clear hg
  go_enter Tryd.func93, Tryd.ntmps93
  go_wp2
  go_ret
  exact ⟨rfl, rfl⟩
set_option maxRecDepth 100000 in
theorem nan_any (w : World) : Calls Tryd.prog 92 #[] w fun e w' => e = .returned (.float .f64 9221120237041090561) ∧ w = w' := by
  have h52 : ∀ W, (callFunc 52 #[.int .u64 9221120237041090561]).run Tryd.prog W = .ok (.value (.float .f64 9221120237041090561)) W := fun W => call52 9221120237041090561 W
  go_enter Tryd.func92, Tryd.ntmps92
  go_wp2
  go_ret
  exact ⟨rfl, rfl⟩
set_option maxRecDepth 100000 in
theorem copysign0 (w : World) : Calls Tryd.prog 91 #[.float .f64 0, .float .f64 13830554455654793216] w fun e w' => e = .returned (.float .f64 9223372036854775808) ∧ w = w' := by
  have h0 : ∀ W, (callFunc 47 #[.float .f64 0]).run Tryd.prog W = .ok (.value (.int .u64 0)) W := fun W => call47 0 W
  have h1 : ∀ W, (callFunc 47 #[.float .f64 13830554455654793216]).run Tryd.prog W = .ok (.value (.int .u64 13830554455654793216)) W := fun W => call47 13830554455654793216 W
  have h52 : ∀ W, (callFunc 52 #[.int .u64 9223372036854775808]).run Tryd.prog W = .ok (.value (.float .f64 9223372036854775808)) W := fun W => call52 9223372036854775808 W
  have b1 : bits .andNot .u64 0 9223372036854775808 = 0 := by decide +kernel
  have b2 : bits .and .u64 13830554455654793216 9223372036854775808 = 9223372036854775808 := by decide +kernel
  have b3 : bits .or .u64 0 9223372036854775808 = 9223372036854775808 := by decide +kernel
  go_enter Tryd.func91, Tryd.ntmps91
  go_wp2
  go_ret
  exact ⟨rfl, rfl⟩
set_option maxRecDepth 100000 in
theorem rank_any (f : Nat) (w : World) (hb : f < 18446744073709551616) : Calls Tryd.prog 97 #[.int .u64 (f : Int)] w fun e w' => e = .returned (.int .u64 (rankN f : Int)) ∧ w = w' := by
  by_cases h : f = 9221120237041090560
  · subst h
    go_enter Tryd.func97, Tryd.ntmps97
    go_wp2
    go_ret
    exact ⟨rfl, rfl⟩
  have e1 : ((f : Int) == 9221120237041090560) = false := beq_eq_false_iff_ne.2 (by omega)
  by_cases h2 : 9223372036854775808 ≤ f
  · have hr : (rankN f : Int) = 9223372036854775807 - ((f % 9223372036854775808 : Nat) : Int) := by unfold rankN; rw [if_neg h, if_pos h2]; omega
    have hm : ((f : Int).tmod 9223372036854775808) = ((f % 9223372036854775808 : Nat) : Int) := by rw [Int.tmod_eq_emod_of_nonneg (by omega)]; omega
    have g1 : (9223372036854775808 : Int) ≤ (f : Int) := by omega
    have hge : decide ((9223372036854775808 : Int) ≤ (f : Int)) = true := by rw [decide_eq_true]; omega
    have hlt : decide ((f : Int) < (9223372036854775808 : Int)) = false := by rw [decide_eq_false]; omega
    obtain ⟨g, hg⟩ : ∃ g : Int, ((f % 9223372036854775808 : Nat) : Int) = g := ⟨_, rfl⟩
    have gp0 : 0 ≤ g := by omega
    have gp1 : g < 9223372036854775808 := by omega
    have hw : IntKind.u64.wrap g = g := by rw [IntKind.wrap_u64]; omega
    have hw2 : IntKind.u64.wrap (9223372036854775807 - g) = 9223372036854775807 - g := by rw [IntKind.wrap_u64]; omega
    rw [hr, hg]
    rw [hg] at hm
    clear hr hg h h2
    go_enter Tryd.func97, Tryd.ntmps97
    go_wp2
    go_ret
    exact ⟨rfl, rfl⟩
  · have hr : (rankN f : Int) = 9223372036854775808 + (f : Int) := by unfold rankN; rw [if_neg h, if_neg h2]; omega
    have g1 : (f : Int) < (9223372036854775808 : Int) := by omega
    have hge : decide ((9223372036854775808 : Int) ≤ (f : Int)) = false := by rw [decide_eq_false]; omega
    have hlt : decide ((f : Int) < (9223372036854775808 : Int)) = true := by rw [decide_eq_true]; omega
    have hw2 : IntKind.u64.wrap (9223372036854775808 + (f : Int)) = 9223372036854775808 + (f : Int) := by rw [IntKind.wrap_u64]; omega
    rw [hr]
    clear hr h h2
    go_enter Tryd.func97, Tryd.ntmps97
    go_wp2
    go_ret
    exact ⟨rfl, rfl⟩
def refFloatW (f : Nat) : Nat := if noneB f then nanW else f
set_option maxRecDepth 100000 in
theorem refFloat_any (f : Nat) (w : World) (hb : f < 18446744073709551616) : Calls Tryd.prog 53 #[.int .u64 (f : Int)] w fun e w' => e = .returned (.agg #[.int .u8 3, .int .i64 0, .int .u64 (refFloatW f : Int), .string ⟨#[]⟩]) ∧ Below w.heap.size w w' := by
  have hn := fun w => none_any f w hb
  by_cases h : noneB f = true
  · rw [h] at hn
    have HN := Aside.mk hn
    have hf : ((refFloatW f : Nat) : Int) = 9221120237041090560 := by unfold refFloatW; rw [if_pos h]; rfl
    rw [hf]
    clear hn h hf
    go_enter Tryd.func53, Tryd.ntmps53
    go_wp2_with (go_at_call 93; go_must (refine (HN.out _).mono ?_; rintro e w' ⟨rfl, rfl⟩))
    exact bodyPost_ret (v := .agg #[.int .u8 3, .int .i64 0, .int .u64 9221120237041090560, .string ⟨#[]⟩]) (by simp [results, Tryd.results53, go_sem]) rfl ⟨rfl, below_alloc (below_refl w) _⟩
  · have h : noneB f = false := by simpa using h
    have hf : refFloatW f = f := by unfold refFloatW; rw [if_neg (by simp [h])]
    rw [hf]
    rw [h] at hn
    have HN := Aside.mk hn
    clear hn h hf
    go_enter Tryd.func53, Tryd.ntmps53
    go_wp2_with (go_at_call 93; go_must (refine (HN.out _).mono ?_; rintro e w' ⟨rfl, rfl⟩))
    exact bodyPost_ret (v := .agg #[.int .u8 3, .int .i64 0, .int .u64 (f : Int), .string ⟨#[]⟩]) (by simp [results, Tryd.results53, go_sem]) rfl ⟨rfl, below_alloc (below_refl w) _⟩
end Go.Proofs.YtaejlgdmalhhnaaDoor
