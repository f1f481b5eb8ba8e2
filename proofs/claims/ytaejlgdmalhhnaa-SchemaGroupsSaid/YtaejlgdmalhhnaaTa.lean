/- SchemaGroups' has. -/
import Derived.Test.YtaejlgdmalhhnaaSk
set_option linter.unusedVariables false
set_option linter.unusedSimpArgs false
namespace Go.Proofs.Ytaejlgdmalhhnaa
open Go.RowKit Go.Maps

def HasPost (w : World) (b : Bool) (e : Ending) (w' : World) : Prop := e = .returned (.bool b) ∧ w' = w
set_option maxRecDepth 100000 in
theorem has_any (A : Option Addr) (c : Nat) (l : List Int) (n : Int) (w : World) (hC : Cells w A (nums .i64 l)) (hc : l.length ≤ c) (hl : l.length ≤ 100000) : Calls Try.prog 7 #[.slice A l.length c, .int .i64 n] w (HasPost w (l.contains n)) := by
  have HC := Aside.mk hC
  have g1 : (l.length : Int) ≤ (c : Int) := by omega
  have g2 : (l.length : Int) ≤ 100000 := by omega
  obtain ⟨R, hR⟩ : ∃ R, HasPost w (l.contains n) = R := ⟨_, rfl⟩
  rw [hR]
  have HRR := Aside.mk hR
  clear hC hc hl hR
  go_enter Try.func7, Try.ntmps7
  go_wp2_with fail
  go_loopw [8] (fun i wr => ∃ k : Nat, k ≤ l.length ∧ i = .int .i64 k ∧ wr = w ∧ Aside (∀ j < k, l[j]? ≠ some n)) (fun i _ => l.length - (intOf i).toNat)
  case atStart => exact ⟨0, Nat.zero_le _, rfl, rfl, ⟨fun j h => absurd h (by omega)⟩⟩
  case round =>
    obtain ⟨k, hk, rfl, rfl, HN⟩ := hrel
    by_cases hlt : k < l.length
    · have hkz : (k : Int) < (l.length : Int) := by omega
      obtain ⟨x, hx⟩ : ∃ x, l[k]? = some x := ⟨_, List.getElem?_eq_getElem hlt⟩
      obtain ⟨ad, rfl, hcs⟩ := HC.out (by rw [nums_length]; omega)
      have hcell : wr.cell? (ad.add k) = some (.int .i64 x) := hcs k _ (by simp [nums, hx])
      have HX := Aside.mk hx
      clear hx hcs
      by_cases hxn : x = n
      · have hq : (x == n) = true := by simpa using hxn
        have HZ := Aside.mk (show l.contains n = true by rw [List.contains_iff_mem]; exact hxn ▸ List.mem_of_getElem? HX.out)
        clear hxn
        go_wp2
        rw [← HRR.out, HZ.out]
        exact ⟨rfl, rfl⟩
      · have hq : (x == n) = false := by simpa using hxn
        have HZ := Aside.mk (show ∀ j < k + 1, l[j]? ≠ some n by
          intro j hj
          rcases Nat.lt_or_ge j k with h | h
          · exact HN.out j h
          · obtain rfl : j = k := by omega
            rw [HX.out]; exact fun e => hxn (Option.some.inj e))
        clear hxn
        go_wp2
        go_roundw
        case rel => exact ⟨k + 1, by omega, by go_num, trivial, HZ⟩
        case measure => simp [intOf]; omega
    · obtain rfl : k = l.length := by omega
      have HZ := Aside.mk (show l.contains n = false by
        rw [Bool.eq_false_iff]
        intro h
        rw [List.contains_iff_mem] at h
        obtain ⟨j, hj, e⟩ := List.mem_iff_getElem.1 h
        exact HN.out j hj (by rw [List.getElem?_eq_getElem hj, e]))
      go_wp2
      rw [← HRR.out, HZ.out]
      exact ⟨rfl, rfl⟩
end Go.Proofs.Ytaejlgdmalhhnaa
