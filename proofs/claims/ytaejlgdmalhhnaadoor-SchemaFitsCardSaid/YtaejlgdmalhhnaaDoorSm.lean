/- Layer 4: SchemaFits. -/
import Derived.Test.YtaejlgdmalhhnaaDoorSl
set_option linter.unusedVariables false
set_option linter.unusedSimpArgs false
namespace Go.Proofs.YtaejlgdmalhhnaaDoor
open Go.RowKit Go.Maps

def fv1 : Val := ⟨1, 0, 0, ⟨#[]⟩⟩
def fv2 : Val := ⟨2, -5, 0, ⟨#[]⟩⟩
def fv3 : Val := ⟨3, 0, 9221120237041090560, ⟨#[]⟩⟩
def fv4 : Val := ⟨4, 0, 0, ⟨#[97]⟩⟩
def fv0 : Val := ⟨0, 0, 0, ⟨#[]⟩⟩
def fvN : Val := ⟨3, 0, 9221120237041090561, ⟨#[]⟩⟩
theorem fv1_may : mayV fv1 = true := by decide +kernel
theorem fv2_may : mayV fv2 = true := by decide +kernel
theorem fv3_may : mayV fv3 = true := by decide +kernel
theorem fv4_may : mayV fv4 = true := by decide +kernel
theorem fv0_may : mayV fv0 = false := by decide +kernel
theorem fvN_may : mayV fvN = false := by decide +kernel
theorem fits_bad (ks : List Ky) (id : Int) (v : Val) (h : mayV v = false) : fitsK ks id v = false := by
  unfold fitsK; cases findK ks id <;> simp [h]
/-- How many of the four fit. -/
theorem fits_four {ks : List Ky} (h : okKs ks = true) (id : Int) : ∃ b1 b2 b3 b4 ok : Bool, ∃ n : Int, fitsK ks id fv1 = b1 ∧ fitsK ks id fv2 = b2 ∧ fitsK ks id fv3 = b3 ∧ fitsK ks id fv4 = b4 ∧ (findK ks id).isSome = ok ∧
    ((ok = false ∧ b1 = false ∧ b2 = false ∧ b3 = false ∧ b4 = false) ∨ (ok = true ∧ ((b1 = true ∧ b2 = false ∧ b3 = false ∧ b4 = false) ∨ (b1 = false ∧ b2 = true ∧ b3 = false ∧ b4 = false) ∨ (b1 = false ∧ b2 = false ∧ b3 = true ∧ b4 = false) ∨ (b1 = false ∧ b2 = false ∧ b3 = false ∧ b4 = true)))) := by
  refine ⟨_, _, _, _, _, 0, rfl, rfl, rfl, rfl, rfl, ?_⟩
  cases hk : findK ks id with
  | none => left; simp [fitsK, hk]
  | some k =>
    right
    obtain ⟨hm, _⟩ := find_mem hk
    have hp : okPre ks := by unfold okKs at h; simp at h; exact h.2
    have := hp.1 k hm
    have hkd : k.kd = 1 ∨ k.kd = 2 ∨ k.kd = 3 ∨ k.kd = 4 := by unfold mayK at this; simp at this; omega
    refine ⟨rfl, ?_⟩
    unfold fitsK
    rw [hk]
    simp only [fv1_may, fv2_may, fv3_may, fv4_may, Bool.and_true]
    rcases hkd with e | e | e | e <;> rw [e] <;> decide
end Go.Proofs.YtaejlgdmalhhnaaDoor
