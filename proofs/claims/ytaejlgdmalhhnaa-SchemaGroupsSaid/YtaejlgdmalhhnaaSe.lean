/- Layer 4: a map from numbers to keys. -/
import Derived.Test.YtaejlgdmalhhnaaSd
import Derived.Maps.OwnSet
set_option linter.unusedVariables false
set_option linter.unusedSimpArgs false
namespace Go.Proofs.Ytaejlgdmalhhnaa
open Go.RowKit Go.Maps

/-- How a key reads. -/
def kd (k : Ky) : DataW Unit := .agg [.lit (.int .i64 k.id), .lit (.bool k.bl), .lit (.int .u8 k.kd), .lit (.bool k.af), .lit (.bool k.be), .lit (.int .i64 k.gr)]
def keyOfL : List Value → Option Ky
  | [.int .i64 i, .bool b, .int .u8 k, .bool a, .bool e, .int .i64 g] => some ⟨i, b, k, a, e, g⟩
  | _ => none
def keyR (v : Value) : Option (DataW Unit × List MemPlace) :=
  match v with
  | .agg c => (keyOfL c.toList).map fun k => (kd k, [])
  | _ => none
theorem keyR_mk (k : Ky) : keyR k.v = some (kd k, []) := rfl
theorem kd_inj {a b : Ky} (h : kd a = kd b) : a = b := by
  obtain ⟨i, b1, k, a1, e, g⟩ := a
  obtain ⟨i', b', k', a', e', g'⟩ := b
  simp [kd] at h
  obtain ⟨h1, h2, h3, h4, h5, h6⟩ := h
  subst h1 h2 h3 h4 h5 h6
  rfl
theorem keyOfL_inv {l : List Value} {k : Ky} (h : keyOfL l = some k) : l = k.cells := by
  unfold keyOfL at h
  split at h
  · cases h; rfl
  · cases h
theorem keyR_inv {v : Value} {k : Ky} {ps : List MemPlace} (h : keyR v = some (kd k, ps)) : v = k.v := by
  unfold keyR at h
  split at h
  · rename_i c
    cases hk : keyOfL c.toList with
    | none => rw [hk] at h; cases h
    | some k' =>
      rw [hk] at h
      simp only [Option.map_some, Option.some.injEq, Prod.mk.injEq] at h
      have := kd_inj h.1
      subst this
      have hc := keyOfL_inv hk
      unfold Ky.v
      congr 1
      apply Array.ext'
      exact hc
  · cases h
def zeroK : Ky := ⟨0, false, 0, false, false, 0⟩
/-- The key of a number among others; the zero one. -/
def findK (ks : List Ky) (id : Int) : Option Ky := ks.find? (fun k => k.id == id)
/-- A map that holds each key under its number. -/
def KMap (w : World) (b : Nat) (ks : List Ky) : Prop :=
  ∃ n D, w.ownsMap Try.prog 3 keyR b n D ∧ n ≤ ks.length ∧ IsMap D ∧ (∀ id, (Lit.int .i64 id).wf = true → Maps.has D (.int .i64 id) = (findK ks id).isSome ∧ D.atKey (.int .i64 id) (kd zeroK) = kd ((findK ks id).getD zeroK))
theorem zero97 (w : World) : (zeroValue 25).run Try.prog w = .ok zeroK.v w := by
  have h : (Try.prog.info? 25).map (fun i => i.zero) = some (some zeroK.v) := by kernel_rfl
  cases hi : Try.prog.info? 25 with
  | none => rw [hi] at h; cases h
  | some i =>
    rw [hi] at h
    simp at h
    have hz : Try.t25.zero = some zeroK.v := by kernel_rfl
    simp [zeroValue, run_program, hi, h, hz]
theorem keyed3 : Keyed Try.prog 3 := int_keyed Try.underlying3
theorem KMap.look {w : World} {b : Nat} {ks : List Ky} (h : KMap w b ks) {id : Int} (hw : (Lit.int .i64 id).wf = true) :
    (Instr.lookup 37 (.map (some b)) (.int .i64 id) true).run Try.prog w = .ok (.tuple #[((findK ks id).getD zeroK).v, .bool (findK ks id).isSome]) w := by
  obtain ⟨n, D, ho, hn, hm, hf⟩ := h
  obtain ⟨v, ps, hr, hv⟩ := ho.look_ok keyed3 Try.underlying37 (zero97 w) (keyR_mk zeroK) (keyOf_int_mk Try.underlying3 hw)
  obtain ⟨h1, h2⟩ := hf id hw
  rw [h2] at hv
  rw [keyR_inv hv, h1] at hr
  exact hr
theorem KMap.new (w : World) : KMap (w.alloc (.map #[] 0)) w.heap.size [] :=
  ⟨0, .map [], World.ownsMap_made w Try.prog 3 keyR, Nat.le_refl _, isMap_empty, fun id hw => ⟨rfl, rfl⟩⟩
theorem KMap.put {w : World} {b : Nat} {ks : List Ky} (h : KMap w b ks) {k : Ky} (hw : (Lit.int .i64 k.id).wf = true) (hl : ks.length < 1000) (hnew : findK ks k.id = none) :
    ∃ w', (Instr.mapUpdate 37 (.map (some b)) (.int .i64 k.id) k.v).run Try.prog w = .ok () w' ∧ KMap w' b (ks ++ [k]) ∧ w.grownBy w' (some b) := by
  obtain ⟨n, D, ho, hn, hm, hf⟩ := h
  obtain ⟨w', hr, ho', hg⟩ := ho.update keyed3 Try.underlying37 (by simp only [maxLen]; omega) (keyOf_int_mk Try.underlying3 hw) (keyR_mk k)
  refine ⟨w', hr, ⟨n + 1, _, ho', by simp; omega, hm.put _ _, fun id hi => ?_⟩, hg⟩
  have hk : WideAt.IsKeyLit (.int .i64 k.id) := keyed3.key (keyOf_int_mk Try.underlying3 hw)
  by_cases he : id = k.id
  · subst he
    have hfind : findK (ks ++ [k]) k.id = some k := by
      unfold findK at hnew ⊢
      rw [List.find?_append, hnew]; simp
    rw [hfind, has_put_same hm hk, atKey_put_same hm hk]
    exact ⟨rfl, rfl⟩
  · have hne : (Lit.int .i64 id) ≠ (Lit.int .i64 k.id) := fun h => he (by injection h)
    have hfind : findK (ks ++ [k]) id = findK ks id := by
      unfold findK
      rw [List.find?_append]
      have : List.find? (fun k => k.id == id) [k] = none := by simp; exact fun e => he e.symm
      rw [this]; simp
    rw [hfind, has_put_other hne, atKey_put_other hne]
    exact hf id hi
end Go.Proofs.Ytaejlgdmalhhnaa
