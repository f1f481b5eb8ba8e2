/- Layer 7: one set that is held stays, plain. -/
import Derived.Test.YtaejlgdmalhhnaaDoorJa
set_option linter.unusedVariables false
set_option linter.unusedSimpArgs false
namespace Go.Proofs.YtaejlgdmalhhnaaDoor
open Go.RowKit Go.Maps

variable {B : Nat} {O : Nat → Prop} {w : World} {tb : Nat} {sv : Value} {mb : Nat} {P : Ps} {free : List Int} {empty : Int} {cnt : Nat} {ks : List Ky}
/-- What a table's sets are like. -/
structure PInv (P : Ps) (free : List Int) (empty : Int) : Prop where
  fr : ∀ f ∈ free, ∃ (j : Nat) (p : List At × Int), f = (j : Int) ∧ P[j]? = some p ∧ p.2 = 0
  nn : ∀ p ∈ P, 0 ≤ p.2
  one : ∀ (i j : Nat) (l : List At) (h h' : Int), P[i]? = some (l, h) → P[j]? = some (l, h') → h ≠ 0 → h' ≠ 0 → i = j
  ne : ∀ p ∈ P, p.2 ≠ 0 → p.1 ≠ []
  all : ∀ (j : Nat) (p : List At × Int), P[j]? = some p → p.2 = 0 → (j : Int) ∈ free
  nd : free.Nodup
  emp : 0 ≤ empty
theorem TabM.pinv (h : TabM B O w tb sv mb P free empty cnt) : PInv P free empty := by
  obtain ⟨pv, fv, E, rfl, h⟩ := h
  obtain ⟨F, hr, hF⟩ := h.raw
  refine ⟨fun f hf => ?_, fun p hp => ?_, fun i j l hh hh' hi hj h0 h0' => ?_, fun p hp h0 => ?_, fun j p hj h0 => ?_, h.inv.nodup, h.inv.emp.1⟩
  · obtain ⟨j, a, hfj, hj, ha⟩ := (h.inv.free f).1 hf
    exact ⟨j, pr a, hfj, by rw [List.getElem?_map, hj]; rfl, ha⟩
  · obtain ⟨a, ha, rfl⟩ := List.mem_map.1 hp
    exact (h.inv.held a ha).1
  · obtain ⟨a, ha, ha1, ha2⟩ := pr_at hi
    obtain ⟨b, hb, hb1, hb2⟩ := pr_at hj
    have e1 := hF.hit i a ha (by rw [ha2]; exact h0)
    have e2 := hF.hit j b hb (by rw [hb2]; exact h0')
    rw [ha1] at e1
    rw [hb1, e1] at e2
    injection e2 with e2
    omega
  · obtain ⟨a, ha, rfl⟩ := List.mem_map.1 hp
    exact ((h.inv.held a ha).2.2 h0).1
  · obtain ⟨a, ha, ha1, ha2⟩ := pr_at hj
    exact (h.inv.free _).2 ⟨j, a, rfl, ha, by rw [ha2]; exact h0⟩
/-- An id that holds a set. -/
def Holds (P : Ps) (empty id : Int) (l : List At) : Prop := (l = [] ∧ id = 0 ∧ 1 ≤ empty) ∨ (l ≠ [] ∧ ∃ (i : Nat) (h : Int), id = (i : Int) + 1 ∧ P[i]? = some (l, h) ∧ 1 ≤ h)
theorem Holds.ask {id : Int} {l : List At} (h : Holds P empty id l) : ∃ d, 1 ≤ d ∧ askP P empty id = (d, 0) ∧ setP P id = l := by
  rcases h with ⟨rfl, rfl, h⟩ | ⟨hl, i, hd, rfl, hi, h1⟩
  · exact ⟨empty, h, rfl, rfl⟩
  · refine ⟨hd, h1, ask_at hi (by simp only; omega), ?_⟩
    unfold setP
    rw [if_neg (by omega), show ((i : Int) + 1 - 1).toNat = i by omega, hi]
    rfl
/-- What an Add does, by cases. -/
theorem add_cases (hI : PInv P free empty) (l : List At) : (mayA ks l ≠ 0 ∧ addP ks P free empty l = (P, free, empty, 0, mayA ks l)) ∨
    (mayA ks l = 0 ∧ ((l = [] ∧ addP ks P free empty l = (P, free, empty + 1, 0, 0)) ∨
      (l ≠ [] ∧ ((∃ (i : Nat) (h : Int), P[i]? = some (l, h) ∧ 1 ≤ h ∧ addP ks P free empty l = (P.set i (l, h + 1), free, empty, (i : Int) + 1, 0)) ∨
        ((∀ p ∈ P, p.2 ≠ 0 → p.1 ≠ l) ∧ ((∃ (fr : List Int) (i : Nat) (p : List At × Int), free = fr ++ [(i : Int)] ∧ P[i]? = some p ∧ p.2 = 0 ∧ addP ks P free empty l = (P.set i (l, 1), fr, empty, (i : Int) + 1, 0)) ∨
          (free = [] ∧ addP ks P free empty l = (P ++ [(l, 1)], [], empty, (P.length : Int) + 1, 0)))))))) := by
  by_cases hm : mayA ks l ≠ 0
  · exact .inl ⟨hm, by unfold addP; rw [if_pos hm]⟩
  refine .inr ⟨by omega, ?_⟩
  by_cases h0 : l = []
  · exact .inl ⟨h0, by unfold addP; rw [if_neg hm, if_pos h0]⟩
  refine .inr ⟨h0, ?_⟩
  cases hf : findP P l with
  | some i =>
    obtain ⟨hd, hi, hd0⟩ := findP_some hf
    have := hI.nn _ (List.mem_of_getElem? hi)
    exact .inl ⟨i, hd, hi, by simp only at this; omega, by unfold addP; rw [if_neg hm, if_neg h0, hf]; simp only [hi]; rfl⟩
  | none =>
    refine .inr ⟨findP_none hf, ?_⟩
    rcases List.eq_nil_or_concat free with hfr | ⟨fr, f, hfr⟩
    · exact .inr ⟨hfr, by subst hfr; unfold addP; rw [if_neg hm, if_neg h0, hf]; simp⟩
    · rw [List.concat_eq_append] at hfr
      obtain ⟨i, p, hfi, hp, hp0⟩ := hI.fr f (by rw [hfr]; simp)
      subst hfi
      exact .inl ⟨fr, i, p, hfr, hp, hp0, by subst hfr; unfold addP; rw [if_neg hm, if_neg h0, hf]; simp⟩
theorem get_set {i j : Nat} {p q : List At × Int} (h : P[i]? = some p) : (P.set i q)[j]? = if i = j then some q else P[j]? := by
  rw [List.getElem?_set]
  have := (List.getElem?_eq_some_iff.1 h).1
  by_cases h : i = j
  · subst h; simp [this]
  · simp [h]
theorem Holds.of_at {i : Nat} {hd : Int} {id : Int} {l : List At} (hl : l ≠ []) (he : id = (i : Int) + 1) (hi : P[i]? = some (l, hd)) (h1 : 1 ≤ hd) : Holds P empty id l := .inr ⟨hl, i, hd, he, hi, h1⟩
/-- A held set is still held behind an Add. -/
theorem Holds.add {id k e : Int} {l x : List At} {P' : Ps} {free' : List Int} {empty' : Int} (hI : PInv P free empty) (h : Holds P empty id l) (ha : addP ks P free empty x = (P', free', empty', k, e)) : Holds P' empty' id l := by
  rcases add_cases (ks := ks) hI x with ⟨_, h1⟩ | ⟨_, ⟨_, h1⟩ | ⟨hx0, ⟨j, hd, hj, hd1, h1⟩ | ⟨hno, ⟨fr, j, p, hfr, hj, hp0, h1⟩ | ⟨_, h1⟩⟩⟩⟩
  all_goals
    rw [h1] at ha
    simp only [Prod.mk.injEq] at ha
    obtain ⟨rfl, rfl, rfl, rfl, rfl⟩ := ha
  · exact h
  · rcases h with ⟨a, b, c⟩ | h
    · exact .inl ⟨a, b, by omega⟩
    · exact .inr h
  · rcases h with h | ⟨hl, i, hh, he, hi, h1⟩
    · exact .inl h
    · by_cases hij : j = i
      · subst hij
        rw [hi] at hj
        simp only [Option.some.injEq, Prod.mk.injEq] at hj
        obtain ⟨rfl, rfl⟩ := hj
        exact Holds.of_at hl he (by rw [get_set hi, if_pos rfl]) (by omega)
      · exact Holds.of_at hl he (by rw [get_set hj, if_neg hij]; exact hi) h1
  · rcases h with h | ⟨hl, i, hh, he, hi, h1⟩
    · exact .inl h
    · refine Holds.of_at hl he ?_ h1
      rw [get_set hj, if_neg (fun e => by subst e; rw [hi] at hj; cases hj; simp only at hp0; omega)]
      exact hi
  · rcases h with h | ⟨hl, i, hh, he, hi, h1⟩
    · exact .inl h
    · exact Holds.of_at hl he (by rw [List.getElem?_append_left (List.getElem?_eq_some_iff.1 hi).1]; exact hi) h1
/-- What was added may be freed, and what else was held stays. -/
theorem Holds.add_free {id k : Int} {l x : List At} {P' : Ps} {free' : List Int} {empty' : Int} (hI : PInv P free empty) (h : Holds P empty id l) (ha : addP ks P free empty x = (P', free', empty', k, 0)) :
    ∃ P'' free'' empty'', freeP P' free' empty' k = (P'', free'', empty'', 0) ∧ Holds P'' empty'' id l := by
  rcases add_cases (ks := ks) hI x with ⟨hm, h1⟩ | ⟨_, ⟨_, h1⟩ | ⟨hx0, ⟨j, hd, hj, hd1, h1⟩ | ⟨hno, ⟨fr, j, p, hfr, hj, hp0, h1⟩ | ⟨_, h1⟩⟩⟩⟩
  all_goals
    rw [h1] at ha
    simp only [Prod.mk.injEq] at ha
  · exact absurd ha.2.2.2.2 hm
  · obtain ⟨rfl, rfl, rfl, rfl, _⟩ := ha
    refine ⟨P, free, max (empty + 1 - 1) 0, rfl, ?_⟩
    rcases h with ⟨a, b, c⟩ | h
    · exact .inl ⟨a, b, by omega⟩
    · exact .inr h
  · obtain ⟨rfl, rfl, rfl, rfl, _⟩ := ha
    have hj' : (P.set j (x, hd + 1))[j]? = some (x, hd + 1) := by rw [get_set hj, if_pos rfl]
    refine ⟨(P.set j (x, hd + 1)).set j (x, hd + 1 - 1), free, empty, ?_, ?_⟩
    · unfold freeP
      rw [ask_at hj' (by simp only; omega), if_neg (by simp), if_neg (by omega), show ((j : Int) + 1 - 1).toNat = j by omega, hj']
      simp only
      rw [if_neg (by omega)]
    · rw [List.set_set, show hd + 1 - 1 = hd by omega, set_same hj]
      exact h
  · obtain ⟨rfl, rfl, rfl, rfl, _⟩ := ha
    have hj' : (P.set j (x, 1))[j]? = some (x, 1) := by rw [get_set hj, if_pos rfl]
    refine ⟨(P.set j (x, 1)).set j ([], 0), fr ++ [(j : Int)], empty, ?_, ?_⟩
    · unfold freeP
      rw [ask_at hj' (by simp), if_neg (by simp), if_neg (by omega), show ((j : Int) + 1 - 1).toNat = j by omega, hj']
      simp
    · rcases h with h | ⟨hl, i, hh, he, hi, h1⟩
      · exact .inl h
      · refine Holds.of_at hl he ?_ h1
        rw [List.set_set, get_set hj, if_neg (fun e => by subst e; rw [hi] at hj; cases hj; simp only at hp0; omega)]
        exact hi
  · obtain ⟨rfl, rfl, rfl, rfl, _⟩ := ha
    have hj' : (P ++ [(x, 1)])[P.length]? = some (x, 1) := by simp
    refine ⟨(P ++ [(x, 1)]).set P.length ([], 0), [] ++ [(P.length : Int)], empty, ?_, ?_⟩
    · unfold freeP
      rw [ask_at hj' (by simp), if_neg (by simp), if_neg (by omega), show ((P.length : Int) + 1 - 1).toNat = P.length by omega, hj']
      simp
    · rcases h with h | ⟨hl, i, hh, he, hi, h1⟩
      · exact .inl h
      · have hil := (List.getElem?_eq_some_iff.1 hi).1
        refine Holds.of_at hl he ?_ h1
        rw [get_set hj', if_neg (by omega), List.getElem?_append_left hil]
        exact hi
/-- What is added is held. -/
theorem Holds.new {k : Int} {x : List At} {P' : Ps} {free' : List Int} {empty' : Int} (hI : PInv P free empty) (ha : addP ks P free empty x = (P', free', empty', k, 0)) : Holds P' empty' k x := by
  rcases add_cases (ks := ks) hI x with ⟨hm, h1⟩ | ⟨_, ⟨hx, h1⟩ | ⟨hx0, ⟨j, hd, hj, hd1, h1⟩ | ⟨hno, ⟨fr, j, p, hfr, hj, hp0, h1⟩ | ⟨_, h1⟩⟩⟩⟩
  all_goals
    rw [h1] at ha
    simp only [Prod.mk.injEq] at ha
  · exact absurd ha.2.2.2.2 hm
  · obtain ⟨rfl, rfl, rfl, rfl, _⟩ := ha
    exact .inl ⟨hx, rfl, by have := hI.emp; omega⟩
  · obtain ⟨rfl, rfl, rfl, rfl, _⟩ := ha
    exact Holds.of_at hx0 rfl (by rw [get_set hj, if_pos rfl]) (by omega)
  · obtain ⟨rfl, rfl, rfl, rfl, _⟩ := ha
    exact Holds.of_at hx0 rfl (by rw [get_set hj, if_pos rfl]) (by omega)
  · obtain ⟨rfl, rfl, rfl, rfl, _⟩ := ha
    exact Holds.of_at (hd := 1) hx0 rfl (by simp) (by omega)
/-- Two ids of one set are one. -/
theorem Holds.one {a b : Int} {l : List At} (hI : PInv P free empty) (ha : Holds P empty a l) (hb : Holds P empty b l) : a = b := by
  rcases ha with ⟨h0, h1, _⟩ | ⟨h0, i, h, rfl, hi, h1⟩
  · rcases hb with ⟨_, h2, _⟩ | ⟨h2, _⟩
    · omega
    · exact absurd h0 h2
  · rcases hb with ⟨h2, _⟩ | ⟨_, j, h', rfl, hj, h1'⟩
    · exact absurd h2 h0
    · have := hI.one i j l h h' hi hj (by omega) (by omega)
      omega
end Go.Proofs.YtaejlgdmalhhnaaDoor
