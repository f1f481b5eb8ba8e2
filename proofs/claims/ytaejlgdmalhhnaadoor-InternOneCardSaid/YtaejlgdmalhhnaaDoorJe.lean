/- Layer 7: InternOne, plain: what was added, each held as often as it was; freed as often, none is left. -/
import Derived.Test.YtaejlgdmalhhnaaDoorJd
set_option linter.unusedVariables false
set_option linter.unusedSimpArgs false
namespace Go.Proofs.YtaejlgdmalhhnaaDoor
open Go.RowKit Go.Maps

variable {P : Ps} {free : List Int} {empty : Int} {ks : List Ky}
/-- Each id is held as often as the list has it. -/
structure Left (P : Ps) (empty : Int) (ids : List Int) : Prop where
  cnt : ∀ (j : Nat) (p : List At × Int), P[j]? = some p → p.2 = (ids.count ((j : Int) + 1) : Int)
  emp : empty = (ids.count 0 : Int)
  at_ : ∀ id ∈ ids, id = 0 ∨ ∃ j : Nat, j < P.length ∧ id = (j : Int) + 1
/-- What was added so far: each is held by its id, as often as it was added. -/
structure Got (P : Ps) (empty : Int) (E : List (Int × List At)) : Prop where
  holds : ∀ q ∈ E, Holds P empty q.1 q.2
  left : Left P empty (E.map (·.1))
theorem Got.nil : Got [] 0 [] := ⟨fun q h => (by cases h), ⟨fun j p h => (by cases h), rfl, fun id h => (by cases h)⟩⟩
theorem count_snoc (l : List Int) (x y : Int) : ((l ++ [x]).count y : Int) = (l.count y : Int) + if x = y then 1 else 0 := by
  rw [List.count_append, List.count_singleton]
  by_cases h : x = y
  · subst h; simp
  · simp [h]
theorem Got.add {E : List (Int × List At)} {k e : Int} {x : List At} {P' : Ps} {free' : List Int} {empty' : Int} (hI : PInv P free empty) (h : Got P empty E) (ha : addP ks P free empty x = (P', free', empty', k, e)) : Got P' empty' (if e = 0 then E ++ [(k, x)] else E) := by
  have hL : Left P' empty' (if e = 0 then E.map (·.1) ++ [k] else E.map (·.1)) := by
    have hl := h.left
    rcases add_cases (ks := ks) hI x with ⟨h0, h1⟩ | ⟨_, ⟨_, h1⟩ | ⟨hx0, ⟨j, hd, hj, hd1, h1⟩ | ⟨hno, ⟨fr, j, p, hfr, hj, hp0, h1⟩ | ⟨_, h1⟩⟩⟩⟩
    all_goals
      rw [h1] at ha
      simp only [Prod.mk.injEq] at ha
      obtain ⟨rfl, rfl, rfl, rfl, rfl⟩ := ha
    · rw [if_neg h0]; exact hl
    · rw [if_pos rfl]
      refine ⟨fun j p hj => ?_, ?_, fun id hid => ?_⟩
      · rw [count_snoc, if_neg (by omega), hl.cnt j p hj]; omega
      · rw [count_snoc, if_pos rfl, hl.emp]
      · rcases List.mem_append.1 hid with hid | hid
        · exact hl.at_ id hid
        · simp at hid; exact .inl hid
    · rw [if_pos rfl]
      refine ⟨fun i p hi => ?_, ?_, fun id hid => ?_⟩
      · rw [get_set hj] at hi
        rw [count_snoc]
        by_cases hij : j = i
        · subst hij
          rw [if_pos rfl] at hi ⊢
          cases hi
          have := hl.cnt j _ hj
          simp only at this ⊢
          omega
        · rw [if_neg hij] at hi
          rw [if_neg (by omega), hl.cnt i p hi]; omega
      · rw [count_snoc, if_neg (by omega), hl.emp]; omega
      · rcases List.mem_append.1 hid with hid | hid
        · rw [List.length_set]; exact hl.at_ id hid
        · simp at hid; exact .inr ⟨j, by rw [List.length_set]; exact (List.getElem?_eq_some_iff.1 hj).1, hid⟩
    · rw [if_pos rfl]
      refine ⟨fun i p' hi => ?_, ?_, fun id hid => ?_⟩
      · rw [get_set hj] at hi
        rw [count_snoc]
        by_cases hij : j = i
        · subst hij
          rw [if_pos rfl] at hi ⊢
          cases hi
          have := hl.cnt j _ hj
          simp only at this ⊢
          omega
        · rw [if_neg hij] at hi
          rw [if_neg (by omega), hl.cnt i p' hi]; omega
      · rw [count_snoc, if_neg (by omega), hl.emp]; omega
      · rcases List.mem_append.1 hid with hid | hid
        · rw [List.length_set]; exact hl.at_ id hid
        · simp at hid; exact .inr ⟨j, by rw [List.length_set]; exact (List.getElem?_eq_some_iff.1 hj).1, hid⟩
    · rw [if_pos rfl]
      refine ⟨fun i p' hi => ?_, ?_, fun id hid => ?_⟩
      · rw [count_snoc]
        by_cases hil : i < P.length
        · rw [List.getElem?_append_left hil] at hi
          rw [if_neg (by omega), hl.cnt i p' hi]; omega
        · have hlt := (List.getElem?_eq_some_iff.1 hi).1
          simp at hlt
          obtain rfl : i = P.length := by omega
          simp at hi
          subst hi
          have h0 : (E.map (·.1)).count ((P.length : Int) + 1) = 0 := by
            rw [List.count_eq_zero]
            intro hm
            rcases hl.at_ _ hm with h | ⟨j, hj, h⟩ <;> omega
          rw [h0, if_pos rfl]; rfl
      · rw [count_snoc, if_neg (by omega), hl.emp]; omega
      · rw [List.length_append]
        rcases List.mem_append.1 hid with hid | hid
        · rcases hl.at_ id hid with h | ⟨j, hj, h⟩
          · exact .inl h
          · exact .inr ⟨j, by omega, h⟩
        · simp at hid; exact .inr ⟨P.length, by simp, hid⟩
  by_cases he : e = 0
  · subst he
    rw [if_pos rfl] at hL ⊢
    refine ⟨fun q hq => ?_, by rw [List.map_append]; exact hL⟩
    rcases List.mem_append.1 hq with hq | hq
    · exact (h.holds q hq).add hI ha
    · simp at hq; subst hq; exact Holds.new hI ha
  · rw [if_neg he] at hL ⊢
    exact ⟨fun q hq => (h.holds q hq).add hI ha, hL⟩
theorem Holds.zero {id : Int} {l : List At} (h : Holds P empty id l) : (id = 0 ↔ l = []) := by
  rcases h with ⟨rfl, rfl, _⟩ | ⟨h0, i, _, rfl, _⟩
  · simp
  · simp only [h0, iff_false]; omega
theorem Holds.alike {a b : Int} {l m : List At} (hI : PInv P free empty) (ha : Holds P empty a l) (hb : Holds P empty b m) : (a = b ↔ l = m) := by
  constructor
  · rintro rfl
    rcases ha with ⟨rfl, rfl, _⟩ | ⟨h0, i, h, rfl, hi, h1⟩
    · exact ((hb.zero).1 rfl).symm
    · rcases hb with ⟨_, h2, _⟩ | ⟨_, j, h', he, hj, h1'⟩
      · omega
      · obtain rfl : i = j := by omega
        rw [hi] at hj; cases hj; rfl
  · rintro rfl; exact ha.one hI hb
/-- The first of the list may be freed. -/
theorem Left.pop {id : Int} {ids : List Int} (hI : PInv P free empty) (h : Left P empty (id :: ids)) : ∃ P' free' empty', freeP P free empty id = (P', free', empty', 0) ∧ Left P' empty' ids := by
  rcases h.at_ id (by simp) with h0 | ⟨j, hj, hid⟩
  · subst h0
    have he : 1 ≤ empty := by have := h.emp; rw [List.count_cons_self] at this; omega
    refine ⟨P, free, max (empty - 1) 0, ?_, ?_⟩
    · unfold freeP
      rw [if_neg (by unfold askP; simp), if_pos rfl]
    · refine ⟨fun j p hj => ?_, ?_, fun id hid => h.at_ id (by simp [hid])⟩
      · rw [h.cnt j p hj, List.count_cons, if_neg (by simp; omega)]; rfl
      · have := h.emp; rw [List.count_cons_self] at this; omega
  · subst hid
    obtain ⟨p, hp⟩ : ∃ p, P[j]? = some p := ⟨_, List.getElem?_eq_getElem hj⟩
    have hc := h.cnt j p hp
    rw [List.count_cons_self] at hc
    have hask : askP P empty ((j : Int) + 1) = (p.2, 0) := ask_at hp (by omega)
    have hL : ∀ q : List At × Int, q.2 = p.2 - 1 → Left (P.set j q) empty ids := fun q hq => by
      refine ⟨fun i p' hi => ?_, ?_, fun id hid => ?_⟩
      · rw [get_set hp] at hi
        by_cases hij : j = i
        · subst hij
          rw [if_pos rfl] at hi
          cases hi
          omega
        · rw [if_neg hij] at hi
          rw [h.cnt i p' hi, List.count_cons, if_neg (by simp; omega)]; rfl
      · rw [h.emp, List.count_cons, if_neg (by simp; omega)]; rfl
      · rw [List.length_set]; exact h.at_ id (by simp [hid])
    by_cases h1 : p.2 = 1
    · refine ⟨P.set j ([], 0), free ++ [(j : Int)], empty, ?_, hL _ (by simp only; omega)⟩
      unfold freeP
      rw [hask, if_neg (by simp), if_neg (by omega), show ((j : Int) + 1 - 1).toNat = j by omega, hp]
      simp only
      rw [if_pos h1]
    · refine ⟨P.set j (p.1, p.2 - 1), free, empty, ?_, hL _ rfl⟩
      unfold freeP
      rw [hask, if_neg (by simp), if_neg (by omega), show ((j : Int) + 1 - 1).toNat = j by omega, hp]
      simp only
      rw [if_neg h1]
theorem nodup_len : ∀ (n : Nat) (l : List Int), l.Nodup → (∀ x : Int, x ∈ l ↔ ∃ j : Nat, j < n ∧ x = (j : Int)) → l.length = n
  | 0, l, _, h => by
    rcases l with _ | ⟨x, l⟩
    · rfl
    · obtain ⟨j, hj, _⟩ := (h x).1 (by simp); omega
  | n + 1, l, hd, h => by
    have hm : (n : Int) ∈ l := (h _).2 ⟨n, by omega, rfl⟩
    have h1 := nodup_len n (l.erase (n : Int)) (hd.erase _) (fun x => by
      rw [hd.mem_erase_iff, h]
      constructor
      · rintro ⟨hx, j, hj, rfl⟩; exact ⟨j, by omega, rfl⟩
      · rintro ⟨j, hj, rfl⟩; exact ⟨by omega, j, by omega, rfl⟩)
    have h2 := List.length_erase_of_mem hm
    have h3 := List.length_pos_of_mem hm
    omega
/-- None is left: the freed places are all there are. -/
theorem Left.out (hI : PInv P free empty) (h : Left P empty []) : free.length = P.length ∧ empty = 0 := by
  refine ⟨nodup_len _ _ hI.nd (fun x => ⟨fun hx => ?_, ?_⟩), by rw [h.emp]; rfl⟩
  · obtain ⟨j, p, rfl, hp, _⟩ := hI.fr x hx
    exact ⟨j, (List.getElem?_eq_some_iff.1 hp).1, rfl⟩
  · rintro ⟨j, hj, rfl⟩
    exact hI.all j _ (List.getElem?_eq_getElem hj) (by rw [h.cnt j _ (List.getElem?_eq_getElem hj)]; rfl)
end Go.Proofs.YtaejlgdmalhhnaaDoor
