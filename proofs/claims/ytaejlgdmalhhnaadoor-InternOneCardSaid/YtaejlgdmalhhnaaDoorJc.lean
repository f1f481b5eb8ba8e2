/- Layer 7: InternStays' walk. -/
import Derived.Test.YtaejlgdmalhhnaaDoorJb
import Derived.Test.YtaejlgdmalhhnaaDoorFa
set_option linter.unusedVariables false
set_option linter.unusedSimpArgs false
namespace Go.Proofs.YtaejlgdmalhhnaaDoor
open Go.RowKit Go.Maps

/-- A table in which an id holds a set, somewhere behind the law's start. -/
def Stay (w W : World) (tb : Nat) (so : Option Addr) (mb lo hi : Nat) (ks srt : List Ky) (id : Int) (l : List At) (k : Nat) : Prop :=
  ∃ P free empty cnt O, Run w W tb so mb lo hi ks srt P free empty cnt O ∧ Holds P empty id l ∧ cnt ≤ 10 + 10 * k
theorem sl_turn {w W : World} (hb : Below w.heap.size w W) {s : Sl} (h : s.ok w) : s.ok W := ⟨h.1, h.2.1, h.2.2.1, h.2.2.2.1.below hb, h.2.2.2.2⟩
/-- The arguments' memory is none of a table's. -/
theorem arg_far {w W : World} {tb : Nat} {so : Option Addr} {mb lo hi : Nat} {ks srt : List Ky} {P : Ps} {free : List Int} {empty : Int} {cnt : Nat} {O : Nat → Prop} {A : Option Addr} {l : List At} (h : Run w W tb so mb lo hi ks srt P free empty cnt O) (hS : ASrc w A l) (hl : l ≠ []) : ∀ a, A = some a → ¬ O a.block := by
  intro a ha hO
  have h1 := (h.tab.lt _ hO).1
  obtain ⟨x, r, rfl⟩ := List.exists_cons_of_ne_nil hl
  have h2 := hS.2 a ha 0 x rfl 0 _ rfl
  have := World.block_lt_of_cell? w _ h2
  rw [addr_block] at this
  omega
/-- An Add of a row that came in. -/
theorem add_in {w W : World} {tb : Nat} {so : Option Addr} {mb lo hi : Nat} {ks srt : List Ky} {P : Ps} {free : List Int} {empty : Int} {cnt : Nat} {O : Nat → Prop} (s : Sl) (h : Run w W tb so mb lo hi ks srt P free empty cnt O) (hcn : cnt ≤ 100000) (hT : Lib.Utf8Tabs 1 2 w) (hs : s.ok w) :
    ∃ P' free' empty' id err, addP ks P free empty s.l = (P', free', empty', id, err) ∧ Calls Tryd.prog 35 #[.pointer (some ⟨tb, 0, none⟩), .slice s.A s.l.length s.c] W fun e W' => e = .returned (.tuple #[.int .i64 id, .int .i64 err]) ∧ ∃ O', Run w W' tb so mb lo hi ks srt P' free' empty' (cnt + 1) O' ∧ Turn O W W' := by
  obtain ⟨⟨P', free', empty', id, err⟩, ha⟩ : ∃ r, addP ks P free empty s.l = r := ⟨_, rfl⟩
  refine ⟨P', free', empty', id, err, ha, ?_⟩
  obtain ⟨A, c, l⟩ := s
  obtain ⟨h1, h2, h3, h4, h5⟩ := hs
  by_cases hl : l = []
  · have hA : ∀ a, A = some a → ¬ O a.block ∨ True := fun _ _ => .inr trivial
    have ha' : addP ks P free empty [] = (P', free', empty', id, err) := by rw [← hl]; exact ha
    obtain ⟨pv, fv, E, hE, ht⟩ := h.tab
    subst hE
    have hm : mayA ks [] = 0 := by unfold mayA; simp
    have e0 : addP ks (E.map pr) free empty [] = (E.map pr, free, empty + 1, 0, 0) := by unfold addP; rw [if_neg (by rw [hm]; simp), if_pos rfl]
    rw [e0] at ha'
    simp only [Prod.mk.injEq] at ha'
    obtain ⟨rfl, rfl, rfl, rfl, rfl⟩ := ha'
    exact (add_empty A c l ht hcn h.sch (tabs_below hT h.below) (h4.below h.below) h1 hl).mono fun e W' hp => ⟨(h.step hp).1, _, (h.step hp).2, hp.2.2⟩
  · exact (run_add A c l h hcn hT (h4.below h.below) h1 h2 h3 (arg_far h h4 hl) h5 ha).mono fun e W' hp => ⟨hp.1, _, hp.2.1, hp.2.2⟩
end Go.Proofs.YtaejlgdmalhhnaaDoor
