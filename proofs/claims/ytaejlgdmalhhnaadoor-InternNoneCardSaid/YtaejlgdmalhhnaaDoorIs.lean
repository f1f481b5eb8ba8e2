/- Layer 7: New, Add, Free, Hold, told of the sets alone. -/
import Derived.Test.YtaejlgdmalhhnaaDoorIr
set_option linter.unusedVariables false
set_option linter.unusedSimpArgs false
namespace Go.Proofs.YtaejlgdmalhhnaaDoor
open Go.RowKit Go.Maps

abbrev Ps := List (List At × Int)
variable {B : Nat} {O : Nat → Prop} {w w' : World} {tb : Nat} {sv : Value} {mb : Nat} {P : Ps} {free : List Int} {empty : Int} {cnt : Nat}
/-- The place of a set that is held. -/
def findP (P : Ps) (l : List At) : Option Nat := P.findIdx? (fun p => p.2 != 0 && decide (p.1 = l))
theorem findP_some {i : Nat} {l : List At} (h : findP P l = some i) : ∃ hd, P[i]? = some (l, hd) ∧ hd ≠ 0 := by
  unfold findP at h
  rw [List.findIdx?_eq_some_iff_getElem] at h
  obtain ⟨hi, h1, _⟩ := h
  simp at h1
  exact ⟨P[i].2, by rw [List.getElem?_eq_getElem hi, ← h1.2], h1.1⟩
theorem findP_none {l : List At} (h : findP P l = none) : ∀ p ∈ P, p.2 ≠ 0 → p.1 ≠ l := by
  unfold findP at h
  rw [List.findIdx?_eq_none_iff] at h
  intro p hp h0 h1
  have := h p hp
  simp [h0, h1] at this
/-- What Add answers, and what there is behind it. -/
def addP (ks : List Ky) (P : Ps) (free : List Int) (empty : Int) (l : List At) : Ps × List Int × Int × Int × Int :=
  if mayA ks l ≠ 0 then (P, free, empty, 0, mayA ks l) else if l = [] then (P, free, empty + 1, 0, 0) else match findP P l with
  | some i => (P.set i (l, ((P[i]?).map (·.2)).getD 0 + 1), free, empty, (i : Int) + 1, 0)
  | none => match free.getLast? with
    | some f => (P.set f.toNat (l, 1), free.dropLast, empty, f + 1, 0)
    | none => (P ++ [(l, 1)], free, empty, (P.length : Int) + 1, 0)
theorem pr_at {E : List En} {i : Nat} {p : List At × Int} (h : (E.map pr)[i]? = some p) : ∃ e, E[i]? = some e ∧ e.set = p.1 ∧ e.held = p.2 := by
  rw [List.getElem?_map] at h
  cases he : E[i]? with
  | none => rw [he] at h; cases h
  | some e => rw [he] at h; cases h; exact ⟨e, rfl, rfl, rfl⟩
theorem add_any {lo hi : Nat} {so : Option Addr} {ks srt : List Ky} (A : Option Addr) (c : Nat) (l : List At) (h : TabM B O w tb (.pointer so) mb P free empty cnt) (hcn : cnt ≤ 100000) (hSch : Sch lo hi w (.pointer so) ks srt) (hT : Lib.Utf8Tabs 1 2 w) (hS : ASrc w A l) (hc : l.length ≤ c) (hl : l.length ≤ 9223372036854775807) (hcA : A = none → c = 0) (hAO : ∀ a, A = some a → ¬ O a.block)
    (hwf : ∀ a ∈ l, a.wfA) : Calls Tryd.prog 35 #[.pointer (some ⟨tb, 0, none⟩), .slice A l.length c] w (OpPost B O w tb (.pointer so) mb (addP ks P free empty l).1 (addP ks P free empty l).2.1 (addP ks P free empty l).2.2.1 (cnt + 1) (.tuple #[.int .i64 (addP ks P free empty l).2.2.2.1, .int .i64 (addP ks P free empty l).2.2.2.2])) := by
  obtain ⟨pv, fv, E, rfl, h⟩ := h
  by_cases he : mayA ks l ≠ 0
  · have e : addP ks (E.map pr) free empty l = (E.map pr, free, empty, 0, mayA ks l) := by unfold addP; rw [if_pos he]
    rw [e]
    exact add_err A c l h hSch hT hS hc hl hwf he
  have he0 : mayA ks l = 0 := by omega
  by_cases h0 : l = []
  · have e : addP ks (E.map pr) free empty l = (E.map pr, free, empty + 1, 0, 0) := by unfold addP; rw [if_neg he, if_pos h0]
    rw [e]
    exact add_empty A c l h hcn hSch hT hS hc h0
  cases hf : findP (E.map pr) l with
  | some i =>
    obtain ⟨hd, hi, hd0⟩ := findP_some hf
    obtain ⟨x, hx, hx1, hx2⟩ := pr_at hi
    have e : addP ks (E.map pr) free empty l = ((E.map pr).set i (l, hd + 1), free, empty, (i : Int) + 1, 0) := by unfold addP; rw [if_neg he, if_neg h0, hf]; simp only [hi]; rfl
    rw [e]
    have := add_found A c l h hcn hSch hT hS hc hwf he0 hx (by rw [hx2]; exact hd0) hx1
    rw [hx1, hx2] at this
    exact this
  | none =>
    have hno : ∀ e ∈ E, e.held ≠ 0 → e.set ≠ l := fun e he hh => findP_none hf (pr e) (List.mem_map_of_mem he) hh
    have hE := h.inv.len
    rcases List.eq_nil_or_concat free with hfr | ⟨fr, f, hfr⟩
    · subst hfr
      have e : addP ks (E.map pr) [] empty l = (E.map pr ++ [(l, 1)], [], empty, (E.length : Int) + 1, 0) := by unfold addP; rw [if_neg he, if_neg h0, hf]; simp
      rw [e]
      have hs : ∀ e' : En, (E ++ [nilE]).set E.length e' = E ++ [e'] := fun e' => by simp
      have := add_lay (E1 := E ++ [nilE]) (fr1 := []) (i := E.length) (e1 := nilE) A c l h hcn hSch hT hS hc hcA hAO hwf he0 h0 hno (by simp) rfl (by simp; omega) (fun w2 F hr => place_new hr (by omega))
        (fun u => by rw [hs]; exact h.inv.push (okSet_of he0 h0 hwf) rfl) (fun F u hF hn => by rw [hs]; exact hF.push (by simp) hn)
      have e2 : ((E ++ [nilE]).map pr).set E.length (l, 1) = E.map pr ++ [(l, 1)] := by simp
      rw [e2] at this
      exact this
    · rw [List.concat_eq_append] at hfr
      subst hfr
      obtain ⟨i, x, hfi, hx, hx0⟩ := (h.inv.free f).1 (by simp)
      subst hfi
      have e : addP ks (E.map pr) (fr ++ [(i : Int)]) empty l = ((E.map pr).set i (l, 1), fr, empty, (i : Int) + 1, 0) := by unfold addP; rw [if_neg he, if_neg h0, hf]; simp
      rw [e]
      have hil := (List.getElem?_eq_some_iff.1 hx).1
      exact add_lay (E1 := E) (fr1 := fr) (i := i) (e1 := x) A c l h hcn hSch hT hS hc hcA hAO hwf he0 h0 hno hx hx0 (by omega) (fun w2 F hr => place_free hr (by have := h.inv.flen; rw [List.length_append] at this; omega) (by omega))
        (fun u => h.inv.lay hx (okSet_of he0 h0 hwf) rfl) (fun F u hF hn => hF.lay hx hx0 (by simp) hn)
/-- What Free answers, and what there is behind it. -/
def freeP (P : Ps) (free : List Int) (empty : Int) (id : Int) : Ps × List Int × Int × Int :=
  if (askP P empty id).2 ≠ 0 then (P, free, empty, (askP P empty id).2) else if id = 0 then (P, free, max (empty - 1) 0, 0) else match P[(id - 1).toNat]? with
  | none => (P, free, empty, 0)
  | some p => if p.2 = 1 then (P.set (id - 1).toNat ([], 0), free ++ [((id - 1).toNat : Int)], empty, 0) else (P.set (id - 1).toNat (p.1, p.2 - 1), free, empty, 0)
theorem ask_ok {id : Int} (h : ¬ (askP P empty id).2 ≠ 0) (h0 : id ≠ 0) : ∃ (i : Nat) (p : List At × Int), id = (i : Int) + 1 ∧ P[i]? = some p ∧ p.2 ≠ 0 ∧ (id - 1).toNat = i := by
  unfold askP at h
  rw [if_neg h0] at h
  by_cases hn : id < 0
  · rw [if_pos hn] at h; exact absurd (by decide) h
  · rw [if_neg hn] at h
    cases hp : P[(id - 1).toNat]? with
    | none => rw [hp] at h; exact absurd (by decide) h
    | some p =>
      rw [hp] at h
      simp only at h
      by_cases hz : p.2 = 0
      · rw [if_pos hz] at h; exact absurd (by decide) h
      · exact ⟨(id - 1).toNat, p, by omega, hp, hz, rfl⟩
theorem free_any (id : Int) (h : TabM B O w tb sv mb P free empty cnt) (hcn : cnt ≤ 100000) (hw : (Lit.int .i64 id).wf = true) :
    Calls Tryd.prog 37 #[.pointer (some ⟨tb, 0, none⟩), .int .i64 id] w (OpPost B O w tb sv mb (freeP P free empty id).1 (freeP P free empty id).2.1 (freeP P free empty id).2.2.1 (cnt + 1) (.int .i64 (freeP P free empty id).2.2.2)) := by
  obtain ⟨pv, fv, E, rfl, h⟩ := h
  by_cases he : (askP (E.map pr) empty id).2 ≠ 0
  · have e : freeP (E.map pr) free empty id = (E.map pr, free, empty, (askP (E.map pr) empty id).2) := by unfold freeP; rw [if_pos he]
    rw [e]
    exact free_err id h hcn hw he
  by_cases h0 : id = 0
  · subst h0
    have e : freeP (E.map pr) free empty 0 = (E.map pr, free, max (empty - 1) 0, 0) := by unfold freeP; rw [if_neg he, if_pos rfl]
    rw [e]
    exact free_zero h hcn
  obtain ⟨i, p, rfl, hp, hp0, hi⟩ := ask_ok he h0
  obtain ⟨x, hx, hx1, hx2⟩ := pr_at hp
  by_cases h1 : p.2 = 1
  · have e : freeP (E.map pr) free empty ((i : Int) + 1) = ((E.map pr).set i ([], 0), free ++ [(i : Int)], empty, 0) := by
      unfold freeP; rw [if_neg he, if_neg h0, hi, hp]; simp only; rw [if_pos h1]
    rw [e]
    exact free_last h hcn hx (by omega)
  · have e : freeP (E.map pr) free empty ((i : Int) + 1) = ((E.map pr).set i (p.1, p.2 - 1), free, empty, 0) := by
      unfold freeP; rw [if_neg he, if_neg h0, hi, hp]; simp only; rw [if_neg h1]
    rw [e, ← hx1, ← hx2]
    have := (h.inv.held x (List.mem_of_getElem? hx)).1
    exact free_dec h hcn hx (by omega)
/-- What Hold answers, and what there is behind it. -/
def holdP (P : Ps) (empty : Int) (id : Int) : Ps × Int × Int :=
  if (askP P empty id).2 ≠ 0 then (P, empty, (askP P empty id).2) else if id = 0 then (P, empty + 1, 0) else match P[(id - 1).toNat]? with
  | none => (P, empty, 0)
  | some p => (P.set (id - 1).toNat (p.1, p.2 + 1), empty, 0)
theorem hold_any (id : Int) (h : TabM B O w tb sv mb P free empty cnt) (hcn : cnt ≤ 100000) (hw : (Lit.int .i64 id).wf = true) :
    Calls Tryd.prog 39 #[.pointer (some ⟨tb, 0, none⟩), .int .i64 id] w (OpPost B O w tb sv mb (holdP P empty id).1 free (holdP P empty id).2.1 (cnt + 1) (.int .i64 (holdP P empty id).2.2)) := by
  obtain ⟨pv, fv, E, rfl, h⟩ := h
  by_cases he : (askP (E.map pr) empty id).2 ≠ 0
  · have e : holdP (E.map pr) empty id = (E.map pr, empty, (askP (E.map pr) empty id).2) := by unfold holdP; rw [if_pos he]
    rw [e]
    exact hold_err id h hcn hw he
  by_cases h0 : id = 0
  · subst h0
    have e : holdP (E.map pr) empty 0 = (E.map pr, empty + 1, 0) := by unfold holdP; rw [if_neg he, if_pos rfl]
    rw [e]
    exact hold_zero h hcn
  obtain ⟨i, p, rfl, hp, hp0, hi⟩ := ask_ok he h0
  obtain ⟨x, hx, hx1, hx2⟩ := pr_at hp
  have e : holdP (E.map pr) empty ((i : Int) + 1) = ((E.map pr).set i (p.1, p.2 + 1), empty, 0) := by
    unfold holdP; rw [if_neg he, if_neg h0, hi, hp]
  rw [e, ← hx1, ← hx2]
  exact hold_at h hcn hx (by omega)
theorem heldM (id : Int) (h : TabM B O w tb sv mb P free empty cnt) (hcn : cnt ≤ 100000) (hw : (Lit.int .i64 id).wf = true) :
    Calls Tryd.prog 56 #[.pointer (some ⟨tb, 0, none⟩), .int .i64 id] w fun e w' => e = .returned (.int .i64 (askP P empty id).1) ∧ Below w.heap.size w w' := by
  obtain ⟨pv, fv, E, rfl, h⟩ := h
  rw [askP_eq]
  exact held_any id h (by omega) hw
theorem lenM (h : TabM B O w tb sv mb P free empty cnt) (hcn : cnt ≤ 100000) :
    Calls Tryd.prog 57 #[.pointer (some ⟨tb, 0, none⟩)] w fun e w' => e = .returned (.int .i64 (1 + (P.length : Int) - (free.length : Int))) ∧ Below w.heap.size w w' := by
  obtain ⟨pv, fv, E, rfl, h⟩ := h
  rw [List.length_map]
  exact len7_any h (by omega)
def setP (P : Ps) (id : Int) : List At := if id = 0 then [] else ((P[(id - 1).toNat]?).map (·.1)).getD []
theorem setM (id : Int) (h : TabM B O w tb sv mb P free empty cnt) (hcn : cnt ≤ 100000) (hw : (Lit.int .i64 id).wf = true) :
    Calls Tryd.prog 54 #[.pointer (some ⟨tb, 0, none⟩), .int .i64 id] w (SetPost w (setP P id) (askP P empty id).2) := by
  obtain ⟨pv, fv, E, rfl, h⟩ := h
  have e : setP (E.map pr) id = setE E id := by
    unfold setP setE
    split
    · rfl
    · rw [List.getElem?_map]
      cases E[(id - 1).toNat]? <;> rfl
  rw [e, askP_eq]
  exact set_any id h (by omega) hw
theorem TabM.below (h : TabM B O w tb sv mb P free empty cnt) (hb : Below w.heap.size w w') : TabM B O w' tb sv mb P free empty cnt := by
  obtain ⟨pv, fv, E, hP, h⟩ := h
  exact ⟨pv, fv, E, hP, h.below hb⟩
theorem TabM.turn {Q : Nat → Prop} (h : TabM B O w tb sv mb P free empty cnt) (ht : Turn Q w w') (hQ : ∀ k, Q k → ¬ O k) : TabM B O w' tb sv mb P free empty cnt := by
  obtain ⟨pv, fv, E, hP, h⟩ := h
  exact ⟨pv, fv, E, hP, h.turn ht hQ⟩
def newW (w : World) (sv : Value) : World := (w.alloc (.map #[] 0)).alloc (.cells #[sv, .slice none 0 0, .slice none 0 0, .map (some w.heap.size), .int .i64 0] 81)
theorem newM (w : World) (sv : Value) (hB : B ≤ w.heap.size) : TabM B (fun k => w.heap.size ≤ k ∧ k < w.heap.size + 2) (newW w sv) (w.heap.size + 1) sv w.heap.size [] [] 0 0 := by
  have hs : (newW w sv).heap.size = w.heap.size + 2 := by simp [newW]
  have hm : IMap (newW w sv) w.heap.size 0 (fun _ => none) := (IMap.new w 0).kept (heap_alloc_old (w.alloc (.map #[] 0)) _ (by simp))
  refine ⟨.slice none 0 0, .slice none 0 0, [], rfl, ⟨fun k hk => by rw [hs]; omega, ⟨by omega, by omega⟩, ?_, ⟨rfl, .inl ⟨rfl, rfl⟩⟩, fun k hk => (by cases hk), OwnN.nil _ _ _ _, fun k hk => (by cases hk), ⟨_, hm, ⟨fun i a hi => (by simp at hi), fun t _ => rfl⟩⟩, ⟨Nat.le_refl _, by omega⟩, fun e he => (by cases he), ?_⟩⟩
  · exact box_at (w.alloc (.map #[] 0)) _ _ (by simp)
  · exact ⟨fun a ha => (by cases ha), Nat.le_refl _, Nat.le_refl _, List.nodup_nil, fun f => ⟨fun hf => (by cases hf), fun ⟨i, a, _, hi, _⟩ => (by simp at hi)⟩, by omega⟩
set_option maxRecDepth 100000 in
theorem new7_any (so : Option Addr) (w : World) : Calls Tryd.prog 33 #[.pointer so] w fun e w' => e = .returned (.pointer (some ⟨w.heap.size + 1, 0, none⟩)) ∧ w' = newW w (.pointer so) := by
  have hmk : ∀ W : World, (Instr.makeMap 79 none).run Tryd.prog W = .ok (.map (some W.heap.size)) (W.alloc (.map #[] 0)) := fun W => rfl
  go_enter Tryd.func33, Tryd.ntmps33
  go_wp2
  go_ret
  exact ⟨rfl, rfl⟩
end Go.Proofs.YtaejlgdmalhhnaaDoor
