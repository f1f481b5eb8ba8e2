/- Layer 4: rows of keys, plain. -/
import Derived.Test.YtaejlgdmalhhnaaSf
namespace Go.Proofs.Ytaejlgdmalhhnaa

theorem pw_ne {ks : List Ky} (h : ks.Pairwise (fun a b => a.id ≠ b.id)) {a b : Ky} (ha : a ∈ ks) (hb : b ∈ ks) (e : a.id = b.id) : a = b := by
  induction ks with
  | nil => cases ha
  | cons k r ih =>
    rw [List.pairwise_cons] at h
    rcases List.mem_cons.1 ha with rfl | ha' <;> rcases List.mem_cons.1 hb with rfl | hb'
    · rfl
    · exact absurd e (h.1 _ hb')
    · exact absurd e.symm (h.1 _ ha')
    · exact ih h.2 ha' hb'
theorem pw_perm {ks l : List Ky} (hp : l.Perm ks) (h : ks.Pairwise (fun a b => a.id ≠ b.id)) : l.Pairwise (fun a b => a.id ≠ b.id) :=
  (hp.pairwise_iff (R := fun a b : Ky => a.id ≠ b.id) (fun {_ _} h => Ne.symm h)).2 h
/-- Rows that rise strictly. -/
def risesK (l : List Ky) : Prop := l.Pairwise (fun a b => a.id < b.id)
theorem rises_of {ks l : List Ky} (hp : l.Perm ks) (hs : sortedK l) (h : ks.Pairwise (fun a b => a.id ≠ b.id)) : risesK l := by
  have h' := pw_perm hp h
  unfold sortedK at hs
  unfold risesK
  exact (hs.and h').imp (fun {a b} h => by have := h.1; have := h.2; omega)
theorem find_mem {ks : List Ky} {id : Int} {k : Ky} (h : findK ks id = some k) : k ∈ ks ∧ k.id = id := by
  unfold findK at h
  exact ⟨List.mem_of_find?_eq_some h, by have := List.find?_some h; simpa using this⟩
theorem find_of_mem {ks : List Ky} {k : Ky} (h : ks.Pairwise (fun a b => a.id ≠ b.id)) (hk : k ∈ ks) : findK ks k.id = some k := by
  cases e : findK ks k.id with
  | none =>
    unfold findK at e
    rw [List.find?_eq_none] at e
    have := e k hk
    simp at this
  | some k' =>
    obtain ⟨h1, h2⟩ := find_mem e
    rw [pw_ne h h1 hk h2]
theorem find_perm {ks l : List Ky} (hp : l.Perm ks) (h : ks.Pairwise (fun a b => a.id ≠ b.id)) (id : Int) : findK l id = findK ks id := by
  cases e : findK l id with
  | some k =>
    obtain ⟨h1, h2⟩ := find_mem e
    subst h2
    exact (find_of_mem h (hp.mem_iff.1 h1)).symm
  | none =>
    cases e' : findK ks id with
    | none => rfl
    | some k =>
      obtain ⟨h1, h2⟩ := find_mem e'
      subst h2
      rw [find_of_mem (pw_perm hp h) (hp.mem_iff.2 h1)] at e
      cases e
/-- Two rows of the same keys that rise are one. -/
theorem rises_unique {a b : List Ky} (hp : a.Perm b) (ha : risesK a) (hb : risesK b) : a = b := by
  induction a generalizing b with
  | nil => exact (List.nil_perm.1 hp).symm
  | cons x r ih =>
    cases b with
    | nil => exact absurd hp.symm (by simp)
    | cons y s =>
      unfold risesK at ha hb
      rw [List.pairwise_cons] at ha hb
      have hx : x = y ∨ x ∈ s := by
        have := hp.mem_iff.1 (List.mem_cons_self (a := x) (l := r)); simpa using this
      have hy : y = x ∨ y ∈ r := by
        have := hp.mem_iff.2 (List.mem_cons_self (a := y) (l := s)); simpa using this
      have e : x = y := by
        rcases hx with h | h
        · exact h
        · rcases hy with h' | h'
          · exact h'.symm
          · have h1 := hb.1 _ h
            have h2 := ha.1 _ h'
            omega
      subst e
      rw [ih (hp.cons_inv) ha.2 hb.2]
theorem filter_next {l : List Ky} (hr : risesK l) (i : Int) : l.filter (fun k => decide (k.id < i + 1)) = l.filter (fun k => decide (k.id < i)) ++ (findK l i).toList := by
  induction l with
  | nil => rfl
  | cons x r ih =>
    unfold risesK at hr
    rw [List.pairwise_cons] at hr
    have ih' := ih hr.2
    by_cases h1 : x.id < i
    · have e1 : findK (x :: r) i = findK r i := List.find?_cons_of_neg (by simp; omega)
      rw [e1, List.filter_cons_of_pos (by simp; omega), List.filter_cons_of_pos (by simp; omega), ih']; rfl
    · have hnil : ∀ j : Int, j ≤ x.id + 1 → r.filter (fun k => decide (k.id < j)) = [] := by
        intro j hj
        rw [List.filter_eq_nil_iff]
        intro k hk
        have := hr.1 k hk
        simp; omega
      by_cases h2 : x.id = i
      · have e1 : findK (x :: r) i = some x := List.find?_cons_of_pos (by simp; omega)
        rw [e1, List.filter_cons_of_pos (by simp; omega), List.filter_cons_of_neg (by simp; omega), hnil _ (by omega), hnil _ (by omega)]; rfl
      · have e1 : findK (x :: r) i = none := by
          unfold findK
          rw [List.find?_eq_none]
          intro k hk
          rcases List.mem_cons.1 hk with rfl | hk
          · simpa using h2
          · have := hr.1 k hk; simp; omega
        rw [e1, List.filter_cons_of_neg (by simp; omega), List.filter_cons_of_neg (by simp; omega), hnil _ (by omega), hnil _ (by omega)]; rfl
theorem filter_all {l : List Ky} (h : ∀ k ∈ l, mayK k = true) : l.filter (fun k => decide (k.id < 1001)) = l := by
  rw [List.filter_eq_self]
  intro k hk
  have := h k hk
  unfold mayK at this
  simp at this
  simp; omega
theorem filter_none {l : List Ky} (h : ∀ k ∈ l, mayK k = true) : l.filter (fun k => decide (k.id < 1)) = [] := by
  rw [List.filter_eq_nil_iff]
  intro k hk
  have := h k hk
  unfold mayK at this
  simp at this
  simp; omega
/-- The others of a key's group, off the row that rises. -/
def groupOf (l : List Ky) (g id : Int) : List Int := (l.filter (fun o => o.gr == g && !(o.id == id))).map (·.id)
def groupK (ks l : List Ky) (id : Int) : List Int := match findK ks id with
  | none => []
  | some k => if k.gr = 0 then [] else groupOf l k.gr id
theorem groupOf_snoc (l : List Ky) (x : Ky) (g id : Int) : groupOf (l ++ [x]) g id = groupOf l g id ++ if x.gr = g ∧ x.id ≠ id then [x.id] else [] := by
  unfold groupOf
  rw [List.filter_append, List.map_append]
  congr 1
  by_cases h : x.gr = g ∧ x.id ≠ id
  · rw [if_pos h, List.filter_cons_of_pos (by simp [h.1, h.2])]; rfl
  · rw [if_neg h, List.filter_cons_of_neg (by intro h'; apply h; simpa using h')]; rfl
theorem group_mem {ks l : List Ky} (hp : l.Perm ks) (h : ks.Pairwise (fun a b => a.id ≠ b.id)) {x y : Ky} (hx : x ∈ l) (hy : y ∈ l) :
    y.id ∈ groupK ks l x.id ↔ x.gr ≠ 0 ∧ y.gr = x.gr ∧ y.id ≠ x.id := by
  unfold groupK
  rw [find_of_mem h (hp.mem_iff.1 hx)]
  simp only
  by_cases h0 : x.gr = 0
  · rw [if_pos h0]; simp [h0]
  · rw [if_neg h0]
    unfold groupOf
    rw [List.mem_map]
    constructor
    · rintro ⟨o, ho, he⟩
      rw [List.mem_filter] at ho
      have := pw_ne (pw_perm hp h) ho.1 hy he
      subst this
      have := ho.2
      simp at this
      exact ⟨h0, this.1, this.2⟩
    · rintro ⟨_, h1, h2⟩
      exact ⟨y, by rw [List.mem_filter]; exact ⟨hy, by simp [h1, h2]⟩, rfl⟩
theorem group_sym {ks l : List Ky} (hp : l.Perm ks) (h : ks.Pairwise (fun a b => a.id ≠ b.id)) {x y : Ky} (hx : x ∈ l) (hy : y ∈ l) :
    (groupK ks l x.id).contains y.id = (groupK ks l y.id).contains x.id := by
  rw [Bool.eq_iff_iff, List.contains_iff_mem, List.contains_iff_mem, group_mem hp h hx hy, group_mem hp h hy hx]
  constructor
  · rintro ⟨h1, h2, h3⟩; exact ⟨by omega, h2.symm, fun e => h3 e.symm⟩
  · rintro ⟨h1, h2, h3⟩; exact ⟨by omega, h2.symm, fun e => h3 e.symm⟩
theorem group_self {ks l : List Ky} (hp : l.Perm ks) (h : ks.Pairwise (fun a b => a.id ≠ b.id)) {x : Ky} (hx : x ∈ l) : (groupK ks l x.id).contains x.id = false := by
  rw [Bool.eq_false_iff]
  intro hc
  rw [List.contains_iff_mem, group_mem hp h hx hx] at hc
  exact hc.2.2 rfl
/-- The document's test of a row of keys, as its loops go. -/
def docK (k : Ky) : Bool := decide (k.id < 1) || decide (1000 < k.id) || decide (k.kd < 1) || decide (4 < k.kd) || decide (k.gr < 0) || decide (8 < k.gr) || (!k.bl && !(k.gr == 0)) || (k.bl && k.be)
theorem docK_eq (k : Ky) : docK k = !mayK k := by
  obtain ⟨id, bl, kd, af, be, gr⟩ := k
  rw [Bool.eq_iff_iff]
  unfold docK mayK
  cases bl <;> cases be <;> simp <;> omega
theorem okPre_snoc (l : List Ky) (x : Ky) : okPre (l ++ [x]) ↔ okPre l ∧ mayK x = true ∧ findK l x.id = none := by
  unfold okPre
  rw [List.pairwise_append]
  constructor
  · rintro ⟨h1, h2, _, h4⟩
    refine ⟨⟨fun k hk => h1 k (by simp [hk]), h2⟩, h1 x (by simp), ?_⟩
    unfold findK
    rw [List.find?_eq_none]
    intro k hk
    have := h4 k hk x (by simp)
    simpa using this
  · rintro ⟨⟨h1, h2⟩, h3, h4⟩
    refine ⟨fun k hk => ?_, h2, by simp, fun a ha b hb => ?_⟩
    · rcases List.mem_append.1 hk with h | h
      · exact h1 k h
      · simp at h; subst h; exact h3
    · simp at hb; subst hb
      unfold findK at h4
      rw [List.find?_eq_none] at h4
      simpa using h4 a ha
theorem okPre_take_fail {ks : List Ky} {i : Nat} {x : Ky} (hi : ks[i]? = some x) (h : ¬ (mayK x = true ∧ findK (ks.take i) x.id = none)) : ¬ okPre ks := by
  intro ho
  apply h
  have hlt := (List.getElem?_eq_some_iff.1 hi).1
  have ht : ks.take (i + 1) = ks.take i ++ [x] := by rw [List.take_succ_eq_append_getElem hlt, (List.getElem?_eq_some_iff.1 hi).2]
  have hs : okPre (ks.take (i + 1)) := ⟨fun k hk => ho.1 k (List.mem_of_mem_take hk), ho.2.sublist (List.take_sublist _ _)⟩
  rw [ht, okPre_snoc] at hs
  exact hs.2
end Go.Proofs.Ytaejlgdmalhhnaa
