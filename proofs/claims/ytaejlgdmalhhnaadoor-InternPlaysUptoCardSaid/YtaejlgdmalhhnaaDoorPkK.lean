/- Texts put together: Eg, Eh. -/
import Derived.Test.YtaejlgdmalhhnaaDoorEd
import Derived.Test.YtaejlgdmalhhnaaDoorPkL
import Derived.Test.YtaejlgdmalhhnaaDoorFa
import Derived.Test.YtaejlgdmalhhnaaDoorPkF
import Derived.Test.YtaejlgdmalhhnaaDoorPkM
/- Layer 7: the table and the document's, side by side: what a script of calls keeps. -/
set_option linter.unusedVariables false
set_option linter.unusedSimpArgs false
namespace Go.Proofs.YtaejlgdmalhhnaaDoor
open Go.RowKit Go.Maps Go.Shelf

/-- A call of a script. -/
structure Opc where
  kind : Int
  id : Int
  s : Sl
def OSrc (W : World) (A : Option Addr) (L : List Opc) : Prop := (A = none → L = []) ∧ ∀ ad, A = some ad → ∀ j x, L[j]? = some x →
  W.cell? (ad.add (j * 3)) = some (.int .i64 x.kind) ∧ W.cell? ⟨(ad.add (j * 3)).block, (ad.add (j * 3)).off + 1, none⟩ = some (.int .i64 x.id) ∧ W.cell? ⟨(ad.add (j * 3)).block, (ad.add (j * 3)).off + 2, none⟩ = some x.s.v
/-- In W, reached from w: the table and the document's, laid since w, apart. -/
structure Play (w W : World) (tb db : Nat) (so KA : Option Addr) (mb lo hi kc : Nat) (ks srt : List Ky) (P D : Ps) (fp fd : List Int) (ep ed : Int) (cnt : Nat) (O O2 : Nat → Prop) : Prop where
  run : Run w W tb so mb lo hi ks srt P fp ep cnt O
  doc : DocM w.heap.size O2 W db (.slice KA ks.length kc) D fd ed
  ap : ∀ k, O k → ¬ O2 k
  dhi : ∀ k, O2 k → hi ≤ k
variable {w W W' : World} {tb db : Nat} {so KA : Option Addr} {mb lo hi kc : Nat} {ks srt : List Ky} {P D P' D' : Ps} {fp fd fp' fd' f f' : List Int} {ep ed ep' ed' e0 e' : Int} {cnt cnt' : Nat} {O O2 : Nat → Prop}
theorem Play.later (h : Play w W tb db so KA mb lo hi kc ks srt P D fp fd ep ed cnt O O2) (hb : Below W.heap.size W W') : Play w W' tb db so KA mb lo hi kc ks srt P D fp fd ep ed cnt O O2 :=
  ⟨h.run.later hb, h.doc.below hb, h.ap, h.dhi⟩
theorem Play.turnQ {Q : Nat → Prop} (h : Play w W tb db so KA mb lo hi kc ks srt P D fp fd ep ed cnt O O2) (ht : Turn Q W W') (hQ : ∀ k, Q k → w.heap.size ≤ k ∧ hi ≤ k ∧ ¬ O k ∧ ¬ O2 k) : Play w W' tb db so KA mb lo hi kc ks srt P D fp fd ep ed cnt O O2 :=
  ⟨h.run.turnQ ht (fun k hk => ⟨(hQ k hk).1, (hQ k hk).2.1, (hQ k hk).2.2.1⟩), h.doc.turn ht (fun k hk => (hQ k hk).2.2.2), h.ap, h.dhi⟩
theorem Play.tab {r : Value} {e : Ending} (h : Play w W tb db so KA mb lo hi kc ks srt P D fp fd ep ed cnt O O2) (hp : RunPost w W tb so mb lo hi ks srt P' fp' ep' cnt' O r e W') :
    e = .returned r ∧ Play w W' tb db so KA mb lo hi kc ks srt P' D fp' fd ep' ed cnt' (Grow O W W') O2 := by
  obtain ⟨he, hr, ht⟩ := hp
  refine ⟨he, hr, h.doc.turn ht h.ap, fun k hk h2 => ?_, h.dhi⟩
  rcases hk with hk | ⟨hk, _⟩
  · exact h.ap k hk h2
  · have := (h.doc.top.1 k h2).2
    omega
theorem Play.step {r : Value} {e : Ending} (h : Play w W tb db so KA mb lo hi kc ks srt P D fp fd ep ed cnt O O2) (hp : DocPost w.heap.size O2 W db (.slice KA ks.length kc) D' fd' ed' r e W') :
    e = .returned r ∧ Play w W' tb db so KA mb lo hi kc ks srt P D' fp fd' ep ed' cnt O (Grow O2 W W') := by
  obtain ⟨he, hd, ht⟩ := hp
  refine ⟨he, h.run.turnQ ht (fun k hk => ⟨(h.doc.top.1 k hk).1, h.dhi k hk, fun ho => h.ap k ho hk⟩), hd, fun k ho hk => ?_, fun k hk => ?_⟩
  · rcases hk with hk | ⟨hk, _⟩
    · exact h.ap k ho hk
    · have := (h.run.tab.lt k ho).2
      omega
  · rcases hk with hk | ⟨hk, _⟩
    · exact h.dhi k hk
    · exact Nat.le_trans h.run.top hk
theorem TabM.bd {B : Nat} {sv : Value} (h : TabM B O W tb sv mb P f e0 cnt) (hr : Rel P D) (hc : cnt ≤ 100000) : DBd D f e0 := by
  obtain ⟨pv, fv, E, rfl, ht⟩ := h
  have h1 := ht.inv.len
  have h2 := ht.inv.flen
  have h3 := ht.inv.emp
  have h4 := hr.len
  rw [List.length_map] at h4
  refine ⟨by omega, fun q hq => ?_, by omega, by omega⟩
  obtain ⟨i, hi⟩ := List.mem_iff_getElem?.1 hq
  obtain ⟨p, hp, he, _⟩ := hr.back hi
  obtain ⟨a, ha, _, hh⟩ := pr_at hp
  have := (ht.inv.held a (List.mem_of_getElem? ha)).2.1
  omega
theorem play_has (id : Int) (h : Play w W tb db so KA mb lo hi kc ks srt P D fp fd ep ed cnt O O2) (hl : D.length ≤ 1000000) (hw : (Lit.int .i64 id).wf = true) :
    Calls Tryd.prog 34 #[.pointer (some ⟨db, 0, none⟩), .int .i64 id] W fun e w' => e = .returned (.bool (hasP D id)) ∧ w' = W := has_docM id h.doc hl hw
theorem play_add1 (A : Option Addr) (c : Nat) (l : List At) (h : Play w W tb db so KA mb lo hi kc ks srt P D f fd e0 ed cnt O O2) (hcn : cnt ≤ 100000) (hT : Lib.Utf8Tabs 1 2 w) (hS : ASrc W A l) (hc : l.length ≤ c) (hl : l.length ≤ 9223372036854775807) (hcA : A = none → c = 0) (hAO : ∀ a, A = some a → ¬ O a.block) (hwf : ∀ a ∈ l, a.wfA) :
    Calls Tryd.prog 35 #[.pointer (some ⟨tb, 0, none⟩), .slice A l.length c] W fun e W' => e = .returned (.tuple #[.int .i64 (addP ks P f e0 l).2.2.2.1, .int .i64 (addP ks P f e0 l).2.2.2.2]) ∧ Play w W' tb db so KA mb lo hi kc ks srt (addP ks P f e0 l).1 D (addP ks P f e0 l).2.1 fd (addP ks P f e0 l).2.2.1 ed (cnt + 1) (Grow O W W') O2 :=
  (run_add A c l h.run hcn hT hS hc hl hcA hAO hwf rfl).mono fun e W' hp => h.tab hp
theorem play_add2 (A : Option Addr) (c : Nat) (l : List At) (h : Play w W tb db so KA mb lo hi kc ks srt P D fp f ep e0 cnt O O2) (hK : KSrc W KA ks) (hkc : ks.length ≤ kc) (hkl : ks.length ≤ 9223372036854775807) (hbd : DBd D f e0) (ha : ArgS W A c l) (hfar : l ≠ [] → ∀ a, A = some a → a.block < w.heap.size) (hfr : ∀ x ∈ f, ∃ j : Nat, j < D.length ∧ x = (j : Int)) :
    Calls Tryd.prog 36 #[.pointer (some ⟨db, 0, none⟩), .slice A l.length c] W fun e W' => e = .returned (.tuple #[.int .i64 (addP ks D f e0 l).2.2.2.1, .int .i64 (addP ks D f e0 l).2.2.2.2]) ∧ Play w W' tb db so KA mb lo hi kc ks srt P (addP ks D f e0 l).1 fp (addP ks D f e0 l).2.1 ep (addP ks D f e0 l).2.2.1 cnt O (Grow O2 W W') :=
  (add_doc hK hkc hkl h.doc hbd ha hfar hfr).mono fun e W' hp => h.step hp
theorem fr_len (hI : PInv P f e0) (hR : Rel P D) : ∀ x ∈ f, ∃ j : Nat, j < D.length ∧ x = (j : Int) := fun x hx => by
  obtain ⟨j, p, hj, hp, _⟩ := hI.fr x hx
  exact ⟨j, by rw [← hR.len]; exact (List.getElem?_eq_some_iff.1 hp).1, hj⟩
theorem freeP_err (id : Int) : (freeP P f e0 id).2.2.2 = (askP P e0 id).2 := by
  unfold freeP
  by_cases h : (askP P e0 id).2 ≠ 0
  · rw [if_pos h]
  · rw [if_neg h]
    have h' : (askP P e0 id).2 = 0 := by omega
    rw [h']
    split
    · rfl
    · split
      · rfl
      · split <;> rfl
theorem holdP_err (id : Int) : (holdP P e0 id).2.2 = (askP P e0 id).2 := by
  unfold holdP
  by_cases h : (askP P e0 id).2 ≠ 0
  · rw [if_pos h]
  · rw [if_neg h]
    have h' : (askP P e0 id).2 = 0 := by omega
    rw [h']
    split
    · rfl
    · split <;> rfl
theorem play_free1 (id : Int) (h : Play w W tb db so KA mb lo hi kc ks srt P D f fd e0 ed cnt O O2) (hcn : cnt ≤ 100000) (hw : (Lit.int .i64 id).wf = true) :
    Calls Tryd.prog 37 #[.pointer (some ⟨tb, 0, none⟩), .int .i64 id] W fun e W' => e = .returned (.int .i64 (askP P e0 id).2) ∧ Play w W' tb db so KA mb lo hi kc ks srt (freeP P f e0 id).1 D (freeP P f e0 id).2.1 fd (freeP P f e0 id).2.2.1 ed (cnt + 1) (Grow O W W') O2 ∧ Turn O W W' := by
  have h1 := run_free (P' := (freeP P f e0 id).1) (free' := (freeP P f e0 id).2.1) (empty' := (freeP P f e0 id).2.2.1) (err := (freeP P f e0 id).2.2.2) id h.run hcn hw rfl
  rw [freeP_err] at h1
  exact h1.mono fun e W' hp => ⟨(h.tab hp).1, (h.tab hp).2, hp.2.2⟩
theorem play_hold1 (id : Int) (h : Play w W tb db so KA mb lo hi kc ks srt P D f fd e0 ed cnt O O2) (hcn : cnt ≤ 100000) (hw : (Lit.int .i64 id).wf = true) :
    Calls Tryd.prog 39 #[.pointer (some ⟨tb, 0, none⟩), .int .i64 id] W fun e W' => e = .returned (.int .i64 (askP P e0 id).2) ∧ Play w W' tb db so KA mb lo hi kc ks srt (holdP P e0 id).1 D f fd (holdP P e0 id).2.1 ed (cnt + 1) (Grow O W W') O2 ∧ Turn O W W' := by
  have h1 := run_hold (P' := (holdP P e0 id).1) (empty' := (holdP P e0 id).2.1) (err := (holdP P e0 id).2.2) id h.run hcn hw rfl
  rw [holdP_err] at h1
  exact h1.mono fun e W' hp => ⟨(h.tab hp).1, (h.tab hp).2, hp.2.2⟩
theorem freeP_no {id : Int} (h : (askP P e0 id).2 ≠ 0) : freeP P f e0 id = (P, f, e0, (askP P e0 id).2) := by unfold freeP; rw [if_pos h]
theorem holdP_no {id : Int} (h : (askP P e0 id).2 ≠ 0) : holdP P e0 id = (P, e0, (askP P e0 id).2) := by unfold holdP; rw [if_pos h]
/-- What the document's side is in step with. -/
def Stepped (w W : World) (tb db : Nat) (so KA : Option Addr) (mb lo hi kc : Nat) (ks srt : List Ky) (P : Ps) (f : List Int) (e0 : Int) (cnt : Nat) (O : Nat → Prop) : Prop := ∃ D O2, Play w W tb db so KA mb lo hi kc ks srt P D f f e0 e0 cnt O O2 ∧ Rel P D
theorem play_free2 (id : Int) (h : Play w W tb db so KA mb lo hi kc ks srt (freeP P f e0 id).1 D (freeP P f e0 id).2.1 f (freeP P f e0 id).2.2.1 e0 cnt O O2) (hbd : DBd D f e0) (hR : Rel P D) (hI : PInv P f e0) (hok : (askP P e0 id).2 = 0) :
    Calls Tryd.prog 38 #[.pointer (some ⟨db, 0, none⟩), .int .i64 id] W fun e W' => e = .returned (.tuple #[]) ∧ Stepped w W' tb db so KA mb lo hi kc ks srt (freeP P f e0 id).1 (freeP P f e0 id).2.1 (freeP P f e0 id).2.2.1 cnt O ∧ Turn O2 W W' := by
  have hk : ¬ (askP P e0 id).2 ≠ 0 := by omega
  by_cases h0 : id = 0
  · subst h0
    have e1 : freeP P f e0 0 = (P, f, max (e0 - 1) 0, 0) := by unfold freeP; rw [if_neg hk, if_pos rfl]
    rw [e1] at h ⊢
    exact (free_doc0 h.doc hbd).mono fun e W' hp => ⟨(h.step hp).1, ⟨_, _, (h.step hp).2, hR⟩, hp.2.2⟩
  · obtain ⟨i, p, rfl, hp, hp0, hi⟩ := ask_ok hk h0
    obtain ⟨q, hq, h1, h2⟩ := hR.at_ hp
    have hpn := hI.nn p (List.mem_of_getElem? hp)
    by_cases hp1 : p.2 = 1
    · have e1 : freeP P f e0 ((i : Int) + 1) = (P.set i ([], 0), f ++ [(i : Int)], e0, 0) := by unfold freeP; rw [if_neg hk, if_neg h0, hi, hp]; simp only; rw [if_pos hp1]
      rw [e1] at h ⊢
      have hr : Rel (P.set i ([], 0)) (D.set i (q.1, 0)) := hR.set i rfl (fun h => absurd rfl h)
      exact (free_docL h.doc hbd hq (by omega)).mono fun e W' hp => ⟨(h.step hp).1, ⟨_, _, (h.step hp).2, hr⟩, hp.2.2⟩
    · have e1 : freeP P f e0 ((i : Int) + 1) = (P.set i (p.1, p.2 - 1), f, e0, 0) := by unfold freeP; rw [if_neg hk, if_neg h0, hi, hp]; simp only; rw [if_neg hp1]
      rw [e1] at h ⊢
      have hr := hR.drop hp hq hp0 p.1 (fun _ => rfl)
      exact (free_docN h.doc hbd hq (by omega)).mono fun e W' hp => ⟨(h.step hp).1, ⟨_, _, (h.step hp).2, hr⟩, hp.2.2⟩
theorem play_hold2 (id : Int) (h : Play w W tb db so KA mb lo hi kc ks srt (holdP P e0 id).1 D f f (holdP P e0 id).2.1 e0 cnt O O2) (hbd : DBd D f e0) (hR : Rel P D) (hok : (askP P e0 id).2 = 0) :
    Calls Tryd.prog 40 #[.pointer (some ⟨db, 0, none⟩), .int .i64 id] W fun e W' => e = .returned (.tuple #[]) ∧ Stepped w W' tb db so KA mb lo hi kc ks srt (holdP P e0 id).1 f (holdP P e0 id).2.1 cnt O ∧ Turn O2 W W' := by
  have hk : ¬ (askP P e0 id).2 ≠ 0 := by omega
  by_cases h0 : id = 0
  · subst h0
    have e1 : holdP P e0 0 = (P, e0 + 1, 0) := by unfold holdP; rw [if_neg hk, if_pos rfl]
    rw [e1] at h ⊢
    exact (hold_doc0 h.doc hbd).mono fun e W' hp => ⟨(h.step hp).1, ⟨_, _, (h.step hp).2, hR⟩, hp.2.2⟩
  · obtain ⟨i, p, rfl, hp, hp0, hi⟩ := ask_ok hk h0
    obtain ⟨q, hq, h1, h2⟩ := hR.at_ hp
    have e1 : holdP P e0 ((i : Int) + 1) = (P.set i (p.1, p.2 + 1), e0, 0) := by unfold holdP; rw [if_neg hk, if_neg h0, hi, hp]
    rw [e1] at h ⊢
    have hr := hR.hold hp hq hp0
    exact (hold_docI h.doc hbd hq).mono fun e W' hp => ⟨(h.step hp).1, ⟨_, _, (h.step hp).2, hr⟩, hp.2.2⟩
theorem play_looked (id : Int) (h : Play w W tb db so KA mb lo hi kc ks srt P D f f e0 e0 cnt O O2) (hR : Rel P D) (hcn : cnt ≤ 100000) (hw : (Lit.int .i64 id).wf = true) :
    Calls Tryd.prog 41 #[.pointer (some ⟨tb, 0, none⟩), .pointer (some ⟨db, 0, none⟩), .int .i64 id] W fun e w' => e = .returned (.bool true) ∧ Below W.heap.size W w' :=
  looked_any id h.run.tab hcn h.doc hR h.run.tab.pinv hw
def docObj (kv : Value) : Obj := .cells #[kv, .slice none 0 0, .slice none 0 0, .slice none 0 0, .int .i64 0] 47
theorem doc_new (w W : World) (kv : Value) (hB : w.heap.size ≤ W.heap.size) : DocM w.heap.size (fun k => k = W.heap.size) (W.alloc (docObj kv)) W.heap.size kv [] [] 0 :=
  ⟨.slice none 0 0, .slice none 0 0, .slice none 0 0, [], [], ⟨fun k hk => ⟨by omega, by simp; omega⟩, rfl, heap_alloc_new W _, ⟨rfl, .inl ⟨rfl, rfl⟩⟩, fun k hk => (by cases hk), ⟨rfl, .inl ⟨rfl, rfl⟩⟩, fun k hk => (by cases hk), ⟨rfl, .inl ⟨rfl, rfl⟩⟩, fun k hk => (by cases hk), fun k hk => (by cases hk), fun s hs => (by cases hs)⟩, ⟨rfl, fun x hx => (by cases hx), fun s hs => (by cases hs)⟩, rfl⟩
theorem play_new (h : Run w W tb so mb lo hi ks srt [] [] 0 0 O) : Play w (W.alloc (docObj (.slice KA ks.length kc))) tb W.heap.size so KA mb lo hi kc ks srt [] [] [] [] 0 0 0 O (fun k => k = W.heap.size) :=
  ⟨h.later (below_alloc (below_refl W) _), doc_new w W _ h.below.size, fun k ho hk => by have := (h.tab.lt k ho).2; omega, fun k hk => by rw [hk]; exact h.top⟩
end Go.Proofs.YtaejlgdmalhhnaaDoor
/- Layer 7: a script's calls, one by one: what the law's loop keeps. -/
set_option linter.unusedVariables false
set_option linter.unusedSimpArgs false
namespace Go.Proofs.YtaejlgdmalhhnaaDoor
open Go.RowKit Go.Maps Go.Shelf

variable {w W W' : World} {tb db : Nat} {so KA : Option Addr} {mb lo hi kc : Nat} {ks srt : List Ky} {P D P' D' P1 D1 : Ps} {fp fd f f1 : List Int} {ep ed e0 e1 kid er : Int} {cnt cnt' : Nat} {O O2 : Nat → Prop}
theorem add_sync (hR : Rel P D) (ks : List Ky) (f : List Int) (e0 : Int) (l : List At) : ∃ P1 f1 e1 kid er D1, addP ks P f e0 l = (P1, f1, e1, kid, er) ∧ addP ks D f e0 l = (D1, f1, e1, kid, er) ∧ Rel P1 D1 := by
  obtain ⟨h1, h2⟩ := hR.add (ks := ks) (free := f) (empty := e0) l
  refine ⟨(addP ks P f e0 l).1, (addP ks P f e0 l).2.1, (addP ks P f e0 l).2.2.1, (addP ks P f e0 l).2.2.2.1, (addP ks P f e0 l).2.2.2.2, (addP ks D f e0 l).1, rfl, ?_, h1⟩
  rw [h2]
theorem calls_add1 (A : Option Addr) (c : Nat) (l : List At) (h : Play w W tb db so KA mb lo hi kc ks srt P D f fd e0 ed cnt O O2) (hcn : cnt ≤ 100000) (hT : Lib.Utf8Tabs 1 2 w) (hS : ASrc W A l) (hc : l.length ≤ c) (hl : l.length ≤ 9223372036854775807) (hcA : A = none → c = 0) (hAO : ∀ a, A = some a → ¬ O a.block) (hwf : ∀ a ∈ l, a.wfA) (ha : addP ks P f e0 l = (P1, f1, e1, kid, er)) :
    Calls Tryd.prog 35 #[.pointer (some ⟨tb, 0, none⟩), .slice A l.length c] W fun e W' => e = .returned (.tuple #[.int .i64 kid, .int .i64 er]) ∧ Play w W' tb db so KA mb lo hi kc ks srt P1 D f1 fd e1 ed (cnt + 1) (Grow O W W') O2 ∧ Turn O W W' :=
  (run_add A c l h.run hcn hT hS hc hl hcA hAO hwf ha).mono fun e W' hp => ⟨(h.tab hp).1, (h.tab hp).2, hp.2.2⟩
theorem calls_add2 (A : Option Addr) (c : Nat) (l : List At) (h : Play w W tb db so KA mb lo hi kc ks srt P D fp f ep e0 cnt O O2) (hK : KSrc W KA ks) (hkc : ks.length ≤ kc) (hkl : ks.length ≤ 9223372036854775807) (hbd : DBd D f e0) (ha : ArgS W A c l) (hfar : l ≠ [] → ∀ a, A = some a → a.block < w.heap.size) (hfr : ∀ x ∈ f, ∃ j : Nat, j < D.length ∧ x = (j : Int)) (hD : addP ks D f e0 l = (D1, f1, e1, kid, er)) :
    Calls Tryd.prog 36 #[.pointer (some ⟨db, 0, none⟩), .slice A l.length c] W fun e W' => e = .returned (.tuple #[.int .i64 kid, .int .i64 er]) ∧ Play w W' tb db so KA mb lo hi kc ks srt P D1 fp f1 ep e1 cnt O (Grow O2 W W') ∧ Turn O2 W W' := by
  have h1 := add_doc hK hkc hkl h.doc hbd ha hfar hfr
  rw [hD] at h1
  exact h1.mono fun e W' hp => ⟨(h.step hp).1, (h.step hp).2, hp.2.2⟩
/-- Before a call of the script. -/
def Lp (w W : World) (tb db : Nat) (so KA : Option Addr) (mb lo hi kc : Nat) (ks srt : List Ky) (n : Nat) : Prop := ∃ P f e0 cnt O, Stepped w W tb db so KA mb lo hi kc ks srt P f e0 cnt O ∧ cnt ≤ n
theorem Lp.later {n : Nat} (h : Lp w W tb db so KA mb lo hi kc ks srt n) (hb : Below W.heap.size W W') : Lp w W' tb db so KA mb lo hi kc ks srt n := by
  obtain ⟨P, f, e0, cnt, O, ⟨D, O2, hp, hr⟩, hc⟩ := h
  exact ⟨P, f, e0, cnt, O, ⟨D, O2, hp.later hb, hr⟩, hc⟩
theorem Lp.mono {n n' : Nat} (h : Lp w W tb db so KA mb lo hi kc ks srt n) (hn : n ≤ n') : Lp w W tb db so KA mb lo hi kc ks srt n' := by
  obtain ⟨P, f, e0, cnt, O, hs, hc⟩ := h
  exact ⟨P, f, e0, cnt, O, hs, by omega⟩
theorem Lp.below {n : Nat} (h : Lp w W tb db so KA mb lo hi kc ks srt n) : Below w.heap.size w W := by
  obtain ⟨P, f, e0, cnt, O, ⟨D, O2, hp, hr⟩, hc⟩ := h
  exact hp.run.below
theorem Lp.looked {n : Nat} (id : Int) (h : Lp w W tb db so KA mb lo hi kc ks srt n) (hn : n ≤ 100000) (hw : (Lit.int .i64 id).wf = true) :
    Calls Tryd.prog 41 #[.pointer (some ⟨tb, 0, none⟩), .pointer (some ⟨db, 0, none⟩), .int .i64 id] W fun e w' => e = .returned (.bool true) ∧ Below W.heap.size W w' := by
  obtain ⟨P, f, e0, cnt, O, ⟨D, O2, hp, hr⟩, hc⟩ := h
  exact play_looked id hp hr (by omega) hw
theorem Lp.new (h : Run w W tb so mb lo hi ks srt [] [] 0 0 O) : Lp w (W.alloc (docObj (.slice KA ks.length kc))) tb W.heap.size so KA mb lo hi kc ks srt 0 :=
  ⟨[], [], 0, 0, O, ⟨[], _, play_new h, Rel.nil⟩, Nat.le_refl _⟩
/-- A row of the law's own, its keys written over. -/
structure TInc (B : Nat) (w0 wr : World) (A : Option Addr) (c n : Nat) : Prop where
  turn : Turn (fun k => ∃ a, A = some a ∧ k = a.block) w0 wr
  row : ∃ l : List At, l.length = n ∧ wr.ownsRow B 58 5 (.slice A n c) n (acells l)
theorem TInc.put {B : Nat} {w0 wr : World} {ad : Addr} {c n : Nat} (h : TInc B w0 wr (some ad) c n) {l : List At} {k : Nat} {x : At} (hn : l.length = n) (hr : wr.ownsRow B 58 5 (.slice (some ad) n c) n (acells l)) (hx : l[k]? = some x) (z : Int) :
    TInc B w0 (wr.setCell (ad.add (k * 5)) (.int .i64 z)) (some ad) c n := by
  have hk := (List.getElem?_eq_some_iff.1 hx).1
  refine ⟨h.turn.trans (turn_set wr _ _ ⟨ad, rfl, addr_block ad _⟩), ⟨l.set k { x with key := z }, by rw [List.length_set]; exact hn, ?_⟩⟩
  rw [acells_set l k { x with key := z } hk x hx 0 (.int .i64 z) rfl (by omega)]
  exact row_put0 hr (k * 5) _
theorem asrc_far {A : Option Addr} {l : List At} (h : ASrc w A l) (hl : l ≠ []) : ∀ a, A = some a → a.block < w.heap.size := by
  intro a ha
  subst ha
  cases l with
  | nil => exact absurd rfl hl
  | cons x r =>
    obtain ⟨key, ⟨kd, n, f, s⟩⟩ := x
    have h1 := (h.five (k := 0) rfl).1
    have h2 := World.block_lt_of_cell? _ _ h1
    rw [addr_block] at h2
    exact h2
/-- After an Add, and with the set that was handed in written over. -/
theorem lp_add {wb w5 w6 w7 wz : World} {iA : Option Addr} {ic n m : Nat} (h : Play w wb tb db so KA mb lo hi kc ks srt P D f f e0 e0 cnt O O2) (hb : Below wb.heap.size wb w5) {l : List At} (ho : w5.ownsRow wb.heap.size 58 5 (.slice iA n ic) n (acells l))
    (h7 : Play w w7 tb db so KA mb lo hi kc ks srt P1 D1 f1 f1 e1 e1 cnt' (Grow O w5 w6) (Grow O2 w6 w7)) (hR : Rel P1 D1) (h6 : w5.heap.size ≤ w6.heap.size) (hc : cnt' ≤ m) (hT : TInc wb.heap.size w7 wz iA ic n) : Lp w wz tb db so KA mb lo hi kc ks srt m := by
  refine ⟨P1, f1, e1, cnt', _, ⟨D1, _, h7.turnQ hT.turn ?_, hR⟩, hc⟩
  rintro k ⟨a, rfl, rfl⟩
  have h1 : wb.heap.size ≤ a.block := own_base ho _ rfl
  have h2 : a.block < w5.heap.size := own_blk ho rfl
  refine ⟨Nat.le_trans h.run.below.size h1, Nat.le_trans h.run.top h1, fun hk => ?_, fun hk => ?_⟩
  · rcases hk with hk | ⟨hk, _⟩
    · have := (h.run.tab.lt _ hk).2; omega
    · omega
  · rcases hk with hk | ⟨hk, _⟩
    · have := (h.doc.top.1 _ hk).2; omega
    · omega
theorem box_kept {Q : Nat → Prop} {xb : Nat} {o : Obj} (h : Turn Q W W') (hx : W.heap[xb]? = some o) (hn : ¬ Q xb) : W'.heap[xb]? = some o := (h.block xb (Array.getElem?_eq_some_iff.1 hx).1 hn).trans hx
theorem own_add {wb w5 w6 w7 : World} {iA : Option Addr} {ic n : Nat} {l : List At} (h : Play w wb tb db so KA mb lo hi kc ks srt P D fp fd ep ed cnt O O2) (ho : w5.ownsRow wb.heap.size 58 5 (.slice iA n ic) n (acells l)) (ht6 : Turn O w5 w6) (ht7 : Turn O2 w6 w7) : w7.ownsRow wb.heap.size 58 5 (.slice iA n ic) n (acells l) := by
  refine own_kept ho (fun k hk => ?_)
  have h1 := own_base ho k hk
  have h2 : k < w5.heap.size := by
    cases iA with
    | none => cases hk
    | some a =>
      have h3 : a.block = k := Option.some.inj hk
      rw [← h3]
      exact own_blk ho rfl
  have h3 : ¬ O k := fun h' => by have := (h.run.tab.lt k h').2; omega
  have h4 : ¬ O2 k := fun h' => by have := (h.doc.top.1 k h').2; omega
  exact (ht7.block k (Nat.lt_of_lt_of_le h2 ht6.size) h4).trans (ht6.block k h2 h3)
theorem lp_free (h : Stepped w W tb db so KA mb lo hi kc ks srt P f e0 cnt O) {n : Nat} (hc : cnt ≤ n) : Lp w W tb db so KA mb lo hi kc ks srt n := ⟨P, f, e0, cnt, O, h, hc⟩
end Go.Proofs.YtaejlgdmalhhnaaDoor
