/- Texts put together: Ja, Jb, Jc, Jd, Je, Jf. -/
import Derived.Test.YtaejlgdmalhhnaaDoorPkM
import Derived.Test.YtaejlgdmalhhnaaDoorFa
/- Layer 5: the document's Same. -/
set_option linter.unusedVariables false
set_option linter.unusedSimpArgs false
namespace Go.Proofs.YtaejlgdmalhhnaaDoor
open Go.RowKit Go.Maps

set_option maxHeartbeats 1000000 in
theorem eq_attr (a b : At) (w : World) : (binOp .eql 58 (.agg #[.int .i64 a.key, .int .u8 a.v.k, .int .i64 a.v.n, .int .u64 (a.v.f : Int), .string a.v.s]) (.agg #[.int .i64 b.key, .int .u8 b.v.k, .int .i64 b.v.n, .int .u64 (b.v.f : Int), .string b.v.s])).run Tryd.prog w = .ok (.bool (decide (a = b))) w := by
  have hs : (a.v.s.toList = b.v.s.toList) ↔ a.v.s = b.v.s := by
    rw [ByteArray.toList_eq, ByteArray.toList_eq]
    constructor
    · intro h; apply ByteArray.ext; apply Array.ext'; exact h
    · intro h; rw [h]
  have hd : (a = b) ↔ (a.key = b.key ∧ a.v.k = b.v.k ∧ a.v.n = b.v.n ∧ a.v.f = b.v.f ∧ a.v.s = b.v.s) := by
    constructor
    · rintro rfl; exact ⟨rfl, rfl, rfl, rfl, rfl⟩
    · obtain ⟨ak, ⟨a1, a2, a3, a4⟩⟩ := a; obtain ⟨bk, ⟨b1, b2, b3, b4⟩⟩ := b; rintro ⟨h0, h1, h2, h3, h4⟩; simp only at h0 h1 h2 h3 h4; subst h0 h1 h2 h3 h4; rfl
  simp [binOp, Op.equal, Op.maxDepth, go_sem, hs, hd]
  by_cases h0 : a.key = b.key <;> by_cases h1 : a.v.k = b.v.k <;> by_cases h2 : a.v.n = b.v.n <;> by_cases h3 : (a.v.f : Int) = (b.v.f : Int) <;> by_cases h4 : a.v.s = b.v.s <;> simp [h0, h1, h2, h3, h4] <;> omega
theorem ne_attr (a b : At) (w : World) : (binOp .neq 58 (.agg #[.int .i64 a.key, .int .u8 a.v.k, .int .i64 a.v.n, .int .u64 (a.v.f : Int), .string a.v.s]) (.agg #[.int .i64 b.key, .int .u8 b.v.k, .int .i64 b.v.n, .int .u64 (b.v.f : Int), .string b.v.s])).run Tryd.prog w = .ok (.bool (!decide (a = b))) w := by
  have he := eq_attr a b w
  rw [run_eql_struct] at he
  rw [run_neq_struct]
  generalize (Op.equalIn 10000 58 (.agg #[.int .i64 a.key, .int .u8 a.v.k, .int .i64 a.v.n, .int .u64 (a.v.f : Int), .string a.v.s]) (.agg #[.int .i64 b.key, .int .u8 b.v.k, .int .i64 b.v.n, .int .u64 (b.v.f : Int), .string b.v.s])).run Tryd.prog w = r at he ⊢
  cases r <;> simp_all [Result.andThen]
def SamePost (w : World) (r : Bool) (e : Ending) (w' : World) : Prop := e = .returned (.bool r) ∧ Below w.heap.size w w'
def SameQ (w : World) (r : Bool) (e : Ending) (w' : World) : Prop := e = .returned (.bool r) ∧ ∃ n, w' = w.drewN n
theorem drew0 (w : World) : ∃ n, w = w.drewN n := ⟨0, rfl⟩
theorem drew_then {w w1 : World} (h : ∃ n, w1 = w.drewN n) (m : Nat) : ∃ n, w1.drewN m = w.drewN n := by
  obtain ⟨n, rfl⟩ := h
  exact ⟨n + m, World.drewN_drewN _ _ _⟩
theorem drew_below {w w1 : World} (h : ∃ n, w1 = w.drewN n) : Below w.heap.size w w1 := by
  obtain ⟨n, rfl⟩ := h
  exact below_drewN (below_refl w) n
set_option maxRecDepth 100000 in
set_option maxHeartbeats 2000000 in
theorem same_some (ad ad' : Addr) (c c' : Nat) (l m : List At) (w : World) (hS : ASrc w (some ad) l) (hS' : ASrc w (some ad') m) (hc : l.length ≤ c) (hc' : m.length ≤ c') (hlm : l.length = m.length) (hl : l.length ≤ 100000) :
    Calls Tryd.prog 71 #[.slice (some ad) l.length c, .slice (some ad') m.length c'] w (SameQ w (decide (l = m))) := by
  have HS := Aside.mk hS
  have HS' := Aside.mk hS'
  have g1 : (l.length : Int) ≤ (c : Int) := by omega
  have g2 : (l.length : Int) ≤ (c' : Int) := by omega
  have g3 : (l.length : Int) ≤ 100000 := by omega
  have HLM := Aside.mk hlm
  rw [← hlm]
  obtain ⟨R, hR⟩ : ∃ R, SameQ w (decide (l = m)) = R := ⟨_, rfl⟩
  rw [hR]
  have HRR := Aside.mk hR
  clear hS hS' hc hc' hR hlm hl
  go_enter Tryd.func71, Tryd.ntmps71
  go_wp2_with fail
  go_loopw [5] (fun i wr => ∃ k : Nat, k ≤ l.length ∧ i = .int .i64 k ∧ Aside ((∃ n, wr = w.drewN n) ∧ ∀ j < k, l[j]? = m[j]?)) (fun i _ => l.length - (intOf i).toNat)
  case atStart => exact ⟨0, Nat.zero_le _, rfl, ⟨drew0 _, fun j h => absurd h (by omega)⟩⟩
  case round =>
    obtain ⟨k, hk, rfl, HN⟩ := hrel
    by_cases hlt : k < l.length
    · have hkz : (k : Int) < (l.length : Int) := by omega
      obtain ⟨⟨key, ⟨kd, n, f, s⟩⟩, hx⟩ : ∃ a, l[k]? = some a := ⟨_, List.getElem?_eq_getElem hlt⟩
      obtain ⟨⟨key', ⟨kd', n', f', s'⟩⟩, hx'⟩ : ∃ a, m[k]? = some a := ⟨_, List.getElem?_eq_getElem (by have := HLM.out; omega)⟩
      obtain ⟨s0, s1, s2, s3, s4⟩ := (HS.out.below (drew_below HN.out.1)).five hx
      obtain ⟨t0, t1, t2, t3, t4⟩ := (HS'.out.below (drew_below HN.out.1)).five hx'
      have hne : ∀ W : World, (binOp .neq 58 (.agg #[.int .i64 key, .int .u8 kd, .int .i64 n, .int .u64 (f : Int), .string s]) (.agg #[.int .i64 key', .int .u8 kd', .int .i64 n', .int .u64 (f' : Int), .string s'])).run Tryd.prog W = .ok (.bool (!decide ((⟨key, ⟨kd, n, f, s⟩⟩ : At) = ⟨key', ⟨kd', n', f', s'⟩⟩))) W := fun W => ne_attr ⟨key, ⟨kd, n, f, s⟩⟩ ⟨key', ⟨kd', n', f', s'⟩⟩ W
      have HX := Aside.mk hx
      have HX' := Aside.mk hx'
      by_cases he : (⟨key, ⟨kd, n, f, s⟩⟩ : At) = ⟨key', ⟨kd', n', f', s'⟩⟩
      · have HZ := Aside.mk (show ∀ j < k + 1, l[j]? = m[j]? by
          intro j hj
          rcases Nat.lt_or_ge j k with h | h
          · exact HN.out.2 j h
          · obtain rfl : j = k := by omega
            rw [hx, hx', he])
        simp only [he, decide_true, Bool.not_true] at hne
        clear he hx hx'
        go_wp2_with fail
        go_quiet (fail)
        have HD := Aside.mk (drew_then HN.out.1 nq)
        clear s0 s1 s2 s3 s4 t0 t1 t2 t3 t4 hne
        go_wp2
        go_roundw
        case rel => exact ⟨k + 1, by omega, by go_num, ⟨HD.out, HZ.out⟩⟩
        case measure => simp [intOf]; omega
      · have HZ := Aside.mk (show l ≠ m by
          intro h; rw [h, hx'] at hx; exact he (Option.some.inj hx).symm)
        simp only [he, decide_false, Bool.not_false] at hne
        clear he hx hx'
        go_wp2_with fail
        go_quiet (fail)
        have HD := Aside.mk (drew_then HN.out.1 nq)
        clear s0 s1 s2 s3 s4 t0 t1 t2 t3 t4 hne
        go_wp2
        rw [← HRR.out, decide_eq_false HZ.out]
        exact ⟨rfl, HD.out⟩
    · obtain rfl : k = l.length := by omega
      have HZ := Aside.mk (show l = m by
        apply List.ext_getElem?
        intro j
        rcases Nat.lt_or_ge j l.length with h | h
        · exact HN.out.2 j h
        · rw [List.getElem?_eq_none h, List.getElem?_eq_none (by have := HLM.out; omega)])
      go_wp2
      rw [← HRR.out, decide_eq_true HZ.out]
      exact ⟨rfl, HN.out.1⟩
set_option maxRecDepth 100000 in
theorem same_len (A A' : Option Addr) (c c' : Nat) (l m : List At) (w : World) (hlm : l.length ≠ m.length) (h1 : l.length ≤ 9223372036854775807) (h2 : m.length ≤ 9223372036854775807) :
    Calls Tryd.prog 71 #[.slice A l.length c, .slice A' m.length c'] w (SameQ w (decide (l = m))) := by
  have hd : decide (l = m) = false := decide_eq_false (fun e => hlm (by rw [e]))
  rw [hd]
  have q : ((l.length : Int) != (m.length : Int)) = true := by simp; omega
  have q2 : (l.length != m.length) = true := by simp; exact hlm
  have q3 : (l.length == m.length) = false := by simp; exact hlm
  obtain ⟨R, hR⟩ : ∃ R, SameQ w false = R := ⟨_, rfl⟩
  rw [hR]
  have HRR := Aside.mk hR
  clear hR hd hlm
  go_enter Tryd.func71, Tryd.ntmps71
  go_wp2
  rw [← HRR.out]
  exact ⟨rfl, drew0 w⟩
set_option maxRecDepth 100000 in
theorem same_nil (A A' : Option Addr) (c c' : Nat) (l m : List At) (w : World) (hl : l = []) (hm : m = []) :
    Calls Tryd.prog 71 #[.slice A l.length c, .slice A' m.length c'] w (SameQ w (decide (l = m))) := by
  subst hl hm
  have hd : decide (([] : List At) = []) = true := rfl
  rw [hd]
  obtain ⟨R, hR⟩ : ∃ R, SameQ w true = R := ⟨_, rfl⟩
  rw [hR]
  have HRR := Aside.mk hR
  clear hR hd
  show Calls Tryd.prog 71 #[.slice A 0 c, .slice A' 0 c'] w R
  go_enter Tryd.func71, Tryd.ntmps71
  go_wp2_with fail
  go_loopw [5] (fun i wr => i = .int .i64 0 ∧ wr = w) (fun i _ => 0)
  case atStart => exact ⟨rfl, rfl⟩
  case round =>
    obtain ⟨rfl, rfl⟩ := hrel
    go_wp2
    rw [← HRR.out]
    exact ⟨rfl, drew0 _⟩
theorem sameQ_any (A A' : Option Addr) (c c' : Nat) (l m : List At) (w : World) (hS : ASrc w A l) (hS' : ASrc w A' m) (hc : l.length ≤ c) (hc' : m.length ≤ c') (hl : l.length ≤ 100000) (hm : m.length ≤ 9223372036854775807) :
    Calls Tryd.prog 71 #[.slice A l.length c, .slice A' m.length c'] w (SameQ w (decide (l = m))) := by
  by_cases hlm : l.length = m.length
  · rcases Nat.eq_zero_or_pos l.length with h0 | h0
    · exact same_nil A A' c c' l m w (List.eq_nil_of_length_eq_zero h0) (List.eq_nil_of_length_eq_zero (by omega))
    · rcases A with _ | ad
      · rw [hS.1 rfl] at h0; exact absurd h0 (by simp)
      rcases A' with _ | ad'
      · rw [hlm, hS'.1 rfl] at h0; exact absurd h0 (by simp)
      exact same_some ad ad' c c' l m w hS hS' hc hc' hlm hl
  · exact same_len A A' c c' l m w hlm (by omega) hm
theorem sameA_any (A A' : Option Addr) (c c' : Nat) (l m : List At) (w : World) (hS : ASrc w A l) (hS' : ASrc w A' m) (hc : l.length ≤ c) (hc' : m.length ≤ c') (hl : l.length ≤ 100000) (hm : m.length ≤ 9223372036854775807) :
    Calls Tryd.prog 71 #[.slice A l.length c, .slice A' m.length c'] w (SamePost w (decide (l = m))) :=
  (sameQ_any A A' c c' l m w hS hS' hc hc' hl hm).mono fun e w' h => ⟨h.1, drew_below h.2⟩
end Go.Proofs.YtaejlgdmalhhnaaDoor
/- Layer 7: one set that is held stays, plain. -/
set_option linter.unusedVariables false
set_option linter.unusedSimpArgs false
namespace Go.Proofs.YtaejlgdmalhhnaaDoor
open Go.RowKit Go.Maps

variable {B : Nat} {O : Nat → Prop} {w : World} {tb : Nat} {sv : Value} {mb : Nat} {P : Ps} {free : List Int} {empty : Int} {cnt : Nat} {ks : List Ky}
/-- What a table's sets are like. -/
structure PInv (P : Ps) (free : List Int) (empty : Int) : Prop where
  fr : ∀ f ∈ free, ∃ (j : Nat) (p : List At × Int), f = (j : Int) ∧ P[j]? = some p ∧ p.2 = 0
  nn : ∀ p ∈ P, 0 ≤ p.2
  one : ∀ (i j : Nat) (l : List At) (h h' : Int), P[i]? = some (l, h) → P[j]? = some (l, h') → h ≠ 0 → h' ≠ 0 → i = j
  ne : ∀ p ∈ P, p.2 ≠ 0 → p.1 ≠ []
  all : ∀ (j : Nat) (p : List At × Int), P[j]? = some p → p.2 = 0 → (j : Int) ∈ free
  nd : free.Nodup
  emp : 0 ≤ empty
theorem TabM.pinv (h : TabM B O w tb sv mb P free empty cnt) : PInv P free empty := by
  obtain ⟨pv, fv, E, rfl, h⟩ := h
  obtain ⟨F, hr, hF⟩ := h.raw
  refine ⟨fun f hf => ?_, fun p hp => ?_, fun i j l hh hh' hi hj h0 h0' => ?_, fun p hp h0 => ?_, fun j p hj h0 => ?_, h.inv.nodup, h.inv.emp.1⟩
  · obtain ⟨j, a, hfj, hj, ha⟩ := (h.inv.free f).1 hf
    exact ⟨j, pr a, hfj, by rw [List.getElem?_map, hj]; rfl, ha⟩
  · obtain ⟨a, ha, rfl⟩ := List.mem_map.1 hp
    exact (h.inv.held a ha).1
  · obtain ⟨a, ha, ha1, ha2⟩ := pr_at hi
    obtain ⟨b, hb, hb1, hb2⟩ := pr_at hj
    have e1 := hF.hit i a ha (by rw [ha2]; exact h0)
    have e2 := hF.hit j b hb (by rw [hb2]; exact h0')
    rw [ha1] at e1
    rw [hb1, e1] at e2
    injection e2 with e2
    omega
  · obtain ⟨a, ha, rfl⟩ := List.mem_map.1 hp
    exact ((h.inv.held a ha).2.2 h0).1
  · obtain ⟨a, ha, ha1, ha2⟩ := pr_at hj
    exact (h.inv.free _).2 ⟨j, a, rfl, ha, by rw [ha2]; exact h0⟩
/-- An id that holds a set. -/
def Holds (P : Ps) (empty id : Int) (l : List At) : Prop := (l = [] ∧ id = 0 ∧ 1 ≤ empty) ∨ (l ≠ [] ∧ ∃ (i : Nat) (h : Int), id = (i : Int) + 1 ∧ P[i]? = some (l, h) ∧ 1 ≤ h)
theorem Holds.ask {id : Int} {l : List At} (h : Holds P empty id l) : ∃ d, 1 ≤ d ∧ askP P empty id = (d, 0) ∧ setP P id = l := by
  rcases h with ⟨rfl, rfl, h⟩ | ⟨hl, i, hd, rfl, hi, h1⟩
  · exact ⟨empty, h, rfl, rfl⟩
  · refine ⟨hd, h1, ask_at hi (by simp only; omega), ?_⟩
    unfold setP
    rw [if_neg (by omega), show ((i : Int) + 1 - 1).toNat = i by omega, hi]
    rfl
/-- What an Add does, by cases. -/
theorem add_cases (hI : PInv P free empty) (l : List At) : (mayA ks l ≠ 0 ∧ addP ks P free empty l = (P, free, empty, 0, mayA ks l)) ∨
    (mayA ks l = 0 ∧ ((l = [] ∧ addP ks P free empty l = (P, free, empty + 1, 0, 0)) ∨
      (l ≠ [] ∧ ((∃ (i : Nat) (h : Int), P[i]? = some (l, h) ∧ 1 ≤ h ∧ addP ks P free empty l = (P.set i (l, h + 1), free, empty, (i : Int) + 1, 0)) ∨
        ((∀ p ∈ P, p.2 ≠ 0 → p.1 ≠ l) ∧ ((∃ (fr : List Int) (i : Nat) (p : List At × Int), free = fr ++ [(i : Int)] ∧ P[i]? = some p ∧ p.2 = 0 ∧ addP ks P free empty l = (P.set i (l, 1), fr, empty, (i : Int) + 1, 0)) ∨
          (free = [] ∧ addP ks P free empty l = (P ++ [(l, 1)], [], empty, (P.length : Int) + 1, 0)))))))) := by
  by_cases hm : mayA ks l ≠ 0
  · exact .inl ⟨hm, by unfold addP; rw [if_pos hm]⟩
  refine .inr ⟨by omega, ?_⟩
  by_cases h0 : l = []
  · exact .inl ⟨h0, by unfold addP; rw [if_neg hm, if_pos h0]⟩
  refine .inr ⟨h0, ?_⟩
  cases hf : findP P l with
  | some i =>
    obtain ⟨hd, hi, hd0⟩ := findP_some hf
    have := hI.nn _ (List.mem_of_getElem? hi)
    exact .inl ⟨i, hd, hi, by simp only at this; omega, by unfold addP; rw [if_neg hm, if_neg h0, hf]; simp only [hi]; rfl⟩
  | none =>
    refine .inr ⟨findP_none hf, ?_⟩
    rcases List.eq_nil_or_concat free with hfr | ⟨fr, f, hfr⟩
    · exact .inr ⟨hfr, by subst hfr; unfold addP; rw [if_neg hm, if_neg h0, hf]; simp⟩
    · rw [List.concat_eq_append] at hfr
      obtain ⟨i, p, hfi, hp, hp0⟩ := hI.fr f (by rw [hfr]; simp)
      subst hfi
      exact .inl ⟨fr, i, p, hfr, hp, hp0, by subst hfr; unfold addP; rw [if_neg hm, if_neg h0, hf]; simp⟩
theorem get_set {i j : Nat} {p q : List At × Int} (h : P[i]? = some p) : (P.set i q)[j]? = if i = j then some q else P[j]? := by
  rw [List.getElem?_set]
  have := (List.getElem?_eq_some_iff.1 h).1
  by_cases h : i = j
  · subst h; simp [this]
  · simp [h]
theorem Holds.of_at {i : Nat} {hd : Int} {id : Int} {l : List At} (hl : l ≠ []) (he : id = (i : Int) + 1) (hi : P[i]? = some (l, hd)) (h1 : 1 ≤ hd) : Holds P empty id l := .inr ⟨hl, i, hd, he, hi, h1⟩
/-- A held set is still held behind an Add. -/
theorem Holds.add {id k e : Int} {l x : List At} {P' : Ps} {free' : List Int} {empty' : Int} (hI : PInv P free empty) (h : Holds P empty id l) (ha : addP ks P free empty x = (P', free', empty', k, e)) : Holds P' empty' id l := by
  rcases add_cases (ks := ks) hI x with ⟨_, h1⟩ | ⟨_, ⟨_, h1⟩ | ⟨hx0, ⟨j, hd, hj, hd1, h1⟩ | ⟨hno, ⟨fr, j, p, hfr, hj, hp0, h1⟩ | ⟨_, h1⟩⟩⟩⟩
  all_goals
    rw [h1] at ha
    simp only [Prod.mk.injEq] at ha
    obtain ⟨rfl, rfl, rfl, rfl, rfl⟩ := ha
  · exact h
  · rcases h with ⟨a, b, c⟩ | h
    · exact .inl ⟨a, b, by omega⟩
    · exact .inr h
  · rcases h with h | ⟨hl, i, hh, he, hi, h1⟩
    · exact .inl h
    · by_cases hij : j = i
      · subst hij
        rw [hi] at hj
        simp only [Option.some.injEq, Prod.mk.injEq] at hj
        obtain ⟨rfl, rfl⟩ := hj
        exact Holds.of_at hl he (by rw [get_set hi, if_pos rfl]) (by omega)
      · exact Holds.of_at hl he (by rw [get_set hj, if_neg hij]; exact hi) h1
  · rcases h with h | ⟨hl, i, hh, he, hi, h1⟩
    · exact .inl h
    · refine Holds.of_at hl he ?_ h1
      rw [get_set hj, if_neg (fun e => by subst e; rw [hi] at hj; cases hj; simp only at hp0; omega)]
      exact hi
  · rcases h with h | ⟨hl, i, hh, he, hi, h1⟩
    · exact .inl h
    · exact Holds.of_at hl he (by rw [List.getElem?_append_left (List.getElem?_eq_some_iff.1 hi).1]; exact hi) h1
/-- What was added may be freed, and what else was held stays. -/
theorem Holds.add_free {id k : Int} {l x : List At} {P' : Ps} {free' : List Int} {empty' : Int} (hI : PInv P free empty) (h : Holds P empty id l) (ha : addP ks P free empty x = (P', free', empty', k, 0)) :
    ∃ P'' free'' empty'', freeP P' free' empty' k = (P'', free'', empty'', 0) ∧ Holds P'' empty'' id l := by
  rcases add_cases (ks := ks) hI x with ⟨hm, h1⟩ | ⟨_, ⟨_, h1⟩ | ⟨hx0, ⟨j, hd, hj, hd1, h1⟩ | ⟨hno, ⟨fr, j, p, hfr, hj, hp0, h1⟩ | ⟨_, h1⟩⟩⟩⟩
  all_goals
    rw [h1] at ha
    simp only [Prod.mk.injEq] at ha
  · exact absurd ha.2.2.2.2 hm
  · obtain ⟨rfl, rfl, rfl, rfl, _⟩ := ha
    refine ⟨P, free, max (empty + 1 - 1) 0, rfl, ?_⟩
    rcases h with ⟨a, b, c⟩ | h
    · exact .inl ⟨a, b, by omega⟩
    · exact .inr h
  · obtain ⟨rfl, rfl, rfl, rfl, _⟩ := ha
    have hj' : (P.set j (x, hd + 1))[j]? = some (x, hd + 1) := by rw [get_set hj, if_pos rfl]
    refine ⟨(P.set j (x, hd + 1)).set j (x, hd + 1 - 1), free, empty, ?_, ?_⟩
    · unfold freeP
      rw [ask_at hj' (by simp only; omega), if_neg (by simp), if_neg (by omega), show ((j : Int) + 1 - 1).toNat = j by omega, hj']
      simp only
      rw [if_neg (by omega)]
    · rw [List.set_set, show hd + 1 - 1 = hd by omega, set_same hj]
      exact h
  · obtain ⟨rfl, rfl, rfl, rfl, _⟩ := ha
    have hj' : (P.set j (x, 1))[j]? = some (x, 1) := by rw [get_set hj, if_pos rfl]
    refine ⟨(P.set j (x, 1)).set j ([], 0), fr ++ [(j : Int)], empty, ?_, ?_⟩
    · unfold freeP
      rw [ask_at hj' (by simp), if_neg (by simp), if_neg (by omega), show ((j : Int) + 1 - 1).toNat = j by omega, hj']
      simp
    · rcases h with h | ⟨hl, i, hh, he, hi, h1⟩
      · exact .inl h
      · refine Holds.of_at hl he ?_ h1
        rw [List.set_set, get_set hj, if_neg (fun e => by subst e; rw [hi] at hj; cases hj; simp only at hp0; omega)]
        exact hi
  · obtain ⟨rfl, rfl, rfl, rfl, _⟩ := ha
    have hj' : (P ++ [(x, 1)])[P.length]? = some (x, 1) := by simp
    refine ⟨(P ++ [(x, 1)]).set P.length ([], 0), [] ++ [(P.length : Int)], empty, ?_, ?_⟩
    · unfold freeP
      rw [ask_at hj' (by simp), if_neg (by simp), if_neg (by omega), show ((P.length : Int) + 1 - 1).toNat = P.length by omega, hj']
      simp
    · rcases h with h | ⟨hl, i, hh, he, hi, h1⟩
      · exact .inl h
      · have hil := (List.getElem?_eq_some_iff.1 hi).1
        refine Holds.of_at hl he ?_ h1
        rw [get_set hj', if_neg (by omega), List.getElem?_append_left hil]
        exact hi
/-- What is added is held. -/
theorem Holds.new {k : Int} {x : List At} {P' : Ps} {free' : List Int} {empty' : Int} (hI : PInv P free empty) (ha : addP ks P free empty x = (P', free', empty', k, 0)) : Holds P' empty' k x := by
  rcases add_cases (ks := ks) hI x with ⟨hm, h1⟩ | ⟨_, ⟨hx, h1⟩ | ⟨hx0, ⟨j, hd, hj, hd1, h1⟩ | ⟨hno, ⟨fr, j, p, hfr, hj, hp0, h1⟩ | ⟨_, h1⟩⟩⟩⟩
  all_goals
    rw [h1] at ha
    simp only [Prod.mk.injEq] at ha
  · exact absurd ha.2.2.2.2 hm
  · obtain ⟨rfl, rfl, rfl, rfl, _⟩ := ha
    exact .inl ⟨hx, rfl, by have := hI.emp; omega⟩
  · obtain ⟨rfl, rfl, rfl, rfl, _⟩ := ha
    exact Holds.of_at hx0 rfl (by rw [get_set hj, if_pos rfl]) (by omega)
  · obtain ⟨rfl, rfl, rfl, rfl, _⟩ := ha
    exact Holds.of_at hx0 rfl (by rw [get_set hj, if_pos rfl]) (by omega)
  · obtain ⟨rfl, rfl, rfl, rfl, _⟩ := ha
    exact Holds.of_at (hd := 1) hx0 rfl (by simp) (by omega)
/-- Two ids of one set are one. -/
theorem Holds.one {a b : Int} {l : List At} (hI : PInv P free empty) (ha : Holds P empty a l) (hb : Holds P empty b l) : a = b := by
  rcases ha with ⟨h0, h1, _⟩ | ⟨h0, i, h, rfl, hi, h1⟩
  · rcases hb with ⟨_, h2, _⟩ | ⟨h2, _⟩
    · omega
    · exact absurd h0 h2
  · rcases hb with ⟨h2, _⟩ | ⟨_, j, h', rfl, hj, h1'⟩
    · exact absurd h2 h0
    · have := hI.one i j l h h' hi hj (by omega) (by omega)
      omega
end Go.Proofs.YtaejlgdmalhhnaaDoor
/- Layer 7: InternStays' walk. -/
set_option linter.unusedVariables false
set_option linter.unusedSimpArgs false
namespace Go.Proofs.YtaejlgdmalhhnaaDoor
open Go.RowKit Go.Maps

/-- A table in which an id holds a set, somewhere behind the law's start. -/
def Stay (w W : World) (tb : Nat) (so : Option Addr) (mb lo hi : Nat) (ks srt : List Ky) (id : Int) (l : List At) (k : Nat) : Prop :=
  ∃ P free empty cnt O, Run w W tb so mb lo hi ks srt P free empty cnt O ∧ Holds P empty id l ∧ cnt ≤ 10 + 10 * k
theorem sl_turn {w W : World} (hb : Below w.heap.size w W) {s : Sl} (h : s.ok w) : s.ok W := ⟨h.1, h.2.1, h.2.2.1, h.2.2.2.1.below hb, h.2.2.2.2⟩
/-- The arguments' memory is none of a table's. -/
theorem arg_far {w W : World} {tb : Nat} {so : Option Addr} {mb lo hi : Nat} {ks srt : List Ky} {P : Ps} {free : List Int} {empty : Int} {cnt : Nat} {O : Nat → Prop} {A : Option Addr} {l : List At} (h : Run w W tb so mb lo hi ks srt P free empty cnt O) (hS : ASrc w A l) (hl : l ≠ []) : ∀ a, A = some a → ¬ O a.block := by
  intro a ha hO
  have h1 := (h.tab.lt _ hO).1
  obtain ⟨x, r, rfl⟩ := List.exists_cons_of_ne_nil hl
  have h2 := hS.2 a ha 0 x rfl 0 _ rfl
  have := World.block_lt_of_cell? w _ h2
  rw [addr_block] at this
  omega
/-- An Add of a row that came in. -/
theorem add_in {w W : World} {tb : Nat} {so : Option Addr} {mb lo hi : Nat} {ks srt : List Ky} {P : Ps} {free : List Int} {empty : Int} {cnt : Nat} {O : Nat → Prop} (s : Sl) (h : Run w W tb so mb lo hi ks srt P free empty cnt O) (hcn : cnt ≤ 100000) (hT : Lib.Utf8Tabs 1 2 w) (hs : s.ok w) :
    ∃ P' free' empty' id err, addP ks P free empty s.l = (P', free', empty', id, err) ∧ Calls Tryd.prog 35 #[.pointer (some ⟨tb, 0, none⟩), .slice s.A s.l.length s.c] W fun e W' => e = .returned (.tuple #[.int .i64 id, .int .i64 err]) ∧ ∃ O', Run w W' tb so mb lo hi ks srt P' free' empty' (cnt + 1) O' ∧ Turn O W W' := by
  obtain ⟨⟨P', free', empty', id, err⟩, ha⟩ : ∃ r, addP ks P free empty s.l = r := ⟨_, rfl⟩
  refine ⟨P', free', empty', id, err, ha, ?_⟩
  obtain ⟨A, c, l⟩ := s
  obtain ⟨h1, h2, h3, h4, h5⟩ := hs
  by_cases hl : l = []
  · have hA : ∀ a, A = some a → ¬ O a.block ∨ True := fun _ _ => .inr trivial
    have ha' : addP ks P free empty [] = (P', free', empty', id, err) := by rw [← hl]; exact ha
    obtain ⟨pv, fv, E, hE, ht⟩ := h.tab
    subst hE
    have hm : mayA ks [] = 0 := by unfold mayA; simp
    have e0 : addP ks (E.map pr) free empty [] = (E.map pr, free, empty + 1, 0, 0) := by unfold addP; rw [if_neg (by rw [hm]; simp), if_pos rfl]
    rw [e0] at ha'
    simp only [Prod.mk.injEq] at ha'
    obtain ⟨rfl, rfl, rfl, rfl, rfl⟩ := ha'
    exact (add_empty A c l ht hcn h.sch (tabs_below hT h.below) (h4.below h.below) h1 hl).mono fun e W' hp => ⟨(h.step hp).1, _, (h.step hp).2, hp.2.2⟩
  · exact (run_add A c l h hcn hT (h4.below h.below) h1 h2 h3 (arg_far h h4 hl) h5 ha).mono fun e W' hp => ⟨hp.1, _, hp.2.1, hp.2.2⟩
end Go.Proofs.YtaejlgdmalhhnaaDoor
/- Layer 7: InternStays' walk (printed by gen_stays.py). -/
set_option linter.unusedVariables false
set_option linter.unusedSimpArgs false
namespace Go.Proofs.YtaejlgdmalhhnaaDoor
open Go.RowKit Go.Maps

theorem TabM.len {B : Nat} {O : Nat → Prop} {w : World} {tb : Nat} {sv : Value} {mb : Nat} {P : Ps} {free : List Int} {empty : Int} {cnt : Nat} (h : TabM B O w tb sv mb P free empty cnt) : P.length ≤ cnt := by
  obtain ⟨pv, fv, E, rfl, h⟩ := h
  rw [List.length_map]; exact h.inv.len
theorem Holds.wf {B : Nat} {O : Nat → Prop} {w : World} {tb : Nat} {sv : Value} {mb : Nat} {P : Ps} {free : List Int} {empty : Int} {cnt : Nat} {id : Int} {l : List At} (h : Holds P empty id l) (ht : TabM B O w tb sv mb P free empty cnt) (hc : cnt ≤ 100000) : (Lit.int .i64 id).wf = true := by
  have := ht.len
  rcases h with ⟨_, rfl, _⟩ | ⟨_, i, h, rfl, hi, _⟩
  · decide
  · have := (List.getElem?_eq_some_iff.1 hi).1
    exact WalkArith.wf_i64 (by omega)
theorem stay_later {w W W' : World} {tb : Nat} {so : Option Addr} {mb lo hi : Nat} {ks srt : List Ky} {id : Int} {l : List At} {k : Nat} (h : Stay w W tb so mb lo hi ks srt id l k) (hb : Below W.heap.size W W') : Stay w W' tb so mb lo hi ks srt id l k := by
  obtain ⟨P, free, empty, cnt, O, hR, hH, hc⟩ := h
  exact ⟨P, free, empty, cnt, O, hR.later hb, hH, hc⟩
theorem stay_mono {w W : World} {tb : Nat} {so : Option Addr} {mb lo hi : Nat} {ks srt : List Ky} {id : Int} {l : List At} {k k' : Nat} (h : Stay w W tb so mb lo hi ks srt id l k) (hk : k ≤ k') : Stay w W tb so mb lo hi ks srt id l k' := by
  obtain ⟨P, free, empty, cnt, O, hR, hH, hc⟩ := h
  exact ⟨P, free, empty, cnt, O, hR, hH, by omega⟩
theorem add_err0 {ks : List Ky} {P P' : Ps} {free free' : List Int} {empty empty' id e : Int} {l : List At} (hI : PInv P free empty) (ha : addP ks P free empty l = (P', free', empty', id, e)) : e = mayA ks l := by
  rcases add_cases (ks := ks) hI l with ⟨hm, h1⟩ | ⟨hm, ⟨hx, h1⟩ | ⟨hx0, ⟨j, hd, hj, hd1, h1⟩ | ⟨hno, ⟨fr, j, p, hfr, hj, hp0, h1⟩ | ⟨_, h1⟩⟩⟩⟩
  all_goals
    rw [h1] at ha
    simp only [Prod.mk.injEq] at ha
    omega
set_option maxRecDepth 100000 in
set_option maxHeartbeats 4000000 in
theorem stays_known (A : Option Addr) (c : Nat) (ks : List Ky) (s0 : Sl) (AL : Option Addr) (cL : Nat) (L : List Sl) (w : World) (hc : ks.length ≤ c) (hl : ks.length ≤ 9223372036854775807) (hA : A = none → c = 0) (hS : KSrc w A ks) (hwf : ∀ k ∈ ks, (Lit.int .i64 k.id).wf = true) (hT : Lib.Utf8Tabs 1 2 w) (h0 : s0.l.length ≤ 9223372036854775807) (hL : L.length ≤ 9223372036854775807)
    (hk : okKs ks = false ∨ 60 < L.length ∨ 70 < s0.l.length) : Calls Tryd.prog 18 #[.slice A ks.length c, .slice s0.A s0.l.length s0.c, .slice AL L.length cL] w fun e w' => e = .returned (.bool true) ∧ Below w.heap.size w w' := by
  have HK := Aside.mk (fun W (h : Below w.heap.size w W) => known7_any W (tabs_below hT h))
  have N := Aside.mk (new_any A c ks w hc hS hA hl hwf)
  cases hok : okKs ks with
  | false =>
    have HO := Aside.mk hok
    clear hc hl hA hS hwf hT hk hok h0 hL
    go_enter Tryd.func18, Tryd.ntmps18
    go_wp2_with fail
    (with_reducible refine N.out.mono ?_)
    rintro e w1 ⟨hb1, h1⟩
    rw [HO.out] at h1
    obtain rfl : e = .returned (.tuple #[.pointer none, .int .i64 3]) := h1
    have HB1 := Aside.mk hb1
    clear hb1
    go_wp2_with fail
    (with_reducible refine (HK.out _ HB1.out).mono ?_)
    rintro e w2 ⟨rfl, hb2⟩
    have HB := Aside.mk (below_then HB1.out hb2)
    clear hb2
    go_wp2
    go_ret
    exact ⟨rfl, HB.out⟩
  | true =>
    have HO := Aside.mk hok
    by_cases hL60 : 60 < L.length
    · have g1 : (60 : Int) < (L.length : Int) := by omega
      clear hc hl hA hS hwf hT hk hok hL60 h0 hL
      go_enter Tryd.func18, Tryd.ntmps18
      go_wp2_with fail
      (with_reducible refine N.out.mono ?_)
      rintro e w1 ⟨hb1, h1⟩
      rw [HO.out, if_pos rfl] at h1
      obtain ⟨v, srt, rfl, hS, hv, hp, hs⟩ := h1
      have hsp : ∃ so, v = .pointer so := by rcases hS with ⟨rfl, _⟩ | ⟨g, A, c, m, rfl, _⟩ <;> exact ⟨_, rfl⟩
      obtain ⟨so, rfl⟩ := hsp
      have HB1 := Aside.mk hb1
      clear hb1 hS hv hp hs
      go_wp2_with fail
      (with_reducible refine (HK.out _ HB1.out).mono ?_)
      rintro e w2 ⟨rfl, hb2⟩
      have HB := Aside.mk (below_then HB1.out hb2)
      clear hb2
      go_wp2
      go_ret
      exact ⟨rfl, HB.out⟩
    · have g1 : (L.length : Int) ≤ 60 := by omega
      have g2 : (70 : Int) < (s0.l.length : Int) := hk.elim (fun h => absurd h (by rw [hok]; decide)) (fun h => h.elim (fun h => by omega) (fun h => by omega))
      clear hc hl hA hS hwf hT hk hok hL60 h0 hL
      go_enter Tryd.func18, Tryd.ntmps18
      go_wp2_with fail
      (with_reducible refine N.out.mono ?_)
      rintro e w1 ⟨hb1, h1⟩
      rw [HO.out, if_pos rfl] at h1
      obtain ⟨v, srt, rfl, hS, hv, hp, hs⟩ := h1
      have hsp : ∃ so, v = .pointer so := by rcases hS with ⟨rfl, _⟩ | ⟨g, A, c, m, rfl, _⟩ <;> exact ⟨_, rfl⟩
      obtain ⟨so, rfl⟩ := hsp
      have HB1 := Aside.mk hb1
      clear hb1 hS hv hp hs
      go_wp2_with fail
      (with_reducible refine (HK.out _ HB1.out).mono ?_)
      rintro e w2 ⟨rfl, hb2⟩
      have HB := Aside.mk (below_then HB1.out hb2)
      clear hb2
      go_wp2
      go_ret
      exact ⟨rfl, HB.out⟩
set_option maxRecDepth 100000 in
set_option maxHeartbeats 8000000 in
theorem stays_in (A : Option Addr) (c : Nat) (ks : List Ky) (s0 : Sl) (AL : Option Addr) (cL : Nat) (L : List Sl) (w : World) (hc : ks.length ≤ c) (hl : ks.length ≤ 9223372036854775807) (hA : A = none → c = 0) (hS : KSrc w A ks) (hwf : ∀ k ∈ ks, (Lit.int .i64 k.id).wf = true) (hT : Lib.Utf8Tabs 1 2 w) (h0 : s0.ok w) (hcL : L.length ≤ cL) (hLS : LSrc w AL L) (hLo : ∀ s ∈ L, s.ok w)
    (hok : okKs ks = true) (hL : L.length ≤ 60) (hs0 : s0.l.length ≤ 70) : Calls Tryd.prog 18 #[.slice A ks.length c, .slice s0.A s0.l.length s0.c, .slice AL L.length cL] w fun e w' => e = .returned (.bool true) ∧ Below w.heap.size w w' := by
  have HT := Aside.mk hT
  have HK := Aside.mk (fun W (h : Below w.heap.size w W) => known7_any W (tabs_below hT h))
  have N := Aside.mk (new_any A c ks w hc hS hA hl hwf)
  have HO := Aside.mk hok
  have H0 := Aside.mk h0
  have HLS := Aside.mk hLS
  have HLo := Aside.mk hLo
  have HL0 := Aside.mk hs0
  have g1 : (L.length : Int) ≤ 60 := by omega
  have g2 : (s0.l.length : Int) ≤ 70 := by omega
  have g3 : (L.length : Int) ≤ (cL : Int) := by omega
  clear hc hl hA hS hwf hT hok hcL hLS hLo h0 hs0
  go_enter Tryd.func18, Tryd.ntmps18
  go_wp2_with fail
  (with_reducible refine N.out.mono ?_)
  rintro e w1 ⟨hb1, h1⟩
  rw [HO.out, if_pos rfl] at h1
  obtain ⟨v, srt, rfl, hS, hv, hp, hs⟩ := h1
  have hsp : ∃ so, v = .pointer so := by rcases hS with ⟨rfl, _⟩ | ⟨g, A, c, m, rfl, _⟩ <;> exact ⟨_, rfl⟩
  obtain ⟨so, rfl⟩ := hsp
  have R2 := Aside.mk (run_new (w := w) hb1 hS (Nat.le_refl _))
  clear hS hv hp hs hb1
  go_wp2_with fail
  (with_reducible refine (new7_any so w1).mono ?_)
  rintro e w2 ⟨rfl, rfl⟩
  obtain ⟨P', free', empty', id, err, ha, hcall⟩ := add_in s0 R2.out (by decide) HT.out H0.out
  have HCa := Aside.mk hcall
  have HAe := Aside.mk ha
  clear hcall ha
  go_wp2_with fail
  (with_reducible refine HCa.out.mono ?_)
  rintro e w3 ⟨rfl, O3, hr, _⟩
  by_cases herr : err = 0
  rotate_left
  · have q0 : ((err : Int) != 0) = true := by simpa using herr
    have HB := Aside.mk hr.below
    clear hr herr
    go_wp2_with fail
    (with_reducible refine (HK.out _ HB.out).mono ?_)
    rintro e w4 ⟨rfl, hb4⟩
    have HB4 := Aside.mk (below_then HB.out hb4)
    clear hb4
    go_wp2
    go_ret
    exact ⟨rfl, HB4.out⟩
  subst herr
  have hm0 := Aside.mk (add_err0 R2.out.tab.pinv HAe.out).symm
  have HS3 := Aside.mk (show Stay w w3 (w1.heap.size + 1) so w1.heap.size w.heap.size w1.heap.size ks srt id s0.l 0 from ⟨_, _, _, _, _, hr, Holds.new R2.out.tab.pinv HAe.out, by omega⟩)
  clear hr HCa HAe R2
  go_wp2_with fail
  go_loopw [53] (fun i wr => ∃ k : Nat, k ≤ L.length ∧ i = .int .i64 k ∧ Aside (Stay w wr (w1.heap.size + 1) so w1.heap.size w.heap.size w1.heap.size ks srt id s0.l k)) (fun i _ => L.length - (intOf i).toNat)
  case atStart => exact ⟨0, Nat.zero_le _, rfl, HS3⟩
  case round =>
    obtain ⟨k, hk, rfl, HN⟩ := hrel
    have HKL := Aside.mk (show k ≤ 60 by omega)
    by_cases hlt : k < L.length
    · have hkz : (k : Int) < (L.length : Int) := by omega
      rcases hAA : AL with _ | ad
      · exact absurd (HLS.out.1 hAA) (fun e => by rw [e] at hlt; exact absurd hlt (by simp))
      subst hAA
      obtain ⟨s, hx⟩ : ∃ s, L[k]? = some s := ⟨_, List.getElem?_eq_getElem hlt⟩
      have HSo := Aside.mk (HLo.out s (List.mem_of_getElem? hx))
      have hcell0 := HLS.out.2 ad rfl k s hx
      obtain ⟨P, free, empty, cnt, O, hR, hH, hcn⟩ := HN.out
      have hcell : wr.cell? (ad.add k) = some (.slice s.A s.l.length s.c) := cell_below hR.below hcell0
      have hsl : (s.l.length : Int) ≤ 9223372036854775807 := by have := HSo.out.2.1; omega
      by_cases h70 : 70 < s.l.length
      · have q : (70 : Int) < (s.l.length : Int) := by omega
        clear hx hR hH hcell0
        go_wp2
        go_roundw
        case rel => exact ⟨k + 1, by omega, by go_num, ⟨stay_mono HN.out (by omega)⟩⟩
        case measure => simp [intOf]; omega
      · have q : (s.l.length : Int) ≤ 70 := by omega
        obtain ⟨P2, free2, empty2, kid, er2, ha, hcall⟩ := add_in s hR (by omega) HT.out HSo.out
        have HCa := Aside.mk hcall
        have HR := Aside.mk hR
        have HH := Aside.mk hH
        have HAe := Aside.mk ha
        have HCn := Aside.mk hcn
        clear hcall ha hx hR hH hcell0 hcn
        go_wp2_with fail
        (with_reducible refine HCa.out.mono ?_)
        rintro e w5 ⟨rfl, O2, hr, _⟩
        clear hcell
        by_cases her : er2 = 0
        rotate_left
        · have q1 : ((er2 : Int) == 0) = false := by simpa using her
          have HSt := Aside.mk (show Stay w w5 (w1.heap.size + 1) so w1.heap.size w.heap.size w1.heap.size ks srt id s0.l (k + 1) from ⟨_, _, _, _, _, hr, HH.out.add HR.out.tab.pinv HAe.out, by have := HCn.out; omega⟩)
          clear hr her
          obtain ⟨P3, free3, empty3, cnt3, O3, hR3, hH3, hc3⟩ := HSt.out
          obtain ⟨d, hd1, hask, hset⟩ := hH3.ask
          have hidw := Holds.wf hH3 hR3.tab (by have := HKL.out; omega)
          have HSet := Aside.mk (show Calls Tryd.prog 54 #[.pointer (some ⟨w1.heap.size + 1, 0, none⟩), .int .i64 id] w5 (SetPost w5 s0.l 0) from by
            have h := setM id hR3.tab (by have := HKL.out; omega) hidw
            rw [hset, hask] at h
            exact h)
          have HHe := Aside.mk (fun (W : World) (hb : Below w5.heap.size w5 W) => show Calls Tryd.prog 56 #[.pointer (some ⟨w1.heap.size + 1, 0, none⟩), .int .i64 id] W fun e w' => e = .returned (.int .i64 d) ∧ Below W.heap.size W w' from by
            have h := heldM id (hR3.tab.below hb) (by have := HKL.out; omega) hidw
            rw [hask] at h
            exact h)
          have HBw := Aside.mk hR3.below
          clear hR3 hH3 hc3 hask hset hidw
          go_wp2_with fail
          (with_reducible refine HSet.out.mono ?_)
          rintro e w6 ⟨hb6, h6⟩
          rw [if_pos rfl] at h6
          obtain ⟨u, rfl, ho6⟩ := h6
          obtain ⟨uA, uc, rfl, huc, _, huS⟩ := src_of_own ho6
          have HB6 := Aside.mk hb6
          have HSm := Aside.mk (sameA_any uA s0.A uc s0.c s0.l s0.l w6 huS (H0.out.2.2.2.1.below (below_then HBw.out hb6)) huc H0.out.1 (by have := HL0.out; omega) H0.out.2.1)
          rw [decide_eq_true rfl] at HSm
          clear hb6 ho6 huc huS
          go_wp2_with fail
          (with_reducible refine HSm.out.mono ?_)
          rintro e w7 ⟨rfl, hb7⟩
          have HB7 := Aside.mk (below_then HB6.out hb7)
          clear hb7
          go_wp2_with fail
          (with_reducible refine (HHe.out _ HB7.out).mono ?_)
          rintro e w8 ⟨rfl, hb8⟩
          have HZ := Aside.mk (stay_later HSt.out (below_then HB7.out hb8))
          clear hb8
          go_wp2
          go_roundw
          case rel => exact ⟨k + 1, by omega, by go_num, HZ⟩
          case measure => simp [intOf]; omega

        · subst her
          by_cases hev : (k : Int) % 2 = 0
          · have q2 : ((k : Int) % 2 == 0) = true := by simpa using hev
            obtain ⟨P4, free4, empty4, hfr, hH4⟩ := HH.out.add_free HR.out.tab.pinv HAe.out
            have hkw : (Lit.int .i64 kid).wf = true := Holds.wf (Holds.new HR.out.tab.pinv HAe.out) hr.tab (by have := HCn.out; have := HKL.out; omega)
            have HFr := Aside.mk (run_free kid hr (by have := HCn.out; have := HKL.out; omega) hkw hfr)
            have HH4 := Aside.mk hH4
            clear hr hfr hH4 hkw hev
            go_wp2_with fail
            (with_reducible refine HFr.out.mono ?_)
            rintro e w9 ⟨rfl, hr, _⟩
            have HSt := Aside.mk (show Stay w w9 (w1.heap.size + 1) so w1.heap.size w.heap.size w1.heap.size ks srt id s0.l (k + 1) from ⟨_, _, _, _, _, hr, HH4.out, by have := HCn.out; omega⟩)
            clear hr
            obtain ⟨P3, free3, empty3, cnt3, O3, hR3, hH3, hc3⟩ := HSt.out
            obtain ⟨d, hd1, hask, hset⟩ := hH3.ask
            have hidw := Holds.wf hH3 hR3.tab (by have := HKL.out; omega)
            have HSet := Aside.mk (show Calls Tryd.prog 54 #[.pointer (some ⟨w1.heap.size + 1, 0, none⟩), .int .i64 id] w9 (SetPost w9 s0.l 0) from by
              have h := setM id hR3.tab (by have := HKL.out; omega) hidw
              rw [hset, hask] at h
              exact h)
            have HHe := Aside.mk (fun (W : World) (hb : Below w9.heap.size w9 W) => show Calls Tryd.prog 56 #[.pointer (some ⟨w1.heap.size + 1, 0, none⟩), .int .i64 id] W fun e w' => e = .returned (.int .i64 d) ∧ Below W.heap.size W w' from by
              have h := heldM id (hR3.tab.below hb) (by have := HKL.out; omega) hidw
              rw [hask] at h
              exact h)
            have HBw := Aside.mk hR3.below
            clear hR3 hH3 hc3 hask hset hidw
            go_wp2_with fail
            (with_reducible refine HSet.out.mono ?_)
            rintro e w6 ⟨hb6, h6⟩
            rw [if_pos rfl] at h6
            obtain ⟨u, rfl, ho6⟩ := h6
            obtain ⟨uA, uc, rfl, huc, _, huS⟩ := src_of_own ho6
            have HB6 := Aside.mk hb6
            have HSm := Aside.mk (sameA_any uA s0.A uc s0.c s0.l s0.l w6 huS (H0.out.2.2.2.1.below (below_then HBw.out hb6)) huc H0.out.1 (by have := HL0.out; omega) H0.out.2.1)
            rw [decide_eq_true rfl] at HSm
            clear hb6 ho6 huc huS
            go_wp2_with fail
            (with_reducible refine HSm.out.mono ?_)
            rintro e w7 ⟨rfl, hb7⟩
            have HB7 := Aside.mk (below_then HB6.out hb7)
            clear hb7
            go_wp2_with fail
            (with_reducible refine (HHe.out _ HB7.out).mono ?_)
            rintro e w8 ⟨rfl, hb8⟩
            have HZ := Aside.mk (stay_later HSt.out (below_then HB7.out hb8))
            clear hb8
            go_wp2
            go_roundw
            case rel => exact ⟨k + 1, by omega, by go_num, HZ⟩
            case measure => simp [intOf]; omega

          · have q2 : ((k : Int) % 2 == 0) = false := by simpa using hev
            have HSt := Aside.mk (show Stay w w5 (w1.heap.size + 1) so w1.heap.size w.heap.size w1.heap.size ks srt id s0.l (k + 1) from ⟨_, _, _, _, _, hr, HH.out.add HR.out.tab.pinv HAe.out, by have := HCn.out; omega⟩)
            clear hr hev
            obtain ⟨P3, free3, empty3, cnt3, O3, hR3, hH3, hc3⟩ := HSt.out
            obtain ⟨d, hd1, hask, hset⟩ := hH3.ask
            have hidw := Holds.wf hH3 hR3.tab (by have := HKL.out; omega)
            have HSet := Aside.mk (show Calls Tryd.prog 54 #[.pointer (some ⟨w1.heap.size + 1, 0, none⟩), .int .i64 id] w5 (SetPost w5 s0.l 0) from by
              have h := setM id hR3.tab (by have := HKL.out; omega) hidw
              rw [hset, hask] at h
              exact h)
            have HHe := Aside.mk (fun (W : World) (hb : Below w5.heap.size w5 W) => show Calls Tryd.prog 56 #[.pointer (some ⟨w1.heap.size + 1, 0, none⟩), .int .i64 id] W fun e w' => e = .returned (.int .i64 d) ∧ Below W.heap.size W w' from by
              have h := heldM id (hR3.tab.below hb) (by have := HKL.out; omega) hidw
              rw [hask] at h
              exact h)
            have HBw := Aside.mk hR3.below
            clear hR3 hH3 hc3 hask hset hidw
            go_wp2_with fail
            (with_reducible refine HSet.out.mono ?_)
            rintro e w6 ⟨hb6, h6⟩
            rw [if_pos rfl] at h6
            obtain ⟨u, rfl, ho6⟩ := h6
            obtain ⟨uA, uc, rfl, huc, _, huS⟩ := src_of_own ho6
            have HB6 := Aside.mk hb6
            have HSm := Aside.mk (sameA_any uA s0.A uc s0.c s0.l s0.l w6 huS (H0.out.2.2.2.1.below (below_then HBw.out hb6)) huc H0.out.1 (by have := HL0.out; omega) H0.out.2.1)
            rw [decide_eq_true rfl] at HSm
            clear hb6 ho6 huc huS
            go_wp2_with fail
            (with_reducible refine HSm.out.mono ?_)
            rintro e w7 ⟨rfl, hb7⟩
            have HB7 := Aside.mk (below_then HB6.out hb7)
            clear hb7
            go_wp2_with fail
            (with_reducible refine (HHe.out _ HB7.out).mono ?_)
            rintro e w8 ⟨rfl, hb8⟩
            have HZ := Aside.mk (stay_later HSt.out (below_then HB7.out hb8))
            clear hb8
            go_wp2
            go_roundw
            case rel => exact ⟨k + 1, by omega, by go_num, HZ⟩
            case measure => simp [intOf]; omega

    · obtain rfl : k = L.length := by omega
      obtain ⟨P, free, empty, cnt, O, hR, hH, hcn⟩ := HN.out
      obtain ⟨P2, free2, empty2, kid, er2, ha, hcall⟩ := add_in s0 hR (by omega) HT.out H0.out
      have her := add_err0 hR.tab.pinv ha
      rw [hm0.out] at her
      subst her
      have hH2 := hH.add hR.tab.pinv ha
      have hH3 := Holds.new hR.tab.pinv ha
      have HCa := Aside.mk hcall
      have HH2 := Aside.mk hH2
      have HH3 := Aside.mk hH3
      clear hcall ha hR hH hcn hH2 hH3
      go_wp2_with fail
      (with_reducible refine HCa.out.mono ?_)
      rintro e w5 ⟨rfl, O2, hr, _⟩
      obtain rfl : kid = id := HH3.out.one hr.tab.pinv HH2.out
      have HB5 := Aside.mk hr.below
      clear hr
      go_wp2_with fail
      (with_reducible refine (HK.out _ HB5.out).mono ?_)
      rintro e w6 ⟨rfl, hb6⟩
      have HB6 := Aside.mk (below_then HB5.out hb6)
      clear hb6
      go_wp2
      go_ret
      exact ⟨rfl, HB6.out⟩
theorem internStays_walk (A : Option Addr) (c : Nat) (ks : List Ky) (A0 : Option Addr) (c0 : Nat) (l0 : List At) (AL : Option Addr) (cL : Nat) (L : List Sl) (w : World) (hc : ks.length ≤ c) (hl : ks.length ≤ 9223372036854775807) (hA : A = none → c = 0) (hS : KSrc w A ks) (hwf : ∀ k ∈ ks, (Lit.int .i64 k.id).wf = true) (h0 : (Sl.mk A0 c0 l0).ok w) (hcL : L.length ≤ cL) (hLl : L.length ≤ 9223372036854775807) (hLS : LSrc w AL L) (hLo : ∀ s ∈ L, s.ok w) (hT : Lib.Utf8Tabs 1 2 w) :
    Calls Tryd.prog 18 #[.slice A ks.length c, .slice A0 l0.length c0, .slice AL L.length cL] w fun e w' => e = .returned (.bool true) ∧ Below w.heap.size w w' := by
  by_cases hk : okKs ks = false ∨ 60 < L.length ∨ 70 < l0.length
  · exact stays_known A c ks ⟨A0, c0, l0⟩ AL cL L w hc hl hA hS hwf hT h0.2.1 hLl hk
  · have h1 : okKs ks = true := by
      cases h : okKs ks with
      | false => exact absurd (.inl h) hk
      | true => rfl
    exact stays_in A c ks ⟨A0, c0, l0⟩ AL cL L w hc hl hA hS hwf hT h0 hcL hLS hLo h1 (by have := fun h => hk (.inr (.inl h)); omega) (by have := fun h => hk (.inr (.inr h)); show l0.length ≤ 70; omega)
end Go.Proofs.YtaejlgdmalhhnaaDoor
/- Layer 7: InternOne, plain: what was added, each held as often as it was; freed as often, none is left. -/
set_option linter.unusedVariables false
set_option linter.unusedSimpArgs false
namespace Go.Proofs.YtaejlgdmalhhnaaDoor
open Go.RowKit Go.Maps

variable {P : Ps} {free : List Int} {empty : Int} {ks : List Ky}
/-- Each id is held as often as the list has it. -/
structure Left (P : Ps) (empty : Int) (ids : List Int) : Prop where
  cnt : ∀ (j : Nat) (p : List At × Int), P[j]? = some p → p.2 = (ids.count ((j : Int) + 1) : Int)
  emp : empty = (ids.count 0 : Int)
  at_ : ∀ id ∈ ids, id = 0 ∨ ∃ j : Nat, j < P.length ∧ id = (j : Int) + 1
/-- What was added so far: each is held by its id, as often as it was added. -/
structure Got (P : Ps) (empty : Int) (E : List (Int × List At)) : Prop where
  holds : ∀ q ∈ E, Holds P empty q.1 q.2
  left : Left P empty (E.map (·.1))
theorem Got.nil : Got [] 0 [] := ⟨fun q h => (by cases h), ⟨fun j p h => (by cases h), rfl, fun id h => (by cases h)⟩⟩
theorem count_snoc (l : List Int) (x y : Int) : ((l ++ [x]).count y : Int) = (l.count y : Int) + if x = y then 1 else 0 := by
  rw [List.count_append, List.count_singleton]
  by_cases h : x = y
  · subst h; simp
  · simp [h]
theorem Got.add {E : List (Int × List At)} {k e : Int} {x : List At} {P' : Ps} {free' : List Int} {empty' : Int} (hI : PInv P free empty) (h : Got P empty E) (ha : addP ks P free empty x = (P', free', empty', k, e)) : Got P' empty' (if e = 0 then E ++ [(k, x)] else E) := by
  have hL : Left P' empty' (if e = 0 then E.map (·.1) ++ [k] else E.map (·.1)) := by
    have hl := h.left
    rcases add_cases (ks := ks) hI x with ⟨h0, h1⟩ | ⟨_, ⟨_, h1⟩ | ⟨hx0, ⟨j, hd, hj, hd1, h1⟩ | ⟨hno, ⟨fr, j, p, hfr, hj, hp0, h1⟩ | ⟨_, h1⟩⟩⟩⟩
    all_goals
      rw [h1] at ha
      simp only [Prod.mk.injEq] at ha
      obtain ⟨rfl, rfl, rfl, rfl, rfl⟩ := ha
    · rw [if_neg h0]; exact hl
    · rw [if_pos rfl]
      refine ⟨fun j p hj => ?_, ?_, fun id hid => ?_⟩
      · rw [count_snoc, if_neg (by omega), hl.cnt j p hj]; omega
      · rw [count_snoc, if_pos rfl, hl.emp]
      · rcases List.mem_append.1 hid with hid | hid
        · exact hl.at_ id hid
        · simp at hid; exact .inl hid
    · rw [if_pos rfl]
      refine ⟨fun i p hi => ?_, ?_, fun id hid => ?_⟩
      · rw [get_set hj] at hi
        rw [count_snoc]
        by_cases hij : j = i
        · subst hij
          rw [if_pos rfl] at hi ⊢
          cases hi
          have := hl.cnt j _ hj
          simp only at this ⊢
          omega
        · rw [if_neg hij] at hi
          rw [if_neg (by omega), hl.cnt i p hi]; omega
      · rw [count_snoc, if_neg (by omega), hl.emp]; omega
      · rcases List.mem_append.1 hid with hid | hid
        · rw [List.length_set]; exact hl.at_ id hid
        · simp at hid; exact .inr ⟨j, by rw [List.length_set]; exact (List.getElem?_eq_some_iff.1 hj).1, hid⟩
    · rw [if_pos rfl]
      refine ⟨fun i p' hi => ?_, ?_, fun id hid => ?_⟩
      · rw [get_set hj] at hi
        rw [count_snoc]
        by_cases hij : j = i
        · subst hij
          rw [if_pos rfl] at hi ⊢
          cases hi
          have := hl.cnt j _ hj
          simp only at this ⊢
          omega
        · rw [if_neg hij] at hi
          rw [if_neg (by omega), hl.cnt i p' hi]; omega
      · rw [count_snoc, if_neg (by omega), hl.emp]; omega
      · rcases List.mem_append.1 hid with hid | hid
        · rw [List.length_set]; exact hl.at_ id hid
        · simp at hid; exact .inr ⟨j, by rw [List.length_set]; exact (List.getElem?_eq_some_iff.1 hj).1, hid⟩
    · rw [if_pos rfl]
      refine ⟨fun i p' hi => ?_, ?_, fun id hid => ?_⟩
      · rw [count_snoc]
        by_cases hil : i < P.length
        · rw [List.getElem?_append_left hil] at hi
          rw [if_neg (by omega), hl.cnt i p' hi]; omega
        · have hlt := (List.getElem?_eq_some_iff.1 hi).1
          simp at hlt
          obtain rfl : i = P.length := by omega
          simp at hi
          subst hi
          have h0 : (E.map (·.1)).count ((P.length : Int) + 1) = 0 := by
            rw [List.count_eq_zero]
            intro hm
            rcases hl.at_ _ hm with h | ⟨j, hj, h⟩ <;> omega
          rw [h0, if_pos rfl]; rfl
      · rw [count_snoc, if_neg (by omega), hl.emp]; omega
      · rw [List.length_append]
        rcases List.mem_append.1 hid with hid | hid
        · rcases hl.at_ id hid with h | ⟨j, hj, h⟩
          · exact .inl h
          · exact .inr ⟨j, by omega, h⟩
        · simp at hid; exact .inr ⟨P.length, by simp, hid⟩
  by_cases he : e = 0
  · subst he
    rw [if_pos rfl] at hL ⊢
    refine ⟨fun q hq => ?_, by rw [List.map_append]; exact hL⟩
    rcases List.mem_append.1 hq with hq | hq
    · exact (h.holds q hq).add hI ha
    · simp at hq; subst hq; exact Holds.new hI ha
  · rw [if_neg he] at hL ⊢
    exact ⟨fun q hq => (h.holds q hq).add hI ha, hL⟩
theorem Holds.zero {id : Int} {l : List At} (h : Holds P empty id l) : (id = 0 ↔ l = []) := by
  rcases h with ⟨rfl, rfl, _⟩ | ⟨h0, i, _, rfl, _⟩
  · simp
  · simp only [h0, iff_false]; omega
theorem Holds.alike {a b : Int} {l m : List At} (hI : PInv P free empty) (ha : Holds P empty a l) (hb : Holds P empty b m) : (a = b ↔ l = m) := by
  constructor
  · rintro rfl
    rcases ha with ⟨rfl, rfl, _⟩ | ⟨h0, i, h, rfl, hi, h1⟩
    · exact ((hb.zero).1 rfl).symm
    · rcases hb with ⟨_, h2, _⟩ | ⟨_, j, h', he, hj, h1'⟩
      · omega
      · obtain rfl : i = j := by omega
        rw [hi] at hj; cases hj; rfl
  · rintro rfl; exact ha.one hI hb
/-- The first of the list may be freed. -/
theorem Left.pop {id : Int} {ids : List Int} (hI : PInv P free empty) (h : Left P empty (id :: ids)) : ∃ P' free' empty', freeP P free empty id = (P', free', empty', 0) ∧ Left P' empty' ids := by
  rcases h.at_ id (by simp) with h0 | ⟨j, hj, hid⟩
  · subst h0
    have he : 1 ≤ empty := by have := h.emp; rw [List.count_cons_self] at this; omega
    refine ⟨P, free, max (empty - 1) 0, ?_, ?_⟩
    · unfold freeP
      rw [if_neg (by unfold askP; simp), if_pos rfl]
    · refine ⟨fun j p hj => ?_, ?_, fun id hid => h.at_ id (by simp [hid])⟩
      · rw [h.cnt j p hj, List.count_cons, if_neg (by simp; omega)]; rfl
      · have := h.emp; rw [List.count_cons_self] at this; omega
  · subst hid
    obtain ⟨p, hp⟩ : ∃ p, P[j]? = some p := ⟨_, List.getElem?_eq_getElem hj⟩
    have hc := h.cnt j p hp
    rw [List.count_cons_self] at hc
    have hask : askP P empty ((j : Int) + 1) = (p.2, 0) := ask_at hp (by omega)
    have hL : ∀ q : List At × Int, q.2 = p.2 - 1 → Left (P.set j q) empty ids := fun q hq => by
      refine ⟨fun i p' hi => ?_, ?_, fun id hid => ?_⟩
      · rw [get_set hp] at hi
        by_cases hij : j = i
        · subst hij
          rw [if_pos rfl] at hi
          cases hi
          omega
        · rw [if_neg hij] at hi
          rw [h.cnt i p' hi, List.count_cons, if_neg (by simp; omega)]; rfl
      · rw [h.emp, List.count_cons, if_neg (by simp; omega)]; rfl
      · rw [List.length_set]; exact h.at_ id (by simp [hid])
    by_cases h1 : p.2 = 1
    · refine ⟨P.set j ([], 0), free ++ [(j : Int)], empty, ?_, hL _ (by simp only; omega)⟩
      unfold freeP
      rw [hask, if_neg (by simp), if_neg (by omega), show ((j : Int) + 1 - 1).toNat = j by omega, hp]
      simp only
      rw [if_pos h1]
    · refine ⟨P.set j (p.1, p.2 - 1), free, empty, ?_, hL _ rfl⟩
      unfold freeP
      rw [hask, if_neg (by simp), if_neg (by omega), show ((j : Int) + 1 - 1).toNat = j by omega, hp]
      simp only
      rw [if_neg h1]
theorem nodup_len : ∀ (n : Nat) (l : List Int), l.Nodup → (∀ x : Int, x ∈ l ↔ ∃ j : Nat, j < n ∧ x = (j : Int)) → l.length = n
  | 0, l, _, h => by
    rcases l with _ | ⟨x, l⟩
    · rfl
    · obtain ⟨j, hj, _⟩ := (h x).1 (by simp); omega
  | n + 1, l, hd, h => by
    have hm : (n : Int) ∈ l := (h _).2 ⟨n, by omega, rfl⟩
    have h1 := nodup_len n (l.erase (n : Int)) (hd.erase _) (fun x => by
      rw [hd.mem_erase_iff, h]
      constructor
      · rintro ⟨hx, j, hj, rfl⟩; exact ⟨j, by omega, rfl⟩
      · rintro ⟨j, hj, rfl⟩; exact ⟨by omega, j, by omega, rfl⟩)
    have h2 := List.length_erase_of_mem hm
    have h3 := List.length_pos_of_mem hm
    omega
/-- None is left: the freed places are all there are. -/
theorem Left.out (hI : PInv P free empty) (h : Left P empty []) : free.length = P.length ∧ empty = 0 := by
  refine ⟨nodup_len _ _ hI.nd (fun x => ⟨fun hx => ?_, ?_⟩), by rw [h.emp]; rfl⟩
  · obtain ⟨j, p, rfl, hp, _⟩ := hI.fr x hx
    exact ⟨j, (List.getElem?_eq_some_iff.1 hp).1, rfl⟩
  · rintro ⟨j, hj, rfl⟩
    exact hI.all j _ (List.getElem?_eq_getElem hj) (by rw [h.cnt j _ (List.getElem?_eq_getElem hj)]; rfl)
end Go.Proofs.YtaejlgdmalhhnaaDoor
/- Layer 7: InternOne's own rows, beside the table. -/
set_option linter.unusedVariables false
set_option linter.unusedSimpArgs false
namespace Go.Proofs.YtaejlgdmalhhnaaDoor
open Go.RowKit Go.Maps

theorem info48 : (Tryd.prog.info? 48).map (fun i => (i.zero, i.size, i.bytes)) = some (some (.slice none 0 0), 1, 24) := by kernel_rfl
variable {w W W' : World} {tb : Nat} {so : Option Addr} {mb lo hi : Nat} {ks srt : List Ky} {P : Ps} {free : List Int} {empty : Int} {cnt : Nat} {O : Nat → Prop}
/-- What turns is neither the table's nor the schema's. -/
theorem Run.turnQ {Q : Nat → Prop} (h : Run w W tb so mb lo hi ks srt P free empty cnt O) (ht : Turn Q W W') (hQ : ∀ k, Q k → w.heap.size ≤ k ∧ hi ≤ k ∧ ¬ O k) : Run w W' tb so mb lo hi ks srt P free empty cnt O :=
  ⟨h.below.trans (ht.below (fun k hk => (hQ k hk).1) h.below.size), h.tab.turn ht (fun k hk => (hQ k hk).2.2), h.sch.turn ht (fun k hk => (hQ k hk).2.1), h.high, Nat.le_trans h.top ht.size⟩
/-- The ids and the sets, in rows of the law's own. -/
structure Both (w W : World) (hi : Nat) (O : Nat → Prop) (iv sv : Value) (E : List (Int × Sl)) : Prop where
  ids : W.ownsRow w.heap.size 3 1 iv E.length (nums .i64 (E.map (·.1)))
  sets : W.ownsRow w.heap.size 48 1 sv E.length (E.map (·.2.v))
  io : ∀ g, iv.ownBlock = some g → hi ≤ g ∧ ¬ O g
  so : ∀ g, sv.ownBlock = some g → hi ≤ g ∧ ¬ O g
  ne : ∀ g, iv.ownBlock = some g → sv.ownBlock ≠ some g
variable {iv sv v1 v2 : Value} {E : List (Int × Sl)} {w1 w2 : World}
theorem Both.nil (w W : World) (hi : Nat) (O : Nat → Prop) : Both w W hi O (.slice none 0 0) (.slice none 0 0) [] :=
  ⟨⟨rfl, .inl ⟨rfl, rfl⟩⟩, ⟨rfl, .inl ⟨rfl, rfl⟩⟩, fun g h => (by cases h), fun g h => (by cases h), fun g h => (by cases h)⟩
theorem own_ltk {w : World} {B n size : Nat} {e : TypeId} {v : Value} {xs : List Value} (h : w.ownsRow B e size v n xs) : ∀ g, v.ownBlock = some g → g < w.heap.size := fun g hg => by
  obtain ⟨cur, hc⟩ := own_heap h hg
  exact (Array.getElem?_eq_some_iff.1 hc).1
theorem Both.turn (h : Both w W hi O iv sv E) (ht : Turn O W W') : Both w W' hi (Grow O W W') iv sv E :=
  ⟨own_kept h.ids (fun k hk => ht.block k (own_ltk h.ids k hk) (h.io k hk).2), own_kept h.sets (fun k hk => ht.block k (own_ltk h.sets k hk) (h.so k hk).2),
    fun g hg => ⟨(h.io g hg).1, fun hG => hG.elim (h.io g hg).2 (fun h' => by have := own_ltk h.ids g hg; omega)⟩,
    fun g hg => ⟨(h.so g hg).1, fun hG => hG.elim (h.so g hg).2 (fun h' => by have := own_ltk h.sets g hg; omega)⟩, h.ne⟩
theorem Both.below (h : Both w W hi O iv sv E) (hb : Below W.heap.size W W') : Both w W' hi O iv sv E :=
  ⟨own_below h.ids hb, own_below h.sets hb, h.io, h.so, h.ne⟩
theorem Both.mid (h : Both w W hi O iv sv E) (g1 : W.grownBy w1 iv.ownBlock) : w1.ownsRow w.heap.size 48 1 sv E.length (E.map (·.2.v)) :=
  own_kept h.sets (fun k hk => g1.block k (own_ltk h.sets k hk) (fun e => h.ne k e.symm hk))
theorem Both.push {id : Int} {s : Sl} (h : Both w W hi O iv sv E) (hO : ∀ k, O k → k < W.heap.size) (hhi : hi ≤ W.heap.size)
    (o1 : w1.ownsRow w.heap.size 3 1 v1 (E.length + 1) (nums .i64 (E.map (·.1)) ++ nums .i64 [id])) (g1 : W.grownBy w1 iv.ownBlock) (a1 : v1.ownBlock = iv.ownBlock ∨ ∃ b, v1.ownBlock = some b ∧ W.heap.size ≤ b)
    (o2 : w2.ownsRow w.heap.size 48 1 v2 (E.length + 1) (E.map (·.2.v) ++ [s.v])) (g2 : w1.grownBy w2 sv.ownBlock) (a2 : v2.ownBlock = sv.ownBlock ∨ ∃ b, v2.ownBlock = some b ∧ w1.heap.size ≤ b) :
    Both w w2 hi O v1 v2 (E ++ [(id, s)]) := by
  have hs1 := g1.size
  have l1 := own_ltk o1
  have n1 : ∀ g, v1.ownBlock = some g → sv.ownBlock ≠ some g := fun g hg hs => by
    rcases a1 with a1 | ⟨b, a1, hb⟩
    · exact h.ne g (a1 ▸ hg) hs
    · rw [hg] at a1; cases a1; have := own_ltk h.sets g hs; omega
  refine ⟨?_, ?_, fun g hg => ?_, fun g hg => ?_, fun g hg hs => ?_⟩
  · rw [List.length_append, List.map_append, nums_append]
    exact own_kept o1 (fun k hk => g2.block k (l1 k hk) (fun e => n1 k hk e.symm))
  · rw [List.length_append, List.map_append]; exact o2
  · rcases a1 with a1 | ⟨b, a1, hb⟩
    · exact h.io g (a1 ▸ hg)
    · rw [hg] at a1; cases a1; exact ⟨by omega, fun e => by have := hO _ e; omega⟩
  · rcases a2 with a2 | ⟨b, a2, hb⟩
    · exact h.so g (a2 ▸ hg)
    · rw [hg] at a2; cases a2; exact ⟨by omega, fun e => by have := hO _ e; omega⟩
  · rcases a2 with a2 | ⟨b, a2, hb⟩
    · exact n1 g hg (a2 ▸ hs)
    · rw [hs] at a2; cases a2; have := l1 _ hg; omega
/-- What the law has behind k sets that came. -/
def One (w W : World) (tb : Nat) (so : Option Addr) (mb lo hi : Nat) (ks srt : List Ky) (iv sv : Value) (E : List (Int × Sl)) (k : Nat) : Prop :=
  ∃ P free empty cnt O, Run w W tb so mb lo hi ks srt P free empty cnt O ∧ Got P empty (E.map fun q => (q.1, q.2.l)) ∧ Both w W hi O iv sv E ∧ cnt ≤ k ∧ E.length ≤ k
theorem own_wide {W : World} {B n size : Nat} {e : TypeId} {v : Value} {xs : List Value} (h : W.ownsRow B e size v n xs) : ∀ g, v.ownBlock = some g → B ≤ g := own_base h
theorem One.push {id : Int} {s : Sl} {k : Nat} (hR : Run w W tb so mb lo hi ks srt P free empty cnt O) (hG : Got P empty ((E ++ [(id, s)]).map fun q => (q.1, q.2.l))) (h : Both w W hi O iv sv E) (hc : cnt ≤ k + 1) (hE : E.length ≤ k)
    (o1 : w1.ownsRow w.heap.size 3 1 v1 (E.length + 1) (nums .i64 (E.map (·.1)) ++ nums .i64 [id])) (g1 : W.grownBy w1 iv.ownBlock) (a1 : v1.ownBlock = iv.ownBlock ∨ ∃ b, v1.ownBlock = some b ∧ W.heap.size ≤ b)
    (o2 : w2.ownsRow w.heap.size 48 1 v2 (E.length + 1) (E.map (·.2.v) ++ [s.v])) (g2 : w1.grownBy w2 sv.ownBlock) (a2 : v2.ownBlock = sv.ownBlock ∨ ∃ b, v2.ownBlock = some b ∧ w1.heap.size ≤ b) :
    One w w2 tb so mb lo hi ks srt v1 v2 (E ++ [(id, s)]) (k + 1) := by
  have r1 := hR.turnQ (Turn.of_grown (O := fun k => iv.ownBlock = some k) g1 (fun k hk => hk)) (fun k hk => ⟨own_base h.ids k hk, h.io k hk⟩)
  have r2 := r1.turnQ (Turn.of_grown (O := fun k => sv.ownBlock = some k) g2 (fun k hk => hk)) (fun k hk => ⟨own_base h.sets k hk, h.so k hk⟩)
  exact ⟨P, free, empty, cnt, O, r2, hG, h.push (fun k hk => (hR.tab.lt k hk).2) hR.top o1 g1 a1 o2 g2 a2, hc, by rw [List.length_append]; exact Nat.succ_le_succ hE⟩
theorem One.later {k : Nat} (h : One w W tb so mb lo hi ks srt iv sv E k) (hb : Below W.heap.size W W') : One w W' tb so mb lo hi ks srt iv sv E k := by
  obtain ⟨P, free, empty, cnt, O, hR, hG, hB, hc, hE⟩ := h
  exact ⟨P, free, empty, cnt, O, hR.later hb, hG, hB.below hb, hc, hE⟩
theorem One.mono {k k' : Nat} (h : One w W tb so mb lo hi ks srt iv sv E k) (hk : k ≤ k') : One w W tb so mb lo hi ks srt iv sv E k' := by
  obtain ⟨P, free, empty, cnt, O, hR, hG, hB, hc, hE⟩ := h
  exact ⟨P, free, empty, cnt, O, hR, hG, hB, by omega, by omega⟩
/-- The rows as they are read. -/
theorem Both.reads (h : Both w W hi O iv sv E) : ∃ iA ic sA sc, iv = .slice iA E.length ic ∧ sv = .slice sA E.length sc ∧ E.length ≤ ic ∧ E.length ≤ sc ∧
    ∀ (i : Nat) (q : Int × Sl), E[i]? = some q → ∃ ia sa, iA = some ia ∧ sA = some sa ∧ W.cell? (ia.add i) = some (.int .i64 q.1) ∧ W.cell? (sa.add i) = some q.2.v := by
  obtain ⟨iA, ic, h1, h2, _, h3⟩ := Cells.of_own h.ids
  obtain ⟨sA, sc, h4, h5, _, h6⟩ := Cells.of_own h.sets
  refine ⟨iA, ic, sA, sc, h1, h4, h2, h5, fun i q hq => ?_⟩
  have hi := (List.getElem?_eq_some_iff.1 hq).1
  obtain ⟨ia, ha, hc⟩ := h3 (by rw [nums_length, List.length_map]; omega)
  obtain ⟨sa, hsa, hsc⟩ := h6 (by rw [List.length_map]; omega)
  exact ⟨ia, sa, ha, hsa, hc i _ (by simp [nums, hq]), hsc i _ (by simp [hq])⟩
theorem One.cell {k : Nat} {iA sA : Option Addr} {n n' ic sc : Nat} (h : One w W tb so mb lo hi ks srt (.slice iA n ic) (.slice sA n' sc) E k) : ∀ (i : Nat) (q : Int × Sl), E[i]? = some q → ∃ ia sa, iA = some ia ∧ sA = some sa ∧ W.cell? (ia.add i) = some (.int .i64 q.1) ∧ W.cell? (sa.add i) = some (.slice q.2.A q.2.l.length q.2.c) := by
  obtain ⟨P, free, empty, cnt, O, hR, hG, hB, hc, hE⟩ := h
  obtain ⟨iA', ic', sA', sc', e1, e2, _, _, hx⟩ := hB.reads
  injection e1 with e1
  injection e2 with e2
  subst e1 e2
  exact hx
theorem One.set {k : Nat} (h : One w W tb so mb lo hi ks srt iv sv E k) (hk : k ≤ 1000) {q : Int × Sl} (hq : q ∈ E) : Calls Tryd.prog 54 #[.pointer (some ⟨tb, 0, none⟩), .int .i64 q.1] W (SetPost W q.2.l 0) := by
  obtain ⟨P, free, empty, cnt, O, hR, hG, hB, hc, hE⟩ := h
  have hH := hG.holds _ (List.mem_map_of_mem (f := fun q : Int × Sl => (q.1, q.2.l)) hq)
  obtain ⟨d, hd1, hask, hset⟩ := hH.ask
  have h := setM q.1 hR.tab (by omega) (Holds.wf hH hR.tab (by omega))
  simp only at hset hask
  rw [hset, hask] at h
  exact h
theorem One.same {k : Nat} (h : One w W tb so mb lo hi ks srt iv sv E k) {q q' : Int × Sl} (hq : q ∈ E) (hq' : q' ∈ E) : (q.1 = q'.1 ↔ q.2.l = q'.2.l) := by
  obtain ⟨P, free, empty, cnt, O, hR, hG, hB, hc, hE⟩ := h
  exact (hG.holds _ (List.mem_map_of_mem (f := fun q : Int × Sl => (q.1, q.2.l)) hq)).alike hR.tab.pinv (hG.holds _ (List.mem_map_of_mem (f := fun q : Int × Sl => (q.1, q.2.l)) hq'))
theorem One.zero {k : Nat} (h : One w W tb so mb lo hi ks srt iv sv E k) {q : Int × Sl} (hq : q ∈ E) : (q.1 = 0 ↔ q.2.l = []) := by
  obtain ⟨P, free, empty, cnt, O, hR, hG, hB, hc, hE⟩ := h
  exact (hG.holds _ (List.mem_map_of_mem (f := fun q : Int × Sl => (q.1, q.2.l)) hq)).zero
theorem One.below {k : Nat} (h : One w W tb so mb lo hi ks srt iv sv E k) : Below w.heap.size w W := by
  obtain ⟨P, free, empty, cnt, O, hR, _⟩ := h
  exact hR.below
/-- What is left of the rows while the law frees. -/
def Two (w W : World) (tb : Nat) (so : Option Addr) (mb lo hi : Nat) (ks srt : List Ky) (iv sv : Value) (E : List (Int × Sl)) (j k : Nat) : Prop :=
  ∃ P free empty cnt O, Run w W tb so mb lo hi ks srt P free empty cnt O ∧ Left P empty ((E.map (·.1)).drop j) ∧ Both w W hi O iv sv E ∧ cnt ≤ k + j
theorem One.two {k : Nat} (h : One w W tb so mb lo hi ks srt iv sv E k) : Two w W tb so mb lo hi ks srt iv sv E 0 k := by
  obtain ⟨P, free, empty, cnt, O, hR, hG, hB, hc, hE⟩ := h
  refine ⟨P, free, empty, cnt, O, hR, ?_, hB, hc⟩
  have := hG.left
  rw [List.map_map] at this
  exact this
theorem Two.cell {j k : Nat} {iA sA : Option Addr} {n n' ic sc : Nat} (h : Two w W tb so mb lo hi ks srt (.slice iA n ic) (.slice sA n' sc) E j k) : ∀ (i : Nat) (q : Int × Sl), E[i]? = some q → ∃ ia sa, iA = some ia ∧ sA = some sa ∧ W.cell? (ia.add i) = some (.int .i64 q.1) ∧ W.cell? (sa.add i) = some (.slice q.2.A q.2.l.length q.2.c) := by
  obtain ⟨P, free, empty, cnt, O, hR, hG, hB, hc⟩ := h
  obtain ⟨iA', ic', sA', sc', e1, e2, _, _, hx⟩ := hB.reads
  injection e1 with e1
  injection e2 with e2
  subst e1 e2
  exact hx
theorem Two.pop {j k : Nat} (h : Two w W tb so mb lo hi ks srt iv sv E j k) (hk : k + j ≤ 1000) {q : Int × Sl} (hq : E[j]? = some q) : Calls Tryd.prog 37 #[.pointer (some ⟨tb, 0, none⟩), .int .i64 q.1] W fun e W' => e = .returned (.int .i64 0) ∧ Two w W' tb so mb lo hi ks srt iv sv E (j + 1) k := by
  obtain ⟨P, free, empty, cnt, O, hR, hL, hB, hc⟩ := h
  have hd : (E.map (·.1)).drop j = q.1 :: (E.map (·.1)).drop (j + 1) := by
    have hj := (List.getElem?_eq_some_iff.1 hq)
    rw [List.drop_eq_getElem_cons (by rw [List.length_map]; exact hj.1)]
    obtain ⟨h1, h2⟩ := hj
    simp [h2]
  rw [hd] at hL
  have hw : (Lit.int .i64 q.1).wf = true := by
    have := hR.tab.len
    rcases hL.at_ q.1 (by simp) with h | ⟨i, h, h'⟩
    · rw [h]; decide
    · rw [h']; exact WalkArith.wf_i64 (by omega)
  obtain ⟨P', free', empty', hf, hL'⟩ := hL.pop hR.tab.pinv
  exact (run_free q.1 hR (by omega) hw hf).mono fun e W' hp => ⟨hp.1, P', free', empty', cnt + 1, _, hp.2.1, hL', hB.turn hp.2.2, by omega⟩
theorem Two.out {j k : Nat} (h : Two w W tb so mb lo hi ks srt iv sv E j k) (hj : j = E.length) : ∃ P free cnt O, Run w W tb so mb lo hi ks srt P free 0 cnt O ∧ free.length = P.length ∧ cnt ≤ k + j := by
  obtain ⟨P, free, empty, cnt, O, hR, hL, hB, hc⟩ := h
  rw [List.drop_eq_nil_of_le (by rw [List.length_map]; omega)] at hL
  obtain ⟨h1, h2⟩ := hL.out hR.tab.pinv
  subst h2
  exact ⟨P, free, cnt, O, hR, h1, hc⟩
end Go.Proofs.YtaejlgdmalhhnaaDoor
