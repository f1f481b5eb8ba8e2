/- Layer 5: the document's Same. -/
import Derived.Test.YtaejlgdmalhhnaaDoorIx
set_option linter.unusedVariables false
set_option linter.unusedSimpArgs false
namespace Go.Proofs.YtaejlgdmalhhnaaDoor
open Go.RowKit Go.Maps

set_option maxHeartbeats 1000000 in
theorem eq_attr (a b : At) (w : World) : (binOp .eql 58 (.agg #[.int .i64 a.key, .int .u8 a.v.k, .int .i64 a.v.n, .int .u64 (a.v.f : Int), .string a.v.s]) (.agg #[.int .i64 b.key, .int .u8 b.v.k, .int .i64 b.v.n, .int .u64 (b.v.f : Int), .string b.v.s])).run Tryd.prog w = .ok (.bool (decide (a = b))) w := by
  have hs : (a.v.s.toList = b.v.s.toList) ↔ a.v.s = b.v.s := by
    rw [ByteArray.toList_eq, ByteArray.toList_eq]
    constructor
    · intro h; apply ByteArray.ext; apply Array.ext'; exact h
    · intro h; rw [h]
  have hd : (a = b) ↔ (a.key = b.key ∧ a.v.k = b.v.k ∧ a.v.n = b.v.n ∧ a.v.f = b.v.f ∧ a.v.s = b.v.s) := by
    constructor
    · rintro rfl; exact ⟨rfl, rfl, rfl, rfl, rfl⟩
    · obtain ⟨ak, ⟨a1, a2, a3, a4⟩⟩ := a; obtain ⟨bk, ⟨b1, b2, b3, b4⟩⟩ := b; rintro ⟨h0, h1, h2, h3, h4⟩; simp only at h0 h1 h2 h3 h4; subst h0 h1 h2 h3 h4; rfl
  simp [binOp, Op.equal, Op.maxDepth, go_sem, hs, hd]
  by_cases h0 : a.key = b.key <;> by_cases h1 : a.v.k = b.v.k <;> by_cases h2 : a.v.n = b.v.n <;> by_cases h3 : (a.v.f : Int) = (b.v.f : Int) <;> by_cases h4 : a.v.s = b.v.s <;> simp [h0, h1, h2, h3, h4] <;> omega
theorem ne_attr (a b : At) (w : World) : (binOp .neq 58 (.agg #[.int .i64 a.key, .int .u8 a.v.k, .int .i64 a.v.n, .int .u64 (a.v.f : Int), .string a.v.s]) (.agg #[.int .i64 b.key, .int .u8 b.v.k, .int .i64 b.v.n, .int .u64 (b.v.f : Int), .string b.v.s])).run Tryd.prog w = .ok (.bool (!decide (a = b))) w := by
  have he := eq_attr a b w
  rw [run_eql_struct] at he
  rw [run_neq_struct]
  generalize (Op.equalIn 10000 58 (.agg #[.int .i64 a.key, .int .u8 a.v.k, .int .i64 a.v.n, .int .u64 (a.v.f : Int), .string a.v.s]) (.agg #[.int .i64 b.key, .int .u8 b.v.k, .int .i64 b.v.n, .int .u64 (b.v.f : Int), .string b.v.s])).run Tryd.prog w = r at he ⊢
  cases r <;> simp_all [Result.andThen]
def SamePost (w : World) (r : Bool) (e : Ending) (w' : World) : Prop := e = .returned (.bool r) ∧ Below w.heap.size w w'
def SameQ (w : World) (r : Bool) (e : Ending) (w' : World) : Prop := e = .returned (.bool r) ∧ ∃ n, w' = w.drewN n
theorem drew0 (w : World) : ∃ n, w = w.drewN n := ⟨0, rfl⟩
theorem drew_then {w w1 : World} (h : ∃ n, w1 = w.drewN n) (m : Nat) : ∃ n, w1.drewN m = w.drewN n := by
  obtain ⟨n, rfl⟩ := h
  exact ⟨n + m, World.drewN_drewN _ _ _⟩
theorem drew_below {w w1 : World} (h : ∃ n, w1 = w.drewN n) : Below w.heap.size w w1 := by
  obtain ⟨n, rfl⟩ := h
  exact below_drewN (below_refl w) n
set_option maxRecDepth 100000 in
set_option maxHeartbeats 2000000 in
theorem same_some (ad ad' : Addr) (c c' : Nat) (l m : List At) (w : World) (hS : ASrc w (some ad) l) (hS' : ASrc w (some ad') m) (hc : l.length ≤ c) (hc' : m.length ≤ c') (hlm : l.length = m.length) (hl : l.length ≤ 100000) :
    Calls Tryd.prog 71 #[.slice (some ad) l.length c, .slice (some ad') m.length c'] w (SameQ w (decide (l = m))) := by
  have HS := Aside.mk hS
  have HS' := Aside.mk hS'
  have g1 : (l.length : Int) ≤ (c : Int) := by omega
  have g2 : (l.length : Int) ≤ (c' : Int) := by omega
  have g3 : (l.length : Int) ≤ 100000 := by omega
  have HLM := Aside.mk hlm
  rw [← hlm]
  obtain ⟨R, hR⟩ : ∃ R, SameQ w (decide (l = m)) = R := ⟨_, rfl⟩
  rw [hR]
  have HRR := Aside.mk hR
  clear hS hS' hc hc' hR hlm hl
  go_enter Tryd.func71, Tryd.ntmps71
  go_wp2_with fail
  go_loopw [5] (fun i wr => ∃ k : Nat, k ≤ l.length ∧ i = .int .i64 k ∧ Aside ((∃ n, wr = w.drewN n) ∧ ∀ j < k, l[j]? = m[j]?)) (fun i _ => l.length - (intOf i).toNat)
  case atStart => exact ⟨0, Nat.zero_le _, rfl, ⟨drew0 _, fun j h => absurd h (by omega)⟩⟩
  case round =>
    obtain ⟨k, hk, rfl, HN⟩ := hrel
    by_cases hlt : k < l.length
    · have hkz : (k : Int) < (l.length : Int) := by omega
      obtain ⟨⟨key, ⟨kd, n, f, s⟩⟩, hx⟩ : ∃ a, l[k]? = some a := ⟨_, List.getElem?_eq_getElem hlt⟩
      obtain ⟨⟨key', ⟨kd', n', f', s'⟩⟩, hx'⟩ : ∃ a, m[k]? = some a := ⟨_, List.getElem?_eq_getElem (by have := HLM.out; omega)⟩
      obtain ⟨s0, s1, s2, s3, s4⟩ := (HS.out.below (drew_below HN.out.1)).five hx
      obtain ⟨t0, t1, t2, t3, t4⟩ := (HS'.out.below (drew_below HN.out.1)).five hx'
      have hne : ∀ W : World, (binOp .neq 58 (.agg #[.int .i64 key, .int .u8 kd, .int .i64 n, .int .u64 (f : Int), .string s]) (.agg #[.int .i64 key', .int .u8 kd', .int .i64 n', .int .u64 (f' : Int), .string s'])).run Tryd.prog W = .ok (.bool (!decide ((⟨key, ⟨kd, n, f, s⟩⟩ : At) = ⟨key', ⟨kd', n', f', s'⟩⟩))) W := fun W => ne_attr ⟨key, ⟨kd, n, f, s⟩⟩ ⟨key', ⟨kd', n', f', s'⟩⟩ W
      have HX := Aside.mk hx
      have HX' := Aside.mk hx'
      by_cases he : (⟨key, ⟨kd, n, f, s⟩⟩ : At) = ⟨key', ⟨kd', n', f', s'⟩⟩
      · have HZ := Aside.mk (show ∀ j < k + 1, l[j]? = m[j]? by
          intro j hj
          rcases Nat.lt_or_ge j k with h | h
          · exact HN.out.2 j h
          · obtain rfl : j = k := by omega
            rw [hx, hx', he])
        simp only [he, decide_true, Bool.not_true] at hne
        clear he hx hx'
        go_wp2_with fail
        go_quiet (fail)
        have HD := Aside.mk (drew_then HN.out.1 nq)
        clear s0 s1 s2 s3 s4 t0 t1 t2 t3 t4 hne
        go_wp2
        go_roundw
        case rel => exact ⟨k + 1, by omega, by go_num, ⟨HD.out, HZ.out⟩⟩
        case measure => simp [intOf]; omega
      · have HZ := Aside.mk (show l ≠ m by
          intro h; rw [h, hx'] at hx; exact he (Option.some.inj hx).symm)
        simp only [he, decide_false, Bool.not_false] at hne
        clear he hx hx'
        go_wp2_with fail
        go_quiet (fail)
        have HD := Aside.mk (drew_then HN.out.1 nq)
        clear s0 s1 s2 s3 s4 t0 t1 t2 t3 t4 hne
        go_wp2
        rw [← HRR.out, decide_eq_false HZ.out]
        exact ⟨rfl, HD.out⟩
    · obtain rfl : k = l.length := by omega
      have HZ := Aside.mk (show l = m by
        apply List.ext_getElem?
        intro j
        rcases Nat.lt_or_ge j l.length with h | h
        · exact HN.out.2 j h
        · rw [List.getElem?_eq_none h, List.getElem?_eq_none (by have := HLM.out; omega)])
      go_wp2
      rw [← HRR.out, decide_eq_true HZ.out]
      exact ⟨rfl, HN.out.1⟩
set_option maxRecDepth 100000 in
theorem same_len (A A' : Option Addr) (c c' : Nat) (l m : List At) (w : World) (hlm : l.length ≠ m.length) (h1 : l.length ≤ 9223372036854775807) (h2 : m.length ≤ 9223372036854775807) :
    Calls Tryd.prog 71 #[.slice A l.length c, .slice A' m.length c'] w (SameQ w (decide (l = m))) := by
  have hd : decide (l = m) = false := decide_eq_false (fun e => hlm (by rw [e]))
  rw [hd]
  have q : ((l.length : Int) != (m.length : Int)) = true := by simp; omega
  have q2 : (l.length != m.length) = true := by simp; exact hlm
  have q3 : (l.length == m.length) = false := by simp; exact hlm
  obtain ⟨R, hR⟩ : ∃ R, SameQ w false = R := ⟨_, rfl⟩
  rw [hR]
  have HRR := Aside.mk hR
  clear hR hd hlm
  go_enter Tryd.func71, Tryd.ntmps71
  go_wp2
  rw [← HRR.out]
  exact ⟨rfl, drew0 w⟩
set_option maxRecDepth 100000 in
theorem same_nil (A A' : Option Addr) (c c' : Nat) (l m : List At) (w : World) (hl : l = []) (hm : m = []) :
    Calls Tryd.prog 71 #[.slice A l.length c, .slice A' m.length c'] w (SameQ w (decide (l = m))) := by
  subst hl hm
  have hd : decide (([] : List At) = []) = true := rfl
  rw [hd]
  obtain ⟨R, hR⟩ : ∃ R, SameQ w true = R := ⟨_, rfl⟩
  rw [hR]
  have HRR := Aside.mk hR
  clear hR hd
  show Calls Tryd.prog 71 #[.slice A 0 c, .slice A' 0 c'] w R
  go_enter Tryd.func71, Tryd.ntmps71
  go_wp2_with fail
  go_loopw [5] (fun i wr => i = .int .i64 0 ∧ wr = w) (fun i _ => 0)
  case atStart => exact ⟨rfl, rfl⟩
  case round =>
    obtain ⟨rfl, rfl⟩ := hrel
    go_wp2
    rw [← HRR.out]
    exact ⟨rfl, drew0 _⟩
theorem sameQ_any (A A' : Option Addr) (c c' : Nat) (l m : List At) (w : World) (hS : ASrc w A l) (hS' : ASrc w A' m) (hc : l.length ≤ c) (hc' : m.length ≤ c') (hl : l.length ≤ 100000) (hm : m.length ≤ 9223372036854775807) :
    Calls Tryd.prog 71 #[.slice A l.length c, .slice A' m.length c'] w (SameQ w (decide (l = m))) := by
  by_cases hlm : l.length = m.length
  · rcases Nat.eq_zero_or_pos l.length with h0 | h0
    · exact same_nil A A' c c' l m w (List.eq_nil_of_length_eq_zero h0) (List.eq_nil_of_length_eq_zero (by omega))
    · rcases A with _ | ad
      · rw [hS.1 rfl] at h0; exact absurd h0 (by simp)
      rcases A' with _ | ad'
      · rw [hlm, hS'.1 rfl] at h0; exact absurd h0 (by simp)
      exact same_some ad ad' c c' l m w hS hS' hc hc' hlm hl
  · exact same_len A A' c c' l m w hlm (by omega) hm
theorem sameA_any (A A' : Option Addr) (c c' : Nat) (l m : List At) (w : World) (hS : ASrc w A l) (hS' : ASrc w A' m) (hc : l.length ≤ c) (hc' : m.length ≤ c') (hl : l.length ≤ 100000) (hm : m.length ≤ 9223372036854775807) :
    Calls Tryd.prog 71 #[.slice A l.length c, .slice A' m.length c'] w (SamePost w (decide (l = m))) :=
  (sameQ_any A A' c c' l m w hS hS' hc hc' hl hm).mono fun e w' h => ⟨h.1, drew_below h.2⟩
end Go.Proofs.YtaejlgdmalhhnaaDoor
