/- Layer 1: what Bytes, Newlines and the reference's Bytes, Newlines, Same come to. -/
import Derived.Test.YtaejlgdmalhhnaaDoorRa
namespace Go.Proofs.YtaejlgdmalhhnaaDoor
open Go.RowKit

/-- The text of runes, and the error's number. -/
def bytesF (l : List Int) : List Int × Int := if l.all may then (l.flatMap enc, 0) else ([], 3)
theorem bytesF_t {l : List Int} (h : l.all may = true) : bytesF l = (l.flatMap enc, 0) := by unfold bytesF; rw [if_pos h]
theorem bytesF_f {l : List Int} (h : l.all may = false) : bytesF l = ([], 3) := by unfold bytesF; rw [if_neg (by simp [h])]
theorem take_succ_getD (l : List Int) (k : Nat) (h : k < l.length) : l.take (k + 1) = l.take k ++ [l.getD k 0] := by
  rw [List.take_succ_eq_append_getElem h, List.getD_eq_getElem?_getD, List.getElem?_eq_getElem h]; rfl
theorem flatMap_snoc (l : List Int) (x : Int) : (l ++ [x]).flatMap enc = l.flatMap enc ++ enc x := by simp
theorem all_snoc (l : List Int) (x : Int) : (l ++ [x]).all may = (l.all may && may x) := by simp [Bool.and_comm]
theorem flatMap_enc_length (l : List Int) : (l.flatMap enc).length ≤ 4 * l.length := by
  induction l with
  | nil => simp
  | cons x l ih => have := enc_length_le x; simp only [List.flatMap_cons, List.length_append, List.length_cons]; omega
theorem all_false_of (l : List Int) (k : Nat) (h : k < l.length) (hm : may (l.getD k 0) = false) : l.all may = false := by
  rw [List.all_eq_false]
  refine ⟨l.getD k 0, ?_, by rw [hm]; simp⟩
  rw [List.getD_eq_getElem?_getD, List.getElem?_eq_getElem h]
  exact List.getElem_mem h

/-- How far Bytes has come. -/
structure BytesTo (w : World) (l : List Int) (k : Nat) (v : Value) (wr : World) : Prop where
  all : (l.take k).all may = true
  own : OwnN wr w.heap.size 5 .u8 v ((l.take k).flatMap enc)
  below : Below w.heap.size w wr
def SomeBytes (w : World) (r : List Int × Int) (e : Ending) (w' : World) : Prop :=
  ∃ v, e = .returned (.tuple #[v, .int .i64 r.2]) ∧ OwnN w' w.heap.size 5 .u8 v r.1 ∧ Below w.heap.size w w'

theorem BytesTo.next {w wr w1 : World} {l : List Int} {k : Nat} {v v1 : Value} (h : BytesTo w l k v wr) (hk : k < l.length) (hm : may (l.getD k 0) = true)
    (hown : OwnN w1 w.heap.size 5 .u8 v1 ((l.take k).flatMap enc ++ enc (l.getD k 0))) (hb : Below w.heap.size w w1) : BytesTo w l (k + 1) v1 w1 := by
  refine ⟨?_, ?_, hb⟩
  · rw [take_succ_getD l k hk, all_snoc, h.all, hm]; rfl
  · rw [take_succ_getD l k hk, flatMap_snoc]; exact hown
theorem BytesTo.fin {w wr : World} {l : List Int} {v : Value} (h : BytesTo w l l.length v wr) : OwnN wr w.heap.size 5 .u8 v (bytesF l).1 ∧ (bytesF l).2 = 0 := by
  have h1 := h.all
  have h2 := h.own
  rw [List.take_length] at h1 h2
  rw [bytesF_t h1]
  exact ⟨h2, rfl⟩
theorem bytes_bad {l : List Int} {k : Nat} (hk : k < l.length) (hm : may (l.getD k 0) = false) : (bytesF l).2 = 3 ∧ (bytesF l).1 = [] := by
  rw [bytesF_f (all_false_of l k hk hm)]; exact ⟨rfl, rfl⟩

set_option maxRecDepth 100000 in
set_option maxHeartbeats 800000 in
theorem bytes_any (A : Option Addr) (c : Nat) (l : List Int) (w : World) (hn : Nums w .i32 A l) (hl : l.length * 4 ≤ 140737488355324) :
    Calls Tryd.prog 21 #[.slice A l.length c] w (SomeBytes w (bytesF l)) := by
  have HN := Aside.mk hn
  clear hn
  go_enter Tryd.func21, Tryd.ntmps21
  go_wp2
  go_loopw [4, 9] (fun v i wr => ∃ k : Nat, k ≤ l.length ∧ i = .int .i64 k ∧ BytesTo w l k v wr) (fun _ i _ => l.length - (intOf i).toNat)
  case atStart => exact ⟨0, Nat.zero_le _, rfl, by simp, by simpa using OwnN.nil _ _ _ _, below_refl _⟩
  case round =>
    obtain ⟨k, hk, rfl, hT⟩ := hrel
    by_cases hlt : k < l.length
    · obtain ⟨ad, rfl, hc⟩ := (HN.out.below hT.below).at_ hlt
      have hlen := flatMap_enc_length (l.take k)
      rw [List.length_take] at hlen
      have HT := Aside.mk hT
      clear hT
      by_cases hm : may (l.getD k 0) = true
      · have hap := appendRune_any hm HT.out.own HT.out.below (by omega)
        have Hap := Aside.mk hap
        have Hm := Aside.mk hm
        have hmay : ∀ W, Calls Tryd.prog 26 #[.int .i32 (l.getD k 0)] W fun e w' => e = .returned (.bool true) ∧ W = w' := fun W => by rw [← hm]; exact may_any _ _
        clear hap hm
        obtain ⟨x, hx⟩ : ∃ x, l.getD k 0 = x := ⟨_, rfl⟩
        rw [hx] at hc Hap hmay Hm
        have Hx := Aside.mk hx
        clear hx
        go_wp2_with (first | (go_at_call 26; refine (hmay _).mono ?_; rintro e w' ⟨rfl, rfl⟩) | (go_at_call 73; refine Hap.out.mono ?_; rintro e w1 ⟨v1, rfl, hown, hb1⟩; have HO := Aside.mk hown; clear hown))
        go_roundw
        case rel => exact ⟨k + 1, by omega, by go_num, HT.out.next hlt (by rw [Hx.out]; exact Hm.out) (by rw [Hx.out]; exact HO.out) hb1⟩
        case measure => simp [intOf]; omega
      · have hm' : may (l.getD k 0) = false := by simpa using hm
        have hbad := Aside.mk (bytes_bad hlt hm')
        have hmay : ∀ W, Calls Tryd.prog 26 #[.int .i32 (l.getD k 0)] W fun e w' => e = .returned (.bool false) ∧ W = w' := fun W => by rw [← hm']; exact may_any _ _
        clear hm hm'
        obtain ⟨x, hx⟩ : ∃ x, l.getD k 0 = x := ⟨_, rfl⟩
        rw [hx] at hc hmay
        clear hx
        go_wp2_with (first | (go_at_call 26; refine (hmay _).mono ?_; rintro e w' ⟨rfl, rfl⟩))
        go_ret2
        exact ⟨_, by rw [hbad.out.1]; rfl, by rw [hbad.out.2]; exact OwnN.nil _ _ _ _, HT.out.below⟩
    · obtain rfl : k = l.length := by omega
      have HF := Aside.mk hT.fin
      have HT := Aside.mk hT
      clear hT
      go_wp2
      go_ret2
      exact ⟨_, by rw [HF.out.2]; rfl, HF.out.1, HT.out.below⟩
end Go.Proofs.YtaejlgdmalhhnaaDoor
