/- Layer 1: the reference's Bytes and Same. -/
import Derived.Test.YtaejlgdmalhhnaaDoorRc
namespace Go.Proofs.YtaejlgdmalhhnaaDoor
open Go.RowKit

set_option maxRecDepth 100000 in
set_option maxHeartbeats 800000 in
theorem refBytes_any (A : Option Addr) (c : Nat) (l : List Int) (w : World) (hn : Nums w .i32 A l) (hl : l.length * 4 ≤ 140737488355324) :
    Calls Tryd.prog 22 #[.slice A l.length c] w (SomeBytes w (bytesF l)) := by
  have HN := Aside.mk hn
  clear hn
  go_enter Tryd.func22, Tryd.ntmps22
  go_wp2
  go_loopw [4, 5] (fun v i wr => ∃ k : Nat, k ≤ l.length ∧ i = .int .i64 k ∧ BytesTo w l k v wr) (fun _ i _ => l.length - (intOf i).toNat)
  case atStart => exact ⟨0, Nat.zero_le _, rfl, by simp, by simpa using OwnN.nil _ _ _ _, below_refl _⟩
  case round =>
    obtain ⟨k, hk, rfl, hT⟩ := hrel
    by_cases hlt : k < l.length
    · obtain ⟨ad, rfl, hc⟩ := (HN.out.below hT.below).at_ hlt
      have hlen := flatMap_enc_length (l.take k)
      rw [List.length_take] at hlen
      have HT := Aside.mk hT
      clear hT
      by_cases hm : may (l.getD k 0) = true
      · have Hm := Aside.mk hm
        have hmay : ∀ W, Calls Tryd.prog 27 #[.int .i32 (l.getD k 0)] W fun e w' => e = .returned (.bool true) ∧ W = w' := fun W => by rw [← hm]; exact refMay_any _ _
        obtain ⟨hr0, hr1, _⟩ := may_cases hm
        have he4 := enc_length_le (l.getD k 0)
        clear hm
        obtain ⟨x, hx⟩ : ∃ x, l.getD k 0 = x := ⟨_, rfl⟩
        rw [hx] at hc hmay Hm hr0 hr1 he4
        have Hx := Aside.mk hx
        clear hx
        have hone : ∀ W, Calls Tryd.prog 74 #[.int .i32 x] W (OneRune W x) := fun W => one_any x hr0 hr1 W
        obtain ⟨ys, hys⟩ : ∃ ys, (l.take k).flatMap enc = ys := ⟨_, rfl⟩
        have hO := HT.out.own
        rw [hys] at hO hlen
        have HO := Aside.mk hO
        have Hys := Aside.mk hys
        clear hO hys
        go_wp2_with (first | (go_at_call 27; refine (hmay _).mono ?_; rintro e w' ⟨rfl, rfl⟩) | (go_at_call 74; refine (hone _).mono ?_; rintro e w1 ⟨rfl, rfl⟩) | (at_builtin; go_must (refine app_src (w0 := w) w.heap.size rfl (.tmp 18) (.tmp 23) 23 5 (.int .u8 0) 1 1 rfl Tryd.underlying23 info5 rfl (by decide) _ ys.length (enc x).length (enc x).length _ (nums .u8 ys) (nums .u8 (enc x)) rfl rfl (by rw [nums_length, Nat.mul_one]) (nums_one _ _) (HO.out.alloc _) ?hcells (below_alloc HT.out.below _) (below_alloc HT.out.below _).size (by omega) (by omega) ?_)))
        case hcells => exact fun _ => ⟨_, rfl, World.news_of_block (cs := (nums .u8 (enc x)).toArray) (t := 5) (fr := (0, 0)) (heap_alloc_new wr _)⟩
        intro v1 w1 hown hb1 hg1 _
        have HO1 := Aside.mk (own_n hown)
        clear hown hg1
        go_wp2
        go_roundw
        case rel => exact ⟨k + 1, by omega, by go_num, HT.out.next hlt (by rw [Hx.out]; exact Hm.out) (by rw [Hx.out, Hys.out]; exact HO1.out) hb1⟩
        case measure => simp [intOf]; omega
      · have hm' : may (l.getD k 0) = false := by simpa using hm
        have hbad := Aside.mk (bytes_bad hlt hm')
        have hmay : ∀ W, Calls Tryd.prog 27 #[.int .i32 (l.getD k 0)] W fun e w' => e = .returned (.bool false) ∧ W = w' := fun W => by rw [← hm']; exact refMay_any _ _
        clear hm hm'
        obtain ⟨x, hx⟩ : ∃ x, l.getD k 0 = x := ⟨_, rfl⟩
        rw [hx] at hc hmay
        clear hx
        go_wp2_with (first | (go_at_call 27; refine (hmay _).mono ?_; rintro e w' ⟨rfl, rfl⟩))
        go_ret2
        exact ⟨_, by rw [hbad.out.1]; rfl, by rw [hbad.out.2]; exact OwnN.nil _ _ _ _, HT.out.below⟩
    · obtain rfl : k = l.length := by omega
      have HF := Aside.mk hT.fin
      have HT := Aside.mk hT
      clear hT
      go_wp2
      go_ret2
      exact ⟨_, by rw [HF.out.2]; rfl, HF.out.1, HT.out.below⟩

theorem same_end {a b : List Int} (h : a.length = b.length) (hp : ∀ j, j < a.length → a.getD j 0 = b.getD j 0) : a = b := by
  apply List.ext_getElem h
  intro i h1 h2
  have := hp i h1
  simpa [List.getD_eq_getElem?_getD, List.getElem?_eq_getElem h1, List.getElem?_eq_getElem h2] using this
theorem same_ne {a b : List Int} {k : Nat} (h : a.getD k 0 ≠ b.getD k 0) : a ≠ b := fun e => h (by rw [e])

set_option maxRecDepth 100000 in
set_option maxHeartbeats 800000 in
theorem same_any (A B : Option Addr) (c d : Nat) (a b : List Int) (w : World) (ha : Nums w .i32 A a) (hb : Nums w .i32 B b) :
    Calls Tryd.prog 25 #[.slice A a.length c, .slice B b.length d] w fun e w' => e = .returned (.bool (decide (a = b))) ∧ Below w.heap.size w w' := by
  have hla := ha.1
  have hlb := hb.1
  by_cases hlen : a.length = b.length
  · have hle : ((a.length : Int) == (b.length : Int)) = true := by simp [hlen]
    have hln : ((a.length : Int) != (b.length : Int)) = false := by simp [hlen]
    have HA := Aside.mk ha
    have HB := Aside.mk hb
    have Hlen := Aside.mk hlen
    clear ha hb hlen
    go_enter Tryd.func25, Tryd.ntmps25
    go_wp2
    go_loopw [5] (fun i wr => ∃ k : Nat, k ≤ a.length ∧ i = .int .i64 k ∧ Aside (∀ j, j < k → a.getD j 0 = b.getD j 0) ∧ Aside (Below w.heap.size w wr)) (fun i _ => a.length - (intOf i).toNat)
    case atStart => exact ⟨0, Nat.zero_le _, rfl, ⟨fun j hj => absurd hj (by omega)⟩, ⟨below_refl _⟩⟩
    case round =>
      obtain ⟨k, hk, rfl, hp, hbw⟩ := hrel
      by_cases hlt : k < a.length
      · obtain ⟨ad, rfl, hca⟩ := (HA.out.below hbw.out).at_ hlt
        obtain ⟨bd, rfl, hcb⟩ := (HB.out.below hbw.out).at_ (i := k) (by have := Hlen.out; omega)
        have hk0 : (0 : Int) ≤ (k : Int) := by omega
        have hka : (k : Int) < (a.length : Int) := by omega
        have hkb : (k : Int) < (b.length : Int) := by have := Hlen.out; omega
        have hkbn : k < b.length := by omega
        obtain ⟨x, hx⟩ : ∃ x, a.getD k 0 = x := ⟨_, rfl⟩
        obtain ⟨y, hy⟩ : ∃ y, b.getD k 0 = y := ⟨_, rfl⟩
        rw [hx] at hca
        rw [hy] at hcb
        have Hx := Aside.mk hx
        have Hy := Aside.mk hy
        clear hx hy
        by_cases hxy : x = y
        · have e1 : (x != y) = false := by simp [hxy]
          have e2 : (x == y) = true := by simp [hxy]
          have Hxy := Aside.mk hxy
          clear hxy
          go_wp2
          go_quiet (fail)
          go_wp2
          go_roundw
          case rel => exact ⟨k + 1, by omega, by go_num, ⟨fun j hj => by
            rcases Nat.lt_or_ge j k with h | h
            · exact hp.out j h
            · obtain rfl : j = k := by omega
              rw [Hx.out, Hy.out, Hxy.out]⟩, ⟨below_drewN hbw.out _⟩⟩
          case measure => simp [intOf]; omega
        · have e1 : (x != y) = true := by simp [hxy]
          have e2 : (x == y) = false := by simp [hxy]
          have Hr := Aside.mk (decide_eq_false (same_ne (a := a) (b := b) (k := k) (by rw [Hx.out, Hy.out]; exact hxy)))
          clear hxy
          go_wp2
          go_quiet (fail)
          go_wp2
          go_ret
          exact ⟨by rw [Hr.out]; rfl, below_drewN hbw.out _⟩
      · obtain rfl : k = a.length := by omega
        have Hr := Aside.mk (decide_eq_true (same_end Hlen.out hp.out))
        go_wp2
        go_ret
        exact ⟨by rw [Hr.out]; rfl, hbw.out⟩
  · have hle : ((a.length : Int) == (b.length : Int)) = false := by simp; omega
    have hln : ((a.length : Int) != (b.length : Int)) = true := by simp; omega
    have Hr := Aside.mk (decide_eq_false (fun e : a = b => hlen (by rw [e])))
    clear ha hb hlen
    go_enter Tryd.func25, Tryd.ntmps25
    go_wp2
    go_ret
    exact ⟨by rw [Hr.out]; rfl, below_refl _⟩
end Go.Proofs.YtaejlgdmalhhnaaDoor
