/- Layer 1: Read, the program's and the reference's. -/
import Derived.Test.YtaejlgdmalhhnaaDoorRg
import Derived.Lib.OthersKept
import Derived.WalkSmall
namespace Go.Proofs.YtaejlgdmalhhnaaDoor
open Go.RowKit

def SomeRead (w : World) (r : List Int × Int) (e : Ending) (w' : World) : Prop :=
  ∃ v, e = .returned (.tuple #[v, .int .i64 r.2]) ∧ OwnN w' w.heap.size 21 .i32 v r.1 ∧ Below w.heap.size w w'
/-- How far Read has come: k bytes. -/
structure ReadTo (w : World) (l : List UInt8) (k : Nat) (v : Value) (wr : World) (acc : List Int) : Prop where
  own : OwnN wr w.heap.size 21 .i32 v acc
  runes : runesD l = acc ++ runesD (l.drop k)
  valid : Lib.validD l = Lib.validD (l.drop k)
  len : acc.length ≤ k
  below : Below w.heap.size w wr
theorem drop_ne {l : List UInt8} {k : Nat} (h : k < l.length) : l.drop k ≠ [] := fun e => by have := congrArg List.length e; simp at this; omega
theorem badStep_next {l : List UInt8} (h : badStep l = false) : nextF l = (((Lib.decodeL l).1 : Int), ((Lib.decodeL l).2 : Int)) := by unfold nextF; rw [h]; rfl
theorem badStep_zero {l : List UInt8} (h : badStep l = true) : nextF l = (0, 0) := by unfold nextF; rw [if_pos h]
theorem badStep_valid {l : List UInt8} (hne : l ≠ []) (h : badStep l = true) : Lib.validD l = false := by
  rw [Lib.validD_step l hne]; unfold badStep at h; rw [if_pos (of_decide_eq_true h)]
theorem goodStep_valid {l : List UInt8} (hne : l ≠ []) (h : badStep l = false) : Lib.validD l = Lib.validD (l.drop (Lib.decodeL l).2) := by
  rw [Lib.validD_step l hne]; unfold badStep at h; rw [if_neg (of_decide_eq_false h)]
theorem ReadTo.next {w wr w1 : World} {l : List UInt8} {k : Nat} {v v1 : Value} {acc : List Int} (h : ReadTo w l k v wr acc) (hk : k < l.length) (hg : badStep (l.drop k) = false)
    (hown : OwnN w1 w.heap.size 21 .i32 v1 (acc ++ [((Lib.decodeL (l.drop k)).1 : Int)])) (hb : Below w.heap.size w w1) : ReadTo w l (k + (Lib.decodeL (l.drop k)).2) v1 w1 (acc ++ [((Lib.decodeL (l.drop k)).1 : Int)]) := by
  have hw := Lib.decodeL_width (l.drop k)
  refine ⟨hown, ?_, ?_, ?_, hb⟩
  · rw [h.runes, runesD_step _ (drop_ne hk), List.drop_drop]; simp
  · rw [h.valid, goodStep_valid (drop_ne hk) hg, List.drop_drop]
  · have := h.len; simp; omega
theorem ReadTo.fin {w wr : World} {l : List UInt8} {v : Value} {acc : List Int} (h : ReadTo w l l.length v wr acc) : OwnN wr w.heap.size 21 .i32 v (readF l).1 ∧ (readF l).2 = 0 := by
  have h1 := h.valid
  have h2 := h.runes
  rw [List.drop_length, Lib.validD_nil] at h1
  rw [List.drop_length, runesD_nil, List.append_nil] at h2
  rw [readF_t h1, h2]
  exact ⟨h.own, rfl⟩
theorem ReadTo.bad {w wr : World} {l : List UInt8} {k : Nat} {v : Value} {acc : List Int} (h : ReadTo w l k v wr acc) (hk : k < l.length) (hb : badStep (l.drop k) = true) : (readF l).2 = 3 ∧ (readF l).1 = [] := by
  rw [readF_f (by rw [h.valid]; exact badStep_valid (drop_ne hk) hb)]; exact ⟨rfl, rfl⟩

/-- 'b[k:]' at whatever capacity. -/
theorem cut_any {A : Option Addr} {l : List UInt8} {c : Nat} (k : Nat) (hk : k ≤ l.length) (hc : l.length ≤ c) :
    ∃ (A1 : Option Addr), (∀ W : World, (Instr.slice 23 (.slice A l.length c) (some (.int .i64 (k : Int))) none none).run Tryd.prog W = .ok (.slice A1 (l.drop k).length (c - k)) W) ∧
      ∀ w, Bs w A l → Bs w A1 (l.drop k) := by
  obtain ⟨i0, hi, hzz⟩ := Option.map_eq_some_iff.1 info5
  simp only [Prod.mk.injEq] at hzz
  obtain ⟨_, hz1, _⟩ := hzz
  refine ⟨if c = k then A else A.map (·.add k), fun W => ?_, fun w h => h.cut k c hk hc⟩
  have hel : Tryd.prog.elem 23 = 5 := by simp [Program.elem, Tryd.underlying23]
  have hu : Tryd.prog.underlying 23 = some (.slice (Tryd.prog.elem 23)) := by rw [hel]; exact Tryd.underlying23
  rw [run_slice_l W 23 A l.length c hu .i64 (k : Int) (Int.natCast_nonneg _) (by omega), hel, List.length_drop]
  simp [sizeOf, typeInfo, hi, hz1, sliced, Result.andThen]

set_option maxRecDepth 100000 in
set_option maxHeartbeats 1600000 in
theorem refRead_any (A : Option Addr) (c : Nat) (l : List UInt8) (w : World) (hB : Bs w A l) (hc : l.length ≤ c) (hl : l.length * 4 ≤ 140737488355324) :
    Calls Tryd.prog 24 #[.slice A l.length c] w (SomeRead w (readF l)) := by
  have HB := Aside.mk hB
  clear hB
  have hcz : (l.length : Int) ≤ (c : Int) := by omega
  go_enter Tryd.func24, Tryd.ntmps24
  go_wp2
  go_loopw [4, 5] (fun v i wr => ∃ (k : Nat) (acc : List Int), k ≤ l.length ∧ i = .int .i64 k ∧ Aside (ReadTo w l k v wr acc)) (fun _ i _ => l.length - (intOf i).toNat)
  case atStart => exact ⟨0, [], Nat.zero_le _, rfl, ⟨OwnN.nil _ _ _ _, rfl, rfl, by simp, below_refl _⟩⟩
  case round =>
    obtain ⟨k, acc, hk, rfl, HT⟩ := hrel
    by_cases hlt : k < l.length
    · obtain ⟨A1, hrun, hrd⟩ := cut_any (A := A) (l := l) (c := c) k hk hc
      have hkz : (k : Int) < (l.length : Int) := by omega
      have hal := HT.out.len
      have hdl : 0 < (l.drop k).length := by rw [List.length_drop]; omega
      have hw := Lib.decodeL_width (l.drop k)
      have hwl := Lib.decodeL_le (l.drop k) (drop_ne hlt)
      rw [List.length_drop] at hwl
      have hbw := HT.out.below
      have hnx : ∀ W, Below w.heap.size w W → Calls Tryd.prog 76 #[.slice A1 (l.drop k).length (c - k)] W (NextPost W (l.drop k)) := fun W hb => next_any A1 (l.drop k) (c - k) W ((hrd _ HB.out).below hb) hdl
      have HX := Aside.mk hnx
      clear hnx hrd
      obtain ⟨t, ht⟩ : ∃ t, l.drop k = t := ⟨_, rfl⟩
      rw [ht] at HX hrun hw hwl hdl
      have Ht := Aside.mk ht
      clear ht
      by_cases hbad : badStep t = true
      · have hz := badStep_zero hbad
        have hb2 := Aside.mk (HT.out.bad hlt (by rw [Ht.out]; exact hbad))
        have hnx : ∀ W, Below w.heap.size w W → Calls Tryd.prog 76 #[.slice A1 t.length (c - k)] W fun e w' => e = .returned (.tuple #[.int .i32 0, .int .i64 0]) ∧ Below W.heap.size W w' := fun W hb =>
          (HX.out W hb).mono fun e w' h => by unfold NextPost at h; rw [hz] at h; exact h
        have HN := Aside.mk hnx
        clear hnx hz hbad
        go_wp2_with (go_at_call 76; go_must (refine (HN.out _ hbw).mono ?_; rintro e w1 ⟨rfl, hb1⟩))
        go_ret2
        exact ⟨_, by rw [hb2.out.1]; rfl, by rw [hb2.out.2]; exact OwnN.nil _ _ _ _, below_step hbw hbw.size hb1⟩
      · have hgood : badStep t = false := by simpa using hbad
        have hz := badStep_next hgood
        obtain ⟨r, hr⟩ : ∃ r : Nat, (Lib.decodeL t).1 = r := ⟨_, rfl⟩
        obtain ⟨n, hn⟩ : ∃ n : Nat, (Lib.decodeL t).2 = n := ⟨_, rfl⟩
        rw [hr, hn] at hz
        rw [hn] at hw hwl
        have hnx : ∀ W, Below w.heap.size w W → Calls Tryd.prog 76 #[.slice A1 t.length (c - k)] W fun e w' => e = .returned (.tuple #[.int .i32 (r : Int), .int .i64 (n : Int)]) ∧ Below W.heap.size W w' := fun W hb =>
          (HX.out W hb).mono fun e w' h => by unfold NextPost at h; rw [hz] at h; exact h
        have HN := Aside.mk hnx
        have Hg := Aside.mk hgood
        have Hr := Aside.mk hr
        have Hn := Aside.mk hn
        clear hnx hz hbad hgood hr hn
        have hn0 : ((n : Int) == 0) = false := by rw [beq_eq_false_iff_ne]; omega
        go_wp2_with (first | (go_at_call 76; go_must (refine (HN.out _ hbw).mono ?_; rintro e w1 ⟨rfl, hb1⟩)) | (at_builtin; go_must (refine app_lit (w0 := w) w.heap.size rfl (.tmp 21) (.tmp 23) 22 21 (.int .i32 0) 1 4 _ rfl Tryd.underlying22 info21 rfl (by decide) _ acc.length 1 (nums .i32 acc) (nums .i32 [(r : Int)]) rfl rfl rfl rfl (nums_one _ _) (HT.out.own.below hb1) (below_step hbw hbw.size hb1) (below_step hbw hbw.size hb1).size (by omega) (by omega) ?_)))
        intro v1 w2 hown hb2 hg2 _
        have HO := Aside.mk (own_n hown)
        clear hown hg2
        go_wp2
        go_roundw
        case rel => exact ⟨k + n, acc ++ [(r : Int)], by omega, by go_num, ⟨by
          have h := HT.out.next hlt (by rw [Ht.out]; exact Hg.out) (by rw [Ht.out, Hr.out]; exact HO.out) hb2
          rw [Ht.out, Hr.out, Hn.out] at h
          exact h⟩⟩
        case measure => simp [intOf]; omega
    · obtain rfl : k = l.length := by omega
      have HF := Aside.mk HT.out.fin
      go_wp2
      go_ret2
      exact ⟨_, by rw [HF.out.2]; rfl, HF.out.1, HT.out.below⟩
end Go.Proofs.YtaejlgdmalhhnaaDoor
