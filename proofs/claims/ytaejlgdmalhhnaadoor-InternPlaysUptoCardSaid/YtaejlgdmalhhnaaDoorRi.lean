/- Layer 1: the program's Read. -/
import Derived.Test.YtaejlgdmalhhnaaDoorRh
namespace Go.Proofs.YtaejlgdmalhhnaaDoor
open Go.RowKit

theorem ints_nat (l : List UInt8) : (ints l).map (fun n => UInt8.ofNat n.toNat) = l := by
  simp only [ints, List.map_map]
  conv => rhs; rw [← List.map_id l]
  apply List.map_congr_left
  intro b _
  simp
/-- string(b): of whatever slice that is read. -/
theorem conv_bs {w : World} {A : Option Addr} {l : List UInt8} (h : Bs w A l) (c : Nat) :
    (convert 23 9 (.slice A l.length c)).run Tryd.prog w = .ok (.string ⟨l.toArray⟩) w := by
  rcases A with _ | ad
  · have : l = [] := by
      rcases Nat.eq_zero_or_pos l.length with h0 | h0
      · exact List.eq_nil_of_length_eq_zero h0
      · obtain ⟨ad, e, _⟩ := Bs.at_ h h0; cases e
    subst this
    exact run_convert_bytes_nil w 23 5 Tryd.underlying23 Tryd.underlying5 _ _ 9 Tryd.underlying9
  · have hl : (loadCells ad l.length).run Tryd.prog w = .ok ((ints l).map (Value.int .u8)).toArray w := by
      have := run_loadCells_list (P := Tryd.prog) w ad ((ints l).map (Value.int .u8)) (fun j v hj => by
        have hjl : j < l.length := by
          rcases Nat.lt_or_ge j l.length with h | h
          · exact h
          · simp [List.getElem?_eq_none (show ((ints l).map (Value.int .u8)).length ≤ j by simpa [ints] using h)] at hj
        obtain ⟨ad', e, hc⟩ := Bs.at_ h hjl
        cases e
        rw [hc]
        have : (ints l)[j]? = some ((l.getD j 0).toNat : Int) := by
          simp [ints, List.getElem?_eq_getElem hjl, List.getD_eq_getElem?_getD]
        rw [List.getElem?_map, this] at hj
        simpa using hj)
      simpa [ints] using this
    rw [run_convert_bytes_string w 23 9 5 _ l.length c Tryd.underlying23 Tryd.underlying5 Tryd.underlying9, run_bytesToString w _ l.length c (ints l) hl, foldl_push_bytes]
    have hn := ints_nat l
    simp [ByteArray.empty, ByteArray.emptyWithCapacity, hn]
    rfl
theorem own_iterAt {w : World} {base : Nat} {e : TypeId} {size : Nat} {v : Value} {n : Nat} {xs : List Value} (h : w.ownsRow base e size v n xs) {k : Nat} {s : ByteArray} {p : Nat} (hk : w.heap[k]? = some (.stringIter s p)) (p' : Nat) :
    (w.iterAt k s p').ownsRow base e size v n xs := by
  refine ⟨h.1, ?_⟩
  rcases h.2 with h | ⟨g, cap, cur, a, b, c, d⟩
  · exact .inl h
  · refine .inr ⟨g, cap, cur, a, b, ?_, d⟩
    rw [Lib.iterAt_other _ _ _ _ _ (by rintro rfl; rw [hk] at c; cases c)]
    exact c
theorem own_not_iter {w : World} {base : Nat} {e : TypeId} {size : Nat} {v : Value} {n : Nat} {xs : List Value} (h : w.ownsRow base e size v n xs) {k : Nat} {s : ByteArray} {p : Nat} (hk : w.heap[k]? = some (.stringIter s p)) : some k ≠ v.ownBlock := by
  rcases h.2 with ⟨rfl, _⟩ | ⟨g, cap, cur, rfl, b, c, d⟩
  · simp [Value.ownBlock]
  · intro e
    have : k = g := by simpa [Value.ownBlock] using e
    subst this
    rw [hk] at c; cases c

set_option maxRecDepth 100000 in
set_option maxHeartbeats 1600000 in
theorem read_any (A : Option Addr) (c : Nat) (l : List UInt8) (w : World) (hB : Bs w A l) (hc : l.length ≤ c) (hl : l.length * 4 ≤ 140737488355324) (hT : Lib.Utf8Tabs 1 2 w) :
    Calls Tryd.prog 23 #[.slice A l.length c] w (SomeRead w (readF l)) := by
  have hv := valid_any A l c w hB hc hT
  have HB := Aside.mk hB
  clear hB hT
  by_cases hval : Lib.validD l = true
  · rw [hval] at hv
    have HVal := Aside.mk hval
    have HV := Aside.mk hv
    clear hv hval
    go_enter Tryd.func23, Tryd.ntmps23
    go_wp2_with (go_at_call 75; go_must (refine HV.out.mono ?_; rintro e w1 ⟨rfl, hb1⟩; have hcv := conv_bs (HB.out.below hb1) c))
    have hsz : (⟨l.toArray⟩ : ByteArray).size = l.length := by simp [ByteArray.size]
    have hlist : (⟨l.toArray⟩ : ByteArray).data.toList = l := by simp
    obtain ⟨S, hS⟩ : ∃ S : ByteArray, (⟨l.toArray⟩ : ByteArray) = S := ⟨_, rfl⟩
    rw [hS] at hsz hlist ⊢
    have Hlist := Aside.mk hlist
    have Hb1 := Aside.mk hb1
    clear hS hcv hlist
    go_loopw [4] (fun v wr => ∃ (k : Nat) (acc : List Int), k ≤ l.length ∧ Aside (wr.heap[w1.heap.size]? = some (.stringIter S k)) ∧ Aside (ReadTo w l k v wr acc)) (fun _ wr => l.length - wr.iterPos w1.heap.size)
    case atStart => exact ⟨0, [], Nat.zero_le _, ⟨World.iter_heap _ _ _⟩, ⟨OwnN.nil _ _ _ _, rfl, rfl, by simp, below_alloc Hb1.out _⟩⟩
    case round =>
      obtain ⟨k, acc, hk, HI, HT⟩ := hrel
      have hal := HT.out.len
      have hbw := HT.out.below
      by_cases hlt : k < l.length
      · have hnx : ∀ ty, (Instr.next (.pointer (some ⟨w1.heap.size, 0, none⟩)) true ty).run Tryd.prog wr = _ := fun ty => Lib.run_next_any_at wr w1.heap.size S k ty HI.out (by omega)
        have hdec : Lib.decodeL (l.drop k) = Utf8.decode S k := by rw [← Hlist.out]; exact Lib.decodeL_drop S k
        have hw := Lib.decodeL_width (l.drop k)
        have hwl := Lib.decodeL_le (l.drop k) (drop_ne hlt)
        rw [List.length_drop] at hwl
        have hg : badStep (l.drop k) = false := by
          rcases hb : badStep (l.drop k) with _ | _
          · rfl
          · have := HT.out.valid
            rw [badStep_valid (drop_ne hlt) hb, HVal.out] at this
            cases this
        rw [hdec] at hw hwl
        have Hdec := Aside.mk hdec
        have Hg := Aside.mk hg
        obtain ⟨r, hr⟩ : ∃ r : Nat, (Utf8.decode S k).1 = r := ⟨_, rfl⟩
        obtain ⟨n, hn⟩ : ∃ n : Nat, (Utf8.decode S k).2 = n := ⟨_, rfl⟩
        rw [hr, hn] at hnx
        rw [hn] at hw hwl
        have hO := own_iterAt HT.out.own HI.out (k + n)
        have hb2 := Lib.below_iterAt hbw (k := w1.heap.size) Hb1.out.size S (k + n)
        have hI2 := Lib.iterAt_heap wr w1.heap.size S k (k + n) HI.out
        have HO := Aside.mk hO
        have HI2 := Aside.mk hI2
        have Hr := Aside.mk hr
        have Hn := Aside.mk hn
        clear hO hI2 hdec hg hr hn
        generalize wr.iterAt w1.heap.size S (k + n) = W2 at hnx HO hb2 HI2
        go_wp2_with (at_builtin; go_must (refine app_lit (w0 := w) w.heap.size rfl (.tmp 16) (.tmp 18) 22 21 (.int .i32 0) 1 4 _ rfl Tryd.underlying22 info21 rfl (by decide) _ acc.length 1 (nums .i32 acc) (nums .i32 [(r : Int)]) rfl rfl rfl rfl (nums_one _ _) HO.out hb2 hb2.size (by omega) (by omega) ?_))
        intro v1 w3 hown hb3 hg3 _
        have HO3 := Aside.mk (own_n hown)
        have HI3 := Aside.mk ((hg3.block w1.heap.size (Array.getElem?_eq_some_iff.1 HI2.out).1 (own_not_iter HO.out HI2.out)).trans HI2.out)
        clear hown hg3
        go_wp2
        go_roundw
        case rel => exact ⟨k + n, acc ++ [(r : Int)], by omega, HI3, ⟨by
          have h := HT.out.next hlt Hg.out (by rw [Hdec.out, Hr.out]; exact HO3.out) hb3
          rw [Hdec.out, Hr.out, Hn.out] at h
          exact h⟩⟩
        case measure => rw [iterPos_of HI3.out, iterPos_of HI.out]; omega
      · obtain rfl : k = l.length := by omega
        have HF := Aside.mk HT.out.fin
        have hnx : ∀ ty, (Instr.next (.pointer (some ⟨w1.heap.size, 0, none⟩)) true ty).run Tryd.prog wr = _ := fun ty => Lib.run_next_end_at wr w1.heap.size S l.length ty HI.out (by omega)
        go_wp2
        go_ret2
        exact ⟨_, by rw [HF.out.2]; rfl, HF.out.1, HT.out.below⟩
  · have hvf : Lib.validD l = false := by simpa using hval
    rw [hvf] at hv
    have HV := Aside.mk hv
    have HR := Aside.mk (readF_f hvf)
    clear hv hval hvf
    go_enter Tryd.func23, Tryd.ntmps23
    go_wp2_with (go_at_call 75; go_must (refine HV.out.mono ?_; rintro e w1 ⟨rfl, hb1⟩))
    go_ret2
    exact ⟨_, by rw [HR.out]; rfl, by rw [HR.out]; exact OwnN.nil _ _ _ _, hb1⟩
end Go.Proofs.YtaejlgdmalhhnaaDoor
