/- Layer 3: Text; May at texts; May whole. -/
import Derived.Test.YtaejlgdmalhhnaaDoorVb
import Derived.Test.YtaejlgdmalhhnaaDoorRq
set_option linter.unusedVariables false
namespace Go.Proofs.YtaejlgdmalhhnaaDoor
open Go.RowKit

/-- Whether a text may be a value's. -/
def okText (s : ByteArray) : Bool := decide (s.size ≤ 64) && Lib.validD s.data.toList
theorem conv_sb (s : ByteArray) (W : World) :
    (convert 9 23 (.string s)).run Tryd.prog W = .ok (.slice (some ⟨W.heap.size, 0, none⟩) s.size (grownCap W s.size 0 5)) (Lib.bytesWorld W 5 s) :=
  Lib.run_convert_string_bytes W 9 23 5 s Tryd.underlying9 Tryd.underlying23 Tryd.underlying5
theorem toList_length (s : ByteArray) : s.data.toList.length = s.size := by rw [Array.length_toList]; rfl
theorem bytes_reads (W : World) (s : ByteArray) (hs : s.size ≤ 9223372036854775807) : Bs (Lib.bytesWorld W 5 s) (some ⟨W.heap.size, 0, none⟩) s.data.toList := by
  unfold Bs
  have hl := toList_length s
  refine ⟨by rw [ints_length, hl]; exact hs, fun _ => ⟨_, rfl, fun j hj => ?_⟩⟩
  rw [ints_length, hl] at hj
  rw [addr_add_plain, Lib.bytesWorld_cell W 5 s j hj, ints_getD]
theorem below_bytes (W : World) (s : ByteArray) : Below W.heap.size W (Lib.bytesWorld W 5 s) :=
  ⟨rfl, rfl, rfl, by rw [Lib.bytesWorld_size]; omega, fun i hi => Lib.bytesWorld_at_old W 5 s i (by omega)⟩

/-- A block that the call laid, in a later world. -/
theorem kept_new {w w1 : World} {cs : Array Value} {e : TypeId} (h : Below (w.alloc (.cells cs e)).heap.size (w.alloc (.cells cs e)) w1) :
    (∀ i, w1.cell? ⟨w.heap.size, i, none⟩ = cs[i]?) ∧ (∀ i, w1.frozen? ⟨w.heap.size, i, none⟩ = false) ∧ w.heap.size < w1.heap.size := by
  have hz : w.heap.size < (w.alloc (.cells cs e)).heap.size := by simp
  have hb := (h.block w.heap.size hz).trans (heap_alloc_new w (.cells cs e))
  refine ⟨fun i => ?_, fun i => ?_, Nat.lt_of_lt_of_le hz h.size⟩
  · simp [World.cell?, hb]
  · simp [World.frozen?, hb]
/-- The program's Read of a text's bytes: the error's number. -/
theorem read_text (s : ByteArray) (W : World) (hs : s.size * 4 ≤ 140737488355324) (hT : Lib.Utf8Tabs 1 2 W) :
    Calls Tryd.prog 23 #[.slice (some ⟨W.heap.size, 0, none⟩) s.size (grownCap W s.size 0 5)] (Lib.bytesWorld W 5 s) (ReadRes (Lib.bytesWorld W 5 s) (readF s.data.toList).1 (readF s.data.toList).2) := by
  have h := read_s (some ⟨W.heap.size, 0, none⟩) (grownCap W s.size 0 5) s.data.toList (Lib.bytesWorld W 5 s) (bytes_reads W s (by omega)) (by rw [toList_length]; exact grownCap_ge _ _ _ _) (by rw [toList_length]; exact hs) (tabs_below hT (below_bytes W s))
  rw [toList_length] at h
  exact h
def TextPost (s : ByteArray) (w : World) (e : Ending) (w' : World) : Prop :=
  (if okText s then e = .returned (.tuple #[.agg #[.int .u8 4, .int .i64 0, .int .u64 0, .string s], .int .i64 0]) else e = .returned (.tuple #[.agg #[.int .u8 0, .int .i64 0, .int .u64 0, .string ⟨#[]⟩], .int .i64 3])) ∧ Below w.heap.size w w'
theorem TextPost.yes {s : ByteArray} {w w' : World} (h : okText s = true) (hb : Below w.heap.size w w') : TextPost s w (.returned (.tuple #[.agg #[.int .u8 4, .int .i64 0, .int .u64 0, .string s], .int .i64 0])) w' := by
  unfold TextPost; rw [if_pos h]; exact ⟨rfl, hb⟩
theorem TextPost.no {s : ByteArray} {w w' : World} (h : okText s = false) (hb : Below w.heap.size w w') : TextPost s w (.returned (.tuple #[.agg #[.int .u8 0, .int .i64 0, .int .u64 0, .string ⟨#[]⟩], .int .i64 3])) w' := by
  unfold TextPost; rw [if_neg (by simp [h])]; exact ⟨rfl, hb⟩
def zeroObj : Obj := .cells #[.int .u8 0, .int .i64 0, .int .u64 0, .string ⟨#[]⟩] 56
set_option maxRecDepth 100000 in
set_option maxHeartbeats 1000000 in
theorem text_any (s : ByteArray) (w : World) (hT : Lib.Utf8Tabs 1 2 w) : Calls Tryd.prog 43 #[.string s] w (TextPost s w) := by
  by_cases hl : s.size ≤ 64
  · have g1 : ¬ ((64 : Int) < (s.size : Int)) := by omega
    have hcv := fun W => conv_sb s W
    have HT := Aside.mk hT
    have hrd : ∀ W, Below w.heap.size w W → Calls Tryd.prog 23 #[.slice (some ⟨W.heap.size, 0, none⟩) s.size (grownCap W s.size 0 5)] (Lib.bytesWorld W 5 s) (ReadRes (Lib.bytesWorld W 5 s) (readF s.data.toList).1 (readF s.data.toList).2) := fun W hb => read_text s W (by omega) (tabs_below HT.out hb)
    have HR := Aside.mk hrd
    clear hT hrd
    rcases readF_cases s.data.toList with ⟨hv, he⟩ | ⟨hv, he, hu⟩
    · have hok : okText s = true := by unfold okText; rw [decide_eq_true hl, hv]; rfl
      have HO := Aside.mk hok
      rw [he] at HR
      clear hv he hok
      obtain ⟨u, hu⟩ : ∃ u, (readF s.data.toList).1 = u := ⟨_, rfl⟩
      rw [hu] at HR
      clear hu
      have C1 := Aside.mk (show Calls Tryd.prog 23 #[.slice (some ⟨w.heap.size + 1, 0, none⟩) s.size (grownCap (w.alloc zeroObj) s.size 0 5)] (Lib.bytesWorld (w.alloc zeroObj) 5 s) (ReadRes (Lib.bytesWorld (w.alloc zeroObj) 5 s) u 0) by
        have h := HR.out (w.alloc zeroObj) (below_alloc (below_refl w) _)
        rw [World.size_alloc] at h
        exact h)
      unfold zeroObj at C1
      go_enter Tryd.func43, Tryd.ntmps43
      go_wp2_with fail
      (with_reducible refine C1.out.mono ?_)
      rintro e w1 ⟨A1, n1, rfl, hn1, hr1, hb1⟩
      have hb2 := below_then (below_bytes _ s) hb1
      obtain ⟨kc, kf, kz⟩ := kept_new hb2
      have kc0 := kc 0
      have kc1 := kc 1
      have kc2 := kc 2
      have kc3 := kc 3
      simp only [List.getElem?_toArray, List.getElem?_cons_zero, List.getElem?_cons_succ] at kc0 kc1 kc2 kc3
      have Hb1 := Aside.mk (below_then (below_alloc (below_refl w) _) hb2)
      clear hr1 hb1 kc hb2
      go_wp2
      refine bodyPost_ret (v := .tuple #[.agg #[.int .u8 4, .int .i64 0, .int .u64 0, .string s], .int .i64 0]) (by simp [results, Tryd.results43, go_sem, kc0, kc1, kc2, kc3]) rfl ?_
      exact TextPost.yes HO.out (Below.setCell (Below.setCell (Below.setCell (Below.setCell Hb1.out (Nat.le_refl _) _) (Nat.le_refl _) _) (Nat.le_refl _) _) (Nat.le_refl _) _)
    · have hok : okText s = false := by unfold okText; rw [hv]; simp
      have HO := Aside.mk hok
      rw [he] at HR
      clear hv he hok hu
      obtain ⟨u, hu⟩ : ∃ u, (readF s.data.toList).1 = u := ⟨_, rfl⟩
      rw [hu] at HR
      clear hu
      have C1 := Aside.mk (show Calls Tryd.prog 23 #[.slice (some ⟨w.heap.size + 1, 0, none⟩) s.size (grownCap (w.alloc zeroObj) s.size 0 5)] (Lib.bytesWorld (w.alloc zeroObj) 5 s) (ReadRes (Lib.bytesWorld (w.alloc zeroObj) 5 s) u 3) by
        have h := HR.out (w.alloc zeroObj) (below_alloc (below_refl w) _)
        rw [World.size_alloc] at h
        exact h)
      unfold zeroObj at C1
      go_enter Tryd.func43, Tryd.ntmps43
      go_wp2_with fail
      (with_reducible refine C1.out.mono ?_)
      rintro e w1 ⟨A1, n1, rfl, hn1, hr1, hb1⟩
      have hb2 := below_then (below_bytes _ s) hb1
      obtain ⟨kc, kf, kz⟩ := kept_new hb2
      have kc0 := kc 0
      have kc1 := kc 1
      have kc2 := kc 2
      have kc3 := kc 3
      simp only [List.getElem?_toArray, List.getElem?_cons_zero, List.getElem?_cons_succ] at kc0 kc1 kc2 kc3
      have Hb1 := Aside.mk (below_then (below_alloc (below_refl w) _) hb2)
      clear hr1 hb1 kc hb2
      go_wp2
      refine bodyPost_ret (v := .tuple #[.agg #[.int .u8 0, .int .i64 0, .int .u64 0, .string ⟨#[]⟩], .int .i64 3]) (by simp [results, Tryd.results43, go_sem, kc0, kc1, kc2, kc3]) rfl ?_
      exact TextPost.no HO.out (Below.setCell (Below.setCell (Below.setCell (Below.setCell Hb1.out (Nat.le_refl _) _) (Nat.le_refl _) _) (Nat.le_refl _) _) (Nat.le_refl _) _)
  · have g1 : (64 : Int) < (s.size : Int) := by omega
    have hok : okText s = false := by unfold okText; rw [decide_eq_false hl]; rfl
    have HO := Aside.mk hok
    clear hok hT
    go_enter Tryd.func43, Tryd.ntmps43
    go_wp2
    exact bodyPost_ret (v := .tuple #[.agg #[.int .u8 0, .int .i64 0, .int .u64 0, .string ⟨#[]⟩], .int .i64 3]) (by simp [results, Tryd.results43, go_sem]) rfl (TextPost.no HO.out (below_alloc (below_refl w) _))
end Go.Proofs.YtaejlgdmalhhnaaDoor
