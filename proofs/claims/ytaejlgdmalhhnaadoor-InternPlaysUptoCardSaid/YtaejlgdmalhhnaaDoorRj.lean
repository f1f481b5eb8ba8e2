/- Layer 1: the contracts as slices that are read; the known case. -/
import Derived.Test.YtaejlgdmalhhnaaDoorRi
namespace Go.Proofs.YtaejlgdmalhhnaaDoor
open Go.RowKit

theorem enc_range {r : Int} (h : may r = true) : ∀ x ∈ enc r, 0 ≤ x ∧ x < 256 := by
  obtain ⟨h0, h1, _⟩ := may_cases h
  intro x hx
  unfold enc at hx
  (repeat' split at hx) <;> simp at hx <;> omega
theorem bytesF_range (l : List Int) : ∀ x ∈ (bytesF l).1, 0 ≤ x ∧ x < 256 := by
  unfold bytesF
  split
  · rename_i h
    intro x hx
    simp only [List.mem_flatMap] at hx
    obtain ⟨r, hr, hx⟩ := hx
    exact enc_range (List.all_eq_true.1 h r hr) x hx
  · simp
/-- The text of runes as bytes. -/
def bytesU (l : List Int) : List UInt8 := toU (bytesF l).1
def bytesE (l : List Int) : Int := (bytesF l).2
theorem ints_bytesU (l : List Int) : ints (bytesU l) = (bytesF l).1 := ints_toU (bytesF_range l)

def BytesRes (w : World) (u : List UInt8) (n : Int) (e : Ending) (w' : World) : Prop :=
  ∃ A1 c1, e = .returned (.tuple #[.slice A1 u.length c1, .int .i64 n]) ∧ u.length ≤ c1 ∧ Bs w' A1 u ∧ Below w.heap.size w w'
def ReadRes (w : World) (x : List Int) (n : Int) (e : Ending) (w' : World) : Prop :=
  ∃ A1 c1, e = .returned (.tuple #[.slice A1 x.length c1, .int .i64 n]) ∧ x.length ≤ c1 ∧ Nums w' .i32 A1 x ∧ Below w.heap.size w w'
theorem BytesRes.of {w : World} {l : List Int} {e : Ending} {w' : World} (h : SomeBytes w (bytesF l) e w') : BytesRes w (bytesU l) (bytesE l) e w' := by
  obtain ⟨v, rfl, hown, hb⟩ := h
  obtain ⟨A1, c1, rfl, hc, hn⟩ := hown.reads
  have e : (bytesU l).length = (bytesF l).1.length := by rw [← ints_length, ints_bytesU]
  exact ⟨A1, c1, by rw [e]; rfl, by rw [e]; exact hc, by unfold Bs; rw [ints_bytesU]; exact hn, hb⟩
theorem ReadRes.of {w : World} {r : List Int × Int} {e : Ending} {w' : World} (h : SomeRead w r e w') : ReadRes w r.1 r.2 e w' := by
  obtain ⟨v, rfl, hown, hb⟩ := h
  obtain ⟨A1, c1, rfl, hc, hn⟩ := hown.reads
  exact ⟨A1, c1, rfl, hc, hn, hb⟩
theorem bytes_s (A : Option Addr) (c : Nat) (l : List Int) (w : World) (hn : Nums w .i32 A l) (hl : l.length * 4 ≤ 140737488355324) :
    Calls Tryd.prog 21 #[.slice A l.length c] w (BytesRes w (bytesU l) (bytesE l)) := (bytes_any A c l w hn hl).mono fun _ _ h => .of h
theorem refBytes_s (A : Option Addr) (c : Nat) (l : List Int) (w : World) (hn : Nums w .i32 A l) (hl : l.length * 4 ≤ 140737488355324) :
    Calls Tryd.prog 22 #[.slice A l.length c] w (BytesRes w (bytesU l) (bytesE l)) := (refBytes_any A c l w hn hl).mono fun _ _ h => .of h
theorem read_s (A : Option Addr) (c : Nat) (l : List UInt8) (w : World) (hB : Bs w A l) (hc : l.length ≤ c) (hl : l.length * 4 ≤ 140737488355324) (hT : Lib.Utf8Tabs 1 2 w) :
    Calls Tryd.prog 23 #[.slice A l.length c] w (ReadRes w (readF l).1 (readF l).2) := (read_any A c l w hB hc hl hT).mono fun _ _ h => .of h
theorem refRead_s (A : Option Addr) (c : Nat) (l : List UInt8) (w : World) (hB : Bs w A l) (hc : l.length ≤ c) (hl : l.length * 4 ≤ 140737488355324) :
    Calls Tryd.prog 24 #[.slice A l.length c] w (ReadRes w (readF l).1 (readF l).2) := (refRead_any A c l w hB hc hl).mono fun _ _ h => .of h

theorem Nums.lit {w : World} (k : IntKind) (xs : List Int) (e : TypeId) (h : xs.length ≤ 9223372036854775807) : Nums (w.alloc (.cells (nums k xs).toArray e)) k (some ⟨w.heap.size, 0, none⟩) xs := by
  refine ⟨h, fun hn => ⟨_, rfl, fun j hj => ?_⟩⟩
  exact World.news_of_block (cs := (nums k xs).toArray) (t := e) (fr := (0, 0)) (heap_alloc_new w _) j _ (by
    simp [nums, List.getElem?_eq_getElem hj, List.getD_eq_getElem?_getD])

set_option maxRecDepth 100000 in
set_option maxHeartbeats 400000 in
theorem known1_any (w : World) (hT : Lib.Utf8Tabs 1 2 w) : Calls Tryd.prog 20 #[] w fun e w' => e = .returned (.bool true) ∧ Below w.heap.size w w' := by
  have k1 : bytesU [97, 10, 228] = [97, 10, 195, 164] := by decide
  have k2 : bytesE [97, 10, 228] = 0 := by decide
  have k3 : (readF [192, 128]).1 = [] := by decide +kernel
  have k4 : (readF [192, 128]).2 = 3 := by decide +kernel
  have c1 : Calls Tryd.prog 21 #[.slice (some ⟨w.heap.size, 0, none⟩) 3 3] (w.alloc (.cells #[.int .i32 97, .int .i32 10, .int .i32 228] 21)) (BytesRes (w.alloc (.cells #[.int .i32 97, .int .i32 10, .int .i32 228] 21)) [97, 10, 195, 164] 0) := by
    have := bytes_s (some ⟨w.heap.size, 0, none⟩) 3 [97, 10, 228] _ (Nums.lit (w := w) .i32 [97, 10, 228] 21 (by decide)) (by decide)
    rw [k1, k2] at this
    exact this
  have c2 : ∀ W : World, Lib.Utf8Tabs 1 2 W → Calls Tryd.prog 23 #[.slice (some ⟨W.heap.size, 0, none⟩) 2 2] (W.alloc (.cells #[.int .u8 192, .int .u8 128] 5)) (ReadRes (W.alloc (.cells #[.int .u8 192, .int .u8 128] 5)) [] 3) := fun W hW => by
    have := read_s (some ⟨W.heap.size, 0, none⟩) 2 [192, 128] _ (Nums.lit (w := W) .u8 (ints [192, 128]) 5 (by decide)) (by decide) (by decide) (tabs_below hW (below_alloc (below_refl W) _))
    rw [k3, k4] at this
    exact this
  have c3 : ∀ W : World, Calls Tryd.prog 28 #[.slice (some ⟨W.heap.size, 0, none⟩) 3 3] (W.alloc (.cells #[.int .i32 10, .int .i32 97, .int .i32 10] 21)) fun e w' => e = .returned (.int .i64 2) ∧ W.alloc (.cells #[.int .i32 10, .int .i32 97, .int .i32 10] 21) = w' := fun W =>
    newlines_any (some ⟨W.heap.size, 0, none⟩) 3 [10, 97, 10] _ (Nums.lit (w := W) .i32 [10, 97, 10] 21 (by decide))
  have c4 : ∀ W : World, Calls Tryd.prog 26 #[.int .i32 55296] W fun e w' => e = .returned (.bool false) ∧ W = w' := fun W => may_any 55296 W
  have C1 := Aside.mk c1
  have C2 := Aside.mk c2
  have C3 := Aside.mk c3
  have C4 := Aside.mk c4
  have HT := Aside.mk hT
  clear c1 c2 c3 c4 k1 k2 k3 k4 hT
  go_enter Tryd.func20, Tryd.ntmps20
  go_wp2_with fail
  (with_reducible refine C1.out.mono ?_)
  rintro e w1 ⟨A1, n1, rfl, hn1, hbs1, hb1⟩
  have HB1 := Aside.mk hbs1
  have Hb1 := Aside.mk (below_then (below_alloc (below_refl w) _) hb1)
  have hT1 := C2.out w1 (tabs_below HT.out Hb1.out)
  have HT1 := Aside.mk hT1
  clear hbs1 hb1 hT1
  go_wp2_with fail
  (with_reducible refine HT1.out.mono ?_)
  rintro e w2 ⟨A2, n2, rfl, hn2, hbs2, hb2⟩
  have Hb2 := Aside.mk (below_then Hb1.out (below_then (below_alloc (below_refl w1) _) hb2))
  have hcv : (convert 23 9 (.slice A1 4 n1)).run Tryd.prog w2 = .ok (.string ⟨#[97, 10, 195, 164]⟩) w2 := conv_bs ((HB1.out.below (below_then (below_alloc (below_refl w1) _) hb2))) n1
  clear hbs2 hb2
  go_wp2_with (first | (go_at_call 28; go_must (refine (C3.out _).mono ?_; rintro e w' ⟨rfl, rfl⟩)) | (go_at_call 26; go_must (refine (C4.out _).mono ?_; rintro e w' ⟨rfl, rfl⟩)))
  go_ret
  exact ⟨rfl, below_alloc Hb2.out _⟩
end Go.Proofs.YtaejlgdmalhhnaaDoor
