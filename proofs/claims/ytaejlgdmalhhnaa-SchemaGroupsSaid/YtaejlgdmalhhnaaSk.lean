/- Layer 4: known. -/
import Derived.Test.YtaejlgdmalhhnaaSj
set_option linter.unusedVariables false
set_option linter.unusedSimpArgs false
namespace Go.Proofs.Ytaejlgdmalhhnaa
open Go.RowKit Go.Maps

def kk1 : List Ky := [⟨9, true, 1, false, false, 1⟩, ⟨5, true, 2, false, false, 1⟩, ⟨7, true, 3, false, false, 1⟩, ⟨1, false, 4, false, false, 0⟩]
def kk2 : List Ky := [⟨3, false, 1, false, false, 0⟩, ⟨3, false, 1, false, false, 0⟩]
def kkObj1 : Obj := .cells #[.int .i64 9, .bool true, .int .u8 1, .bool false, .bool false, .int .i64 1, .int .i64 5, .bool true, .int .u8 2, .bool false, .bool false, .int .i64 1, .int .i64 7, .bool true, .int .u8 3, .bool false, .bool false, .int .i64 1, .int .i64 1, .bool false, .int .u8 4, .bool false, .bool false, .int .i64 0] 25
def kkObj2 : Obj := .cells #[.int .i64 3, .bool false, .int .u8 1, .bool false, .bool false, .int .i64 0, .int .i64 3, .bool false, .int .u8 1, .bool false, .bool false, .int .i64 0] 25
theorem kk1_ok : okKs kk1 = true := by decide
theorem kk2_ok : okKs kk2 = false := by decide
theorem src_new (w : World) (cs : Array Value) (ks : List Ky) (h : cs.toList = kcells ks) : KSrc (w.alloc (.cells cs 25)) (some ⟨w.heap.size, 0, none⟩) ks := by
  refine ⟨(fun e => (by cases e)), fun ad e j k hj i v hi => ?_⟩
  cases e
  have h2 : (w.alloc (.cells cs 25)).heap[w.heap.size]? = some (.cells cs 25) := heap_alloc_new w _
  have h3 := kcells_get ks j k hj i v hi
  rw [addr_add_plain]
  unfold World.cell?
  simp only [h2]
  rw [← Array.getElem?_toList, h]
  exact h3
theorem kk1_group (srt : List Ky) (hp : srt.Perm kk1) (hs : sortedK srt) : srt.length = 4 ∧ groupK kk1 srt 7 = [5, 9] := by
  have h := rises_of hp hs (by decide : kk1.Pairwise (fun a b => a.id ≠ b.id))
  have e : srt = [⟨1, false, 4, false, false, 0⟩, ⟨5, true, 2, false, false, 1⟩, ⟨7, true, 3, false, false, 1⟩, ⟨9, true, 1, false, false, 1⟩] :=
    rises_unique (hp.trans (by decide)) h (by unfold risesK; decide)
  subst e
  exact ⟨rfl, by decide⟩
set_option maxRecDepth 100000 in
set_option maxHeartbeats 1000000 in
theorem known4_any (w : World) : Calls Try.prog 4 #[] w fun e w' => e = .returned (.bool true) ∧ Below w.heap.size w w' := by
  have N1 := Aside.mk (fun (W : World) => show Calls Try.prog 5 #[.slice (some ⟨W.heap.size, 0, none⟩) 4 4] (W.alloc kkObj1) (NewPost (W.alloc kkObj1) kk1) from
    new_any (some ⟨W.heap.size, 0, none⟩) 4 kk1 (W.alloc kkObj1) (by decide) (src_new W _ kk1 rfl) (fun e => by cases e) (by decide) (by decide))
  have N2 := Aside.mk (fun (W : World) => show Calls Try.prog 5 #[.slice (some ⟨W.heap.size, 0, none⟩) 2 2] (W.alloc kkObj2) (NewPost (W.alloc kkObj2) kk2) from
    new_any (some ⟨W.heap.size, 0, none⟩) 2 kk2 (W.alloc kkObj2) (by decide) (src_new W _ kk2 rfl) (fun e => by cases e) (by decide) (by decide))
  unfold kkObj1 at N1
  unfold kkObj2 at N2
  go_enter Try.func4, Try.ntmps4
  go_wp2_with fail
  (with_reducible refine (N1.out _).mono ?_)
  rintro e w1 ⟨hb1, h1⟩
  rw [kk1_ok, if_pos rfl] at h1
  obtain ⟨v, srt, rfl, hS, hv, hp, hs⟩ := h1
  obtain ⟨h4, hg⟩ := kk1_group srt hp hs
  have hsp : ∃ so, v = .pointer so := by rcases hS with ⟨rfl, _⟩ | ⟨g, A, c, m, rfl, _⟩ <;> exact ⟨_, rfl⟩
  obtain ⟨so, rfl⟩ := hsp
  have G := Aside.mk (group_any 7 w1 hS (by decide) (by omega))
  rw [hg] at G
  have HB1 := Aside.mk (below_then (below_alloc (below_refl w) kkObj1) hb1)
  have HS := Aside.mk hS
  have H4 := Aside.mk h4
  clear hS hv hp hs hg hb1 h4
  go_wp2_with fail
  (with_reducible refine G.out.mono ?_)
  rintro e w2 ⟨u, rfl, ho, hb2⟩
  obtain ⟨A2, c2, rfl, hc2, hn2⟩ := ho.reads
  have HN2 := Aside.mk hn2
  have HB2 := Aside.mk (below_then HB1.out hb2)
  have HS2 := Aside.mk (HS.out.below hb2)
  have HC2 := Aside.mk (show 2 ≤ c2 from hc2)
  clear ho hc2 hn2 hb2
  go_wp2_with fail
  (with_reducible refine (N2.out _).mono ?_)
  rintro e w3 ⟨hb3, h3⟩
  rw [kk2_ok] at h3
  obtain rfl : e = .returned (.tuple #[.pointer none, .int .i64 3]) := h3
  have HB3 := Aside.mk (below_then HB2.out (below_then (below_alloc (below_refl w2) kkObj2) hb3))
  have HS3 := Aside.mk ((HS2.out.below (below_alloc (below_refl w2) kkObj2)).below hb3)
  obtain ⟨ad, rfl, hc⟩ := ((HN2.out.below (below_alloc (below_refl w2) kkObj2)).below hb3).2 (by decide)
  have a0 : w3.cell? ad = some (.int .i64 5) := hc 0 (by decide)
  have a1 : w3.cell? ⟨ad.block, ad.off + 1, none⟩ = some (.int .i64 9) := hc 1 (by decide)
  have hc2z : (2 : Int) ≤ (c2 : Int) := by have := HC2.out; omega
  clear hb3 hc
  have HL := Aside.mk (len_any w3 HS3.out)
  rw [H4.out] at HL
  go_wp2_with fail
  (with_reducible refine HL.out.mono ?_)
  rintro e w4 ⟨rfl, rfl⟩
  go_wp2
  go_ret
  exact ⟨rfl, HB3.out⟩
end Go.Proofs.Ytaejlgdmalhhnaa
