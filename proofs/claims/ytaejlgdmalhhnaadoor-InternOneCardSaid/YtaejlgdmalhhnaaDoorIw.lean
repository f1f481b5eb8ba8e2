/- Layer 7: InternReuse: its sets; what becomes of the table, plain. -/
import Derived.Test.YtaejlgdmalhhnaaDoorIv
set_option linter.unusedVariables false
set_option linter.unusedSimpArgs false
namespace Go.Proofs.YtaejlgdmalhhnaaDoor
open Go.RowKit Go.Maps

def rsB (j : Nat) : List UInt8 := [UInt8.ofNat (97 + j % 26), UInt8.ofNat (97 + j / 26)]
def rsA (j : Nat) : List At := [⟨3, ⟨4, 0, 0, ⟨(rsB j).toArray⟩⟩⟩]
def kR : List Ky := [⟨3, false, 4, false, false, 0⟩]
def kRObj : Obj := .cells #[.int .i64 3, .bool false, .int .u8 4, .bool false, .bool false, .int .i64 0] 97
theorem kR_ok : okKs kR = true := by decide
theorem newR (W : World) : Calls Tryd.prog 30 #[.slice (some ⟨W.heap.size, 0, none⟩) 1 1] (W.alloc kRObj) (NewPost (W.alloc kRObj) kR) :=
  new_any (some ⟨W.heap.size, 0, none⟩) 1 kR (W.alloc kRObj) (by decide) (src_new W _ kR rfl) (fun e => by cases e) (by decide) (by decide)
theorem rs_may : ∀ j < 42, mayA kR (rsA j) = 0 := by decide +kernel
theorem rs_inj {i j : Nat} (hi : i < 42) (hj : j < 42) (h : rsA i = rsA j) : i = j := by
  unfold rsA rsB at h
  simp only [List.cons.injEq, At.mk.injEq, Val.mk.injEq, ByteArray.mk.injEq, Array.mk.injEq, and_true, true_and] at h
  have h1 := u8_eq (by omega) (by omega) h.1
  have h2 := u8_eq (by omega) (by omega) h.2
  omega
/-- So many sets, each held once. -/
def rsP (n : Nat) : Ps := (List.range n).map (fun j => (rsA j, 1))
theorem rsP_len (n : Nat) : (rsP n).length = n := by simp [rsP]
theorem rsP_at {n j : Nat} (h : j < n) : (rsP n)[j]? = some (rsA j, 1) := by
  unfold rsP
  rw [List.getElem?_map, List.getElem?_range h]; rfl
theorem rsP_succ (n : Nat) : rsP (n + 1) = rsP n ++ [(rsA n, 1)] := by simp [rsP, List.range_succ]
theorem find_none_of {P : Ps} {l : List At} (h : ∀ p ∈ P, p.2 ≠ 0 → p.1 ≠ l) : findP P l = none := by
  unfold findP
  rw [List.findIdx?_eq_none_iff]
  intro p hp
  by_cases h0 : p.2 = 0
  · simp [h0]
  · simp [h p hp h0]
theorem rsP_none {n j : Nat} (hn : n ≤ j) (hj : j < 42) : findP (rsP n) (rsA j) = none := by
  refine find_none_of (fun p hp _ => ?_)
  unfold rsP at hp
  rw [List.mem_map] at hp
  obtain ⟨i, hi, rfl⟩ := hp
  rw [List.mem_range] at hi
  exact fun e => by have := rs_inj (by omega) hj e; omega
theorem rs_add {n : Nat} (h : n < 42) : addP kR (rsP n) [] 0 (rsA n) = (rsP (n + 1), [], 0, (n : Int) + 1, 0) := by
  unfold addP
  rw [if_neg (by rw [rs_may n h]; simp), if_neg (by simp [rsA]), rsP_none (Nat.le_refl n) h]
  simp [rsP_len, rsP_succ]
theorem ask_at {P : Ps} {empty : Int} {k : Nat} {p : List At × Int} (hp : P[k]? = some p) (h0 : p.2 ≠ 0) : askP P empty ((k : Int) + 1) = (p.2, 0) := by
  unfold askP
  rw [if_neg (by omega), if_neg (by omega), show ((k : Int) + 1 - 1).toNat = k by omega, hp]
  simp only
  rw [if_neg h0]
theorem rs_free {n k : Nat} (h : k < n) : freeP (rsP n) [] 0 ((k : Int) + 1) = ((rsP n).set k ([], 0), [(k : Int)], 0, 0) := by
  unfold freeP
  rw [ask_at (rsP_at h) (by simp), if_neg (by simp), if_neg (by omega), show ((k : Int) + 1 - 1).toNat = k by omega, rsP_at h]
  simp
theorem rs_again {n k : Nat} (h : k < n) (hn : n < 41) : addP kR ((rsP n).set k ([], 0)) [(k : Int)] 0 (rsA n) = ((rsP n).set k (rsA n, 1), [], 0, (k : Int) + 1, 0) := by
  have hf : findP ((rsP n).set k ([], 0)) (rsA n) = none := by
    refine find_none_of (fun p hp h0 => ?_)
    rcases List.mem_or_eq_of_mem_set hp with hp | rfl
    · exact findP_none (rsP_none (Nat.le_refl n) (by omega)) p hp h0
    · exact absurd rfl h0
  unfold addP
  rw [if_neg (by rw [rs_may n (by omega)]; simp), if_neg (by simp [rsA]), hf]
  simp
theorem rs_next {n k : Nat} (h : k < n) (hn : n < 41) : addP kR ((rsP n).set k (rsA n, 1)) [] 0 (rsA (n + 1)) = ((rsP n).set k (rsA n, 1) ++ [(rsA (n + 1), 1)], [], 0, (n : Int) + 1, 0) := by
  have hf : findP ((rsP n).set k (rsA n, 1)) (rsA (n + 1)) = none := by
    refine find_none_of (fun p hp h0 => ?_)
    rcases List.mem_or_eq_of_mem_set hp with hp | rfl
    · exact findP_none (rsP_none (Nat.le_succ n) (by omega)) p hp h0
    · exact fun e => by have := rs_inj (by omega) (by omega) e; omega
  unfold addP
  rw [if_neg (by rw [rs_may (n + 1) (by omega)]; simp), if_neg (by simp [rsA]), hf]
  simp [rsP_len]
/-- The world behind the making of a set. -/
def rsW (w : World) (j : Nat) : World := (w.alloc (.cells #[.int .u8 (97 + (j : Int) % 26), .int .u8 (97 + (j : Int) / 26)] 5)).alloc (.cells #[.int .i64 3, .int .u8 4, .int .i64 0, .int .u64 0, .string ⟨(rsB j).toArray⟩] 58)
set_option maxRecDepth 100000 in
theorem rs_any (j : Nat) (w : World) (hj : j < 42) : Calls Tryd.prog 70 #[.int .i64 (j : Int)] w fun e w' => e = .returned (.slice (some ⟨w.heap.size + 1, 0, none⟩) 1 1) ∧ w' = rsW w j := by
  have g0 : (0 : Int) ≤ (j : Int) := by omega
  have g1 : (j : Int) ≤ 41 := by omega
  have hcv : (convert 23 9 (.slice (some ⟨w.heap.size, 0, none⟩) 2 2)).run Tryd.prog (w.alloc (.cells #[.int .u8 (97 + (j : Int) % 26), .int .u8 (97 + (j : Int) / 26)] 5)) = .ok (.string ⟨(rsB j).toArray⟩) (w.alloc (.cells #[.int .u8 (97 + (j : Int) % 26), .int .u8 (97 + (j : Int) / 26)] 5)) := by
    have hi : ints (rsB j) = [97 + (j : Int) % 26, 97 + (j : Int) / 26] := by
      unfold rsB ints
      simp
      omega
    refine conv_back (rsB j) _ _ ⟨some ⟨w.heap.size, 0, none⟩, 2, by rw [hi]; rfl, fun e => (by cases e), ?_⟩
    rw [hi]
    have hh := heap_alloc_new w (.cells #[.int .u8 (97 + (j : Int) % 26), .int .u8 (97 + (j : Int) / 26)] 5)
    refine ⟨by simp, fun _ => ⟨_, rfl, fun t ht => ?_⟩⟩
    rw [addr_add_plain]
    have ht' : t = 0 ∨ t = 1 := by simp at ht; omega
    rcases ht' with rfl | rfl
    · exact cell_at hh rfl
    · exact cell_at hh rfl
  unfold rsW
  go_enter Tryd.func70, Tryd.ntmps70
  go_wp2
  go_ret
  exact ⟨rfl, rfl⟩
theorem rs_src (w : World) (j : Nat) : ASrc (rsW w j) (some ⟨w.heap.size + 1, 0, none⟩) (rsA j) := by
  have h := asrc_new (w.alloc (.cells #[.int .u8 (97 + (j : Int) % 26), .int .u8 (97 + (j : Int) / 26)] 5)) _ (rsA j) (show (#[.int .i64 3, .int .u8 4, .int .i64 0, .int .u64 0, .string ⟨(rsB j).toArray⟩] : Array Value).toList = acells (rsA j) from rfl)
  rw [World.size_alloc] at h
  exact h
theorem rsW_below (w : World) (j : Nat) : Below w.heap.size w (rsW w j) := below_alloc (below_alloc (below_refl w) _) _
variable {w W W' : World} {tb : Nat} {so : Option Addr} {mb lo hi : Nat} {ks srt : List Ky} {P : Ps} {free : List Int} {empty : Int} {cnt : Nat} {O : Nat → Prop}
theorem run_rs (j : Nat) (h : Run w W tb so mb lo hi ks srt P free empty cnt O) (hcn : cnt ≤ 100000) (hT : Lib.Utf8Tabs 1 2 w) {P' : Ps} {free' : List Int} {empty' id err : Int} (ha : addP ks P free empty (rsA j) = (P', free', empty', id, err)) :
    Calls Tryd.prog 35 #[.pointer (some ⟨tb, 0, none⟩), .slice (some ⟨W.heap.size + 1, 0, none⟩) 1 1] (rsW W j) (RunPost w (rsW W j) tb so mb lo hi ks srt P' free' empty' (cnt + 1) O (.tuple #[.int .i64 id, .int .i64 err])) :=
  run_add (some ⟨W.heap.size + 1, 0, none⟩) 1 (rsA j) (h.later (rsW_below W j)) hcn hT (rs_src W j) (by simp [rsA]) (by simp [rsA]) (fun e => by cases e) (fun a ha hO => by cases ha; have := (h.tab.lt _ hO).2; simp at this; omega) (fun a ha => by simp [rsA] at ha; subst ha; exact ⟨(show (Lit.int .i64 3).wf = true by decide), (show (Lit.int .i64 0).wf = true by decide), (show (0 : Nat) < 18446744073709551616 by decide)⟩) ha
end Go.Proofs.YtaejlgdmalhhnaaDoor
