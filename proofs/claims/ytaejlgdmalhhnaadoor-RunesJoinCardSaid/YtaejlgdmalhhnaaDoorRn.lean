/- Layer 1: the walk of the statement RunesJoin. -/
import Derived.Test.YtaejlgdmalhhnaaDoorRr
import Derived.Test.YtaejlgdmalhhnaaDoorRk
set_option linter.unusedVariables false
namespace Go.Proofs.YtaejlgdmalhhnaaDoor
open Go.RowKit

/-- 'a[k:]' of runes, 'x[:k]' of bytes, as the walk meets them. -/
theorem cut_i32 {A : Option Addr} {l : List Int} {c : Nat} (i : Int) (k : Nat) (hi : i = (k : Int)) (hk : k ≤ l.length) (hc : l.length ≤ c) :
    ∃ (A1 : Option Addr), (∀ W : World, (Instr.slice 22 (.slice A l.length c) (some (.int .i64 i)) none none).run Tryd.prog W = .ok (.slice A1 (l.drop k).length (c - k)) W) ∧
      ∀ w, Nums w .i32 A l → Nums w .i32 A1 (l.drop k) := by
  subst hi
  obtain ⟨i0, hi, hzz⟩ := Option.map_eq_some_iff.1 info21
  simp only [Prod.mk.injEq] at hzz
  obtain ⟨_, hz1, _⟩ := hzz
  refine ⟨if c = k then A else A.map (·.add k), fun W => ?_, fun w h => h.drop k c hc hk⟩
  have hel : Tryd.prog.elem 22 = 21 := by simp [Program.elem, Tryd.underlying22]
  have hu : Tryd.prog.underlying 22 = some (.slice (Tryd.prog.elem 22)) := by rw [hel]; exact Tryd.underlying22
  rw [run_slice_l W 22 A l.length c hu .i64 (k : Int) (Int.natCast_nonneg _) (by omega), hel, List.length_drop]
  simp [sizeOf, typeInfo, hi, hz1, sliced, Result.andThen]
theorem top_u8 {A : Option Addr} {l : List UInt8} {c : Nat} (i : Int) (k : Nat) (hi : i = (k : Int)) (hk : k ≤ l.length) (hc : l.length ≤ c) :
    (∀ W : World, (Instr.slice 23 (.slice A l.length c) none (some (.int .i64 i)) none).run Tryd.prog W = .ok (.slice A (l.take k).length c) W) ∧
      ∀ w, Bs w A l → Bs w A (l.take k) := by
  subst hi
  obtain ⟨i0, hi, hzz⟩ := Option.map_eq_some_iff.1 info5
  simp only [Prod.mk.injEq] at hzz
  obtain ⟨_, hz1, _⟩ := hzz
  refine ⟨fun W => ?_, fun w h => ?_⟩
  · have hel : Tryd.prog.elem 23 = 5 := by simp [Program.elem, Tryd.underlying23]
    have hu : Tryd.prog.underlying 23 = some (.slice (Tryd.prog.elem 23)) := by rw [hel]; exact Tryd.underlying23
    rw [run_slice_h W 23 A l.length c hu .i64 (k : Int) (Int.natCast_nonneg _) (by omega), hel, List.length_take]
    have hA : (if c = 0 then A else A.map (·.add (0 * 1))) = A := by
      split
      · rfl
      · cases A <;> simp [Addr.add]
    have e : min k l.length = k := by omega
    rw [e]
    simp [sizeOf, typeInfo, hi, hz1, sliced, Result.andThen]
    intro _
    cases A <;> simp [Addr.add]
  · unfold Bs
    have : ints (l.take k) = (ints l).take k := by simp [ints, List.map_take]
    rw [this]
    exact Nums.take h k
theorem drop_last (l : List Int) (h : 0 < l.length) : ∃ (l0 : List Int) (r : Int), l = l0 ++ [r] ∧ l.drop (l.length - 1) = [r] := by
  have hne : l ≠ [] := fun e => by rw [e] at h; simp at h
  have e := List.dropLast_concat_getLast hne
  refine ⟨l.dropLast, l.getLast hne, e.symm, ?_⟩
  have hl : l.dropLast.length = l.length - 1 := List.length_dropLast
  conv => lhs; rw [← e]
  rw [List.drop_append_of_le_length (by rw [List.length_append, hl]; simp), List.drop_of_length_le (by rw [List.length_append, hl]; simp)]
  simp
theorem size_mk (x : List UInt8) : (⟨x.toArray⟩ : ByteArray).size = x.length := by simp [ByteArray.size]
theorem add_str (x y : List UInt8) : (⟨x.toArray⟩ : ByteArray) ++ (⟨y.toArray⟩ : ByteArray) = ⟨(x ++ y).toArray⟩ := by
  apply ByteArray.ext
  simp [ByteArray.data_append]

set_option maxRecDepth 100000 in
set_option maxHeartbeats 4000000 in
theorem runesJoin_tt_pos (A B : Option Addr) (c d : Nat) (a b : List Int) (w : World) (ha : Nums w .i32 A a) (hb : Nums w .i32 B b) (hca : a.length ≤ c) (hma : a.all may = true) (hmb : b.all may = true) (hpos : 0 < a.length) (hT : Lib.Utf8Tabs 1 2 w)
    (h1 : a.length ≤ 1000) (h2 : b.length ≤ 1000) :
    Calls Tryd.prog 5 #[.slice A a.length c, .slice B b.length d] w fun e w' => e = .returned (.bool true) ∧ Below w.heap.size w w' := by
  have HA := Aside.mk ha
  have HB := Aside.mk hb
  have HT := Aside.mk hT
  have g1 : ¬ ((1000 : Int) < (a.length : Int)) := by omega
  have g2 : ¬ ((1000 : Int) < (b.length : Int)) := by omega
  have hboth : (a ++ b).all may = true := by rw [join_E, hma, hmb]; rfl
  obtain ⟨x, hx⟩ : ∃ x, bytesU a = x := ⟨_, rfl⟩
  have Hx := Aside.mk (And.intro hx (bytesU_t hma).2)
  obtain ⟨y, hy⟩ : ∃ y, bytesU b = y := ⟨_, rfl⟩
  have Hy := Aside.mk (And.intro hy (bytesU_t hmb).2)
  have Hz := Aside.mk (show bytesU (a ++ b) = x ++ y ∧ bytesE (a ++ b) = 0 by rw [join_U hma hmb, hx, hy]; exact ⟨rfl, (bytesU_t hboth).2⟩)
  obtain ⟨l0, r, hl0, hdl⟩ := drop_last a hpos
  have hm2 : l0.all may = true ∧ may r = true := by rw [hl0, join_E] at hma; simpa using hma
  obtain ⟨one, hone⟩ : ∃ one, bytesU [r] = one := ⟨_, rfl⟩
  have hm1 : [r].all may = true := by simp [hm2.2]
  have Hone := Aside.mk (And.intro hone (bytesU_t hm1).2)
  have hol : one.length = (enc r).length := by rw [← hone, (bytesU_t hm1).1, toU_length]; simp
  have HL := Aside.mk (show may r = true ∧ one.length = (enc r).length ∧ 1 ≤ one.length ∧ (∀ k, 1 ≤ k → k < one.length → readF (x.take (x.length - k)) = ([], 3)) ∧ one.length ≤ x.length by
    refine ⟨hm2.2, hol, by rw [hol]; exact enc_pos r, fun k h0 h1 => ?_, ?_⟩
    · rw [← hx, hl0]; exact cut_invalid hm2.1 hm2.2 k h0 (by omega)
    · rw [← hx, hl0, join_U hm2.1 hm1, ← hone]; simp)
  have hxl : x.length ≤ 4000 := by
    rw [← hx, (bytesU_t hma).1, toU_length]
    have := flatMap_enc_length a
    omega
  have hposz : (0 : Int) < (a.length : Int) := by omega
  clear hl0 hm2 hone hm1 hol
  have Hxl := Aside.mk (show x.length ≤ 4000 ∧ y.length ≤ 4000 by
    rw [← hx, ← hy, (bytesU_t hma).1, (bytesU_t hmb).1, toU_length, toU_length]
    have := flatMap_enc_length a
    have := flatMap_enc_length b
    omega)
  clear hx hy
  obtain ⟨ca, hcna⟩ : ∃ ca, cnt a = ca := ⟨_, rfl⟩
  obtain ⟨cb, hcnb⟩ : ∃ cb, cnt b = cb := ⟨_, rfl⟩
  have hcn := cnt_append a b
  have hla := cnt_le a
  have hlb := cnt_le b
  rw [hcna, hcnb] at hcn
  rw [hcna] at hla
  rw [hcnb] at hlb
  obtain ⟨la0, la1⟩ := hla
  obtain ⟨lb0, lb1⟩ := hlb
  obtain ⟨m, hm⟩ : ∃ m, a ++ b = m := ⟨_, rfl⟩
  have hl4 : m.length ≤ 2000 := by rw [← hm, List.length_append]; omega
  rw [hm] at Hz hcn
  have Hm := Aside.mk hm
  have HC := Aside.mk (And.intro hcn (And.intro hcna hcnb))
  have C1 := Aside.mk (show Calls Tryd.prog 21 #[.slice A a.length c] w (BytesRes w x 0) by
    have h := bytes_s A c a w ha (by omega)
    rw [Hx.out.1, Hx.out.2] at h
    exact h)
  clear ha hb hT hcn hcna hcnb hma hmb hboth hm
  go_enter Tryd.func5, Tryd.ntmps5
  go_wp2_with fail
  (with_reducible refine C1.out.mono ?_)
  rintro e w1 ⟨A1, n1, rfl, hn1, hr1, hb1⟩
  have Hb1 := Aside.mk hb1
  have HR1 := Aside.mk hr1
  have C2 := Aside.mk (show Calls Tryd.prog 21 #[.slice B b.length d] w1 (BytesRes w1 y 0) by
    have h := bytes_s B d b w1 (HB.out.below hb1) (by omega)
    rw [Hy.out.1, Hy.out.2] at h
    exact h)
  clear hr1 hb1
  go_wp2_with fail
  (with_reducible refine C2.out.mono ?_)
  rintro e w2 ⟨A2, n2, rfl, hn2, hr2, hb2⟩
  have Hb2 := Aside.mk (below_then Hb1.out hb2)
  have HR1 := Aside.mk (HR1.out.below hb2)
  have HR2 := Aside.mk hr2
  clear hr2 hb2
  go_wp2_with (at_builtin; go_must (refine app_src (w0 := w2) w2.heap.size rfl (.tmp 36) (.tmp 37) 22 21 (.int .i32 0) 1 4 rfl Tryd.underlying22 info21 rfl (by decide) _ 0 a.length c A (nums .i32 []) (nums .i32 a) rfl rfl (by rw [nums_length, Nat.mul_one]) (nums_one _ _) (own_lit0 w2 w2.heap.size 21 .i32 (Nat.le_refl _)) (HA.out.below (below_alloc Hb2.out _)).cells (below_alloc (below_refl w2) _) (below_alloc (below_refl w2) (Obj.cells #[] 21)).size (by omega) (by omega) ?_))
  intro v3 w3 hown3 hb3 hg3 _
  have HO3 := Aside.mk hown3
  have Hb23 := Aside.mk hb3
  have Hb3 := Aside.mk (below_then Hb2.out hb3)
  clear hown3 hb3 hg3
  go_wp2_with (at_builtin; go_must (refine app_src (w0 := w2) w2.heap.size rfl (.tmp 38) (.tmp 39) 22 21 (.int .i32 0) 1 4 rfl Tryd.underlying22 info21 rfl (by decide) v3 a.length b.length d B (nums .i32 [] ++ nums .i32 a) (nums .i32 b) rfl rfl (by rw [nums_length, Nat.mul_one]) (nums_one _ _) HO3.out (HB.out.below Hb3.out).cells Hb23.out Hb23.out.size (by omega) (by omega) ?_))
  intro v4 w4 hown4 hb4 hg4 _
  have hab : nums .i32 a ++ nums .i32 b = nums .i32 m := by rw [← Hm.out, nums_append]
  rw [hab] at hown4
  obtain ⟨A4, n4, hv4, hn4, hr4⟩ := Nums.own hown4
  rw [hv4]
  have HR4 := Aside.mk hr4
  have Hb4 := Aside.mk (below_then Hb2.out hb4)
  have HR1 := Aside.mk (HR1.out.below hb4)
  have HR2 := Aside.mk (HR2.out.below hb4)
  clear hown4 hb4 hg4 hv4 hr4 hab
  have C3 := Aside.mk (show Calls Tryd.prog 21 #[.slice A4 m.length n4] w4 (BytesRes w4 (x ++ y) 0) by
    have h := bytes_s A4 n4 m w4 HR4.out (by omega)
    rw [Hz.out.1, Hz.out.2] at h
    exact h)
  go_wp2_with fail
  (with_reducible refine C3.out.mono ?_)
  rintro e w5 ⟨A5, n5, rfl, hn5, hr5, hb5⟩
  have Hb5 := Aside.mk (below_then Hb4.out hb5)
  have HR4 := Aside.mk (HR4.out.below hb5)
  have HX := Aside.mk (HR1.out.below hb5)
  have HY := Aside.mk (HR2.out.below hb5)
  have hcx := conv_bs HX.out n1
  have hcy := conv_bs HY.out n2
  have hcz := conv_bs hr5 n5
  have hadd := add_str x y
  have hs1 : (⟨x.toArray⟩ : ByteArray).size ≤ 4000 := by rw [size_mk]; exact Hxl.out.1
  have hs2 : (⟨y.toArray⟩ : ByteArray).size ≤ 4000 := by rw [size_mk]; exact Hxl.out.2
  generalize (⟨x.toArray⟩ : ByteArray) = S1 at hcx hadd hs1
  generalize (⟨y.toArray⟩ : ByteArray) = S2 at hcy hadd hs2
  generalize (⟨(x ++ y).toArray⟩ : ByteArray) = S3 at hcz hadd
  obtain ⟨lz, hlz⟩ : ∃ lz, (x ++ y).length = lz := ⟨_, rfl⟩
  rw [hlz] at hcz ⊢
  clear hlz
  have N1 := Aside.mk (show Calls Tryd.prog 28 #[.slice A4 m.length n4] w5 fun e w' => e = .returned (.int .i64 (ca + cb)) ∧ w5 = w' by rw [← HC.out.1]; exact newlines_any A4 n4 m w5 HR4.out)
  have N2 := Aside.mk (show Calls Tryd.prog 28 #[.slice A a.length c] w5 fun e w' => e = .returned (.int .i64 ca) ∧ w5 = w' by rw [← HC.out.2.1]; exact newlines_any A c a w5 (HA.out.below Hb5.out))
  have N3 := Aside.mk (show Calls Tryd.prog 28 #[.slice B b.length d] w5 fun e w' => e = .returned (.int .i64 cb) ∧ w5 = w' by rw [← HC.out.2.2]; exact newlines_any B d b w5 (HB.out.below Hb5.out))
  clear hr5 hb5
  go_wp2_with fail
  (with_reducible refine N1.out.mono ?_)
  rintro e w' ⟨rfl, rfl⟩
  go_wp2_with fail
  (with_reducible refine N2.out.mono ?_)
  rintro e w' ⟨rfl, rfl⟩
  go_wp2_with fail
  (with_reducible refine N3.out.mono ?_)
  rintro e w' ⟨rfl, rfl⟩
  obtain ⟨A6, hcut, hcn6⟩ := cut_i32 (A := A) (l := a) (c := c) ((a.length : Int) - 1) (a.length - 1) (by omega) (by omega) hca
  have hez := HL.out.2.2.1
  have hbad := HL.out.2.2.2.1
  have hle := HL.out.2.2.2.2
  rw [hdl] at hcut hcn6
  have C6 := Aside.mk (show Calls Tryd.prog 21 #[.slice A6 1 (c - (a.length - 1))] w5 (BytesRes w5 one 0) by
    have h := bytes_s A6 (c - (a.length - 1)) [r] w5 (hcn6 _ (HA.out.below Hb5.out)) (by simp)
    rw [Hone.out.1, Hone.out.2] at h
    exact h)
  clear hcn6
  go_wp2_with fail
  (with_reducible refine C6.out.mono ?_)
  rintro e w6 ⟨A7, n7, rfl, hn7, hr7, hb7⟩
  have Hb6 := Aside.mk (below_then Hb5.out hb7)
  have HX6 := Aside.mk (HX.out.below hb7)
  have g5 : ¬ ((one.length : Int) < 1) := by omega
  have g6 : ¬ ((x.length : Int) < (one.length : Int)) := by omega
  have g5b : decide ((one.length : Int) < 1) = false := decide_eq_false g5
  have g6b : decide (x.length < one.length) = false := decide_eq_false (by omega)
  clear hr7 hb7
  go_wp2
  go_loopw [14] (fun i wr => ∃ k : Nat, 1 ≤ k ∧ k ≤ one.length ∧ i = .int .i64 k ∧ Aside (Below w6.heap.size w6 wr)) (fun i _ => one.length - (intOf i).toNat)
  case atStart => exact ⟨1, Nat.le_refl _, by omega, rfl, ⟨below_refl _⟩⟩
  case round =>
    obtain ⟨k, hk1, hk2, rfl, HBW⟩ := hrel
    by_cases hlt : k < one.length
    · obtain ⟨htop, htn⟩ := top_u8 (A := A1) (l := x) (c := n1) ((x.length : Int) - (k : Int)) (x.length - k) (by omega) (by omega) hn1
      have hbk := hbad k hk1 hlt
      have C7 := Aside.mk (show Calls Tryd.prog 23 #[.slice A1 (x.take (x.length - k)).length n1] wr (ReadRes wr [] 3) by
        have h := read_s A1 n1 (x.take (x.length - k)) wr (htn _ (HX6.out.below HBW.out)) (by rw [List.length_take]; omega) (by rw [List.length_take]; omega) (tabs_below HT.out (below_then Hb6.out HBW.out))
        rw [hbk] at h
        exact h)
      clear hbk htn hbad
      obtain ⟨xs, hxs⟩ : ∃ xs, x.take (x.length - k) = xs := ⟨_, rfl⟩
      rw [hxs] at C7 htop
      clear hxs
      go_wp2_with fail
      (with_reducible refine C7.out.mono ?_)
      rintro e w7 ⟨A8, n8, rfl, hn8, hr8, hb8⟩
      have HB8 := Aside.mk (below_then HBW.out hb8)
      clear hr8 hb8
      go_wp2
      go_roundw
      case rel => exact ⟨k + 1, by omega, by omega, by go_num, HB8⟩
      case measure => simp [intOf]; omega
    · have HK := Aside.mk (known1_any wr (tabs_below HT.out (below_then Hb6.out HBW.out)))
      clear hbad
      go_wp2_with (go_at_call 20; go_must (refine HK.out.mono ?_; rintro e w' ⟨rfl, hb9⟩))
      go_ret
      exact ⟨rfl, below_then (below_then Hb6.out HBW.out) hb9⟩

set_option maxRecDepth 100000 in
set_option maxHeartbeats 4000000 in
theorem runesJoin_tt_nil (A B : Option Addr) (c d : Nat) (a b : List Int) (w : World) (ha : Nums w .i32 A a) (hb : Nums w .i32 B b) (hca : a.length ≤ c) (hma : a.all may = true) (hmb : b.all may = true) (hnil : ¬ 0 < a.length) (hT : Lib.Utf8Tabs 1 2 w)
    (h1 : a.length ≤ 1000) (h2 : b.length ≤ 1000) :
    Calls Tryd.prog 5 #[.slice A a.length c, .slice B b.length d] w fun e w' => e = .returned (.bool true) ∧ Below w.heap.size w w' := by
  have HA := Aside.mk ha
  have HB := Aside.mk hb
  have HT := Aside.mk hT
  have g1 : ¬ ((1000 : Int) < (a.length : Int)) := by omega
  have g2 : ¬ ((1000 : Int) < (b.length : Int)) := by omega
  have hboth : (a ++ b).all may = true := by rw [join_E, hma, hmb]; rfl
  obtain ⟨x, hx⟩ : ∃ x, bytesU a = x := ⟨_, rfl⟩
  have Hx := Aside.mk (And.intro hx (bytesU_t hma).2)
  obtain ⟨y, hy⟩ : ∃ y, bytesU b = y := ⟨_, rfl⟩
  have Hy := Aside.mk (And.intro hy (bytesU_t hmb).2)
  have Hz := Aside.mk (show bytesU (a ++ b) = x ++ y ∧ bytesE (a ++ b) = 0 by rw [join_U hma hmb, hx, hy]; exact ⟨rfl, (bytesU_t hboth).2⟩)
  have hposz : ¬ ((0 : Int) < (a.length : Int)) := by omega
  have Hxl := Aside.mk (show x.length ≤ 4000 ∧ y.length ≤ 4000 by
    rw [← hx, ← hy, (bytesU_t hma).1, (bytesU_t hmb).1, toU_length, toU_length]
    have := flatMap_enc_length a
    have := flatMap_enc_length b
    omega)
  clear hx hy
  obtain ⟨ca, hcna⟩ : ∃ ca, cnt a = ca := ⟨_, rfl⟩
  obtain ⟨cb, hcnb⟩ : ∃ cb, cnt b = cb := ⟨_, rfl⟩
  have hcn := cnt_append a b
  have hla := cnt_le a
  have hlb := cnt_le b
  rw [hcna, hcnb] at hcn
  rw [hcna] at hla
  rw [hcnb] at hlb
  obtain ⟨la0, la1⟩ := hla
  obtain ⟨lb0, lb1⟩ := hlb
  obtain ⟨m, hm⟩ : ∃ m, a ++ b = m := ⟨_, rfl⟩
  have hl4 : m.length ≤ 2000 := by rw [← hm, List.length_append]; omega
  rw [hm] at Hz hcn
  have Hm := Aside.mk hm
  have HC := Aside.mk (And.intro hcn (And.intro hcna hcnb))
  have C1 := Aside.mk (show Calls Tryd.prog 21 #[.slice A a.length c] w (BytesRes w x 0) by
    have h := bytes_s A c a w ha (by omega)
    rw [Hx.out.1, Hx.out.2] at h
    exact h)
  clear ha hb hT hcn hcna hcnb hma hmb hboth hm
  go_enter Tryd.func5, Tryd.ntmps5
  go_wp2_with fail
  (with_reducible refine C1.out.mono ?_)
  rintro e w1 ⟨A1, n1, rfl, hn1, hr1, hb1⟩
  have Hb1 := Aside.mk hb1
  have HR1 := Aside.mk hr1
  have C2 := Aside.mk (show Calls Tryd.prog 21 #[.slice B b.length d] w1 (BytesRes w1 y 0) by
    have h := bytes_s B d b w1 (HB.out.below hb1) (by omega)
    rw [Hy.out.1, Hy.out.2] at h
    exact h)
  clear hr1 hb1
  go_wp2_with fail
  (with_reducible refine C2.out.mono ?_)
  rintro e w2 ⟨A2, n2, rfl, hn2, hr2, hb2⟩
  have Hb2 := Aside.mk (below_then Hb1.out hb2)
  have HR1 := Aside.mk (HR1.out.below hb2)
  have HR2 := Aside.mk hr2
  clear hr2 hb2
  go_wp2_with (at_builtin; go_must (refine app_src (w0 := w2) w2.heap.size rfl (.tmp 36) (.tmp 37) 22 21 (.int .i32 0) 1 4 rfl Tryd.underlying22 info21 rfl (by decide) _ 0 a.length c A (nums .i32 []) (nums .i32 a) rfl rfl (by rw [nums_length, Nat.mul_one]) (nums_one _ _) (own_lit0 w2 w2.heap.size 21 .i32 (Nat.le_refl _)) (HA.out.below (below_alloc Hb2.out _)).cells (below_alloc (below_refl w2) _) (below_alloc (below_refl w2) (Obj.cells #[] 21)).size (by omega) (by omega) ?_))
  intro v3 w3 hown3 hb3 hg3 _
  have HO3 := Aside.mk hown3
  have Hb23 := Aside.mk hb3
  have Hb3 := Aside.mk (below_then Hb2.out hb3)
  clear hown3 hb3 hg3
  go_wp2_with (at_builtin; go_must (refine app_src (w0 := w2) w2.heap.size rfl (.tmp 38) (.tmp 39) 22 21 (.int .i32 0) 1 4 rfl Tryd.underlying22 info21 rfl (by decide) v3 a.length b.length d B (nums .i32 [] ++ nums .i32 a) (nums .i32 b) rfl rfl (by rw [nums_length, Nat.mul_one]) (nums_one _ _) HO3.out (HB.out.below Hb3.out).cells Hb23.out Hb23.out.size (by omega) (by omega) ?_))
  intro v4 w4 hown4 hb4 hg4 _
  have hab : nums .i32 a ++ nums .i32 b = nums .i32 m := by rw [← Hm.out, nums_append]
  rw [hab] at hown4
  obtain ⟨A4, n4, hv4, hn4, hr4⟩ := Nums.own hown4
  rw [hv4]
  have HR4 := Aside.mk hr4
  have Hb4 := Aside.mk (below_then Hb2.out hb4)
  have HR1 := Aside.mk (HR1.out.below hb4)
  have HR2 := Aside.mk (HR2.out.below hb4)
  clear hown4 hb4 hg4 hv4 hr4 hab
  have C3 := Aside.mk (show Calls Tryd.prog 21 #[.slice A4 m.length n4] w4 (BytesRes w4 (x ++ y) 0) by
    have h := bytes_s A4 n4 m w4 HR4.out (by omega)
    rw [Hz.out.1, Hz.out.2] at h
    exact h)
  go_wp2_with fail
  (with_reducible refine C3.out.mono ?_)
  rintro e w5 ⟨A5, n5, rfl, hn5, hr5, hb5⟩
  have Hb5 := Aside.mk (below_then Hb4.out hb5)
  have HR4 := Aside.mk (HR4.out.below hb5)
  have HX := Aside.mk (HR1.out.below hb5)
  have HY := Aside.mk (HR2.out.below hb5)
  have hcx := conv_bs HX.out n1
  have hcy := conv_bs HY.out n2
  have hcz := conv_bs hr5 n5
  have hadd := add_str x y
  have hs1 : (⟨x.toArray⟩ : ByteArray).size ≤ 4000 := by rw [size_mk]; exact Hxl.out.1
  have hs2 : (⟨y.toArray⟩ : ByteArray).size ≤ 4000 := by rw [size_mk]; exact Hxl.out.2
  generalize (⟨x.toArray⟩ : ByteArray) = S1 at hcx hadd hs1
  generalize (⟨y.toArray⟩ : ByteArray) = S2 at hcy hadd hs2
  generalize (⟨(x ++ y).toArray⟩ : ByteArray) = S3 at hcz hadd
  obtain ⟨lz, hlz⟩ : ∃ lz, (x ++ y).length = lz := ⟨_, rfl⟩
  rw [hlz] at hcz ⊢
  clear hlz
  have N1 := Aside.mk (show Calls Tryd.prog 28 #[.slice A4 m.length n4] w5 fun e w' => e = .returned (.int .i64 (ca + cb)) ∧ w5 = w' by rw [← HC.out.1]; exact newlines_any A4 n4 m w5 HR4.out)
  have N2 := Aside.mk (show Calls Tryd.prog 28 #[.slice A a.length c] w5 fun e w' => e = .returned (.int .i64 ca) ∧ w5 = w' by rw [← HC.out.2.1]; exact newlines_any A c a w5 (HA.out.below Hb5.out))
  have N3 := Aside.mk (show Calls Tryd.prog 28 #[.slice B b.length d] w5 fun e w' => e = .returned (.int .i64 cb) ∧ w5 = w' by rw [← HC.out.2.2]; exact newlines_any B d b w5 (HB.out.below Hb5.out))
  clear hr5 hb5
  go_wp2_with fail
  (with_reducible refine N1.out.mono ?_)
  rintro e w' ⟨rfl, rfl⟩
  go_wp2_with fail
  (with_reducible refine N2.out.mono ?_)
  rintro e w' ⟨rfl, rfl⟩
  go_wp2_with fail
  (with_reducible refine N3.out.mono ?_)
  rintro e w' ⟨rfl, rfl⟩
  have HK := Aside.mk (known1_any w5 (tabs_below HT.out Hb5.out))
  go_wp2_with (go_at_call 20; go_must (refine HK.out.mono ?_; rintro e w' ⟨rfl, hb9⟩))
  go_ret
  exact ⟨rfl, below_then Hb5.out hb9⟩

set_option maxRecDepth 100000 in
set_option maxHeartbeats 4000000 in
theorem runesJoin_tf_pos (A B : Option Addr) (c d : Nat) (a b : List Int) (w : World) (ha : Nums w .i32 A a) (hb : Nums w .i32 B b) (hca : a.length ≤ c) (hma : a.all may = true) (hmb : b.all may = false) (hpos : 0 < a.length) (hT : Lib.Utf8Tabs 1 2 w)
    (h1 : a.length ≤ 1000) (h2 : b.length ≤ 1000) :
    Calls Tryd.prog 5 #[.slice A a.length c, .slice B b.length d] w fun e w' => e = .returned (.bool true) ∧ Below w.heap.size w w' := by
  have HA := Aside.mk ha
  have HB := Aside.mk hb
  have HT := Aside.mk hT
  have g1 : ¬ ((1000 : Int) < (a.length : Int)) := by omega
  have g2 : ¬ ((1000 : Int) < (b.length : Int)) := by omega
  have hboth : (a ++ b).all may = false := by rw [join_E, hma, hmb]; rfl
  obtain ⟨x, hx⟩ : ∃ x, bytesU a = x := ⟨_, rfl⟩
  have Hx := Aside.mk (And.intro hx (bytesU_t hma).2)
  obtain ⟨y, hy⟩ : ∃ y, bytesU b = y := ⟨_, rfl⟩
  have Hy := Aside.mk (And.intro hy (bytesU_f hmb).2)
  have Hz := Aside.mk (bytesU_f hboth)
  obtain ⟨l0, r, hl0, hdl⟩ := drop_last a hpos
  have hm2 : l0.all may = true ∧ may r = true := by rw [hl0, join_E] at hma; simpa using hma
  obtain ⟨one, hone⟩ : ∃ one, bytesU [r] = one := ⟨_, rfl⟩
  have hm1 : [r].all may = true := by simp [hm2.2]
  have Hone := Aside.mk (And.intro hone (bytesU_t hm1).2)
  have hol : one.length = (enc r).length := by rw [← hone, (bytesU_t hm1).1, toU_length]; simp
  have HL := Aside.mk (show may r = true ∧ one.length = (enc r).length ∧ 1 ≤ one.length ∧ (∀ k, 1 ≤ k → k < one.length → readF (x.take (x.length - k)) = ([], 3)) ∧ one.length ≤ x.length by
    refine ⟨hm2.2, hol, by rw [hol]; exact enc_pos r, fun k h0 h1 => ?_, ?_⟩
    · rw [← hx, hl0]; exact cut_invalid hm2.1 hm2.2 k h0 (by omega)
    · rw [← hx, hl0, join_U hm2.1 hm1, ← hone]; simp)
  have hxl : x.length ≤ 4000 := by
    rw [← hx, (bytesU_t hma).1, toU_length]
    have := flatMap_enc_length a
    omega
  have hposz : (0 : Int) < (a.length : Int) := by omega
  clear hl0 hm2 hone hm1 hol
  clear hx hy
  obtain ⟨ca, hcna⟩ : ∃ ca, cnt a = ca := ⟨_, rfl⟩
  obtain ⟨cb, hcnb⟩ : ∃ cb, cnt b = cb := ⟨_, rfl⟩
  have hcn := cnt_append a b
  have hla := cnt_le a
  have hlb := cnt_le b
  rw [hcna, hcnb] at hcn
  rw [hcna] at hla
  rw [hcnb] at hlb
  obtain ⟨la0, la1⟩ := hla
  obtain ⟨lb0, lb1⟩ := hlb
  obtain ⟨m, hm⟩ : ∃ m, a ++ b = m := ⟨_, rfl⟩
  have hl4 : m.length ≤ 2000 := by rw [← hm, List.length_append]; omega
  rw [hm] at Hz hcn
  have Hm := Aside.mk hm
  have HC := Aside.mk (And.intro hcn (And.intro hcna hcnb))
  have C1 := Aside.mk (show Calls Tryd.prog 21 #[.slice A a.length c] w (BytesRes w x 0) by
    have h := bytes_s A c a w ha (by omega)
    rw [Hx.out.1, Hx.out.2] at h
    exact h)
  clear ha hb hT hcn hcna hcnb hma hmb hboth hm
  go_enter Tryd.func5, Tryd.ntmps5
  go_wp2_with fail
  (with_reducible refine C1.out.mono ?_)
  rintro e w1 ⟨A1, n1, rfl, hn1, hr1, hb1⟩
  have Hb1 := Aside.mk hb1
  have HR1 := Aside.mk hr1
  have C2 := Aside.mk (show Calls Tryd.prog 21 #[.slice B b.length d] w1 (BytesRes w1 y 3) by
    have h := bytes_s B d b w1 (HB.out.below hb1) (by omega)
    rw [Hy.out.1, Hy.out.2] at h
    exact h)
  clear hr1 hb1
  go_wp2_with fail
  (with_reducible refine C2.out.mono ?_)
  rintro e w2 ⟨A2, n2, rfl, hn2, hr2, hb2⟩
  have Hb2 := Aside.mk (below_then Hb1.out hb2)
  have HR1 := Aside.mk (HR1.out.below hb2)
  have HR2 := Aside.mk hr2
  clear hr2 hb2
  go_wp2_with (at_builtin; go_must (refine app_src (w0 := w2) w2.heap.size rfl (.tmp 36) (.tmp 37) 22 21 (.int .i32 0) 1 4 rfl Tryd.underlying22 info21 rfl (by decide) _ 0 a.length c A (nums .i32 []) (nums .i32 a) rfl rfl (by rw [nums_length, Nat.mul_one]) (nums_one _ _) (own_lit0 w2 w2.heap.size 21 .i32 (Nat.le_refl _)) (HA.out.below (below_alloc Hb2.out _)).cells (below_alloc (below_refl w2) _) (below_alloc (below_refl w2) (Obj.cells #[] 21)).size (by omega) (by omega) ?_))
  intro v3 w3 hown3 hb3 hg3 _
  have HO3 := Aside.mk hown3
  have Hb23 := Aside.mk hb3
  have Hb3 := Aside.mk (below_then Hb2.out hb3)
  clear hown3 hb3 hg3
  go_wp2_with (at_builtin; go_must (refine app_src (w0 := w2) w2.heap.size rfl (.tmp 38) (.tmp 39) 22 21 (.int .i32 0) 1 4 rfl Tryd.underlying22 info21 rfl (by decide) v3 a.length b.length d B (nums .i32 [] ++ nums .i32 a) (nums .i32 b) rfl rfl (by rw [nums_length, Nat.mul_one]) (nums_one _ _) HO3.out (HB.out.below Hb3.out).cells Hb23.out Hb23.out.size (by omega) (by omega) ?_))
  intro v4 w4 hown4 hb4 hg4 _
  have hab : nums .i32 a ++ nums .i32 b = nums .i32 m := by rw [← Hm.out, nums_append]
  rw [hab] at hown4
  obtain ⟨A4, n4, hv4, hn4, hr4⟩ := Nums.own hown4
  rw [hv4]
  have HR4 := Aside.mk hr4
  have Hb4 := Aside.mk (below_then Hb2.out hb4)
  have HR1 := Aside.mk (HR1.out.below hb4)
  have HR2 := Aside.mk (HR2.out.below hb4)
  clear hown4 hb4 hg4 hv4 hr4 hab
  have C3 := Aside.mk (show Calls Tryd.prog 21 #[.slice A4 m.length n4] w4 (BytesRes w4 [] 3) by
    have h := bytes_s A4 n4 m w4 HR4.out (by omega)
    rw [Hz.out.1, Hz.out.2] at h
    exact h)
  go_wp2_with fail
  (with_reducible refine C3.out.mono ?_)
  rintro e w5 ⟨A5, n5, rfl, hn5, hr5, hb5⟩
  have Hb5 := Aside.mk (below_then Hb4.out hb5)
  have HR4 := Aside.mk (HR4.out.below hb5)
  have HX := Aside.mk (HR1.out.below hb5)
  have HY := Aside.mk (HR2.out.below hb5)
  have N1 := Aside.mk (show Calls Tryd.prog 28 #[.slice A4 m.length n4] w5 fun e w' => e = .returned (.int .i64 (ca + cb)) ∧ w5 = w' by rw [← HC.out.1]; exact newlines_any A4 n4 m w5 HR4.out)
  have N2 := Aside.mk (show Calls Tryd.prog 28 #[.slice A a.length c] w5 fun e w' => e = .returned (.int .i64 ca) ∧ w5 = w' by rw [← HC.out.2.1]; exact newlines_any A c a w5 (HA.out.below Hb5.out))
  have N3 := Aside.mk (show Calls Tryd.prog 28 #[.slice B b.length d] w5 fun e w' => e = .returned (.int .i64 cb) ∧ w5 = w' by rw [← HC.out.2.2]; exact newlines_any B d b w5 (HB.out.below Hb5.out))
  clear hr5 hb5
  go_wp2_with fail
  (with_reducible refine N1.out.mono ?_)
  rintro e w' ⟨rfl, rfl⟩
  go_wp2_with fail
  (with_reducible refine N2.out.mono ?_)
  rintro e w' ⟨rfl, rfl⟩
  go_wp2_with fail
  (with_reducible refine N3.out.mono ?_)
  rintro e w' ⟨rfl, rfl⟩
  obtain ⟨A6, hcut, hcn6⟩ := cut_i32 (A := A) (l := a) (c := c) ((a.length : Int) - 1) (a.length - 1) (by omega) (by omega) hca
  have hez := HL.out.2.2.1
  have hbad := HL.out.2.2.2.1
  have hle := HL.out.2.2.2.2
  rw [hdl] at hcut hcn6
  have C6 := Aside.mk (show Calls Tryd.prog 21 #[.slice A6 1 (c - (a.length - 1))] w5 (BytesRes w5 one 0) by
    have h := bytes_s A6 (c - (a.length - 1)) [r] w5 (hcn6 _ (HA.out.below Hb5.out)) (by simp)
    rw [Hone.out.1, Hone.out.2] at h
    exact h)
  clear hcn6
  go_wp2_with fail
  (with_reducible refine C6.out.mono ?_)
  rintro e w6 ⟨A7, n7, rfl, hn7, hr7, hb7⟩
  have Hb6 := Aside.mk (below_then Hb5.out hb7)
  have HX6 := Aside.mk (HX.out.below hb7)
  have g5 : ¬ ((one.length : Int) < 1) := by omega
  have g6 : ¬ ((x.length : Int) < (one.length : Int)) := by omega
  have g5b : decide ((one.length : Int) < 1) = false := decide_eq_false g5
  have g6b : decide (x.length < one.length) = false := decide_eq_false (by omega)
  clear hr7 hb7
  go_wp2
  go_loopw [14] (fun i wr => ∃ k : Nat, 1 ≤ k ∧ k ≤ one.length ∧ i = .int .i64 k ∧ Aside (Below w6.heap.size w6 wr)) (fun i _ => one.length - (intOf i).toNat)
  case atStart => exact ⟨1, Nat.le_refl _, by omega, rfl, ⟨below_refl _⟩⟩
  case round =>
    obtain ⟨k, hk1, hk2, rfl, HBW⟩ := hrel
    by_cases hlt : k < one.length
    · obtain ⟨htop, htn⟩ := top_u8 (A := A1) (l := x) (c := n1) ((x.length : Int) - (k : Int)) (x.length - k) (by omega) (by omega) hn1
      have hbk := hbad k hk1 hlt
      have C7 := Aside.mk (show Calls Tryd.prog 23 #[.slice A1 (x.take (x.length - k)).length n1] wr (ReadRes wr [] 3) by
        have h := read_s A1 n1 (x.take (x.length - k)) wr (htn _ (HX6.out.below HBW.out)) (by rw [List.length_take]; omega) (by rw [List.length_take]; omega) (tabs_below HT.out (below_then Hb6.out HBW.out))
        rw [hbk] at h
        exact h)
      clear hbk htn hbad
      obtain ⟨xs, hxs⟩ : ∃ xs, x.take (x.length - k) = xs := ⟨_, rfl⟩
      rw [hxs] at C7 htop
      clear hxs
      go_wp2_with fail
      (with_reducible refine C7.out.mono ?_)
      rintro e w7 ⟨A8, n8, rfl, hn8, hr8, hb8⟩
      have HB8 := Aside.mk (below_then HBW.out hb8)
      clear hr8 hb8
      go_wp2
      go_roundw
      case rel => exact ⟨k + 1, by omega, by omega, by go_num, HB8⟩
      case measure => simp [intOf]; omega
    · have HK := Aside.mk (known1_any wr (tabs_below HT.out (below_then Hb6.out HBW.out)))
      clear hbad
      go_wp2_with (go_at_call 20; go_must (refine HK.out.mono ?_; rintro e w' ⟨rfl, hb9⟩))
      go_ret
      exact ⟨rfl, below_then (below_then Hb6.out HBW.out) hb9⟩

set_option maxRecDepth 100000 in
set_option maxHeartbeats 4000000 in
theorem runesJoin_tf_nil (A B : Option Addr) (c d : Nat) (a b : List Int) (w : World) (ha : Nums w .i32 A a) (hb : Nums w .i32 B b) (hca : a.length ≤ c) (hma : a.all may = true) (hmb : b.all may = false) (hnil : ¬ 0 < a.length) (hT : Lib.Utf8Tabs 1 2 w)
    (h1 : a.length ≤ 1000) (h2 : b.length ≤ 1000) :
    Calls Tryd.prog 5 #[.slice A a.length c, .slice B b.length d] w fun e w' => e = .returned (.bool true) ∧ Below w.heap.size w w' := by
  have HA := Aside.mk ha
  have HB := Aside.mk hb
  have HT := Aside.mk hT
  have g1 : ¬ ((1000 : Int) < (a.length : Int)) := by omega
  have g2 : ¬ ((1000 : Int) < (b.length : Int)) := by omega
  have hboth : (a ++ b).all may = false := by rw [join_E, hma, hmb]; rfl
  obtain ⟨x, hx⟩ : ∃ x, bytesU a = x := ⟨_, rfl⟩
  have Hx := Aside.mk (And.intro hx (bytesU_t hma).2)
  obtain ⟨y, hy⟩ : ∃ y, bytesU b = y := ⟨_, rfl⟩
  have Hy := Aside.mk (And.intro hy (bytesU_f hmb).2)
  have Hz := Aside.mk (bytesU_f hboth)
  have hposz : ¬ ((0 : Int) < (a.length : Int)) := by omega
  clear hx hy
  obtain ⟨ca, hcna⟩ : ∃ ca, cnt a = ca := ⟨_, rfl⟩
  obtain ⟨cb, hcnb⟩ : ∃ cb, cnt b = cb := ⟨_, rfl⟩
  have hcn := cnt_append a b
  have hla := cnt_le a
  have hlb := cnt_le b
  rw [hcna, hcnb] at hcn
  rw [hcna] at hla
  rw [hcnb] at hlb
  obtain ⟨la0, la1⟩ := hla
  obtain ⟨lb0, lb1⟩ := hlb
  obtain ⟨m, hm⟩ : ∃ m, a ++ b = m := ⟨_, rfl⟩
  have hl4 : m.length ≤ 2000 := by rw [← hm, List.length_append]; omega
  rw [hm] at Hz hcn
  have Hm := Aside.mk hm
  have HC := Aside.mk (And.intro hcn (And.intro hcna hcnb))
  have C1 := Aside.mk (show Calls Tryd.prog 21 #[.slice A a.length c] w (BytesRes w x 0) by
    have h := bytes_s A c a w ha (by omega)
    rw [Hx.out.1, Hx.out.2] at h
    exact h)
  clear ha hb hT hcn hcna hcnb hma hmb hboth hm
  go_enter Tryd.func5, Tryd.ntmps5
  go_wp2_with fail
  (with_reducible refine C1.out.mono ?_)
  rintro e w1 ⟨A1, n1, rfl, hn1, hr1, hb1⟩
  have Hb1 := Aside.mk hb1
  have HR1 := Aside.mk hr1
  have C2 := Aside.mk (show Calls Tryd.prog 21 #[.slice B b.length d] w1 (BytesRes w1 y 3) by
    have h := bytes_s B d b w1 (HB.out.below hb1) (by omega)
    rw [Hy.out.1, Hy.out.2] at h
    exact h)
  clear hr1 hb1
  go_wp2_with fail
  (with_reducible refine C2.out.mono ?_)
  rintro e w2 ⟨A2, n2, rfl, hn2, hr2, hb2⟩
  have Hb2 := Aside.mk (below_then Hb1.out hb2)
  have HR1 := Aside.mk (HR1.out.below hb2)
  have HR2 := Aside.mk hr2
  clear hr2 hb2
  go_wp2_with (at_builtin; go_must (refine app_src (w0 := w2) w2.heap.size rfl (.tmp 36) (.tmp 37) 22 21 (.int .i32 0) 1 4 rfl Tryd.underlying22 info21 rfl (by decide) _ 0 a.length c A (nums .i32 []) (nums .i32 a) rfl rfl (by rw [nums_length, Nat.mul_one]) (nums_one _ _) (own_lit0 w2 w2.heap.size 21 .i32 (Nat.le_refl _)) (HA.out.below (below_alloc Hb2.out _)).cells (below_alloc (below_refl w2) _) (below_alloc (below_refl w2) (Obj.cells #[] 21)).size (by omega) (by omega) ?_))
  intro v3 w3 hown3 hb3 hg3 _
  have HO3 := Aside.mk hown3
  have Hb23 := Aside.mk hb3
  have Hb3 := Aside.mk (below_then Hb2.out hb3)
  clear hown3 hb3 hg3
  go_wp2_with (at_builtin; go_must (refine app_src (w0 := w2) w2.heap.size rfl (.tmp 38) (.tmp 39) 22 21 (.int .i32 0) 1 4 rfl Tryd.underlying22 info21 rfl (by decide) v3 a.length b.length d B (nums .i32 [] ++ nums .i32 a) (nums .i32 b) rfl rfl (by rw [nums_length, Nat.mul_one]) (nums_one _ _) HO3.out (HB.out.below Hb3.out).cells Hb23.out Hb23.out.size (by omega) (by omega) ?_))
  intro v4 w4 hown4 hb4 hg4 _
  have hab : nums .i32 a ++ nums .i32 b = nums .i32 m := by rw [← Hm.out, nums_append]
  rw [hab] at hown4
  obtain ⟨A4, n4, hv4, hn4, hr4⟩ := Nums.own hown4
  rw [hv4]
  have HR4 := Aside.mk hr4
  have Hb4 := Aside.mk (below_then Hb2.out hb4)
  have HR1 := Aside.mk (HR1.out.below hb4)
  have HR2 := Aside.mk (HR2.out.below hb4)
  clear hown4 hb4 hg4 hv4 hr4 hab
  have C3 := Aside.mk (show Calls Tryd.prog 21 #[.slice A4 m.length n4] w4 (BytesRes w4 [] 3) by
    have h := bytes_s A4 n4 m w4 HR4.out (by omega)
    rw [Hz.out.1, Hz.out.2] at h
    exact h)
  go_wp2_with fail
  (with_reducible refine C3.out.mono ?_)
  rintro e w5 ⟨A5, n5, rfl, hn5, hr5, hb5⟩
  have Hb5 := Aside.mk (below_then Hb4.out hb5)
  have HR4 := Aside.mk (HR4.out.below hb5)
  have HX := Aside.mk (HR1.out.below hb5)
  have HY := Aside.mk (HR2.out.below hb5)
  have N1 := Aside.mk (show Calls Tryd.prog 28 #[.slice A4 m.length n4] w5 fun e w' => e = .returned (.int .i64 (ca + cb)) ∧ w5 = w' by rw [← HC.out.1]; exact newlines_any A4 n4 m w5 HR4.out)
  have N2 := Aside.mk (show Calls Tryd.prog 28 #[.slice A a.length c] w5 fun e w' => e = .returned (.int .i64 ca) ∧ w5 = w' by rw [← HC.out.2.1]; exact newlines_any A c a w5 (HA.out.below Hb5.out))
  have N3 := Aside.mk (show Calls Tryd.prog 28 #[.slice B b.length d] w5 fun e w' => e = .returned (.int .i64 cb) ∧ w5 = w' by rw [← HC.out.2.2]; exact newlines_any B d b w5 (HB.out.below Hb5.out))
  clear hr5 hb5
  go_wp2_with fail
  (with_reducible refine N1.out.mono ?_)
  rintro e w' ⟨rfl, rfl⟩
  go_wp2_with fail
  (with_reducible refine N2.out.mono ?_)
  rintro e w' ⟨rfl, rfl⟩
  go_wp2_with fail
  (with_reducible refine N3.out.mono ?_)
  rintro e w' ⟨rfl, rfl⟩
  have HK := Aside.mk (known1_any w5 (tabs_below HT.out Hb5.out))
  go_wp2_with (go_at_call 20; go_must (refine HK.out.mono ?_; rintro e w' ⟨rfl, hb9⟩))
  go_ret
  exact ⟨rfl, below_then Hb5.out hb9⟩

set_option maxRecDepth 100000 in
set_option maxHeartbeats 4000000 in
theorem runesJoin_ft_any (A B : Option Addr) (c d : Nat) (a b : List Int) (w : World) (ha : Nums w .i32 A a) (hb : Nums w .i32 B b) (hca : a.length ≤ c) (hma : a.all may = false) (hmb : b.all may = true) (hT : Lib.Utf8Tabs 1 2 w)
    (h1 : a.length ≤ 1000) (h2 : b.length ≤ 1000) :
    Calls Tryd.prog 5 #[.slice A a.length c, .slice B b.length d] w fun e w' => e = .returned (.bool true) ∧ Below w.heap.size w w' := by
  have HA := Aside.mk ha
  have HB := Aside.mk hb
  have HT := Aside.mk hT
  have g1 : ¬ ((1000 : Int) < (a.length : Int)) := by omega
  have g2 : ¬ ((1000 : Int) < (b.length : Int)) := by omega
  have hboth : (a ++ b).all may = false := by rw [join_E, hma, hmb]; rfl
  obtain ⟨x, hx⟩ : ∃ x, bytesU a = x := ⟨_, rfl⟩
  have Hx := Aside.mk (And.intro hx (bytesU_f hma).2)
  obtain ⟨y, hy⟩ : ∃ y, bytesU b = y := ⟨_, rfl⟩
  have Hy := Aside.mk (And.intro hy (bytesU_t hmb).2)
  have Hz := Aside.mk (bytesU_f hboth)
  clear hx hy
  obtain ⟨ca, hcna⟩ : ∃ ca, cnt a = ca := ⟨_, rfl⟩
  obtain ⟨cb, hcnb⟩ : ∃ cb, cnt b = cb := ⟨_, rfl⟩
  have hcn := cnt_append a b
  have hla := cnt_le a
  have hlb := cnt_le b
  rw [hcna, hcnb] at hcn
  rw [hcna] at hla
  rw [hcnb] at hlb
  obtain ⟨la0, la1⟩ := hla
  obtain ⟨lb0, lb1⟩ := hlb
  obtain ⟨m, hm⟩ : ∃ m, a ++ b = m := ⟨_, rfl⟩
  have hl4 : m.length ≤ 2000 := by rw [← hm, List.length_append]; omega
  rw [hm] at Hz hcn
  have Hm := Aside.mk hm
  have HC := Aside.mk (And.intro hcn (And.intro hcna hcnb))
  have C1 := Aside.mk (show Calls Tryd.prog 21 #[.slice A a.length c] w (BytesRes w x 3) by
    have h := bytes_s A c a w ha (by omega)
    rw [Hx.out.1, Hx.out.2] at h
    exact h)
  clear ha hb hT hcn hcna hcnb hma hmb hboth hm
  go_enter Tryd.func5, Tryd.ntmps5
  go_wp2_with fail
  (with_reducible refine C1.out.mono ?_)
  rintro e w1 ⟨A1, n1, rfl, hn1, hr1, hb1⟩
  have Hb1 := Aside.mk hb1
  have HR1 := Aside.mk hr1
  have C2 := Aside.mk (show Calls Tryd.prog 21 #[.slice B b.length d] w1 (BytesRes w1 y 0) by
    have h := bytes_s B d b w1 (HB.out.below hb1) (by omega)
    rw [Hy.out.1, Hy.out.2] at h
    exact h)
  clear hr1 hb1
  go_wp2_with fail
  (with_reducible refine C2.out.mono ?_)
  rintro e w2 ⟨A2, n2, rfl, hn2, hr2, hb2⟩
  have Hb2 := Aside.mk (below_then Hb1.out hb2)
  have HR1 := Aside.mk (HR1.out.below hb2)
  have HR2 := Aside.mk hr2
  clear hr2 hb2
  go_wp2_with (at_builtin; go_must (refine app_src (w0 := w2) w2.heap.size rfl (.tmp 36) (.tmp 37) 22 21 (.int .i32 0) 1 4 rfl Tryd.underlying22 info21 rfl (by decide) _ 0 a.length c A (nums .i32 []) (nums .i32 a) rfl rfl (by rw [nums_length, Nat.mul_one]) (nums_one _ _) (own_lit0 w2 w2.heap.size 21 .i32 (Nat.le_refl _)) (HA.out.below (below_alloc Hb2.out _)).cells (below_alloc (below_refl w2) _) (below_alloc (below_refl w2) (Obj.cells #[] 21)).size (by omega) (by omega) ?_))
  intro v3 w3 hown3 hb3 hg3 _
  have HO3 := Aside.mk hown3
  have Hb23 := Aside.mk hb3
  have Hb3 := Aside.mk (below_then Hb2.out hb3)
  clear hown3 hb3 hg3
  go_wp2_with (at_builtin; go_must (refine app_src (w0 := w2) w2.heap.size rfl (.tmp 38) (.tmp 39) 22 21 (.int .i32 0) 1 4 rfl Tryd.underlying22 info21 rfl (by decide) v3 a.length b.length d B (nums .i32 [] ++ nums .i32 a) (nums .i32 b) rfl rfl (by rw [nums_length, Nat.mul_one]) (nums_one _ _) HO3.out (HB.out.below Hb3.out).cells Hb23.out Hb23.out.size (by omega) (by omega) ?_))
  intro v4 w4 hown4 hb4 hg4 _
  have hab : nums .i32 a ++ nums .i32 b = nums .i32 m := by rw [← Hm.out, nums_append]
  rw [hab] at hown4
  obtain ⟨A4, n4, hv4, hn4, hr4⟩ := Nums.own hown4
  rw [hv4]
  have HR4 := Aside.mk hr4
  have Hb4 := Aside.mk (below_then Hb2.out hb4)
  have HR1 := Aside.mk (HR1.out.below hb4)
  have HR2 := Aside.mk (HR2.out.below hb4)
  clear hown4 hb4 hg4 hv4 hr4 hab
  have C3 := Aside.mk (show Calls Tryd.prog 21 #[.slice A4 m.length n4] w4 (BytesRes w4 [] 3) by
    have h := bytes_s A4 n4 m w4 HR4.out (by omega)
    rw [Hz.out.1, Hz.out.2] at h
    exact h)
  go_wp2_with fail
  (with_reducible refine C3.out.mono ?_)
  rintro e w5 ⟨A5, n5, rfl, hn5, hr5, hb5⟩
  have Hb5 := Aside.mk (below_then Hb4.out hb5)
  have HR4 := Aside.mk (HR4.out.below hb5)
  have HX := Aside.mk (HR1.out.below hb5)
  have HY := Aside.mk (HR2.out.below hb5)
  have N1 := Aside.mk (show Calls Tryd.prog 28 #[.slice A4 m.length n4] w5 fun e w' => e = .returned (.int .i64 (ca + cb)) ∧ w5 = w' by rw [← HC.out.1]; exact newlines_any A4 n4 m w5 HR4.out)
  have N2 := Aside.mk (show Calls Tryd.prog 28 #[.slice A a.length c] w5 fun e w' => e = .returned (.int .i64 ca) ∧ w5 = w' by rw [← HC.out.2.1]; exact newlines_any A c a w5 (HA.out.below Hb5.out))
  have N3 := Aside.mk (show Calls Tryd.prog 28 #[.slice B b.length d] w5 fun e w' => e = .returned (.int .i64 cb) ∧ w5 = w' by rw [← HC.out.2.2]; exact newlines_any B d b w5 (HB.out.below Hb5.out))
  clear hr5 hb5
  go_wp2_with fail
  (with_reducible refine N1.out.mono ?_)
  rintro e w' ⟨rfl, rfl⟩
  go_wp2_with fail
  (with_reducible refine N2.out.mono ?_)
  rintro e w' ⟨rfl, rfl⟩
  go_wp2_with fail
  (with_reducible refine N3.out.mono ?_)
  rintro e w' ⟨rfl, rfl⟩
  have HK := Aside.mk (known1_any w5 (tabs_below HT.out Hb5.out))
  go_wp2_with (go_at_call 20; go_must (refine HK.out.mono ?_; rintro e w' ⟨rfl, hb9⟩))
  go_ret
  exact ⟨rfl, below_then Hb5.out hb9⟩

set_option maxRecDepth 100000 in
set_option maxHeartbeats 4000000 in
theorem runesJoin_ff_any (A B : Option Addr) (c d : Nat) (a b : List Int) (w : World) (ha : Nums w .i32 A a) (hb : Nums w .i32 B b) (hca : a.length ≤ c) (hma : a.all may = false) (hmb : b.all may = false) (hT : Lib.Utf8Tabs 1 2 w)
    (h1 : a.length ≤ 1000) (h2 : b.length ≤ 1000) :
    Calls Tryd.prog 5 #[.slice A a.length c, .slice B b.length d] w fun e w' => e = .returned (.bool true) ∧ Below w.heap.size w w' := by
  have HA := Aside.mk ha
  have HB := Aside.mk hb
  have HT := Aside.mk hT
  have g1 : ¬ ((1000 : Int) < (a.length : Int)) := by omega
  have g2 : ¬ ((1000 : Int) < (b.length : Int)) := by omega
  have hboth : (a ++ b).all may = false := by rw [join_E, hma, hmb]; rfl
  obtain ⟨x, hx⟩ : ∃ x, bytesU a = x := ⟨_, rfl⟩
  have Hx := Aside.mk (And.intro hx (bytesU_f hma).2)
  obtain ⟨y, hy⟩ : ∃ y, bytesU b = y := ⟨_, rfl⟩
  have Hy := Aside.mk (And.intro hy (bytesU_f hmb).2)
  have Hz := Aside.mk (bytesU_f hboth)
  clear hx hy
  obtain ⟨ca, hcna⟩ : ∃ ca, cnt a = ca := ⟨_, rfl⟩
  obtain ⟨cb, hcnb⟩ : ∃ cb, cnt b = cb := ⟨_, rfl⟩
  have hcn := cnt_append a b
  have hla := cnt_le a
  have hlb := cnt_le b
  rw [hcna, hcnb] at hcn
  rw [hcna] at hla
  rw [hcnb] at hlb
  obtain ⟨la0, la1⟩ := hla
  obtain ⟨lb0, lb1⟩ := hlb
  obtain ⟨m, hm⟩ : ∃ m, a ++ b = m := ⟨_, rfl⟩
  have hl4 : m.length ≤ 2000 := by rw [← hm, List.length_append]; omega
  rw [hm] at Hz hcn
  have Hm := Aside.mk hm
  have HC := Aside.mk (And.intro hcn (And.intro hcna hcnb))
  have C1 := Aside.mk (show Calls Tryd.prog 21 #[.slice A a.length c] w (BytesRes w x 3) by
    have h := bytes_s A c a w ha (by omega)
    rw [Hx.out.1, Hx.out.2] at h
    exact h)
  clear ha hb hT hcn hcna hcnb hma hmb hboth hm
  go_enter Tryd.func5, Tryd.ntmps5
  go_wp2_with fail
  (with_reducible refine C1.out.mono ?_)
  rintro e w1 ⟨A1, n1, rfl, hn1, hr1, hb1⟩
  have Hb1 := Aside.mk hb1
  have HR1 := Aside.mk hr1
  have C2 := Aside.mk (show Calls Tryd.prog 21 #[.slice B b.length d] w1 (BytesRes w1 y 3) by
    have h := bytes_s B d b w1 (HB.out.below hb1) (by omega)
    rw [Hy.out.1, Hy.out.2] at h
    exact h)
  clear hr1 hb1
  go_wp2_with fail
  (with_reducible refine C2.out.mono ?_)
  rintro e w2 ⟨A2, n2, rfl, hn2, hr2, hb2⟩
  have Hb2 := Aside.mk (below_then Hb1.out hb2)
  have HR1 := Aside.mk (HR1.out.below hb2)
  have HR2 := Aside.mk hr2
  clear hr2 hb2
  go_wp2_with (at_builtin; go_must (refine app_src (w0 := w2) w2.heap.size rfl (.tmp 36) (.tmp 37) 22 21 (.int .i32 0) 1 4 rfl Tryd.underlying22 info21 rfl (by decide) _ 0 a.length c A (nums .i32 []) (nums .i32 a) rfl rfl (by rw [nums_length, Nat.mul_one]) (nums_one _ _) (own_lit0 w2 w2.heap.size 21 .i32 (Nat.le_refl _)) (HA.out.below (below_alloc Hb2.out _)).cells (below_alloc (below_refl w2) _) (below_alloc (below_refl w2) (Obj.cells #[] 21)).size (by omega) (by omega) ?_))
  intro v3 w3 hown3 hb3 hg3 _
  have HO3 := Aside.mk hown3
  have Hb23 := Aside.mk hb3
  have Hb3 := Aside.mk (below_then Hb2.out hb3)
  clear hown3 hb3 hg3
  go_wp2_with (at_builtin; go_must (refine app_src (w0 := w2) w2.heap.size rfl (.tmp 38) (.tmp 39) 22 21 (.int .i32 0) 1 4 rfl Tryd.underlying22 info21 rfl (by decide) v3 a.length b.length d B (nums .i32 [] ++ nums .i32 a) (nums .i32 b) rfl rfl (by rw [nums_length, Nat.mul_one]) (nums_one _ _) HO3.out (HB.out.below Hb3.out).cells Hb23.out Hb23.out.size (by omega) (by omega) ?_))
  intro v4 w4 hown4 hb4 hg4 _
  have hab : nums .i32 a ++ nums .i32 b = nums .i32 m := by rw [← Hm.out, nums_append]
  rw [hab] at hown4
  obtain ⟨A4, n4, hv4, hn4, hr4⟩ := Nums.own hown4
  rw [hv4]
  have HR4 := Aside.mk hr4
  have Hb4 := Aside.mk (below_then Hb2.out hb4)
  have HR1 := Aside.mk (HR1.out.below hb4)
  have HR2 := Aside.mk (HR2.out.below hb4)
  clear hown4 hb4 hg4 hv4 hr4 hab
  have C3 := Aside.mk (show Calls Tryd.prog 21 #[.slice A4 m.length n4] w4 (BytesRes w4 [] 3) by
    have h := bytes_s A4 n4 m w4 HR4.out (by omega)
    rw [Hz.out.1, Hz.out.2] at h
    exact h)
  go_wp2_with fail
  (with_reducible refine C3.out.mono ?_)
  rintro e w5 ⟨A5, n5, rfl, hn5, hr5, hb5⟩
  have Hb5 := Aside.mk (below_then Hb4.out hb5)
  have HR4 := Aside.mk (HR4.out.below hb5)
  have HX := Aside.mk (HR1.out.below hb5)
  have HY := Aside.mk (HR2.out.below hb5)
  have N1 := Aside.mk (show Calls Tryd.prog 28 #[.slice A4 m.length n4] w5 fun e w' => e = .returned (.int .i64 (ca + cb)) ∧ w5 = w' by rw [← HC.out.1]; exact newlines_any A4 n4 m w5 HR4.out)
  have N2 := Aside.mk (show Calls Tryd.prog 28 #[.slice A a.length c] w5 fun e w' => e = .returned (.int .i64 ca) ∧ w5 = w' by rw [← HC.out.2.1]; exact newlines_any A c a w5 (HA.out.below Hb5.out))
  have N3 := Aside.mk (show Calls Tryd.prog 28 #[.slice B b.length d] w5 fun e w' => e = .returned (.int .i64 cb) ∧ w5 = w' by rw [← HC.out.2.2]; exact newlines_any B d b w5 (HB.out.below Hb5.out))
  clear hr5 hb5
  go_wp2_with fail
  (with_reducible refine N1.out.mono ?_)
  rintro e w' ⟨rfl, rfl⟩
  go_wp2_with fail
  (with_reducible refine N2.out.mono ?_)
  rintro e w' ⟨rfl, rfl⟩
  go_wp2_with fail
  (with_reducible refine N3.out.mono ?_)
  rintro e w' ⟨rfl, rfl⟩
  have HK := Aside.mk (known1_any w5 (tabs_below HT.out Hb5.out))
  go_wp2_with (go_at_call 20; go_must (refine HK.out.mono ?_; rintro e w' ⟨rfl, hb9⟩))
  go_ret
  exact ⟨rfl, below_then Hb5.out hb9⟩

set_option maxRecDepth 100000 in
theorem runesJoin_walk (A : Option Addr) (c : Nat) (a : List Int) (B : Option Addr) (d : Nat) (b : List Int) (w : World) (ha : Nums w .i32 A a) (hc : a.length ≤ c) (_hw : ∀ x ∈ a, (Lit.int .i32 x).wf = true)
    (hb : Nums w .i32 B b) (_hd : b.length ≤ d) (_hwb : ∀ x ∈ b, (Lit.int .i32 x).wf = true) (hT : Lib.Utf8Tabs 1 2 w) :
    Calls Tryd.prog 5 #[.slice A a.length c, .slice B b.length d] w fun e w' => e = .returned (.bool true) ∧ Below w.heap.size w w' := by
  by_cases h1 : a.length ≤ 1000
  · by_cases h2 : b.length ≤ 1000
    · rcases hma : a.all may with _ | _ <;> rcases hmb : b.all may with _ | _
      · exact runesJoin_ff_any A B c d a b w ha hb hc hma hmb hT h1 h2
      · exact runesJoin_ft_any A B c d a b w ha hb hc hma hmb hT h1 h2
      · by_cases hp : 0 < a.length
        · exact runesJoin_tf_pos A B c d a b w ha hb hc hma hmb hp hT h1 h2
        · exact runesJoin_tf_nil A B c d a b w ha hb hc hma hmb hp hT h1 h2
      · by_cases hp : 0 < a.length
        · exact runesJoin_tt_pos A B c d a b w ha hb hc hma hmb hp hT h1 h2
        · exact runesJoin_tt_nil A B c d a b w ha hb hc hma hmb hp hT h1 h2
    · have g1 : ¬ ((1000 : Int) < (a.length : Int)) := by omega
      have g2 : (1000 : Int) < (b.length : Int) := by omega
      have HK := Aside.mk (known1_any w hT)
      clear ha hb hT
      go_enter Tryd.func5, Tryd.ntmps5
      go_wp2_with (go_at_call 20; go_must (refine HK.out.mono ?_; rintro e w' ⟨rfl, hb9⟩))
      go_ret
      exact ⟨rfl, hb9⟩
  · have g1 : (1000 : Int) < (a.length : Int) := by omega
    have HK := Aside.mk (known1_any w hT)
    clear ha hb hT
    go_enter Tryd.func5, Tryd.ntmps5
    go_wp2_with (go_at_call 20; go_must (refine HK.out.mono ?_; rintro e w' ⟨rfl, hb9⟩))
    go_ret
    exact ⟨rfl, hb9⟩
end Go.Proofs.YtaejlgdmalhhnaaDoor
