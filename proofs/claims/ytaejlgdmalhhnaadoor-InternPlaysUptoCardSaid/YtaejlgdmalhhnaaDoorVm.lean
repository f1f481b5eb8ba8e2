/- Layer 3: ValueOrders. -/
import Derived.Test.YtaejlgdmalhhnaaDoorVl
set_option linter.unusedVariables false
namespace Go.Proofs.YtaejlgdmalhhnaaDoor
open Go.RowKit

/-- What a value that a caller hands in keeps to. -/
def Val.fits (v : Val) : Prop := v.f < 18446744073709551616 ∧ v.s.size ≤ 9223372036854775807
theorem big_orders (a b : Val) (w : World) (hT : Lib.Utf8Tabs 1 2 w) (ha : a.fits) (hb : b.fits) (hbig : 1000 < a.s.size ∨ 1000 < b.s.size) :
    Calls Tryd.prog 10 #[a.v, b.v] w fun e w' => e = .returned (.bool true) ∧ Below w.heap.size w w' := by
  have HB0 := Aside.mk (two_below w a b)
  have HK := Aside.mk (known3_any _ (tabs_below hT HB0.out))
  clear hT
  obtain ⟨k, n, f, s⟩ := a
  obtain ⟨l, m, g, t⟩ := b
  simp only [Val.fits] at ha hb hbig
  obtain ⟨z, hz⟩ : ∃ z : Int, (s.size : Int) = z := ⟨_, rfl⟩
  obtain ⟨y, hy⟩ : ∃ y : Int, (t.size : Int) = y := ⟨_, rfl⟩
  unfold Val.obj at HK HB0
  unfold Val.v
  by_cases h1 : 1000 < s.size
  · have g1 : (1000 : Int) < (s.size : Int) := by omega
    clear ha hb hbig hz hy
    go_enter Tryd.func10, Tryd.ntmps10
    go_wp2_with fail
    (with_reducible refine HK.out.mono ?_)
    rintro e w1 ⟨rfl, hb1⟩
    have HB1 := Aside.mk (below_then HB0.out hb1)
    clear hb1
    go_wp2
    go_ret
    exact ⟨rfl, HB1.out⟩
  · have g1 : (s.size : Int) ≤ 1000 := by omega
    have g2 : (1000 : Int) < (t.size : Int) := by omega
    clear ha hb hbig hz hy
    go_enter Tryd.func10, Tryd.ntmps10
    go_wp2_with fail
    (with_reducible refine HK.out.mono ?_)
    rintro e w1 ⟨rfl, hb1⟩
    have HB1 := Aside.mk (below_then HB0.out hb1)
    clear hb1
    go_wp2
    go_ret
    exact ⟨rfl, HB1.out⟩
set_option maxRecDepth 100000 in
set_option maxHeartbeats 400000 in
theorem small_orders (a b : Val) (w : World) (hT : Lib.Utf8Tabs 1 2 w) (ha : a.fits) (hb : b.fits) (h1 : a.s.size ≤ 1000) (h2 : b.s.size ≤ 1000) :
    Calls Tryd.prog 10 #[a.v, b.v] w fun e w' => e = .returned (.bool true) ∧ Below w.heap.size w w' := by
  have HB0 := Aside.mk (two_below w a b)
  have HA := Aside.mk (two_a w a b)
  have HB := Aside.mk (two_b w a b)
  have HK := Aside.mk (fun W (h : Below w.heap.size w W) => known3_any W (tabs_below hT h))
  have L1 := Aside.mk (fun W (h : Below w.heap.size w W) => less_any a b W (tabs_below hT h) ha.1 hb.1)
  have L2 := Aside.mk (fun W (h : Below w.heap.size w W) => less_any b a W (tabs_below hT h) hb.1 ha.1)
  have R1 := Aside.mk (fun W => refLess_any a b W ha.1 hb.1 (by omega) (by omega))
  have R2 := Aside.mk (fun W => refLess_any b a W hb.1 ha.1 (by omega) (by omega))
  rw [lessR_lessV a b ha.1 hb.1] at R1
  rw [lessR_lessV b a hb.1 ha.1] at R2
  obtain ⟨p, hp⟩ : ∃ p, lessV a b = p := ⟨_, rfl⟩
  obtain ⟨q, hq⟩ : ∃ q, lessV b a = q := ⟨_, rfl⟩
  rw [hp] at L1 R1
  rw [hq] at L2 R2
  clear hT ha hb hp hq
  obtain ⟨k, n, f, s⟩ := a
  obtain ⟨l, m, g, t⟩ := b
  simp only at h1 h2
  have g1 : (s.size : Int) ≤ 1000 := by omega
  have g2 : (t.size : Int) ≤ 1000 := by omega
  have Hb2 := Aside.mk h2
  clear h1 h2
  unfold Val.obj at HB0 HA HB
  unfold Val.v at L1 L2 R1 R2 ⊢
  obtain ⟨a0, a1, a2, a3⟩ := HA.out
  obtain ⟨b0, b1, b2, b3⟩ := HB.out
  simp only at a0 a1 a2 a3 b0 b1 b2 b3
  have hS := HB0.out.drew
  cases p
  · cases q
    · go_enter Tryd.func10, Tryd.ntmps10
      go_wp2_with fail
      clear g1 g2 HA HB Hb2 HB0
      go_region_held3 (fun w' => w'.cell? ⟨w.heap.size, 0, none⟩ = some (.int .u8 k) ∧ w'.cell? ⟨w.heap.size, 1, none⟩ = some (.int .i64 n) ∧ w'.cell? ⟨w.heap.size, 2, none⟩ = some (.int .u64 (f : Int)) ∧ w'.cell? ⟨w.heap.size, 3, none⟩ = some (.string s) ∧ w'.cell? ⟨w.heap.size + 1, 0, none⟩ = some (.int .u8 l) ∧ w'.cell? ⟨w.heap.size + 1, 1, none⟩ = some (.int .i64 m) ∧ w'.cell? ⟨w.heap.size + 1, 2, none⟩ = some (.int .u64 (g : Int)) ∧ w'.cell? ⟨w.heap.size + 1, 3, none⟩ = some (.string t) ∧ Below w.heap.size w w')
        (first | (go_split_ands; refine ⟨cell_below hbw ?_, cell_below hbw ?_, cell_below hbw ?_, cell_below hbw ?_, cell_below hbw ?_, cell_below hbw ?_, cell_below hbw ?_, cell_below hbw ?_, below_then ?_ hbw⟩ <;> assumption) | (go_split_ands; refine ⟨?_, ?_, ?_, ?_, ?_, ?_, ?_, ?_, ?_⟩ <;> assumption) | go_keep)
        (first
          | (go_at_call 58; (first | with_reducible refine (L1.out _ (by first | assumption | (go_split_ands; assumption))).mono ?_ | with_reducible refine (L2.out _ (by first | assumption | (go_split_ands; assumption))).mono ?_); rintro e w' ⟨rfl, hbw⟩)
          | (go_at_call 59; (first | with_reducible refine (R1.out _).mono ?_ | with_reducible refine (R2.out _).mono ?_); rintro e w' ⟨rfl, hbw⟩)
          | (go_at_call 42; with_reducible refine (HK.out _ (by first | assumption | (go_split_ands; assumption))).mono ?_; rintro e w' ⟨rfl, hbw⟩))
      go_wp2
      go_ret
      exact ⟨rfl, by first | assumption | (go_split_ands; assumption) | (go_split_ands; exact below_then (by assumption) hbw)⟩
    · go_enter Tryd.func10, Tryd.ntmps10
      go_wp2_with fail
      clear g1 g2 HA HB Hb2 HB0
      go_region_held3 (fun w' => w'.cell? ⟨w.heap.size, 0, none⟩ = some (.int .u8 k) ∧ w'.cell? ⟨w.heap.size, 1, none⟩ = some (.int .i64 n) ∧ w'.cell? ⟨w.heap.size, 2, none⟩ = some (.int .u64 (f : Int)) ∧ w'.cell? ⟨w.heap.size, 3, none⟩ = some (.string s) ∧ w'.cell? ⟨w.heap.size + 1, 0, none⟩ = some (.int .u8 l) ∧ w'.cell? ⟨w.heap.size + 1, 1, none⟩ = some (.int .i64 m) ∧ w'.cell? ⟨w.heap.size + 1, 2, none⟩ = some (.int .u64 (g : Int)) ∧ w'.cell? ⟨w.heap.size + 1, 3, none⟩ = some (.string t) ∧ Below w.heap.size w w')
        (first | (go_split_ands; refine ⟨cell_below hbw ?_, cell_below hbw ?_, cell_below hbw ?_, cell_below hbw ?_, cell_below hbw ?_, cell_below hbw ?_, cell_below hbw ?_, cell_below hbw ?_, below_then ?_ hbw⟩ <;> assumption) | (go_split_ands; refine ⟨?_, ?_, ?_, ?_, ?_, ?_, ?_, ?_, ?_⟩ <;> assumption) | go_keep)
        (first
          | (go_at_call 58; (first | with_reducible refine (L1.out _ (by first | assumption | (go_split_ands; assumption))).mono ?_ | with_reducible refine (L2.out _ (by first | assumption | (go_split_ands; assumption))).mono ?_); rintro e w' ⟨rfl, hbw⟩)
          | (go_at_call 59; (first | with_reducible refine (R1.out _).mono ?_ | with_reducible refine (R2.out _).mono ?_); rintro e w' ⟨rfl, hbw⟩)
          | (go_at_call 42; with_reducible refine (HK.out _ (by first | assumption | (go_split_ands; assumption))).mono ?_; rintro e w' ⟨rfl, hbw⟩))
      go_wp2
      go_ret
      exact ⟨rfl, by first | assumption | (go_split_ands; assumption) | (go_split_ands; exact below_then (by assumption) hbw)⟩
  · cases q
    · go_enter Tryd.func10, Tryd.ntmps10
      go_wp2_with fail
      clear g1 g2 HA HB Hb2 HB0
      go_region_held3 (fun w' => w'.cell? ⟨w.heap.size, 0, none⟩ = some (.int .u8 k) ∧ w'.cell? ⟨w.heap.size, 1, none⟩ = some (.int .i64 n) ∧ w'.cell? ⟨w.heap.size, 2, none⟩ = some (.int .u64 (f : Int)) ∧ w'.cell? ⟨w.heap.size, 3, none⟩ = some (.string s) ∧ w'.cell? ⟨w.heap.size + 1, 0, none⟩ = some (.int .u8 l) ∧ w'.cell? ⟨w.heap.size + 1, 1, none⟩ = some (.int .i64 m) ∧ w'.cell? ⟨w.heap.size + 1, 2, none⟩ = some (.int .u64 (g : Int)) ∧ w'.cell? ⟨w.heap.size + 1, 3, none⟩ = some (.string t) ∧ Below w.heap.size w w')
        (first | (go_split_ands; refine ⟨cell_below hbw ?_, cell_below hbw ?_, cell_below hbw ?_, cell_below hbw ?_, cell_below hbw ?_, cell_below hbw ?_, cell_below hbw ?_, cell_below hbw ?_, below_then ?_ hbw⟩ <;> assumption) | (go_split_ands; refine ⟨?_, ?_, ?_, ?_, ?_, ?_, ?_, ?_, ?_⟩ <;> assumption) | go_keep)
        (first
          | (go_at_call 58; (first | with_reducible refine (L1.out _ (by first | assumption | (go_split_ands; assumption))).mono ?_ | with_reducible refine (L2.out _ (by first | assumption | (go_split_ands; assumption))).mono ?_); rintro e w' ⟨rfl, hbw⟩)
          | (go_at_call 59; (first | with_reducible refine (R1.out _).mono ?_ | with_reducible refine (R2.out _).mono ?_); rintro e w' ⟨rfl, hbw⟩)
          | (go_at_call 42; with_reducible refine (HK.out _ (by first | assumption | (go_split_ands; assumption))).mono ?_; rintro e w' ⟨rfl, hbw⟩))
      go_wp2
      go_ret
      exact ⟨rfl, by first | assumption | (go_split_ands; assumption) | (go_split_ands; exact below_then (by assumption) hbw)⟩
    · go_enter Tryd.func10, Tryd.ntmps10
      go_wp2_with fail
      clear g1 g2 HA HB Hb2 HB0
      go_region_held3 (fun w' => w'.cell? ⟨w.heap.size, 0, none⟩ = some (.int .u8 k) ∧ w'.cell? ⟨w.heap.size, 1, none⟩ = some (.int .i64 n) ∧ w'.cell? ⟨w.heap.size, 2, none⟩ = some (.int .u64 (f : Int)) ∧ w'.cell? ⟨w.heap.size, 3, none⟩ = some (.string s) ∧ w'.cell? ⟨w.heap.size + 1, 0, none⟩ = some (.int .u8 l) ∧ w'.cell? ⟨w.heap.size + 1, 1, none⟩ = some (.int .i64 m) ∧ w'.cell? ⟨w.heap.size + 1, 2, none⟩ = some (.int .u64 (g : Int)) ∧ w'.cell? ⟨w.heap.size + 1, 3, none⟩ = some (.string t) ∧ Below w.heap.size w w')
        (first | (go_split_ands; refine ⟨cell_below hbw ?_, cell_below hbw ?_, cell_below hbw ?_, cell_below hbw ?_, cell_below hbw ?_, cell_below hbw ?_, cell_below hbw ?_, cell_below hbw ?_, below_then ?_ hbw⟩ <;> assumption) | (go_split_ands; refine ⟨?_, ?_, ?_, ?_, ?_, ?_, ?_, ?_, ?_⟩ <;> assumption) | go_keep)
        (first
          | (go_at_call 58; (first | with_reducible refine (L1.out _ (by first | assumption | (go_split_ands; assumption))).mono ?_ | with_reducible refine (L2.out _ (by first | assumption | (go_split_ands; assumption))).mono ?_); rintro e w' ⟨rfl, hbw⟩)
          | (go_at_call 59; (first | with_reducible refine (R1.out _).mono ?_ | with_reducible refine (R2.out _).mono ?_); rintro e w' ⟨rfl, hbw⟩)
          | (go_at_call 42; with_reducible refine (HK.out _ (by first | assumption | (go_split_ands; assumption))).mono ?_; rintro e w' ⟨rfl, hbw⟩))
      go_wp2
      go_ret
      exact ⟨rfl, by first | assumption | (go_split_ands; assumption) | (go_split_ands; exact below_then (by assumption) hbw)⟩
theorem valueOrders_walk (a b : Val) (w : World) (ha : a.fits) (hb : b.fits) (hT : Lib.Utf8Tabs 1 2 w) :
    Calls Tryd.prog 10 #[a.v, b.v] w fun e w' => e = .returned (.bool true) ∧ Below w.heap.size w w' := by
  by_cases h1 : 1000 < a.s.size
  · exact big_orders a b w hT ha hb (.inl h1)
  by_cases h2 : 1000 < b.s.size
  · exact big_orders a b w hT ha hb (.inr h2)
  · exact small_orders a b w hT ha hb (by omega) (by omega)
end Go.Proofs.YtaejlgdmalhhnaaDoor
