/- Layer 1: utf8.Valid at every slice of bytes: what the decoder's own steps say. After the guide's walk of utf8.ValidString, turned to slices. -/
import Derived.Test.YtaejlgdmalhhnaaDoorRe
set_option linter.unusedVariables false
namespace Go.Proofs.YtaejlgdmalhhnaaDoor
open Go.RowKit

/-! ### plain -/
def AscL (l : List UInt8) (k : Nat) : Prop := ∀ b ∈ l.take k, b.toNat < 128
theorem asc_addL (l : List UInt8) (a b : Nat) (ha : AscL l a) (hb : AscL (l.drop a) b) : AscL l (a + b) := by
  unfold AscL at *
  rw [List.take_add]
  intro x hx
  rcases List.mem_append.1 hx with h | h
  · exact ha x h
  · exact hb x h
theorem word_ascL (l : List UInt8) (h : 8 ≤ l.length) : Lib.leNat (l.take 8) &&& 9259542123273814144 = 0 ↔ AscL l 8 := by
  have h8 : (l.take 8).length = 8 := by rw [List.length_take]; omega
  have := Lib.leNat_mask (l.take 8)
  rw [h8, Lib.maskN8] at this
  exact this
theorem word_ltL (l : List UInt8) (h : 8 ≤ l.length) : Lib.leNat (l.take 8) < 18446744073709551616 := by
  have h8 : (l.take 8).length = 8 := by rw [List.length_take]; omega
  have := Lib.leNat_lt (l.take 8)
  rw [h8] at this
  simpa using this
theorem valid_skipL (l : List UInt8) (k : Nat) (h : AscL l k) : Lib.validD (l.drop k) = Lib.validD l := (Lib.validD_ascii k l h).symm
theorem asc_oneL (l : List UInt8) (h0 : 0 < l.length) (h : (l.getD 0 0).toNat < 128) : AscL l 1 := by
  unfold AscL
  match l, h0 with
  | a :: r, _ =>
    intro b hb
    simp at hb h
    subst hb
    exact h
set_option maxRecDepth 100000 in
theorem and7L : ∀ X : Fin 256, bits .and .u8 ((X.val : Nat) : Int) 7 = ((X.val % 8 : Nat) : Int) := by decide

/-- 'p[k:]' for a literal k. -/
theorem cut_lit {A : Option Addr} {l : List UInt8} (i : Int) (k : Nat) (hi : i = (k : Int)) (hk : k ≤ l.length) :
    ∃ (A1 : Option Addr) (l1 : List UInt8), l.drop k = l1 ∧ l1.length + k = l.length ∧ (∀ W : World, (Instr.slice 23 (.slice A l.length l.length) (some (.int .i64 i)) none none).run Tryd.prog W = .ok (.slice A1 l1.length l1.length) W) ∧
      ∀ w, Bs w A l → Bs w A1 l1 := by
  subst hi
  obtain ⟨A1, h1, h2⟩ := cut_bs (A := A) k hk
  exact ⟨A1, _, rfl, by rw [List.length_drop]; omega, h1, h2⟩
/-- One word, by its number. -/
theorem word_num {A : Option Addr} {l : List UInt8} {w : World} (hB : Bs w A l) (h : 8 ≤ l.length) :
    ∃ A1 : Nat, A1 < 18446744073709551616 ∧ (∀ W c, Below w.heap.size w W → Calls Tryd.prog 100 #[.slice A l.length c] W fun e w' => e = .returned (.int .u64 A1) ∧ ∃ q, w' = W.drewN q) ∧ (A1 &&& 9259542123273814144 = 0 ↔ AscL l 8) :=
  ⟨_, word_ltL l h, fun W c hb => word_any A l c W (hB.below hb) h, word_ascL l h⟩
theorem below_drewN' {w wr : World} (q : Nat) (hb : Below w.heap.size w wr) : Below w.heap.size w (wr.drewN q) := below_drewN hb q
theorem drewN_size (w : World) (q : Nat) : (w.drewN q).heap.size = w.heap.size := rfl
theorem below_self_drewN (w : World) (q : Nat) : Below w.heap.size w (w.drewN q) := below_drewN (below_refl w) q
theorem tabs_below {w w1 : World} (h : Lib.Utf8Tabs 1 2 w) (hb : Below w.heap.size w w1) : Lib.Utf8Tabs 1 2 w1 :=
  ⟨fun c hc => cell_below hb (h.1 c hc), fun i hi => ⟨cell_below hb (h.2 i hi).1, cell_below hb (h.2 i hi).2⟩⟩

set_option maxHeartbeats 4000000 in
set_option maxRecDepth 1000000 in
theorem valid_any (A : Option Addr) (l : List UInt8) (c : Nat) (w : World) (hB : Bs w A l) (hc : l.length ≤ c) (hT : Lib.Utf8Tabs 1 2 w) :
    Calls Tryd.prog 75 #[.slice A l.length c] w fun e w' => e = .returned (.bool (Lib.validD l)) ∧ Below w.heap.size w w' := by
  obtain ⟨ANS, hANS⟩ : ∃ ANS, Lib.validD l = ANS := ⟨_, rfl⟩
  rw [hANS]
  have hlen := hB.len
  have HB := Aside.mk hB
  have HT := Aside.mk hT
  have HANS := Aside.mk hANS
  clear hB hT hANS
  have hcz : (l.length : Int) ≤ (c : Int) := by omega
  go_enter Tryd.func75, Tryd.ntmps75
  go_wp2
  go_loopg [0] (l.length + 1) (fun gk s0 wx => Below w.heap.size w wx ∧ ∃ (A1 : Option Addr) (t : List UInt8), s0 = .slice A1 t.length t.length ∧ Aside (Bs w A1 t) ∧ Aside (Lib.validD t = ANS) ∧ t.length < gk ∧ t.length ≤ 9223372036854775807)
  case atStart => exact ⟨below_refl _, A, l, rfl, HB, HANS, by omega, hlen⟩
  case round =>
    obtain ⟨hbw, At, t, rfl, HBw, Hv, hg, hts⟩ := hrel
    by_cases h0 : 0 < t.length
    · obtain ⟨g', rfl⟩ : ∃ g', gk = g' + 1 := ⟨gk - 1, by omega⟩
      have h0z : (0 : Int) < (t.length : Int) := by omega
      have HBt := Aside.mk (HBw.out.below hbw)
      obtain ⟨ad, rfl, hcell⟩ := HBt.out.at_ (i := 0) h0
      obtain ⟨x0, hx0⟩ : ∃ x0, t.getD 0 0 = x0 := ⟨_, rfl⟩
      rw [hx0] at hcell
      have hcell' : wr.cell? ad = some (.int .u8 (x0.toNat : Int)) := hcell
      have hx0lt : x0.toNat < 256 := x0.toNat_lt
      by_cases hasc : x0.toNat < 128
      · as_aux_lemma =>
        have hascz : (x0.toNat : Int) < 128 := by omega
        have a1 : AscL t 1 := asc_oneL t h0 (by rw [hx0]; exact hasc)
        obtain ⟨A1, t1, ht1, z1, hr1, hd1⟩ := cut_lit (A := some ad) (l := t) 1 1 rfl (by omega)
        have V1 := Aside.mk (show Lib.validD t1 = ANS by rw [← ht1, valid_skipL t 1 a1]; exact Hv.out)
        have HBw1 := Aside.mk (hd1 _ HBw.out)
        clear hx0 a1 ht1 hd1
        by_cases c8 : 8 < t1.length
        · have c8z : (8 : Int) < (t1.length : Int) := by omega
          obtain ⟨N1, lN1, cW1, kN1⟩ := word_num HBw1.out (by omega)
          have cW1' := fun W hb => cW1 W t1.length hb
          have hand1 : bits .and .u64 (N1 : Int) 9259542123273814144 = ((N1 &&& 9259542123273814144 : Nat) : Int) := u64_and_nat N1 9259542123273814144 lN1 (by omega)
          obtain ⟨Z1, hZ1⟩ : ∃ Z1, N1 &&& 9259542123273814144 = Z1 := ⟨_, rfl⟩
          rw [hZ1] at hand1 kN1
          have KN1 := Aside.mk kN1
          have CW1 := Aside.mk cW1'
          clear kN1 cW1 cW1' hZ1
          by_cases hz1 : Z1 = 0
          · have hz1b : ((Z1 : Int) == 0) = true := by simp [hz1]
            have a8 : AscL t1 8 := KN1.out.1 hz1
            obtain ⟨A2, t2, ht2, z2, hr2, hd2⟩ := cut_lit (A := A1) (l := t1) 8 8 rfl (by omega)
            have V2 := Aside.mk (show Lib.validD t2 = ANS by rw [← ht2, valid_skipL t1 8 a8]; exact V1.out)
            have HBw2 := Aside.mk (hd2 _ HBw1.out)
            clear a8 ht2 hd2
            go_wp2_with (go_at_call 100; go_must (refine (CW1.out _ hbw).mono ?_; rintro e W1 ⟨rfl, q1, rfl⟩))
            have hb1 : Below w.heap.size w (wr.drewN q1) := below_drewN hbw q1
            generalize wr.drewN q1 = wq at hb1 ⊢
            clear hcell hcell' hbw HBt
            by_cases c16 : 16 < t2.length
            · have c16z : (16 : Int) < (t2.length : Int) := by omega
              obtain ⟨A2b, t2b, ht2b, z2b, hr2b, hd2b⟩ := cut_lit (A := A2) (l := t2) 8 8 rfl (by omega)
              have HBw2b := Aside.mk (hd2b _ HBw2.out)
              obtain ⟨N2, lN2, cW2, kN2⟩ := word_num HBw2.out (by omega)
              obtain ⟨N3, lN3, cW3, kN3⟩ := word_num HBw2b.out (by omega)
              have hor2 : bits .or .u64 (N2 : Int) (N3 : Int) = ((N2 ||| N3 : Nat) : Int) := u64_or_nat N2 N3 lN2 lN3
              have lor2 : N2 ||| N3 < 18446744073709551616 := Nat.or_lt_two_pow (n := 64) lN2 lN3
              have hand2 : bits .and .u64 ((N2 ||| N3 : Nat) : Int) 9259542123273814144 = (((N2 ||| N3) &&& 9259542123273814144 : Nat) : Int) := u64_and_nat _ 9259542123273814144 lor2 (by omega)
              have k2 : (N2 ||| N3) &&& 9259542123273814144 = 0 → AscL t2 16 := fun h0' => by
                obtain ⟨e1, e2⟩ := (Lib.or_mask N2 N3 _).1 h0'
                exact asc_addL t2 8 8 (kN2.1 e1) (by rw [ht2b]; exact kN3.1 e2)
              obtain ⟨O2, hO2⟩ : ∃ O2, N2 ||| N3 = O2 := ⟨_, rfl⟩
              rw [hO2] at hor2 hand2 k2
              obtain ⟨Z2, hZ2⟩ : ∃ Z2, O2 &&& 9259542123273814144 = Z2 := ⟨_, rfl⟩
              rw [hZ2] at hand2 k2
              have K2 := Aside.mk k2
              have CW2 := Aside.mk (fun n => cW2 (wq.drewN n) t2.length (below_drewN hb1 n))
              have CW3 := Aside.mk (fun n => cW3 (wq.drewN n) t2b.length (below_drewN hb1 n))
              clear kN2 kN3 lor2 hO2 hZ2 k2 cW2 cW3 ht2b hd2b
              by_cases hz2 : Z2 = 0
              · have hz2b : ((Z2 : Int) == 0) = true := by simp [hz2]
                have a16 := K2.out hz2
                obtain ⟨A3, t3, ht3, z3, hr3, hd3⟩ := cut_lit (A := A2) (l := t2) 16 16 rfl (by omega)
                have V3 := Aside.mk (show Lib.validD t3 = ANS by rw [← ht3, valid_skipL t2 16 a16]; exact V2.out)
                have HBw3 := Aside.mk (hd3 _ HBw2.out)
                clear a16 ht3 hd3
                go_big_quiet (first | (go_at_call 100; (with_reducible refine Calls.quiet_of (CW2.out _))) | (go_at_call 100; (with_reducible refine Calls.quiet_of (CW3.out _))))
                have hb2 : Below w.heap.size w (wq.drewN nq) := below_drewN hb1 nq
                generalize wq.drewN nq = wq2 at hb2 ⊢
                clear hb1
                go_wp2
                go_loopg [0] (t3.length + 1) (fun g2 s0 wx => Below w.heap.size w wx ∧ ∃ (Au : Option Addr) (u : List UInt8), s0 = .slice Au u.length u.length ∧ Aside (Bs w Au u) ∧ Aside (Lib.validD u = ANS) ∧ u.length < g2 ∧ u.length ≤ t3.length)
                case atStart => exact ⟨hb2, A3, t3, rfl, HBw3, V3, by omega, Nat.le_refl _⟩
                case round => as_aux_lemma =>
                  obtain ⟨hbu, Au, u, rfl, HBu, Vu, hgu, hut⟩ := hrel
                  by_cases c32 : 32 < u.length
                  · obtain ⟨g3, rfl⟩ : ∃ g3, gk = g3 + 1 := ⟨gk - 1, by omega⟩
                    have c32z : (32 : Int) < (u.length : Int) := by omega
                    obtain ⟨Ab, ub, hub, zub, hrb, hdb⟩ := cut_lit (A := Au) (l := u) 8 8 rfl (by omega)
                    obtain ⟨Ac, uc, huc, zuc, hrc, hdc⟩ := cut_lit (A := Au) (l := u) 16 16 rfl (by omega)
                    obtain ⟨Ad, ud, hud, zud, hrd, hdd⟩ := cut_lit (A := Au) (l := u) 24 24 rfl (by omega)
                    obtain ⟨B0, lB0, cB0, kB0⟩ := word_num HBu.out (by omega)
                    obtain ⟨B1, lB1, cB1, kB1⟩ := word_num (hdb _ HBu.out) (by omega)
                    obtain ⟨B2, lB2, cB2, kB2⟩ := word_num (hdc _ HBu.out) (by omega)
                    obtain ⟨B3, lB3, cB3, kB3⟩ := word_num (hdd _ HBu.out) (by omega)
                    have ho1 : bits .or .u64 (B0 : Int) (B1 : Int) = ((B0 ||| B1 : Nat) : Int) := u64_or_nat B0 B1 lB0 lB1
                    have ho2 : bits .or .u64 (B2 : Int) (B3 : Int) = ((B2 ||| B3 : Nat) : Int) := u64_or_nat B2 B3 lB2 lB3
                    have lo1 : B0 ||| B1 < 18446744073709551616 := Nat.or_lt_two_pow (n := 64) lB0 lB1
                    have lo2 : B2 ||| B3 < 18446744073709551616 := Nat.or_lt_two_pow (n := 64) lB2 lB3
                    have ho3 : bits .or .u64 ((B0 ||| B1 : Nat) : Int) ((B2 ||| B3 : Nat) : Int) = (((B0 ||| B1) ||| (B2 ||| B3) : Nat) : Int) := u64_or_nat _ _ lo1 lo2
                    have lo3 : (B0 ||| B1) ||| (B2 ||| B3) < 18446744073709551616 := Nat.or_lt_two_pow (n := 64) lo1 lo2
                    have hand3 : bits .and .u64 (((B0 ||| B1) ||| (B2 ||| B3) : Nat) : Int) 9259542123273814144 = ((((B0 ||| B1) ||| (B2 ||| B3)) &&& 9259542123273814144 : Nat) : Int) := u64_and_nat _ 9259542123273814144 lo3 (by omega)
                    have k3 : ((B0 ||| B1) ||| (B2 ||| B3)) &&& 9259542123273814144 = 0 → AscL u 32 := fun h0' => by
                      obtain ⟨e01, e23⟩ := (Lib.or_mask _ _ _).1 h0'
                      obtain ⟨e0, e1⟩ := (Lib.or_mask _ _ _).1 e01
                      obtain ⟨e2, e3⟩ := (Lib.or_mask _ _ _).1 e23
                      have s16 : AscL u 16 := asc_addL u 8 8 (kB0.1 e0) (by rw [hub]; exact kB1.1 e1)
                      have s24 : AscL u 24 := asc_addL u 16 8 s16 (by rw [huc]; exact kB2.1 e2)
                      exact asc_addL u 24 8 s24 (by rw [hud]; exact kB3.1 e3)
                    obtain ⟨P1, hP1⟩ : ∃ P1, B0 ||| B1 = P1 := ⟨_, rfl⟩
                    obtain ⟨P2, hP2⟩ : ∃ P2, B2 ||| B3 = P2 := ⟨_, rfl⟩
                    rw [hP1, hP2] at ho3 hand3 k3
                    rw [hP1] at ho1
                    rw [hP2] at ho2
                    obtain ⟨P3, hP3⟩ : ∃ P3, P1 ||| P2 = P3 := ⟨_, rfl⟩
                    rw [hP3] at ho3 hand3 k3
                    obtain ⟨Z3, hZ3⟩ : ∃ Z3, P3 &&& 9259542123273814144 = Z3 := ⟨_, rfl⟩
                    rw [hZ3] at hand3 k3
                    have K3 := Aside.mk k3
                    have CB0 := Aside.mk (fun n => cB0 (wr.drewN n) u.length (below_drewN hbu n))
                    have CB1 := Aside.mk (fun n => cB1 (wr.drewN n) ub.length (below_drewN hbu n))
                    have CB2 := Aside.mk (fun n => cB2 (wr.drewN n) uc.length (below_drewN hbu n))
                    have CB3 := Aside.mk (fun n => cB3 (wr.drewN n) ud.length (below_drewN hbu n))
                    clear kB0 kB1 kB2 kB3 lo1 lo2 lo3 hP1 hP2 hP3 hZ3 k3 cB0 cB1 cB2 cB3 hub huc hud hdb hdc hdd
                    by_cases hz3 : Z3 = 0
                    · have hz3b : ((Z3 : Int) == 0) = true := by simp [hz3]
                      have a32 := K3.out hz3
                      obtain ⟨A4, u2, hu2, zu2, hr4, hd4⟩ := cut_lit (A := Au) (l := u) 32 32 rfl (by omega)
                      have V4 := Aside.mk (show Lib.validD u2 = ANS by rw [← hu2, valid_skipL u 32 a32]; exact Vu.out)
                      have HB4 := Aside.mk (hd4 _ HBu.out)
                      clear a32 hu2 hd4
                      go_wp2_with fail
                      go_big_quiet (first | (go_at_call 100; (with_reducible refine Calls.quiet_of (CB0.out _))) | (go_at_call 100; (with_reducible refine Calls.quiet_of (CB1.out _))) | (go_at_call 100; (with_reducible refine Calls.quiet_of (CB2.out _))) | (go_at_call 100; (with_reducible refine Calls.quiet_of (CB3.out _))))
                      go_wp2
                      go_roundg g3
                      case measure => omega
                      case rel => exact ⟨below_drewN hbu nq, A4, u2, rfl, HB4, V4, by omega, by omega⟩
                    · have hz3b : ((Z3 : Int) == 0) = false := by simp; omega
                      go_wp2_with fail
                      go_big_quiet (first | (go_at_call 100; (with_reducible refine Calls.quiet_of (CB0.out _))) | (go_at_call 100; (with_reducible refine Calls.quiet_of (CB1.out _))) | (go_at_call 100; (with_reducible refine Calls.quiet_of (CB2.out _))) | (go_at_call 100; (with_reducible refine Calls.quiet_of (CB3.out _))))
                      go_wp2
                      go_roundg g'
                      case measure => omega
                      case rel => exact ⟨below_drewN hbu nq, Au, u, rfl, HBu, Vu, by omega, by omega⟩
                  · have c32z : ¬ ((32 : Int) < (u.length : Int)) := by omega
                    have c32b : decide ((32 : Int) < (u.length : Int)) = false := decide_eq_false c32z
                    go_wp2_with fail
                    go_big_quiet (fail)
                    go_wp2
                    go_roundg g'
                    case measure => omega
                    case rel => exact ⟨below_drewN hbu nq, Au, u, rfl, HBu, Vu, by omega, by omega⟩
              · have hz2b : ((Z2 : Int) == 0) = false := by simp; omega
                go_big_quiet (first | (go_at_call 100; (with_reducible refine Calls.quiet_of (CW2.out _))) | (go_at_call 100; (with_reducible refine Calls.quiet_of (CW3.out _))))
                go_wp2
                go_roundg g'
                case measure => omega
                case rel => exact ⟨below_drewN hb1 nq, A2, t2, rfl, HBw2, V2, by omega, by omega⟩
            · have c16z : ¬ ((16 : Int) < (t2.length : Int)) := by omega
              have c16b : decide ((16 : Int) < (t2.length : Int)) = false := decide_eq_false c16z
              go_big_quiet (fail)
              go_wp2
              go_roundg g'
              case measure => omega
              case rel => exact ⟨below_drewN hb1 nq, A2, t2, rfl, HBw2, V2, by omega, by omega⟩
          · have hz1b : ((Z1 : Int) == 0) = false := by simp; omega
            go_wp2_with (go_at_call 100; go_must (refine (CW1.out _ hbw).mono ?_; rintro e W1 ⟨rfl, q1, rfl⟩))
            go_roundg g'
            case measure => omega
            case rel => exact ⟨below_drewN hbw q1, A1, t1, rfl, HBw1, V1, by omega, by omega⟩
        · have c8z : ¬ ((8 : Int) < (t1.length : Int)) := by omega
          go_wp2
          go_roundg g'
          case measure => omega
          case rel => exact ⟨hbw, A1, t1, rfl, HBw1, V1, by omega, by omega⟩
      · as_aux_lemma =>
        have hge : 128 ≤ x0.toNat := by omega
        have hascz : ¬ ((x0.toNat : Int) < 128) := by omega
        obtain ⟨x1, hx1⟩ : ∃ x1, t.getD 1 0 = x1 := ⟨_, rfl⟩
        obtain ⟨x2, hx2⟩ : ∃ x2, t.getD 2 0 = x2 := ⟨_, rfl⟩
        obtain ⟨x3, hx3⟩ : ∃ x3, t.getD 3 0 = x3 := ⟨_, rfl⟩
        have l1 := x1.toNat_lt; have l2 := x2.toNat_lt; have l3 := x3.toNat_lt
        have hne : t ≠ [] := fun h => by rw [h] at h0; simp at h0
        have hlead := Lib.validD_lead t hne (by rw [hx0]; exact hge)
        rw [hx0, hx1, hx2, hx3, Hv.out] at hlead
        have Hx1 := Aside.mk hx1
        have Hx2 := Aside.mk hx2
        have Hx3 := Aside.mk hx3
        have hTr := tabs_below HT.out hbw
        have hc0 := hTr.1 x0.toNat hx0lt
        have hXlt : Lib.firstT x0.toNat < 256 := by rcases Lib.firstT_cases x0.toNat with h | h | h | h | h | h | h | h | h <;> omega
        obtain ⟨X, hX⟩ : ∃ X, Lib.firstT x0.toNat = X := ⟨_, rfl⟩
        rw [hX] at hc0 hXlt hlead
        have h7 := and7L ⟨X, hXlt⟩
        simp only at h7
        have ha0 : wr.cell? ⟨2, X / 16 * 2, none⟩ = some (.int .u8 (Lib.accLo (X / 16))) := by rw [Nat.mul_comm]; exact (hTr.2 (X / 16) (by omega)).1
        have ha1 : wr.cell? ⟨2, X / 16 * 2 + 1, none⟩ = some (.int .u8 (Lib.accHi (X / 16))) := by rw [Nat.mul_comm]; exact (hTr.2 (X / 16) (by omega)).2
        obtain ⟨LO, hLO⟩ : ∃ LO, Lib.accLo (X / 16) = LO := ⟨_, rfl⟩
        obtain ⟨HI, hHI⟩ : ∃ HI, Lib.accHi (X / 16) = HI := ⟨_, rfl⟩
        rw [hLO] at ha0 hlead
        rw [hHI] at ha1 hlead
        obtain ⟨SZ, hSZ⟩ : ∃ SZ, X % 8 = SZ := ⟨_, rfl⟩
        rw [hSZ] at hlead
        clear hTr hX hLO hHI hne hx0 hx1 hx2 hx3
        by_cases s2 : SZ = 2
        · as_aux_lemma =>
          subst s2
          have hSZz : (X : Int) % 8 = 2 := by omega
          simp only [Lib.checkN, Nat.reduceEqDiff, if_true, if_false] at hlead
          have Hlead := Aside.mk hlead
          clear hlead
          go_upto_region 18 with fail
          go_cut [103] from 85 to 103 (fun c wx => c = .bool (decide (t.length < 2 ∨ x1.toNat < LO ∨ HI < x1.toNat)) ∧ Below w.heap.size w wx)
          case first => as_aux_lemma =>
            by_cases q0 : t.length < 2
            · have q0z : (t.length : Int) < 2 := by omega
              go_big_quiet (fail)
              go_wp2
              go_meet
              exact ⟨congrArg Value.bool (decide_eq_true (p := t.length < 2 ∨ x1.toNat < LO ∨ HI < x1.toNat) (by omega)).symm, below_drewN (hbw.alloc hbw.size _) _⟩
            · have q0z : ¬ ((t.length : Int) < 2) := by omega
              have hz1 : (1 : Int) < (t.length : Int) := by omega
              have hp1 : 1 < t.length := by omega
              have hs1 : ∀ o, (wr.alloc o).cell? ⟨ad.block, ad.off + 1, none⟩ = some (.int .u8 (x1.toNat : Int)) := fun o => cell_below (below_alloc (below_refl wr) o) (Hx1.out ▸ HBt.out.lit1 hp1)
              by_cases q1 : x1.toNat < LO
              · have q1z : (x1.toNat : Int) < (LO : Int) := by omega
                go_big_quiet (fail)
                go_wp2
                go_meet
                exact ⟨congrArg Value.bool (decide_eq_true (p := t.length < 2 ∨ x1.toNat < LO ∨ HI < x1.toNat) (by omega)).symm, below_drewN (hbw.alloc hbw.size _) _⟩
              · have q1z : ¬ ((x1.toNat : Int) < (LO : Int)) := by omega
                by_cases q2 : HI < x1.toNat
                · have q2z : (HI : Int) < (x1.toNat : Int) := by omega
                  go_big_quiet (fail)
                  go_wp2
                  go_meet
                  exact ⟨congrArg Value.bool (decide_eq_true (p := t.length < 2 ∨ x1.toNat < LO ∨ HI < x1.toNat) (by omega)).symm, below_drewN (hbw.alloc hbw.size _) _⟩
                · have q2z : ¬ ((HI : Int) < (x1.toNat : Int)) := by omega
                  go_big_quiet (fail)
                  go_wp2
                  go_meet
                  exact ⟨congrArg Value.bool (decide_eq_false (p := t.length < 2 ∨ x1.toNat < LO ∨ HI < x1.toNat) (by omega)).symm, below_drewN (hbw.alloc hbw.size _) _⟩
          case rest => as_aux_lemma =>
            obtain ⟨rfl, hbc⟩ := hcut
            have hlead := Hlead.out
            by_cases hb : t.length < 2 ∨ x1.toNat < LO ∨ HI < x1.toNat
            · have hbd : decide (t.length < 2 ∨ x1.toNat < LO ∨ HI < x1.toNat) = true := decide_eq_true hb
              rw [if_pos hb] at hlead
              have Hlead2 := Aside.mk hlead
              clear hlead
              go_wp2
              all_goals (go_ret; exact ⟨by first | rfl | (rw [Hlead2.out]; rfl), hbc⟩)
            · have hbd : decide (t.length < 2 ∨ x1.toNat < LO ∨ HI < x1.toNat) = false := decide_eq_false hb
              rw [if_neg hb] at hlead
              obtain ⟨A1, l1, hl1, hz1, hrun, hrd⟩ := cut_lit (A := some ad) (l := t) 2 2 rfl (by omega)
              have hlead : ANS = Lib.validD (t.drop 2) := hlead
              rw [hl1] at hlead
              have Hlead2 := Aside.mk hlead
              have Hrd := Aside.mk hrd
              clear hlead hrd hl1
              go_wp2
              go_roundg g'
              case measure => omega
              case rel => exact ⟨hbc, A1, l1, rfl, ⟨Hrd.out _ HBw.out⟩, ⟨Hlead2.out.symm⟩, by omega, by omega⟩
        by_cases s3 : SZ = 3
        · as_aux_lemma =>
          subst s3
          have hSZz : (X : Int) % 8 = 3 := by omega
          simp only [Lib.checkN, Nat.reduceEqDiff, if_true, if_false] at hlead
          have Hlead := Aside.mk hlead
          clear hlead
          go_upto_region 22 with fail
          go_cut [138] from 108 to 138 (fun c wx => c = .bool (decide (t.length < 3 ∨ x1.toNat < LO ∨ HI < x1.toNat ∨ x2.toNat < 128 ∨ 191 < x2.toNat)) ∧ Below w.heap.size w wx)
          case first => as_aux_lemma =>
            by_cases q0 : t.length < 3
            · have q0z : (t.length : Int) < 3 := by omega
              go_big_quiet (fail)
              go_wp2
              go_meet
              exact ⟨congrArg Value.bool (decide_eq_true (p := t.length < 3 ∨ x1.toNat < LO ∨ HI < x1.toNat ∨ x2.toNat < 128 ∨ 191 < x2.toNat) (by omega)).symm, below_drewN (hbw.alloc hbw.size _) _⟩
            · have q0z : ¬ ((t.length : Int) < 3) := by omega
              have hz1 : (1 : Int) < (t.length : Int) := by omega
              have hp1 : 1 < t.length := by omega
              have hs1 : ∀ o, (wr.alloc o).cell? ⟨ad.block, ad.off + 1, none⟩ = some (.int .u8 (x1.toNat : Int)) := fun o => cell_below (below_alloc (below_refl wr) o) (Hx1.out ▸ HBt.out.lit1 hp1)
              have hz2 : (2 : Int) < (t.length : Int) := by omega
              have hp2 : 2 < t.length := by omega
              have hs2 : ∀ o, (wr.alloc o).cell? ⟨ad.block, ad.off + 2, none⟩ = some (.int .u8 (x2.toNat : Int)) := fun o => cell_below (below_alloc (below_refl wr) o) (Hx2.out ▸ HBt.out.lit2 hp2)
              by_cases q1 : x1.toNat < LO
              · have q1z : (x1.toNat : Int) < (LO : Int) := by omega
                go_big_quiet (fail)
                go_wp2
                go_meet
                exact ⟨congrArg Value.bool (decide_eq_true (p := t.length < 3 ∨ x1.toNat < LO ∨ HI < x1.toNat ∨ x2.toNat < 128 ∨ 191 < x2.toNat) (by omega)).symm, below_drewN (hbw.alloc hbw.size _) _⟩
              · have q1z : ¬ ((x1.toNat : Int) < (LO : Int)) := by omega
                by_cases q2 : HI < x1.toNat
                · have q2z : (HI : Int) < (x1.toNat : Int) := by omega
                  go_big_quiet (fail)
                  go_wp2
                  go_meet
                  exact ⟨congrArg Value.bool (decide_eq_true (p := t.length < 3 ∨ x1.toNat < LO ∨ HI < x1.toNat ∨ x2.toNat < 128 ∨ 191 < x2.toNat) (by omega)).symm, below_drewN (hbw.alloc hbw.size _) _⟩
                · have q2z : ¬ ((HI : Int) < (x1.toNat : Int)) := by omega
                  by_cases q3 : x2.toNat < 128
                  · have q3z : (x2.toNat : Int) < 128 := by omega
                    go_big_quiet (fail)
                    go_wp2
                    go_meet
                    exact ⟨congrArg Value.bool (decide_eq_true (p := t.length < 3 ∨ x1.toNat < LO ∨ HI < x1.toNat ∨ x2.toNat < 128 ∨ 191 < x2.toNat) (by omega)).symm, below_drewN (hbw.alloc hbw.size _) _⟩
                  · have q3z : ¬ ((x2.toNat : Int) < 128) := by omega
                    by_cases q4 : 191 < x2.toNat
                    · have q4z : (191 : Int) < (x2.toNat : Int) := by omega
                      go_big_quiet (fail)
                      go_wp2
                      go_meet
                      exact ⟨congrArg Value.bool (decide_eq_true (p := t.length < 3 ∨ x1.toNat < LO ∨ HI < x1.toNat ∨ x2.toNat < 128 ∨ 191 < x2.toNat) (by omega)).symm, below_drewN (hbw.alloc hbw.size _) _⟩
                    · have q4z : ¬ ((191 : Int) < (x2.toNat : Int)) := by omega
                      go_big_quiet (fail)
                      go_wp2
                      go_meet
                      exact ⟨congrArg Value.bool (decide_eq_false (p := t.length < 3 ∨ x1.toNat < LO ∨ HI < x1.toNat ∨ x2.toNat < 128 ∨ 191 < x2.toNat) (by omega)).symm, below_drewN (hbw.alloc hbw.size _) _⟩
          case rest => as_aux_lemma =>
            obtain ⟨rfl, hbc⟩ := hcut
            have hlead := Hlead.out
            by_cases hb : t.length < 3 ∨ x1.toNat < LO ∨ HI < x1.toNat ∨ x2.toNat < 128 ∨ 191 < x2.toNat
            · have hbd : decide (t.length < 3 ∨ x1.toNat < LO ∨ HI < x1.toNat ∨ x2.toNat < 128 ∨ 191 < x2.toNat) = true := decide_eq_true hb
              rw [if_pos hb] at hlead
              have Hlead2 := Aside.mk hlead
              clear hlead
              go_wp2
              all_goals (go_ret; exact ⟨by first | rfl | (rw [Hlead2.out]; rfl), hbc⟩)
            · have hbd : decide (t.length < 3 ∨ x1.toNat < LO ∨ HI < x1.toNat ∨ x2.toNat < 128 ∨ 191 < x2.toNat) = false := decide_eq_false hb
              rw [if_neg hb] at hlead
              obtain ⟨A1, l1, hl1, hz1, hrun, hrd⟩ := cut_lit (A := some ad) (l := t) 3 3 rfl (by omega)
              have hlead : ANS = Lib.validD (t.drop 3) := hlead
              rw [hl1] at hlead
              have Hlead2 := Aside.mk hlead
              have Hrd := Aside.mk hrd
              clear hlead hrd hl1
              go_wp2
              go_roundg g'
              case measure => omega
              case rel => exact ⟨hbc, A1, l1, rfl, ⟨Hrd.out _ HBw.out⟩, ⟨Hlead2.out.symm⟩, by omega, by omega⟩
        by_cases s4 : SZ = 4
        · as_aux_lemma =>
          subst s4
          have hSZz : (X : Int) % 8 = 4 := by omega
          simp only [Lib.checkN, Nat.reduceEqDiff, if_true, if_false] at hlead
          have Hlead := Aside.mk hlead
          clear hlead
          go_upto_region 26 with fail
          go_cut [185] from 143 to 185 (fun c wx => c = .bool (decide (t.length < 4 ∨ x1.toNat < LO ∨ HI < x1.toNat ∨ x2.toNat < 128 ∨ 191 < x2.toNat ∨ x3.toNat < 128 ∨ 191 < x3.toNat)) ∧ Below w.heap.size w wx)
          case first => as_aux_lemma =>
            by_cases q0 : t.length < 4
            · have q0z : (t.length : Int) < 4 := by omega
              go_big_quiet (fail)
              go_wp2
              go_meet
              exact ⟨congrArg Value.bool (decide_eq_true (p := t.length < 4 ∨ x1.toNat < LO ∨ HI < x1.toNat ∨ x2.toNat < 128 ∨ 191 < x2.toNat ∨ x3.toNat < 128 ∨ 191 < x3.toNat) (by omega)).symm, below_drewN (hbw.alloc hbw.size _) _⟩
            · have q0z : ¬ ((t.length : Int) < 4) := by omega
              have hz1 : (1 : Int) < (t.length : Int) := by omega
              have hp1 : 1 < t.length := by omega
              have hs1 : ∀ o, (wr.alloc o).cell? ⟨ad.block, ad.off + 1, none⟩ = some (.int .u8 (x1.toNat : Int)) := fun o => cell_below (below_alloc (below_refl wr) o) (Hx1.out ▸ HBt.out.lit1 hp1)
              have hz2 : (2 : Int) < (t.length : Int) := by omega
              have hp2 : 2 < t.length := by omega
              have hs2 : ∀ o, (wr.alloc o).cell? ⟨ad.block, ad.off + 2, none⟩ = some (.int .u8 (x2.toNat : Int)) := fun o => cell_below (below_alloc (below_refl wr) o) (Hx2.out ▸ HBt.out.lit2 hp2)
              have hz3 : (3 : Int) < (t.length : Int) := by omega
              have hp3 : 3 < t.length := by omega
              have hs3 : ∀ o, (wr.alloc o).cell? ⟨ad.block, ad.off + 3, none⟩ = some (.int .u8 (x3.toNat : Int)) := fun o => cell_below (below_alloc (below_refl wr) o) (Hx3.out ▸ HBt.out.lit3 hp3)
              by_cases q1 : x1.toNat < LO
              · have q1z : (x1.toNat : Int) < (LO : Int) := by omega
                go_big_quiet (fail)
                go_wp2
                go_meet
                exact ⟨congrArg Value.bool (decide_eq_true (p := t.length < 4 ∨ x1.toNat < LO ∨ HI < x1.toNat ∨ x2.toNat < 128 ∨ 191 < x2.toNat ∨ x3.toNat < 128 ∨ 191 < x3.toNat) (by omega)).symm, below_drewN (hbw.alloc hbw.size _) _⟩
              · have q1z : ¬ ((x1.toNat : Int) < (LO : Int)) := by omega
                by_cases q2 : HI < x1.toNat
                · have q2z : (HI : Int) < (x1.toNat : Int) := by omega
                  go_big_quiet (fail)
                  go_wp2
                  go_meet
                  exact ⟨congrArg Value.bool (decide_eq_true (p := t.length < 4 ∨ x1.toNat < LO ∨ HI < x1.toNat ∨ x2.toNat < 128 ∨ 191 < x2.toNat ∨ x3.toNat < 128 ∨ 191 < x3.toNat) (by omega)).symm, below_drewN (hbw.alloc hbw.size _) _⟩
                · have q2z : ¬ ((HI : Int) < (x1.toNat : Int)) := by omega
                  by_cases q3 : x2.toNat < 128
                  · have q3z : (x2.toNat : Int) < 128 := by omega
                    go_big_quiet (fail)
                    go_wp2
                    go_meet
                    exact ⟨congrArg Value.bool (decide_eq_true (p := t.length < 4 ∨ x1.toNat < LO ∨ HI < x1.toNat ∨ x2.toNat < 128 ∨ 191 < x2.toNat ∨ x3.toNat < 128 ∨ 191 < x3.toNat) (by omega)).symm, below_drewN (hbw.alloc hbw.size _) _⟩
                  · have q3z : ¬ ((x2.toNat : Int) < 128) := by omega
                    by_cases q4 : 191 < x2.toNat
                    · have q4z : (191 : Int) < (x2.toNat : Int) := by omega
                      go_big_quiet (fail)
                      go_wp2
                      go_meet
                      exact ⟨congrArg Value.bool (decide_eq_true (p := t.length < 4 ∨ x1.toNat < LO ∨ HI < x1.toNat ∨ x2.toNat < 128 ∨ 191 < x2.toNat ∨ x3.toNat < 128 ∨ 191 < x3.toNat) (by omega)).symm, below_drewN (hbw.alloc hbw.size _) _⟩
                    · have q4z : ¬ ((191 : Int) < (x2.toNat : Int)) := by omega
                      by_cases q5 : x3.toNat < 128
                      · have q5z : (x3.toNat : Int) < 128 := by omega
                        go_big_quiet (fail)
                        go_wp2
                        go_meet
                        exact ⟨congrArg Value.bool (decide_eq_true (p := t.length < 4 ∨ x1.toNat < LO ∨ HI < x1.toNat ∨ x2.toNat < 128 ∨ 191 < x2.toNat ∨ x3.toNat < 128 ∨ 191 < x3.toNat) (by omega)).symm, below_drewN (hbw.alloc hbw.size _) _⟩
                      · have q5z : ¬ ((x3.toNat : Int) < 128) := by omega
                        by_cases q6 : 191 < x3.toNat
                        · have q6z : (191 : Int) < (x3.toNat : Int) := by omega
                          go_big_quiet (fail)
                          go_wp2
                          go_meet
                          exact ⟨congrArg Value.bool (decide_eq_true (p := t.length < 4 ∨ x1.toNat < LO ∨ HI < x1.toNat ∨ x2.toNat < 128 ∨ 191 < x2.toNat ∨ x3.toNat < 128 ∨ 191 < x3.toNat) (by omega)).symm, below_drewN (hbw.alloc hbw.size _) _⟩
                        · have q6z : ¬ ((191 : Int) < (x3.toNat : Int)) := by omega
                          go_big_quiet (fail)
                          go_wp2
                          go_meet
                          exact ⟨congrArg Value.bool (decide_eq_false (p := t.length < 4 ∨ x1.toNat < LO ∨ HI < x1.toNat ∨ x2.toNat < 128 ∨ 191 < x2.toNat ∨ x3.toNat < 128 ∨ 191 < x3.toNat) (by omega)).symm, below_drewN (hbw.alloc hbw.size _) _⟩
          case rest => as_aux_lemma =>
            obtain ⟨rfl, hbc⟩ := hcut
            have hlead := Hlead.out
            by_cases hb : t.length < 4 ∨ x1.toNat < LO ∨ HI < x1.toNat ∨ x2.toNat < 128 ∨ 191 < x2.toNat ∨ x3.toNat < 128 ∨ 191 < x3.toNat
            · have hbd : decide (t.length < 4 ∨ x1.toNat < LO ∨ HI < x1.toNat ∨ x2.toNat < 128 ∨ 191 < x2.toNat ∨ x3.toNat < 128 ∨ 191 < x3.toNat) = true := decide_eq_true hb
              rw [if_pos hb] at hlead
              have Hlead2 := Aside.mk hlead
              clear hlead
              go_wp2
              all_goals (go_ret; exact ⟨by first | rfl | (rw [Hlead2.out]; rfl), hbc⟩)
            · have hbd : decide (t.length < 4 ∨ x1.toNat < LO ∨ HI < x1.toNat ∨ x2.toNat < 128 ∨ 191 < x2.toNat ∨ x3.toNat < 128 ∨ 191 < x3.toNat) = false := decide_eq_false hb
              rw [if_neg hb] at hlead
              obtain ⟨A1, l1, hl1, hz1, hrun, hrd⟩ := cut_lit (A := some ad) (l := t) 4 4 rfl (by omega)
              have hlead : ANS = Lib.validD (t.drop 4) := hlead
              rw [hl1] at hlead
              have Hlead2 := Aside.mk hlead
              have Hrd := Aside.mk hrd
              clear hlead hrd hl1
              go_wp2
              go_roundg g'
              case measure => omega
              case rel => exact ⟨hbc, A1, l1, rfl, ⟨Hrd.out _ HBw.out⟩, ⟨Hlead2.out.symm⟩, by omega, by omega⟩
        · have e2 : ¬ ((X : Int) % 8 = 2) := by omega
          have e3 : ¬ ((X : Int) % 8 = 3) := by omega
          have e4 : ¬ ((X : Int) % 8 = 4) := by omega
          have e2b : (((X : Int) % 8) == 2) = false := by simp; omega
          have e3b : (((X : Int) % 8) == 3) = false := by simp; omega
          have e4b : (((X : Int) % 8) == 4) = false := by simp; omega
          simp only [Lib.checkN, s2, s3, s4, if_false] at hlead
          have Hlead := Aside.mk hlead
          clear hlead
          go_wp2
          all_goals (go_ret; exact ⟨by first | rfl | (rw [Hlead.out]; rfl), hbw.alloc hbw.size _⟩)
    · have h0z : ¬ ((0 : Int) < (t.length : Int)) := by omega
      have ht0 : t = [] := List.eq_nil_of_length_eq_zero (by omega)
      have hv : Lib.validD t = ANS := Hv.out
      rw [ht0, Lib.validD_nil] at hv
      subst hv
      go_wp2
      go_ret
      exact ⟨rfl, hbw⟩
end Go.Proofs.YtaejlgdmalhhnaaDoor
