/- Layer 1: the reference's next. -/
import Derived.Test.YtaejlgdmalhhnaaDoorRp
import Derived.Test.YtaejlgdmalhhnaaDoorRf
namespace Go.Proofs.YtaejlgdmalhhnaaDoor
open Go.RowKit

def NextPost (w : World) (l : List UInt8) (e : Ending) (w' : World) : Prop :=
  e = .returned (.tuple #[.int .i32 (nextF l).1, .int .i64 (nextF l).2]) ∧ Below w.heap.size w w'
theorem NextPost.zero {w w' : World} {l : List UInt8} (h : nextF l = (0, 0)) (hb : Below w.heap.size w w') : NextPost w l (.returned (.tuple #[.int .i32 0, .int .i64 0])) w' :=
  ⟨by rw [h], hb⟩
theorem NextPost.some {w w' : World} {l : List UInt8} {r n : Int} (h : nextF l = (r, n)) (hb : Below w.heap.size w w') : NextPost w l (.returned (.tuple #[.int .i32 r, .int .i64 n])) w' :=
  ⟨by rw [h], hb⟩
theorem contTo_succ {l : List UInt8} {k : Nat} (h : contTo l k) (hk : contB (l.getD (k + 1) 0) = true) : contTo l (k + 1) := fun j hj => by
  rcases Nat.lt_or_ge j k with h' | h'
  · exact h j h'
  · obtain rfl : j = k := by omega
    exact hk

set_option maxRecDepth 100000 in
set_option maxHeartbeats 1600000 in
theorem next_any (A : Option Addr) (l : List UInt8) (c : Nat) (w : World) (hB : Bs w A l) (h0 : 0 < l.length) :
    Calls Tryd.prog 76 #[.slice A l.length c] w (NextPost w l) := by
  obtain ⟨ad, rfl, hc0⟩ := hB.at_ (i := 0) h0
  obtain ⟨b0, hb0⟩ : ∃ b0, l.getD 0 0 = b0 := ⟨_, rfl⟩
  rw [hb0] at hc0
  have hc0' : w.cell? ad = some (.int .u8 (b0.toNat : Int)) := hc0
  have h0z : (0 : Int) < (l.length : Int) := by omega
  have hlen := hB.len
  have hbl := b0.toNat_lt
  have HB := Aside.mk hB
  have Hb0 := Aside.mk hb0
  clear hB hb0
  by_cases hbad : 128 ≤ b0.toNat ∧ b0.toNat < 192
  · have e1 : ¬ (240 ≤ (b0.toNat : Int)) := by omega
    have e2 : ¬ (224 ≤ (b0.toNat : Int)) := by omega
    have e3 : ¬ (192 ≤ (b0.toNat : Int)) := by omega
    have e4 : 128 ≤ (b0.toNat : Int) := by omega
    have HN := Aside.mk (next_bad l (by rw [Hb0.out]; omega) (by rw [Hb0.out]; omega))
    clear hbad
    go_enter Tryd.func76, Tryd.ntmps76
    go_wp2
    go_ret2
    exact NextPost.zero HN.out (below_refl _)
  · obtain ⟨n, r0, hL⟩ : ∃ n r0, leadF b0.toNat = (n, r0) := ⟨_, _, rfl⟩
    have hn : (1 : Nat) ≤ n ∧ n ≤ 4 ∧ 0 ≤ r0 ∧ r0 ≤ 127 := by
      have e := congrArg Prod.fst hL
      have e' := congrArg Prod.snd hL
      unfold leadF at e e'
      (repeat' split at e) <;> (repeat' split at e') <;> simp only at e e' <;> omega
    obtain ⟨hn1, hn4, hr0, hr1⟩ := hn
    have HL := Aside.mk (show leadF (l.getD 0 0).toNat = (n, r0) by rw [Hb0.out]; exact hL)
    have HX := Aside.mk (show ¬ (128 ≤ (l.getD 0 0).toNat ∧ (l.getD 0 0).toNat < 192) by rw [Hb0.out]; exact hbad)
    have hcase : (240 ≤ b0.toNat ∧ n = 4 ∧ r0 = (b0.toNat : Int) - 240) ∨ (¬ 240 ≤ b0.toNat ∧ 224 ≤ b0.toNat ∧ n = 3 ∧ r0 = (b0.toNat : Int) - 224) ∨ (¬ 224 ≤ b0.toNat ∧ 192 ≤ b0.toNat ∧ n = 2 ∧ r0 = (b0.toNat : Int) - 192) ∨ (¬ 192 ≤ b0.toNat ∧ b0.toNat < 128 ∧ n = 1 ∧ r0 = (b0.toNat : Int)) := by
      have e := congrArg Prod.fst hL
      have e' := congrArg Prod.snd hL
      unfold leadF at e e'
      (repeat' split at e) <;> (repeat' split at e') <;> simp only at e e' <;> omega
    have hmayAny : ∀ r W, Calls Tryd.prog 27 #[.int .i32 r] W fun e w' => e = .returned (.bool (may r)) ∧ W = w' := fun r W => refMay_any r W
    have HM := Aside.mk hmayAny
    clear hL hbad hmayAny
    by_cases hsh : l.length < n
    · have HN := Aside.mk (next_short l n (by rw [HL.out]) hsh h0)
      rcases hcase with ⟨a1, rfl, rfl⟩ | ⟨a1, a2, rfl, rfl⟩ | ⟨a1, a2, rfl, rfl⟩ | ⟨a1, a2, rfl, rfl⟩
      · have e1 : (240 : Int) ≤ (b0.toNat : Int) := by omega
        have hz : (l.length : Int) < 4 := by omega
        go_enter Tryd.func76, Tryd.ntmps76
        go_wp2
        go_ret2
        exact NextPost.zero HN.out (below_refl _)
      · have e1 : ¬ (240 : Int) ≤ (b0.toNat : Int) := by omega
        have e2 : (224 : Int) ≤ (b0.toNat : Int) := by omega
        have hz : (l.length : Int) < 3 := by omega
        go_enter Tryd.func76, Tryd.ntmps76
        go_wp2
        go_ret2
        exact NextPost.zero HN.out (below_refl _)
      · have e1 : ¬ (240 : Int) ≤ (b0.toNat : Int) := by omega
        have e2 : ¬ (224 : Int) ≤ (b0.toNat : Int) := by omega
        have e3 : (192 : Int) ≤ (b0.toNat : Int) := by omega
        have hz : (l.length : Int) < 2 := by omega
        go_enter Tryd.func76, Tryd.ntmps76
        go_wp2
        go_ret2
        exact NextPost.zero HN.out (below_refl _)
      · omega
    · rcases hcase with ⟨a1, rfl, rfl⟩ | ⟨a1, a2, rfl, rfl⟩ | ⟨a1, a2, rfl, rfl⟩ | ⟨a1, a2, rfl, rfl⟩
      · have e1 : (240 : Int) ≤ (b0.toNat : Int) := by omega
        have hz : ¬ ((l.length : Int) < 4) := by omega
        go_enter Tryd.func76, Tryd.ntmps76
        go_wp2
        go_loop [5, 6] (fun r i => ∃ k : Nat, k + 1 ≤ 4 ∧ i = .int .i64 ((k : Int) + 1) ∧ r = .int .i32 (accv l ((b0.toNat : Int) - 240) k) ∧ Aside (contTo l k)) (fun _ i => 4 - (intOf i).toNat)
        case atStart => exact ⟨0, by omega, rfl, rfl, ⟨fun j hj => absurd hj (by omega)⟩⟩
        case round =>
          obtain ⟨k, hk, rfl, rfl, HC⟩ := hrel
          obtain ⟨hv0, hv1⟩ := accv_bd l ((b0.toNat : Int) - 240) (by omega) (by omega) k (by omega) HC.out
          by_cases hlt : k + 1 < 4
          · obtain ⟨hu0, hu1⟩ := accv_bd2 l ((b0.toNat : Int) - 240) (by omega) (by omega) k (by omega) HC.out
            have hck := HB.out.lit k (by omega)
            have hkz : (k : Int) + 1 < (l.length : Int) := by omega
            have hkn : k + 1 < l.length := by omega
            obtain ⟨x, hx⟩ : ∃ x, l.getD (k + 1) 0 = x := ⟨_, rfl⟩
            rw [hx] at hck
            have hxl := x.toNat_lt
            have hacc : accv l ((b0.toNat : Int) - 240) (k + 1) = accv l ((b0.toNat : Int) - 240) k * 64 + (x.toNat : Int) - 128 := by simp only [accv]; rw [hx]
            have Hacc := Aside.mk hacc
            have Hx := Aside.mk hx
            obtain ⟨V, hV⟩ : ∃ V, accv l ((b0.toNat : Int) - 240) k = V := ⟨_, rfl⟩
            rw [hV] at hv0 hv1 hu0 hu1 ⊢
            have HV := Aside.mk hV
            clear hx hacc hV
            by_cases hcn : contB x = true
            · have hcn' := hcn
              unfold contB at hcn'
              have hcn2 := of_decide_eq_true hcn'
              have t1 : ¬ ((x.toNat : Int) < 128) := by omega
              have t2 : ¬ ((191 : Int) < (x.toNat : Int)) := by omega
              have HCn := Aside.mk hcn
              clear hcn hcn' hcn2
              go_wp2
              go_round
              case rel => exact ⟨k + 1, by omega, by go_num, by rw [Hacc.out, HV.out], ⟨contTo_succ HC.out (by rw [Hx.out]; exact HCn.out)⟩⟩
              case measure => simp [intOf]; omega
            · have hcf : contB x = false := by simpa using hcn
              have HN := Aside.mk (next_cont l k (by rw [HL.out]; exact hlt) (by rw [Hx.out]; exact hcf))
              unfold contB at hcf
              have hcn2 := of_decide_eq_false hcf
              clear hcn hcf
              by_cases t1 : (x.toNat : Int) < 128
              · go_wp2
                go_ret2
                exact NextPost.zero HN.out (below_refl _)
              · have t2 : (191 : Int) < (x.toNat : Int) := by omega
                go_wp2
                go_ret2
                exact NextPost.zero HN.out (below_refl _)
          · obtain rfl : k = 3 := by omega
            obtain ⟨hy, hn⟩ := next_tail l HL.out HX.out (by omega) HC.out
            simp only [Nat.reduceSub] at hy hn
            obtain ⟨V, hV⟩ : ∃ V, accv l ((b0.toNat : Int) - 240) 3 = V := ⟨_, rfl⟩
            rw [hV] at hv0 hv1 hy hn ⊢
            clear hV
            by_cases hm : may V = true
            · have hmay : ∀ W, Calls Tryd.prog 27 #[.int .i32 V] W fun e w' => e = .returned (.bool true) ∧ W = w' := fun W => by rw [← hm]; exact HM.out V W
              obtain ⟨hm0, hm1, _⟩ := may_cases hm
              have hone : ∀ W, Calls Tryd.prog 74 #[.int .i32 V] W (OneRune W V) := fun W => one_any V hm0 hm1 W
              have H1 := Aside.mk hone
              have H2 := Aside.mk hmay
              clear hone hmay
              by_cases he : (enc V).length = 4
              · have heb : (((enc V).length : Int) != 4) = false := by rw [he]; rfl
                have heb2 : (((enc V).length : Int) == 4) = true := by rw [he]; rfl
                have HN := Aside.mk (hy ⟨hm, he⟩)
                clear hy hn hm he
                go_wp2_with (first | (go_at_call 27; go_must (refine (H2.out _).mono ?_; rintro e w' ⟨rfl, rfl⟩)) | (go_at_call 74; go_must (refine (H1.out _).mono ?_; rintro e w' ⟨rfl, rfl⟩)))
                go_ret2
                exact NextPost.some HN.out (below_alloc (below_refl _) _)
              · have heb : (((enc V).length : Int) != 4) = true := by rw [bne_iff_ne]; omega
                have heb2 : (((enc V).length : Int) == 4) = false := by rw [beq_eq_false_iff_ne]; omega
                have HN := Aside.mk (hn (fun h => he h.2))
                clear hy hn hm he
                go_wp2_with (first | (go_at_call 27; go_must (refine (H2.out _).mono ?_; rintro e w' ⟨rfl, rfl⟩)) | (go_at_call 74; go_must (refine (H1.out _).mono ?_; rintro e w' ⟨rfl, rfl⟩)))
                go_ret2
                exact NextPost.zero HN.out (below_alloc (below_refl _) _)
            · have hmf : may V = false := by simpa using hm
              have hmay : ∀ W, Calls Tryd.prog 27 #[.int .i32 V] W fun e w' => e = .returned (.bool false) ∧ W = w' := fun W => by rw [← hmf]; exact HM.out V W
              have HN := Aside.mk (hn (fun h => hm h.1))
              have H2 := Aside.mk hmay
              clear hmay hy hn hm hmf
              go_wp2_with (first | (go_at_call 27; go_must (refine (H2.out _).mono ?_; rintro e w' ⟨rfl, rfl⟩)))
              go_ret2
              exact NextPost.zero HN.out (below_refl _)
      · have e1 : ¬ (240 : Int) ≤ (b0.toNat : Int) := by omega
        have e2 : (224 : Int) ≤ (b0.toNat : Int) := by omega
        have hz : ¬ ((l.length : Int) < 3) := by omega
        go_enter Tryd.func76, Tryd.ntmps76
        go_wp2
        go_loop [5, 6] (fun r i => ∃ k : Nat, k + 1 ≤ 3 ∧ i = .int .i64 ((k : Int) + 1) ∧ r = .int .i32 (accv l ((b0.toNat : Int) - 224) k) ∧ Aside (contTo l k)) (fun _ i => 3 - (intOf i).toNat)
        case atStart => exact ⟨0, by omega, rfl, rfl, ⟨fun j hj => absurd hj (by omega)⟩⟩
        case round =>
          obtain ⟨k, hk, rfl, rfl, HC⟩ := hrel
          obtain ⟨hv0, hv1⟩ := accv_bd l ((b0.toNat : Int) - 224) (by omega) (by omega) k (by omega) HC.out
          by_cases hlt : k + 1 < 3
          · obtain ⟨hu0, hu1⟩ := accv_bd2 l ((b0.toNat : Int) - 224) (by omega) (by omega) k (by omega) HC.out
            have hck := HB.out.lit k (by omega)
            have hkz : (k : Int) + 1 < (l.length : Int) := by omega
            have hkn : k + 1 < l.length := by omega
            obtain ⟨x, hx⟩ : ∃ x, l.getD (k + 1) 0 = x := ⟨_, rfl⟩
            rw [hx] at hck
            have hxl := x.toNat_lt
            have hacc : accv l ((b0.toNat : Int) - 224) (k + 1) = accv l ((b0.toNat : Int) - 224) k * 64 + (x.toNat : Int) - 128 := by simp only [accv]; rw [hx]
            have Hacc := Aside.mk hacc
            have Hx := Aside.mk hx
            obtain ⟨V, hV⟩ : ∃ V, accv l ((b0.toNat : Int) - 224) k = V := ⟨_, rfl⟩
            rw [hV] at hv0 hv1 hu0 hu1 ⊢
            have HV := Aside.mk hV
            clear hx hacc hV
            by_cases hcn : contB x = true
            · have hcn' := hcn
              unfold contB at hcn'
              have hcn2 := of_decide_eq_true hcn'
              have t1 : ¬ ((x.toNat : Int) < 128) := by omega
              have t2 : ¬ ((191 : Int) < (x.toNat : Int)) := by omega
              have HCn := Aside.mk hcn
              clear hcn hcn' hcn2
              go_wp2
              go_round
              case rel => exact ⟨k + 1, by omega, by go_num, by rw [Hacc.out, HV.out], ⟨contTo_succ HC.out (by rw [Hx.out]; exact HCn.out)⟩⟩
              case measure => simp [intOf]; omega
            · have hcf : contB x = false := by simpa using hcn
              have HN := Aside.mk (next_cont l k (by rw [HL.out]; exact hlt) (by rw [Hx.out]; exact hcf))
              unfold contB at hcf
              have hcn2 := of_decide_eq_false hcf
              clear hcn hcf
              by_cases t1 : (x.toNat : Int) < 128
              · go_wp2
                go_ret2
                exact NextPost.zero HN.out (below_refl _)
              · have t2 : (191 : Int) < (x.toNat : Int) := by omega
                go_wp2
                go_ret2
                exact NextPost.zero HN.out (below_refl _)
          · obtain rfl : k = 2 := by omega
            obtain ⟨hy, hn⟩ := next_tail l HL.out HX.out (by omega) HC.out
            simp only [Nat.reduceSub] at hy hn
            obtain ⟨V, hV⟩ : ∃ V, accv l ((b0.toNat : Int) - 224) 2 = V := ⟨_, rfl⟩
            rw [hV] at hv0 hv1 hy hn ⊢
            clear hV
            by_cases hm : may V = true
            · have hmay : ∀ W, Calls Tryd.prog 27 #[.int .i32 V] W fun e w' => e = .returned (.bool true) ∧ W = w' := fun W => by rw [← hm]; exact HM.out V W
              obtain ⟨hm0, hm1, _⟩ := may_cases hm
              have hone : ∀ W, Calls Tryd.prog 74 #[.int .i32 V] W (OneRune W V) := fun W => one_any V hm0 hm1 W
              have H1 := Aside.mk hone
              have H2 := Aside.mk hmay
              clear hone hmay
              by_cases he : (enc V).length = 3
              · have heb : (((enc V).length : Int) != 3) = false := by rw [he]; rfl
                have heb2 : (((enc V).length : Int) == 3) = true := by rw [he]; rfl
                have HN := Aside.mk (hy ⟨hm, he⟩)
                clear hy hn hm he
                go_wp2_with (first | (go_at_call 27; go_must (refine (H2.out _).mono ?_; rintro e w' ⟨rfl, rfl⟩)) | (go_at_call 74; go_must (refine (H1.out _).mono ?_; rintro e w' ⟨rfl, rfl⟩)))
                go_ret2
                exact NextPost.some HN.out (below_alloc (below_refl _) _)
              · have heb : (((enc V).length : Int) != 3) = true := by rw [bne_iff_ne]; omega
                have heb2 : (((enc V).length : Int) == 3) = false := by rw [beq_eq_false_iff_ne]; omega
                have HN := Aside.mk (hn (fun h => he h.2))
                clear hy hn hm he
                go_wp2_with (first | (go_at_call 27; go_must (refine (H2.out _).mono ?_; rintro e w' ⟨rfl, rfl⟩)) | (go_at_call 74; go_must (refine (H1.out _).mono ?_; rintro e w' ⟨rfl, rfl⟩)))
                go_ret2
                exact NextPost.zero HN.out (below_alloc (below_refl _) _)
            · have hmf : may V = false := by simpa using hm
              have hmay : ∀ W, Calls Tryd.prog 27 #[.int .i32 V] W fun e w' => e = .returned (.bool false) ∧ W = w' := fun W => by rw [← hmf]; exact HM.out V W
              have HN := Aside.mk (hn (fun h => hm h.1))
              have H2 := Aside.mk hmay
              clear hmay hy hn hm hmf
              go_wp2_with (first | (go_at_call 27; go_must (refine (H2.out _).mono ?_; rintro e w' ⟨rfl, rfl⟩)))
              go_ret2
              exact NextPost.zero HN.out (below_refl _)
      · have e1 : ¬ (240 : Int) ≤ (b0.toNat : Int) := by omega
        have e2 : ¬ (224 : Int) ≤ (b0.toNat : Int) := by omega
        have e3 : (192 : Int) ≤ (b0.toNat : Int) := by omega
        have hz : ¬ ((l.length : Int) < 2) := by omega
        go_enter Tryd.func76, Tryd.ntmps76
        go_wp2
        go_loop [5, 6] (fun r i => ∃ k : Nat, k + 1 ≤ 2 ∧ i = .int .i64 ((k : Int) + 1) ∧ r = .int .i32 (accv l ((b0.toNat : Int) - 192) k) ∧ Aside (contTo l k)) (fun _ i => 2 - (intOf i).toNat)
        case atStart => exact ⟨0, by omega, rfl, rfl, ⟨fun j hj => absurd hj (by omega)⟩⟩
        case round =>
          obtain ⟨k, hk, rfl, rfl, HC⟩ := hrel
          obtain ⟨hv0, hv1⟩ := accv_bd l ((b0.toNat : Int) - 192) (by omega) (by omega) k (by omega) HC.out
          by_cases hlt : k + 1 < 2
          · obtain ⟨hu0, hu1⟩ := accv_bd2 l ((b0.toNat : Int) - 192) (by omega) (by omega) k (by omega) HC.out
            have hck := HB.out.lit k (by omega)
            have hkz : (k : Int) + 1 < (l.length : Int) := by omega
            have hkn : k + 1 < l.length := by omega
            obtain ⟨x, hx⟩ : ∃ x, l.getD (k + 1) 0 = x := ⟨_, rfl⟩
            rw [hx] at hck
            have hxl := x.toNat_lt
            have hacc : accv l ((b0.toNat : Int) - 192) (k + 1) = accv l ((b0.toNat : Int) - 192) k * 64 + (x.toNat : Int) - 128 := by simp only [accv]; rw [hx]
            have Hacc := Aside.mk hacc
            have Hx := Aside.mk hx
            obtain ⟨V, hV⟩ : ∃ V, accv l ((b0.toNat : Int) - 192) k = V := ⟨_, rfl⟩
            rw [hV] at hv0 hv1 hu0 hu1 ⊢
            have HV := Aside.mk hV
            clear hx hacc hV
            by_cases hcn : contB x = true
            · have hcn' := hcn
              unfold contB at hcn'
              have hcn2 := of_decide_eq_true hcn'
              have t1 : ¬ ((x.toNat : Int) < 128) := by omega
              have t2 : ¬ ((191 : Int) < (x.toNat : Int)) := by omega
              have HCn := Aside.mk hcn
              clear hcn hcn' hcn2
              go_wp2
              go_round
              case rel => exact ⟨k + 1, by omega, by go_num, by rw [Hacc.out, HV.out], ⟨contTo_succ HC.out (by rw [Hx.out]; exact HCn.out)⟩⟩
              case measure => simp [intOf]; omega
            · have hcf : contB x = false := by simpa using hcn
              have HN := Aside.mk (next_cont l k (by rw [HL.out]; exact hlt) (by rw [Hx.out]; exact hcf))
              unfold contB at hcf
              have hcn2 := of_decide_eq_false hcf
              clear hcn hcf
              by_cases t1 : (x.toNat : Int) < 128
              · go_wp2
                go_ret2
                exact NextPost.zero HN.out (below_refl _)
              · have t2 : (191 : Int) < (x.toNat : Int) := by omega
                go_wp2
                go_ret2
                exact NextPost.zero HN.out (below_refl _)
          · obtain rfl : k = 1 := by omega
            obtain ⟨hy, hn⟩ := next_tail l HL.out HX.out (by omega) HC.out
            simp only [Nat.reduceSub] at hy hn
            obtain ⟨V, hV⟩ : ∃ V, accv l ((b0.toNat : Int) - 192) 1 = V := ⟨_, rfl⟩
            rw [hV] at hv0 hv1 hy hn ⊢
            clear hV
            by_cases hm : may V = true
            · have hmay : ∀ W, Calls Tryd.prog 27 #[.int .i32 V] W fun e w' => e = .returned (.bool true) ∧ W = w' := fun W => by rw [← hm]; exact HM.out V W
              obtain ⟨hm0, hm1, _⟩ := may_cases hm
              have hone : ∀ W, Calls Tryd.prog 74 #[.int .i32 V] W (OneRune W V) := fun W => one_any V hm0 hm1 W
              have H1 := Aside.mk hone
              have H2 := Aside.mk hmay
              clear hone hmay
              by_cases he : (enc V).length = 2
              · have heb : (((enc V).length : Int) != 2) = false := by rw [he]; rfl
                have heb2 : (((enc V).length : Int) == 2) = true := by rw [he]; rfl
                have HN := Aside.mk (hy ⟨hm, he⟩)
                clear hy hn hm he
                go_wp2_with (first | (go_at_call 27; go_must (refine (H2.out _).mono ?_; rintro e w' ⟨rfl, rfl⟩)) | (go_at_call 74; go_must (refine (H1.out _).mono ?_; rintro e w' ⟨rfl, rfl⟩)))
                go_ret2
                exact NextPost.some HN.out (below_alloc (below_refl _) _)
              · have heb : (((enc V).length : Int) != 2) = true := by rw [bne_iff_ne]; omega
                have heb2 : (((enc V).length : Int) == 2) = false := by rw [beq_eq_false_iff_ne]; omega
                have HN := Aside.mk (hn (fun h => he h.2))
                clear hy hn hm he
                go_wp2_with (first | (go_at_call 27; go_must (refine (H2.out _).mono ?_; rintro e w' ⟨rfl, rfl⟩)) | (go_at_call 74; go_must (refine (H1.out _).mono ?_; rintro e w' ⟨rfl, rfl⟩)))
                go_ret2
                exact NextPost.zero HN.out (below_alloc (below_refl _) _)
            · have hmf : may V = false := by simpa using hm
              have hmay : ∀ W, Calls Tryd.prog 27 #[.int .i32 V] W fun e w' => e = .returned (.bool false) ∧ W = w' := fun W => by rw [← hmf]; exact HM.out V W
              have HN := Aside.mk (hn (fun h => hm h.1))
              have H2 := Aside.mk hmay
              clear hmay hy hn hm hmf
              go_wp2_with (first | (go_at_call 27; go_must (refine (H2.out _).mono ?_; rintro e w' ⟨rfl, rfl⟩)))
              go_ret2
              exact NextPost.zero HN.out (below_refl _)
      · have e1 : ¬ (240 : Int) ≤ (b0.toNat : Int) := by omega
        have e2 : ¬ (224 : Int) ≤ (b0.toNat : Int) := by omega
        have e3 : ¬ (192 : Int) ≤ (b0.toNat : Int) := by omega
        have e4 : ¬ (128 : Int) ≤ (b0.toNat : Int) := by omega
        have hz : ¬ ((l.length : Int) < 1) := by omega
        go_enter Tryd.func76, Tryd.ntmps76
        go_wp2
        go_loop [5, 6] (fun r i => ∃ k : Nat, k + 1 ≤ 1 ∧ i = .int .i64 ((k : Int) + 1) ∧ r = .int .i32 (accv l ((b0.toNat : Int)) k) ∧ Aside (contTo l k)) (fun _ i => 1 - (intOf i).toNat)
        case atStart => exact ⟨0, by omega, rfl, rfl, ⟨fun j hj => absurd hj (by omega)⟩⟩
        case round =>
          obtain ⟨k, hk, rfl, rfl, HC⟩ := hrel
          obtain ⟨hv0, hv1⟩ := accv_bd l ((b0.toNat : Int)) (by omega) (by omega) k (by omega) HC.out
          by_cases hlt : k + 1 < 1
          · omega
          · obtain rfl : k = 0 := by omega
            obtain ⟨hy, hn⟩ := next_tail l HL.out HX.out (by omega) HC.out
            simp only [Nat.reduceSub] at hy hn
            obtain ⟨V, hV⟩ : ∃ V, accv l ((b0.toNat : Int)) 0 = V := ⟨_, rfl⟩
            rw [hV] at hv0 hv1 hy hn ⊢
            clear hV
            by_cases hm : may V = true
            · have hmay : ∀ W, Calls Tryd.prog 27 #[.int .i32 V] W fun e w' => e = .returned (.bool true) ∧ W = w' := fun W => by rw [← hm]; exact HM.out V W
              obtain ⟨hm0, hm1, _⟩ := may_cases hm
              have hone : ∀ W, Calls Tryd.prog 74 #[.int .i32 V] W (OneRune W V) := fun W => one_any V hm0 hm1 W
              have H1 := Aside.mk hone
              have H2 := Aside.mk hmay
              clear hone hmay
              by_cases he : (enc V).length = 1
              · have heb : (((enc V).length : Int) != 1) = false := by rw [he]; rfl
                have heb2 : (((enc V).length : Int) == 1) = true := by rw [he]; rfl
                have HN := Aside.mk (hy ⟨hm, he⟩)
                clear hy hn hm he
                go_wp2_with (first | (go_at_call 27; go_must (refine (H2.out _).mono ?_; rintro e w' ⟨rfl, rfl⟩)) | (go_at_call 74; go_must (refine (H1.out _).mono ?_; rintro e w' ⟨rfl, rfl⟩)))
                go_ret2
                exact NextPost.some HN.out (below_alloc (below_refl _) _)
              · have heb : (((enc V).length : Int) != 1) = true := by rw [bne_iff_ne]; omega
                have heb2 : (((enc V).length : Int) == 1) = false := by rw [beq_eq_false_iff_ne]; omega
                have HN := Aside.mk (hn (fun h => he h.2))
                clear hy hn hm he
                go_wp2_with (first | (go_at_call 27; go_must (refine (H2.out _).mono ?_; rintro e w' ⟨rfl, rfl⟩)) | (go_at_call 74; go_must (refine (H1.out _).mono ?_; rintro e w' ⟨rfl, rfl⟩)))
                go_ret2
                exact NextPost.zero HN.out (below_alloc (below_refl _) _)
            · have hmf : may V = false := by simpa using hm
              have hmay : ∀ W, Calls Tryd.prog 27 #[.int .i32 V] W fun e w' => e = .returned (.bool false) ∧ W = w' := fun W => by rw [← hmf]; exact HM.out V W
              have HN := Aside.mk (hn (fun h => hm h.1))
              have H2 := Aside.mk hmay
              clear hmay hy hn hm hmf
              go_wp2_with (first | (go_at_call 27; go_must (refine (H2.out _).mono ?_; rintro e w' ⟨rfl, rfl⟩)))
              go_ret2
              exact NextPost.zero HN.out (below_refl _)
end Go.Proofs.YtaejlgdmalhhnaaDoor
