/- Layer 7: attrs.May's walk (printed by gen_amay.py). -/
import Derived.Test.YtaejlgdmalhhnaaDoorPkC
import Derived.Test.YtaejlgdmalhhnaaDoorVo
import Derived.IntWalk
set_option linter.unusedVariables false
set_option linter.unusedSimpArgs false
namespace Go.Proofs.YtaejlgdmalhhnaaDoor
open Go.RowKit

theorem abox_next {w w1 : World} {g : Nat} {key kd n : Int} {f : Nat} {s : ByteArray} (h : ABox w g key kd n f s) (hb : Below w.heap.size w w1) : ABox w1 g key kd n f s := h.below hb
/-- After so many rounds. -/
structure AmAt (w wr : World) (ks : List Ky) (l : List At) (k : Nat) (e : Int) : Prop where
  below : Below w.heap.size w wr
  ok : ∀ j < k, okAt l j = true
  err : e = if ∀ a ∈ l.take k, fitsK ks a.key a.v = true then 0 else 4
theorem AmAt.next {w wr w2 : World} {ks : List Ky} {l : List At} {k : Nat} {e : Int} {a : At} (h : AmAt w wr ks l k e) (ha : l[k]? = some a) (hb : Below w.heap.size w w2) (h1 : okAt l k = true) : AmAt w w2 ks l (k + 1) (if fitsK ks a.key a.v then e else 4) := by
  have ht : l.take (k + 1) = l.take k ++ [a] := by
    have hl := (List.getElem?_eq_some_iff.1 ha).1
    rw [List.take_succ_eq_append_getElem hl, (List.getElem?_eq_some_iff.1 ha).2]
  refine ⟨hb, fun j hj => ?_, ?_⟩
  · rcases Nat.lt_or_ge j k with h' | h'
    · exact h.ok j h'
    · obtain rfl : j = k := by omega
      exact h1
  · rw [ht, h.err]
    by_cases hf : fitsK ks a.key a.v = true
    · rw [if_pos hf]
      by_cases hp : ∀ x ∈ l.take k, fitsK ks x.key x.v = true
      · rw [if_pos hp, if_pos (by intro x hx; rcases List.mem_append.1 hx with hx | hx; · exact hp x hx
                                  · simp at hx; rw [hx]; exact hf)]
      · rw [if_neg hp, if_neg (fun h' => hp (fun x hx => h' x (by simp [hx])))]
    · rw [if_neg hf, if_neg (fun h' => hf (h' a (by simp)))]
theorem may_bad {ks : List Ky} {l : List At} {k : Nat} (hk : k < l.length) (h : okAt l k = false) : mayA ks l = 3 := by
  unfold mayA
  split
  · rfl
  · rw [if_neg (fun h' => by rw [h' k hk] at h; cases h)]
theorem may_end {w wr : World} {ks : List Ky} {l : List At} {e : Int} (h64 : l.length ≤ 64) (h : AmAt w wr ks l l.length e) : mayA ks l = e := by
  unfold mayA
  rw [if_neg (by omega), if_pos h.ok, h.err, List.take_length]
def MayPost (w : World) (r : Int) (e : Ending) (w' : World) : Prop := e = .returned (.int .i64 r) ∧ Below w.heap.size w w'
set_option maxRecDepth 100000 in
set_option maxHeartbeats 4000000 in
theorem amay_some {lo hi : Nat} {so : Option Addr} {ks srt : List Ky} (ad : Addr) (c : Nat) (l : List At) (w : World) (hSch : Sch lo hi w (.pointer so) ks srt) (hT : Lib.Utf8Tabs 1 2 w) (hS : ASrc w (some ad) l) (hc : l.length ≤ c) (hl : l.length ≤ 64) (hwf : ∀ a ∈ l, (Lit.int .i64 a.key).wf = true) :
    Calls Tryd.prog 84 #[.pointer so, .slice (some ad) l.length c] w (MayPost w (mayA ks l)) := by
  have HS := Aside.mk hS
  have HL := Aside.mk hl
  have HWF := Aside.mk hwf
  have g1 : (l.length : Int) ≤ (c : Int) := by omega
  have g2 : (l.length : Int) ≤ 64 := by omega
  have HSch := Aside.mk (fun W (h : Below w.heap.size w W) => hSch.below h)
  have HT := Aside.mk (fun W (h : Below w.heap.size w W) => tabs_below hT h)
  obtain ⟨R, hR⟩ : ∃ R, MayPost w (mayA ks l) = R := ⟨_, rfl⟩
  rw [hR]
  have HR := Aside.mk hR
  clear hS hc hSch hT hwf hR
  go_enter Tryd.func84, Tryd.ntmps84
  go_wp2_with fail
  go_loopw [5, 13] (fun e i wr => ∃ k : Nat, ∃ ee : Int, k ≤ l.length ∧ i = .int .i64 k ∧ e = .int .i64 ee ∧ Aside (AmAt w wr ks l k ee)) (fun _ i _ => l.length - (intOf i).toNat)
  case atStart => exact ⟨0, 0, Nat.zero_le _, rfl, rfl, ⟨below_refl _, fun j h => absurd h (by omega), by simp⟩⟩
  case round =>
    obtain ⟨k, ee, hk, rfl, rfl, HN⟩ := hrel
    by_cases hlt : k < l.length
    · have hkz : (k : Int) < (l.length : Int) := by omega
      obtain ⟨⟨key, ⟨kd, n, f, s⟩⟩, hx⟩ : ∃ a, l[k]? = some a := ⟨_, List.getElem?_eq_getElem hlt⟩
      have HX := Aside.mk hx
      have HM := Aside.mk (fun W (h : Below w.heap.size w W) => mayV_any ⟨kd, n, f, s⟩ W (HT.out W h))
      have HF := Aside.mk (fun W (h : Below w.heap.size w W) => fits_any key ⟨kd, n, f, s⟩ W (HSch.out W h) (HWF.out ⟨key, ⟨kd, n, f, s⟩⟩ (List.mem_of_getElem? hx)) (HT.out W h))
      obtain ⟨m, hm⟩ : ∃ m, mayV ⟨kd, n, f, s⟩ = m := ⟨_, rfl⟩
      obtain ⟨ft, hft⟩ : ∃ ft, fitsK ks key ⟨kd, n, f, s⟩ = ft := ⟨_, rfl⟩
      rw [hm] at HM
      rw [hft] at HF
      unfold Val.v at HM HF
      have HMe := Aside.mk hm
      have HFe := Aside.mk hft
      obtain ⟨s0, s1, s2, s3, s4⟩ := (HS.out.below HN.out.below).five hx
      have HB0 := Aside.mk (ABox.new wr key kd n f s)
      have HBd := Aside.mk (below_alloc HN.out.below (.cells #[.int .i64 key, .int .u8 kd, .int .i64 n, .int .u64 (f : Int), .string s] 58)).drew
      clear hm hft
      rcases k with _ | j
      · replace s0 : wr.cell? ad = some (.int .i64 key) := s0
        replace s1 : wr.cell? ⟨ad.block, ad.off + 1, none⟩ = some (.int .u8 kd) := s1
        replace s2 : wr.cell? ⟨ad.block, ad.off + 2, none⟩ = some (.int .i64 n) := s2
        replace s3 : wr.cell? ⟨ad.block, ad.off + 3, none⟩ = some (.int .u64 (f : Int)) := s3
        replace s4 : wr.cell? ⟨ad.block, ad.off + 4, none⟩ = some (.string s) := s4
        go_wp2_with fail
        clear s0 s1 s2 s3 s4
        refine wp_region_noPanic ?_
        refine wp_region_held_drew (S := fun W => (W.cell? ⟨wr.heap.size, 0, none⟩ = some (.int .i64 key) ∧ W.cell? ⟨wr.heap.size, 1, none⟩ = some (.int .u8 kd) ∧ W.cell? ⟨wr.heap.size, 2, none⟩ = some (.int .i64 n) ∧ W.cell? ⟨wr.heap.size, 3, none⟩ = some (.int .u64 (f : Int)) ∧ W.cell? ⟨wr.heap.size, 4, none⟩ = some (.string s)) ∧ Below w.heap.size w W) (by kernel_rfl) (⟨HB0.out, HBd.out⟩) (fun hHeld => ?_)
        refine take_at (i := 0) (d := some 19) (v := ?vz0) rfl rfl (by kernel_rfl) (by kernel_rfl) (by kernel_rfl) (fun _ _ _ h => h) (Or.inl ⟨by rfl, ?hyz0⟩) hHeld ?restz0
        case hyz0 => (intro w hSw; (try dsimp only at hSw); go_simp; try with_reducible rfl)
        try simp only [Act.put, List.setIfInBounds_toArray, List.set_cons_zero, List.set_cons_succ]
        refine take_at (i := 1) (d := some 20) (v := ?vz1) rfl rfl (by kernel_rfl) (by kernel_rfl) (by kernel_rfl) (fun _ _ _ h => h) (Or.inl ⟨by rfl, ?hyz1⟩) hHeld ?restz1
        case hyz1 => (intro w hSw; (try dsimp only at hSw); go_simp; try with_reducible rfl)
        try simp only [Act.put, List.setIfInBounds_toArray, List.set_cons_zero, List.set_cons_succ]
        refine take_at (i := 2) (d := some 21) (v := ?vz2) rfl rfl (by kernel_rfl) (by kernel_rfl) (by kernel_rfl) (fun _ _ _ h => h) (Or.inl ⟨by rfl, ?hyz2⟩) hHeld ?restz2
        case hyz2 => (intro w hSw; (try dsimp only at hSw); go_simp; try with_reducible rfl)
        try simp only [Act.put, List.setIfInBounds_toArray, List.set_cons_zero, List.set_cons_succ]
        refine take_at (i := 3) (d := some 22) (v := undef) rfl rfl (by kernel_rfl) (by kernel_rfl) (by kernel_rfl) (fun _ _ _ h => h) (Or.inr ⟨by rfl, rfl⟩) hHeld ?restz3
        try simp only [Act.put, List.setIfInBounds_toArray, List.set_cons_zero, List.set_cons_succ]
        refine take_at (i := 4) (d := some 23) (v := undef) rfl rfl (by kernel_rfl) (by kernel_rfl) (by kernel_rfl) (fun _ _ _ h => h) (Or.inr ⟨by rfl, rfl⟩) hHeld ?restz4
        try simp only [Act.put, List.setIfInBounds_toArray, List.set_cons_zero, List.set_cons_succ]
        refine take_at (i := 5) (d := some 24) (v := undef) rfl rfl (by kernel_rfl) (by kernel_rfl) (by kernel_rfl) (fun _ _ _ h => h) (Or.inr ⟨by rfl, rfl⟩) hHeld ?restz5
        try simp only [Act.put, List.setIfInBounds_toArray, List.set_cons_zero, List.set_cons_succ]
        refine take_at (i := 6) (d := some 25) (v := undef) rfl rfl (by kernel_rfl) (by kernel_rfl) (by kernel_rfl) (fun _ _ _ h => h) (Or.inr ⟨by rfl, rfl⟩) hHeld ?restz6
        try simp only [Act.put, List.setIfInBounds_toArray, List.set_cons_zero, List.set_cons_succ]
        refine take_at (i := 7) (d := some 26) (v := undef) rfl rfl (by kernel_rfl) (by kernel_rfl) (by kernel_rfl) (fun _ _ _ h => h) (Or.inr ⟨by rfl, rfl⟩) hHeld ?restz7
        try simp only [Act.put, List.setIfInBounds_toArray, List.set_cons_zero, List.set_cons_succ]
        refine take_at (i := 8) (d := some 27) (v := undef) rfl rfl (by kernel_rfl) (by kernel_rfl) (by kernel_rfl) (fun _ _ _ h => h) (Or.inr ⟨by rfl, rfl⟩) hHeld ?restz8
        try simp only [Act.put, List.setIfInBounds_toArray, List.set_cons_zero, List.set_cons_succ]
        refine take_at (i := 9) (d := some 28) (v := undef) rfl rfl (by kernel_rfl) (by kernel_rfl) (by kernel_rfl) (fun _ _ _ h => h) (Or.inr ⟨by rfl, rfl⟩) hHeld ?restz9
        try simp only [Act.put, List.setIfInBounds_toArray, List.set_cons_zero, List.set_cons_succ]
        refine take_at (i := 10) (d := some 29) (v := undef) rfl rfl (by kernel_rfl) (by kernel_rfl) (by kernel_rfl) (fun _ _ _ h => h) (Or.inr ⟨by rfl, rfl⟩) hHeld ?restz10
        try simp only [Act.put, List.setIfInBounds_toArray, List.set_cons_zero, List.set_cons_succ]
        refine take_at (i := 11) (d := some 30) (v := undef) rfl rfl (by kernel_rfl) (by kernel_rfl) (by kernel_rfl) (fun _ _ _ h => h) (Or.inr ⟨by rfl, rfl⟩) hHeld ?restz11
        try simp only [Act.put, List.setIfInBounds_toArray, List.set_cons_zero, List.set_cons_succ]
        refine take_at (i := 12) (d := some 31) (v := ?vz12) rfl rfl (by kernel_rfl) (by kernel_rfl) (by kernel_rfl) (fun _ _ _ h => h) (Or.inl ⟨by rfl, ?hyz12⟩) hHeld ?restz12
        case hyz12 => (intro w hSw; (try dsimp only at hSw); go_simp; try with_reducible rfl)
        try simp only [Act.put, List.setIfInBounds_toArray, List.set_cons_zero, List.set_cons_succ]
        refine take_at (i := 13) (d := some 32) (v := ?vz13) rfl rfl (by kernel_rfl) (by kernel_rfl) (by kernel_rfl) (fun _ _ _ h => h) (Or.inl ⟨by rfl, ?hyz13⟩) hHeld ?restz13
        case hyz13 => (intro w hSw; (try dsimp only at hSw); go_simp; try with_reducible rfl)
        try simp only [Act.put, List.setIfInBounds_toArray, List.set_cons_zero, List.set_cons_succ]
        refine take_at (i := 14) (d := some 33) (v := ?vz14) rfl rfl (by kernel_rfl) (by kernel_rfl) (by kernel_rfl) (fun _ _ _ h => h) (Or.inl ⟨by rfl, ?hyz14⟩) hHeld ?restz14
        case hyz14 => (intro w hSw; (try dsimp only at hSw); go_simp; try with_reducible rfl)
        try simp only [Act.put, List.setIfInBounds_toArray, List.set_cons_zero, List.set_cons_succ]
        refine take_at (i := 15) (d := some 34) (v := ?vz15) rfl rfl (by kernel_rfl) (by kernel_rfl) (by kernel_rfl) (fun _ _ _ h => h) (Or.inl ⟨by rfl, ?hyz15⟩) hHeld ?restz15
        case hyz15 => (intro w hSw; (try dsimp only at hSw); go_simp; try with_reducible rfl)
        try simp only [Act.put, List.setIfInBounds_toArray, List.set_cons_zero, List.set_cons_succ]
        refine wpAnyH_ready (rs := [16]) (by kernel_rfl) (by simp) ?_
        refine AllReadyH.cons rfl (fun K hK => ?_) AllReadyH.nil
        go_simp
        (with_reducible refine (HM.out _ (hHeld.2)).mono ?_)
        rintro e w' ⟨rfl, hbw⟩
        refine hK.out _ _ (⟨abox_next hHeld.1 hbw, below_then hHeld.2 hbw⟩) (fun hHeld' => ?_)
        clear hK K hHeld hbw
        have hHeld := hHeld'
        clear hHeld'
        try simp only [Act.put, List.setIfInBounds_toArray, List.set_cons_zero, List.set_cons_succ]
        refine take_at (i := 17) (d := some 36) (v := ?vz17) rfl rfl (by kernel_rfl) (by kernel_rfl) (by kernel_rfl) (fun _ _ _ h => h) (Or.inl ⟨by rfl, ?hyz17⟩) hHeld ?restz17
        case hyz17 => (intro w hSw; (try dsimp only at hSw); go_simp; try with_reducible rfl)
        try simp only [Act.put, List.setIfInBounds_toArray, List.set_cons_zero, List.set_cons_succ]
        refine take_at (i := 18) (d := some 37) (v := ?vz18) rfl rfl (by kernel_rfl) (by kernel_rfl) (by kernel_rfl) (fun _ _ _ h => h) (Or.inl ⟨by rfl, ?hyz18⟩) hHeld ?restz18
        case hyz18 => (intro w hSw; (try dsimp only at hSw); go_simp; try with_reducible rfl)
        try simp only [Act.put, List.setIfInBounds_toArray, List.set_cons_zero, List.set_cons_succ]
        refine take_at (i := 19) (d := some 18) (v := ?vz19) rfl rfl (by kernel_rfl) (by kernel_rfl) (by kernel_rfl) (fun _ _ _ h => h) (Or.inl ⟨by rfl, ?hyz19⟩) hHeld ?restz19
        case hyz19 => (intro w hSw; (try dsimp only at hSw); go_simp; try with_reducible rfl)
        try simp only [Act.put, List.setIfInBounds_toArray, List.set_cons_zero, List.set_cons_succ]
        refine wpAnyH_done (by kernel_rfl) ?_ _

        refine NoPanic.normal ?_
        obtain ⟨b0, b1, b2, b3, b4⟩ := hHeld.1
        have HD := Aside.mk hHeld.2
        clear hHeld
        cases m with
        | false =>
          have HE := Aside.mk (may_bad (ks := ks) hlt (by unfold okAt; rw [HX.out]; simp only [HMe.out]; rfl))
          go_wp2
          rw [← HR.out, HE.out]
          exact ⟨rfl, HD.out⟩
        | true =>
          have HK := Aside.mk (show okAt l 0 = true by unfold okAt; rw [HX.out]; simp only [HMe.out]; rfl)
          go_wp2_with fail
          (with_reducible refine (HF.out _ HD.out).mono ?_)
          rintro e w2 ⟨rfl, hb2⟩
          have HZ := Aside.mk (HN.out.next hx (below_then HD.out hb2) HK.out)
          simp only [HFe.out] at HZ
          clear hb2 b0 b1 b2 b3 b4
          cases ft
          · go_wp2
            go_roundw
            case rel => exact ⟨0 + 1, 4, by omega, by go_num, rfl, HZ⟩
            case measure => simp [intOf]; omega
          · go_wp2
            go_roundw
            case rel => exact ⟨0 + 1, ee, by omega, by go_num, rfl, HZ⟩
            case measure => simp [intOf]; omega
      · obtain ⟨⟨pk, pv⟩, hpx⟩ : ∃ a, l[j]? = some a := ⟨_, List.getElem?_eq_getElem (by omega)⟩
        have HPx := Aside.mk hpx
        have hp0 : wr.cell? (ad.add (j * 5)) = some (.int .i64 pk) := (HS.out.below HN.out.below).2 ad rfl j _ hpx 0 _ rfl
        have HP0 := Aside.mk (show (wr.alloc (.cells #[.int .i64 key, .int .u8 kd, .int .i64 n, .int .u64 (f : Int), .string s] 58)).drew.cell? (ad.add (j * 5)) = some (.int .i64 pk) from cell_below (below_alloc (below_refl wr) _) hp0)
        have hjl : (j : Int) < (l.length : Int) := by omega
        have hjc : (j : Int) + 1 < (c : Int) := by omega
        have hj64 : (j : Int) ≤ 64 := by omega
        have HL2 := Aside.mk hlt
        have hwr : IntKind.i64.wrap (j : Int) = (j : Int) := IntWalk.i64_in _ (by omega)
        clear hp0 hpx
        by_cases hord : pk < key
        · have hge : decide (key ≤ pk) = false := by simp; omega
          go_wp2_with fail
          clear s0 s1 s2 s3 s4
          refine wp_region_noPanic ?_
          refine wp_region_held_drew (S := fun W => ((W.cell? ⟨wr.heap.size, 0, none⟩ = some (.int .i64 key) ∧ W.cell? ⟨wr.heap.size, 1, none⟩ = some (.int .u8 kd) ∧ W.cell? ⟨wr.heap.size, 2, none⟩ = some (.int .i64 n) ∧ W.cell? ⟨wr.heap.size, 3, none⟩ = some (.int .u64 (f : Int)) ∧ W.cell? ⟨wr.heap.size, 4, none⟩ = some (.string s)) ∧ W.cell? (ad.add (j * 5)) = some (.int .i64 pk)) ∧ Below w.heap.size w W) (by kernel_rfl) (⟨⟨HB0.out, HP0.out⟩, HBd.out⟩) (fun hHeld => ?_)
          refine take_at (i := 0) (d := some 19) (v := ?vl0) rfl rfl (by kernel_rfl) (by kernel_rfl) (by kernel_rfl) (fun _ _ _ h => h) (Or.inl ⟨by rfl, ?hyl0⟩) hHeld ?restl0
          case hyl0 => (intro w hSw; (try dsimp only at hSw); go_simp; try with_reducible rfl)
          try simp only [Act.put, List.setIfInBounds_toArray, List.set_cons_zero, List.set_cons_succ]
          refine take_at (i := 1) (d := some 20) (v := ?vl1) rfl rfl (by kernel_rfl) (by kernel_rfl) (by kernel_rfl) (fun _ _ _ h => h) (Or.inl ⟨by rfl, ?hyl1⟩) hHeld ?restl1
          case hyl1 => (intro w hSw; (try dsimp only at hSw); go_simp; try with_reducible rfl)
          try simp only [Act.put, List.setIfInBounds_toArray, List.set_cons_zero, List.set_cons_succ]
          refine take_at (i := 2) (d := some 21) (v := ?vl2) rfl rfl (by kernel_rfl) (by kernel_rfl) (by kernel_rfl) (fun _ _ _ h => h) (Or.inl ⟨by rfl, ?hyl2⟩) hHeld ?restl2
          case hyl2 => (intro w hSw; (try dsimp only at hSw); go_simp; try with_reducible rfl)
          try simp only [Act.put, List.setIfInBounds_toArray, List.set_cons_zero, List.set_cons_succ]
          refine take_at (i := 3) (d := some 22) (v := ?vl3) rfl rfl (by kernel_rfl) (by kernel_rfl) (by kernel_rfl) (fun _ _ _ h => h) (Or.inl ⟨by rfl, ?hyl3⟩) hHeld ?restl3
          case hyl3 => (intro w hSw; (try dsimp only at hSw); go_simp; try with_reducible rfl)
          try simp only [Act.put, List.setIfInBounds_toArray, List.set_cons_zero, List.set_cons_succ]
          refine take_at (i := 4) (d := some 23) (v := ?vl4) rfl rfl (by kernel_rfl) (by kernel_rfl) (by kernel_rfl) (fun _ _ _ h => h) (Or.inl ⟨by rfl, ?hyl4⟩) hHeld ?restl4
          case hyl4 => (intro w hSw; (try dsimp only at hSw); go_simp; try with_reducible rfl)
          try simp only [Act.put, List.setIfInBounds_toArray, List.set_cons_zero, List.set_cons_succ]
          refine take_at (i := 5) (d := some 24) (v := ?vl5) rfl rfl (by kernel_rfl) (by kernel_rfl) (by kernel_rfl) (fun _ _ _ h => h) (Or.inl ⟨by rfl, ?hyl5⟩) hHeld ?restl5
          case hyl5 => (intro w hSw; (try dsimp only at hSw); go_simp; try with_reducible rfl)
          try simp only [Act.put, List.setIfInBounds_toArray, List.set_cons_zero, List.set_cons_succ]
          refine take_at (i := 6) (d := some 25) (v := ?vl6) rfl rfl (by kernel_rfl) (by kernel_rfl) (by kernel_rfl) (fun _ _ _ h => h) (Or.inl ⟨by rfl, ?hyl6⟩) hHeld ?restl6
          case hyl6 => (intro w hSw; (try dsimp only at hSw); go_simp; try with_reducible rfl)
          try simp only [Act.put, List.setIfInBounds_toArray, List.set_cons_zero, List.set_cons_succ]
          refine take_at (i := 7) (d := some 26) (v := ?vl7) rfl rfl (by kernel_rfl) (by kernel_rfl) (by kernel_rfl) (fun _ _ _ h => h) (Or.inl ⟨by rfl, ?hyl7⟩) hHeld ?restl7
          case hyl7 => (intro w hSw; (try dsimp only at hSw); go_simp; try with_reducible rfl)
          try simp only [Act.put, List.setIfInBounds_toArray, List.set_cons_zero, List.set_cons_succ]
          refine take_at (i := 8) (d := some 27) (v := ?vl8) rfl rfl (by kernel_rfl) (by kernel_rfl) (by kernel_rfl) (fun _ _ _ h => h) (Or.inl ⟨by rfl, ?hyl8⟩) hHeld ?restl8
          case hyl8 => (intro w hSw; (try dsimp only at hSw); go_simp; try with_reducible rfl)
          try simp only [Act.put, List.setIfInBounds_toArray, List.set_cons_zero, List.set_cons_succ]
          refine take_at (i := 9) (d := some 28) (v := ?vl9) rfl rfl (by kernel_rfl) (by kernel_rfl) (by kernel_rfl) (fun _ _ _ h => h) (Or.inl ⟨by rfl, ?hyl9⟩) hHeld ?restl9
          case hyl9 => (intro w hSw; (try dsimp only at hSw); go_simp; try with_reducible rfl)
          try simp only [Act.put, List.setIfInBounds_toArray, List.set_cons_zero, List.set_cons_succ]
          refine take_at (i := 10) (d := some 29) (v := ?vl10) rfl rfl (by kernel_rfl) (by kernel_rfl) (by kernel_rfl) (fun _ _ _ h => h) (Or.inl ⟨by rfl, ?hyl10⟩) hHeld ?restl10
          case hyl10 => (intro w hSw; (try dsimp only at hSw); go_simp; try with_reducible rfl)
          try simp only [Act.put, List.setIfInBounds_toArray, List.set_cons_zero, List.set_cons_succ]
          refine take_at (i := 11) (d := some 30) (v := ?vl11) rfl rfl (by kernel_rfl) (by kernel_rfl) (by kernel_rfl) (fun _ _ _ h => h) (Or.inl ⟨by rfl, ?hyl11⟩) hHeld ?restl11
          case hyl11 => (intro w hSw; (try dsimp only at hSw); go_simp; try with_reducible rfl)
          try simp only [Act.put, List.setIfInBounds_toArray, List.set_cons_zero, List.set_cons_succ]
          refine take_at (i := 12) (d := some 31) (v := ?vl12) rfl rfl (by kernel_rfl) (by kernel_rfl) (by kernel_rfl) (fun _ _ _ h => h) (Or.inl ⟨by rfl, ?hyl12⟩) hHeld ?restl12
          case hyl12 => (intro w hSw; (try dsimp only at hSw); go_simp; try with_reducible rfl)
          try simp only [Act.put, List.setIfInBounds_toArray, List.set_cons_zero, List.set_cons_succ]
          refine take_at (i := 13) (d := some 32) (v := ?vl13) rfl rfl (by kernel_rfl) (by kernel_rfl) (by kernel_rfl) (fun _ _ _ h => h) (Or.inl ⟨by rfl, ?hyl13⟩) hHeld ?restl13
          case hyl13 => (intro w hSw; (try dsimp only at hSw); go_simp; try with_reducible rfl)
          try simp only [Act.put, List.setIfInBounds_toArray, List.set_cons_zero, List.set_cons_succ]
          refine take_at (i := 14) (d := some 33) (v := ?vl14) rfl rfl (by kernel_rfl) (by kernel_rfl) (by kernel_rfl) (fun _ _ _ h => h) (Or.inl ⟨by rfl, ?hyl14⟩) hHeld ?restl14
          case hyl14 => (intro w hSw; (try dsimp only at hSw); go_simp; try with_reducible rfl)
          try simp only [Act.put, List.setIfInBounds_toArray, List.set_cons_zero, List.set_cons_succ]
          refine take_at (i := 15) (d := some 34) (v := ?vl15) rfl rfl (by kernel_rfl) (by kernel_rfl) (by kernel_rfl) (fun _ _ _ h => h) (Or.inl ⟨by rfl, ?hyl15⟩) hHeld ?restl15
          case hyl15 => (intro w hSw; (try dsimp only at hSw); go_simp; try with_reducible rfl)
          try simp only [Act.put, List.setIfInBounds_toArray, List.set_cons_zero, List.set_cons_succ]
          refine wpAnyH_ready (rs := [16]) (by kernel_rfl) (by simp) ?_
          refine AllReadyH.cons rfl (fun K hK => ?_) AllReadyH.nil
          go_simp
          (with_reducible refine (HM.out _ (hHeld.2)).mono ?_)
          rintro e w' ⟨rfl, hbw⟩
          refine hK.out _ _ (⟨⟨abox_next hHeld.1.1 hbw, cell_below hbw hHeld.1.2⟩, below_then hHeld.2 hbw⟩) (fun hHeld' => ?_)
          clear hK K hHeld hbw
          have hHeld := hHeld'
          clear hHeld'
          try simp only [Act.put, List.setIfInBounds_toArray, List.set_cons_zero, List.set_cons_succ]
          refine take_at (i := 17) (d := some 36) (v := ?vl17) rfl rfl (by kernel_rfl) (by kernel_rfl) (by kernel_rfl) (fun _ _ _ h => h) (Or.inl ⟨by rfl, ?hyl17⟩) hHeld ?restl17
          case hyl17 => (intro w hSw; (try dsimp only at hSw); go_simp; try with_reducible rfl)
          try simp only [Act.put, List.setIfInBounds_toArray, List.set_cons_zero, List.set_cons_succ]
          refine take_at (i := 18) (d := some 37) (v := ?vl18) rfl rfl (by kernel_rfl) (by kernel_rfl) (by kernel_rfl) (fun _ _ _ h => h) (Or.inl ⟨by rfl, ?hyl18⟩) hHeld ?restl18
          case hyl18 => (intro w hSw; (try dsimp only at hSw); go_simp; try with_reducible rfl)
          try simp only [Act.put, List.setIfInBounds_toArray, List.set_cons_zero, List.set_cons_succ]
          refine take_at (i := 19) (d := some 18) (v := ?vl19) rfl rfl (by kernel_rfl) (by kernel_rfl) (by kernel_rfl) (fun _ _ _ h => h) (Or.inl ⟨by rfl, ?hyl19⟩) hHeld ?restl19
          case hyl19 => (intro w hSw; (try dsimp only at hSw); go_simp; try with_reducible rfl)
          try simp only [Act.put, List.setIfInBounds_toArray, List.set_cons_zero, List.set_cons_succ]
          refine wpAnyH_done (by kernel_rfl) ?_ _

          refine NoPanic.normal ?_
          obtain ⟨b0, b1, b2, b3, b4⟩ := hHeld.1.1
          have HD := Aside.mk hHeld.2
          clear hHeld hwr
          cases m with
          | false =>
            have HE := Aside.mk (may_bad (ks := ks) HL2.out (by unfold okAt; rw [HX.out]; simp only [HMe.out, Bool.and_false]))
            go_wp2
            rw [← HR.out, HE.out]
            exact ⟨rfl, HD.out⟩
          | true =>
            have HK := Aside.mk (show okAt l (j + 1) = true by unfold okAt; rw [HX.out]; simp only [HMe.out, HPx.out]; simpa using hord)
            go_wp2_with fail
            (with_reducible refine (HF.out _ HD.out).mono ?_)
            rintro e w2 ⟨rfl, hb2⟩
            have HZ := Aside.mk (HN.out.next hx (below_then HD.out hb2) HK.out)
            simp only [HFe.out] at HZ
            clear hb2 b0 b1 b2 b3 b4
            cases ft
            · go_wp2
              go_roundw
              case rel => exact ⟨j + 1 + 1, 4, by omega, by go_num, rfl, HZ⟩
              case measure => simp [intOf]; omega
            · go_wp2
              go_roundw
              case rel => exact ⟨j + 1 + 1, ee, by omega, by go_num, rfl, HZ⟩
              case measure => simp [intOf]; omega
        · have hge : decide (key ≤ pk) = true := by simp; omega
          go_wp2_with fail
          clear s0 s1 s2 s3 s4
          refine wp_region_noPanic ?_
          refine wp_region_held_drew (S := fun W => ((W.cell? ⟨wr.heap.size, 0, none⟩ = some (.int .i64 key) ∧ W.cell? ⟨wr.heap.size, 1, none⟩ = some (.int .u8 kd) ∧ W.cell? ⟨wr.heap.size, 2, none⟩ = some (.int .i64 n) ∧ W.cell? ⟨wr.heap.size, 3, none⟩ = some (.int .u64 (f : Int)) ∧ W.cell? ⟨wr.heap.size, 4, none⟩ = some (.string s)) ∧ W.cell? (ad.add (j * 5)) = some (.int .i64 pk)) ∧ Below w.heap.size w W) (by kernel_rfl) (⟨⟨HB0.out, HP0.out⟩, HBd.out⟩) (fun hHeld => ?_)
          refine take_at (i := 0) (d := some 19) (v := ?vh0) rfl rfl (by kernel_rfl) (by kernel_rfl) (by kernel_rfl) (fun _ _ _ h => h) (Or.inl ⟨by rfl, ?hyh0⟩) hHeld ?resth0
          case hyh0 => (intro w hSw; (try dsimp only at hSw); go_simp; try with_reducible rfl)
          try simp only [Act.put, List.setIfInBounds_toArray, List.set_cons_zero, List.set_cons_succ]
          refine take_at (i := 1) (d := some 20) (v := ?vh1) rfl rfl (by kernel_rfl) (by kernel_rfl) (by kernel_rfl) (fun _ _ _ h => h) (Or.inl ⟨by rfl, ?hyh1⟩) hHeld ?resth1
          case hyh1 => (intro w hSw; (try dsimp only at hSw); go_simp; try with_reducible rfl)
          try simp only [Act.put, List.setIfInBounds_toArray, List.set_cons_zero, List.set_cons_succ]
          refine take_at (i := 2) (d := some 21) (v := ?vh2) rfl rfl (by kernel_rfl) (by kernel_rfl) (by kernel_rfl) (fun _ _ _ h => h) (Or.inl ⟨by rfl, ?hyh2⟩) hHeld ?resth2
          case hyh2 => (intro w hSw; (try dsimp only at hSw); go_simp; try with_reducible rfl)
          try simp only [Act.put, List.setIfInBounds_toArray, List.set_cons_zero, List.set_cons_succ]
          refine take_at (i := 3) (d := some 22) (v := ?vh3) rfl rfl (by kernel_rfl) (by kernel_rfl) (by kernel_rfl) (fun _ _ _ h => h) (Or.inl ⟨by rfl, ?hyh3⟩) hHeld ?resth3
          case hyh3 => (intro w hSw; (try dsimp only at hSw); go_simp; try with_reducible rfl)
          try simp only [Act.put, List.setIfInBounds_toArray, List.set_cons_zero, List.set_cons_succ]
          refine take_at (i := 4) (d := some 23) (v := ?vh4) rfl rfl (by kernel_rfl) (by kernel_rfl) (by kernel_rfl) (fun _ _ _ h => h) (Or.inl ⟨by rfl, ?hyh4⟩) hHeld ?resth4
          case hyh4 => (intro w hSw; (try dsimp only at hSw); go_simp; try with_reducible rfl)
          try simp only [Act.put, List.setIfInBounds_toArray, List.set_cons_zero, List.set_cons_succ]
          refine take_at (i := 5) (d := some 24) (v := ?vh5) rfl rfl (by kernel_rfl) (by kernel_rfl) (by kernel_rfl) (fun _ _ _ h => h) (Or.inl ⟨by rfl, ?hyh5⟩) hHeld ?resth5
          case hyh5 => (intro w hSw; (try dsimp only at hSw); go_simp; try with_reducible rfl)
          try simp only [Act.put, List.setIfInBounds_toArray, List.set_cons_zero, List.set_cons_succ]
          refine take_at (i := 6) (d := some 25) (v := ?vh6) rfl rfl (by kernel_rfl) (by kernel_rfl) (by kernel_rfl) (fun _ _ _ h => h) (Or.inl ⟨by rfl, ?hyh6⟩) hHeld ?resth6
          case hyh6 => (intro w hSw; (try dsimp only at hSw); go_simp; try with_reducible rfl)
          try simp only [Act.put, List.setIfInBounds_toArray, List.set_cons_zero, List.set_cons_succ]
          refine take_at (i := 7) (d := some 26) (v := ?vh7) rfl rfl (by kernel_rfl) (by kernel_rfl) (by kernel_rfl) (fun _ _ _ h => h) (Or.inl ⟨by rfl, ?hyh7⟩) hHeld ?resth7
          case hyh7 => (intro w hSw; (try dsimp only at hSw); go_simp; try with_reducible rfl)
          try simp only [Act.put, List.setIfInBounds_toArray, List.set_cons_zero, List.set_cons_succ]
          refine take_at (i := 8) (d := some 27) (v := ?vh8) rfl rfl (by kernel_rfl) (by kernel_rfl) (by kernel_rfl) (fun _ _ _ h => h) (Or.inl ⟨by rfl, ?hyh8⟩) hHeld ?resth8
          case hyh8 => (intro w hSw; (try dsimp only at hSw); go_simp; try with_reducible rfl)
          try simp only [Act.put, List.setIfInBounds_toArray, List.set_cons_zero, List.set_cons_succ]
          refine take_at (i := 9) (d := some 28) (v := ?vh9) rfl rfl (by kernel_rfl) (by kernel_rfl) (by kernel_rfl) (fun _ _ _ h => h) (Or.inl ⟨by rfl, ?hyh9⟩) hHeld ?resth9
          case hyh9 => (intro w hSw; (try dsimp only at hSw); go_simp; try with_reducible rfl)
          try simp only [Act.put, List.setIfInBounds_toArray, List.set_cons_zero, List.set_cons_succ]
          refine take_at (i := 10) (d := some 29) (v := ?vh10) rfl rfl (by kernel_rfl) (by kernel_rfl) (by kernel_rfl) (fun _ _ _ h => h) (Or.inl ⟨by rfl, ?hyh10⟩) hHeld ?resth10
          case hyh10 => (intro w hSw; (try dsimp only at hSw); go_simp; try with_reducible rfl)
          try simp only [Act.put, List.setIfInBounds_toArray, List.set_cons_zero, List.set_cons_succ]
          refine take_at (i := 11) (d := some 30) (v := ?vh11) rfl rfl (by kernel_rfl) (by kernel_rfl) (by kernel_rfl) (fun _ _ _ h => h) (Or.inl ⟨by rfl, ?hyh11⟩) hHeld ?resth11
          case hyh11 => (intro w hSw; (try dsimp only at hSw); go_simp; try with_reducible rfl)
          try simp only [Act.put, List.setIfInBounds_toArray, List.set_cons_zero, List.set_cons_succ]
          refine take_at (i := 12) (d := some 31) (v := ?vh12) rfl rfl (by kernel_rfl) (by kernel_rfl) (by kernel_rfl) (fun _ _ _ h => h) (Or.inl ⟨by rfl, ?hyh12⟩) hHeld ?resth12
          case hyh12 => (intro w hSw; (try dsimp only at hSw); go_simp; try with_reducible rfl)
          try simp only [Act.put, List.setIfInBounds_toArray, List.set_cons_zero, List.set_cons_succ]
          refine take_at (i := 13) (d := some 32) (v := ?vh13) rfl rfl (by kernel_rfl) (by kernel_rfl) (by kernel_rfl) (fun _ _ _ h => h) (Or.inl ⟨by rfl, ?hyh13⟩) hHeld ?resth13
          case hyh13 => (intro w hSw; (try dsimp only at hSw); go_simp; try with_reducible rfl)
          try simp only [Act.put, List.setIfInBounds_toArray, List.set_cons_zero, List.set_cons_succ]
          refine take_at (i := 14) (d := some 33) (v := undef) rfl rfl (by kernel_rfl) (by kernel_rfl) (by kernel_rfl) (fun _ _ _ h => h) (Or.inr ⟨by rfl, rfl⟩) hHeld ?resth14
          try simp only [Act.put, List.setIfInBounds_toArray, List.set_cons_zero, List.set_cons_succ]
          refine take_at (i := 15) (d := some 34) (v := undef) rfl rfl (by kernel_rfl) (by kernel_rfl) (by kernel_rfl) (fun _ _ _ h => h) (Or.inr ⟨by rfl, rfl⟩) hHeld ?resth15
          try simp only [Act.put, List.setIfInBounds_toArray, List.set_cons_zero, List.set_cons_succ]
          refine take_at (i := 16) (d := some 35) (v := undef) rfl rfl (by kernel_rfl) (by kernel_rfl) (by kernel_rfl) (fun _ _ _ h => h) (Or.inr ⟨by rfl, rfl⟩) hHeld ?resth16
          try simp only [Act.put, List.setIfInBounds_toArray, List.set_cons_zero, List.set_cons_succ]
          refine take_at (i := 17) (d := some 36) (v := undef) rfl rfl (by kernel_rfl) (by kernel_rfl) (by kernel_rfl) (fun _ _ _ h => h) (Or.inr ⟨by rfl, rfl⟩) hHeld ?resth17
          try simp only [Act.put, List.setIfInBounds_toArray, List.set_cons_zero, List.set_cons_succ]
          refine take_at (i := 18) (d := some 37) (v := ?vh18) rfl rfl (by kernel_rfl) (by kernel_rfl) (by kernel_rfl) (fun _ _ _ h => h) (Or.inl ⟨by rfl, ?hyh18⟩) hHeld ?resth18
          case hyh18 => (intro w hSw; (try dsimp only at hSw); go_simp; try with_reducible rfl)
          try simp only [Act.put, List.setIfInBounds_toArray, List.set_cons_zero, List.set_cons_succ]
          refine take_at (i := 19) (d := some 18) (v := ?vh19) rfl rfl (by kernel_rfl) (by kernel_rfl) (by kernel_rfl) (fun _ _ _ h => h) (Or.inl ⟨by rfl, ?hyh19⟩) hHeld ?resth19
          case hyh19 => (intro w hSw; (try dsimp only at hSw); go_simp; try with_reducible rfl)
          try simp only [Act.put, List.setIfInBounds_toArray, List.set_cons_zero, List.set_cons_succ]
          refine wpAnyH_done (by kernel_rfl) ?_ _

          refine NoPanic.normal ?_
          have HD := Aside.mk hHeld.2
          clear hHeld
          have HE := Aside.mk (may_bad (ks := ks) HL2.out (by unfold okAt; rw [HX.out]; simp only [HPx.out]; simp; intro h; omega))
          go_wp2
          rw [← HR.out, HE.out]
          exact ⟨rfl, HD.out⟩
    · obtain rfl : k = l.length := by omega
      have HE := Aside.mk (may_end HL.out HN.out)
      go_wp2
      rw [← HR.out, HE.out]
      exact ⟨rfl, HN.out.below⟩
set_option maxRecDepth 100000 in
theorem amay_long (v : Value) (A : Option Addr) (c : Nat) (ks : List Ky) (l : List At) (w : World) (h : 64 < l.length) (hl : l.length ≤ 9223372036854775807) :
    Calls Tryd.prog 84 #[v, .slice A l.length c] w (MayPost w (mayA ks l)) := by
  have hm : mayA ks l = 3 := by unfold mayA; rw [if_pos h]
  rw [hm]
  have g1 : (64 : Int) < (l.length : Int) := by omega
  obtain ⟨R, hR⟩ : ∃ R, MayPost w 3 = R := ⟨_, rfl⟩
  rw [hR]
  have HR := Aside.mk hR
  clear hR hm h
  go_enter Tryd.func84, Tryd.ntmps84
  go_wp2
  rw [← HR.out]
  exact ⟨rfl, below_refl w⟩
set_option maxRecDepth 100000 in
theorem amay_nil (v : Value) (c : Nat) (ks : List Ky) (l : List At) (w : World) (h0 : l = []) :
    Calls Tryd.prog 84 #[v, .slice none l.length c] w (MayPost w (mayA ks l)) := by
  have hm : mayA ks l = 0 := by subst h0; unfold mayA; simp
  rw [hm]
  have g1 : (l.length : Int) ≤ 0 := by subst h0; simp
  obtain ⟨R, hR⟩ : ∃ R, MayPost w 0 = R := ⟨_, rfl⟩
  rw [hR]
  have HR := Aside.mk hR
  clear hR hm h0
  go_enter Tryd.func84, Tryd.ntmps84
  go_wp2_with fail
  go_loopw [5, 13] (fun e i wr => i = .int .i64 0 ∧ e = .int .i64 0 ∧ wr = w) (fun _ i _ => 0)
  case atStart => exact ⟨rfl, rfl, rfl⟩
  case round =>
    obtain ⟨rfl, rfl, rfl⟩ := hrel
    go_wp2
    rw [← HR.out]
    exact ⟨rfl, below_refl _⟩
/-- attrs.May, of any set. -/
theorem amay_any {lo hi : Nat} {so : Option Addr} {ks srt : List Ky} (A : Option Addr) (c : Nat) (l : List At) (w : World) (hSch : Sch lo hi w (.pointer so) ks srt) (hT : Lib.Utf8Tabs 1 2 w) (hS : ASrc w A l) (hc : l.length ≤ c) (hl : l.length ≤ 9223372036854775807) (hwf : ∀ a ∈ l, (Lit.int .i64 a.key).wf = true) :
    Calls Tryd.prog 84 #[.pointer so, .slice A l.length c] w (MayPost w (mayA ks l)) := by
  by_cases h64 : l.length ≤ 64
  · rcases A with _ | ad
    · exact amay_nil _ c ks l w (hS.1 rfl)
    · exact amay_some ad c l w hSch hT hS hc h64 hwf
  · exact amay_long _ A c ks l w (by omega) hl
end Go.Proofs.YtaejlgdmalhhnaaDoor
