/- Texts put together: Dh, Di, Dj. -/
import Derived.Test.YtaejlgdmalhhnaaDoorPkH
/- Layer 7, the document's: Add of a table where a set is laid (printed by gen_docadd.py). -/
set_option linter.unusedVariables false
set_option linter.unusedSimpArgs false
namespace Go.Proofs.YtaejlgdmalhhnaaDoor
open Go.RowKit Go.Maps

variable {B db : Nat} {O : Nat → Prop} {w w' w1 : World} {KA : Option Addr} {kc : Nat} {ks : List Ky} {sv hv lv v1 : Value} {S : List (Value × List At)} {H free : List Int} {empty : Int} {D : Ps} {A : Option Addr} {c : Nat} {l : List At}
theorem asrc_turn (h : ASrc w A l) (ht : Turn O w w1) (hO : ∀ k, O k → B ≤ k) (ha : ∀ a, A = some a → a.block < B) (hl : l ≠ []) : ASrc w1 A l := by
  refine ⟨h.1, fun ad e j a hj i v hi => ?_⟩
  have hc := h.2 ad e j a hj i v hi
  have hb := World.block_lt_of_cell? w _ hc
  have hab := ha ad e
  rw [World.cell?_of_block (ht.block _ hb (fun hk => by have := hO _ hk; rw [addr_block] at this; omega))]
  exact hc
theorem mayA_len (h : mayA ks l = 0) : l.length ≤ 64 := (mayA_zero h).1
set_option maxRecDepth 100000 in
set_option maxHeartbeats 8000000 in
theorem add_docL {fr : List Int} {i : Nat} (hK : KSrc w KA ks) (hkc : ks.length ≤ kc) (hkl : ks.length ≤ 9223372036854775807) (h : DocM B O w db (.slice KA ks.length kc) D (fr ++ [(i : Int)]) empty) (hbd : DBd D (fr ++ [(i : Int)]) empty) (ha : ArgS w A c l) (hfar : ∀ a, A = some a → a.block < B) (he : mayA ks l = 0) (h0 : l ≠ []) (hf : findP D l = none) (hi : i < D.length) :
    Calls Tryd.prog 36 #[.pointer (some ⟨db, 0, none⟩), .slice A l.length c] w (DocPost B O w db (.slice KA ks.length kc) (D.set i (l, 1)) fr empty (.tuple #[.int .i64 ((i : Int) + 1), .int .i64 0])) := by
  have HM := Aside.mk (dMayA_any KA kc ks A c l w hkc hkl hK ha.src ha.cap ha.len ha.wf ha.sz)
  rw [he] at HM
  obtain ⟨ht, hB⟩ := h.top
  have HTop := Aside.mk ht
  have HBase := Aside.mk hB
  have HA64 := Aside.mk (mayA_len he)
  have HAl := Aside.mk ha.len
  have HFar := Aside.mk hfar
  have HSrc := Aside.mk ha.src
  have HL0 := Aside.mk h0
  obtain ⟨sv, hv, lv, S, H, hd, hp, rfl⟩ := h
  have HD := Aside.mk hd
  have HPl := Aside.mk hp
  have f0 := hd.f0
  have hlp := psOf_len S H hp.len
  have hll := hbd.len
  have HFd := Aside.mk (fun (w1 : World) (hb : Below w.heap.size w w1) => find_doc A c l (hd.below hb) hp (by have := hp.len; omega) (ha.src.below hb) ha.cap (by have := ha.len; omega))
  rw [hf] at HFd
  have hlz : ((l.length : Int) == 0) = false := by
    have := List.length_pos_iff.2 h0
    simp; omega
  have hal : (l.length : Int) ≤ 100000 := by have := ha.len; omega
  have hac : (l.length : Int) ≤ (c : Int) := by have := ha.cap; omega
  obtain ⟨R, hR⟩ : ∃ R, DocPost B O w db (.slice KA ks.length kc) ((psOf S H).set i (l, 1)) fr empty (.tuple #[.int .i64 ((i : Int) + 1), .int .i64 0]) = R := ⟨_, rfl⟩
  rw [hR]
  have HR := Aside.mk hR
  have hfl := hbd.flen
  rw [List.length_append, List.length_singleton] at hfl
  have HFl := Aside.mk hfl
  obtain ⟨lA, lc, hlv, l1, l2, l3⟩ := nums_slice hd.loose
  obtain ⟨la, hla, hlx⟩ := l3 fr.length (i : Int) (by rw [List.getElem?_append_right (Nat.le_refl _), Nat.sub_self]; rfl)
  subst hla hlv
  have hlz2 : (fr ++ [(i : Int)]).length = fr.length + 1 := by simp
  rw [hlz2] at l1
  have g1 : (fr.length : Int) + 1 ≤ (lc : Int) := by omega
  have g2 : (fr.length : Int) ≤ 1000000 := by omega
  have gi : (i : Int) ≤ 1000000 := by omega
  have HIl := Aside.mk (show i < S.length by omega)
  have HSl := Aside.mk (show S.length ≤ 1000000 by omega)
  clear hR hd hp ha hK he ht h0 hf hfar hB l3 hlx hlz2 hfl hbd hlp hll hi l1 l2
  go_enter Tryd.func36, Tryd.ntmps36
  go_wp2_with fail
  (with_reducible refine HM.out.mono ?_)
  rintro e w1 ⟨rfl, hb⟩
  have HB := Aside.mk hb
  clear hb
  go_wp2_with fail
  (with_reducible refine (HFd.out _ HB.out).mono ?_)
  rintro e w2 ⟨rfl, hb⟩
  have HB2 := Aside.mk (below_then HB.out hb)
  have HD2 := Aside.mk (HD.out.below HB2.out)
  clear hb
  have f3 := HD2.out.f3
  have c3 := HD2.out.loose_cell (i := fr.length) (x := (i : Int)) (by rw [List.getElem?_append_right (Nat.le_refl _), Nat.sub_self]; rfl)
  have hlz2 : (fr ++ [(i : Int)]).length = fr.length + 1 := by simp
  rw [hlz2] at f3
  clear hlz2
  go_wp2_with fail
  go_quiet (fail)
  have HB3 := Aside.mk (below_then HB2.out (below_drewN (below_refl w2) nq))
  have HD3 := Aside.mk (HD2.out.below (below_drewN (below_refl w2) nq))
  generalize w2.drewN nq = w3 at HB3 HD3 ⊢
  clear f3 c3 HB HB2 HD2
  have f3 : w3.cell? ⟨db, 3, none⟩ = some (.slice (some la) (fr.length + 1) lc) := by
    have h := HD3.out.f3
    rw [show (fr ++ [(i : Int)]).length = fr.length + 1 by simp] at h
    exact h
  have f3a := cell_below (below_alloc (below_refl w3) (.cells #[] 3)) f3
  have hwr : IntKind.i64.wrap (fr.length : Int) = (fr.length : Int) := by rw [IntKind.wrap_i64]; omega
  have gle : (fr.length : Int) ≤ (lc : Int) := by omega
  go_wp2_with fail
  refine wp_region_noPanic ?_
  refine wp_region_held_drew (S := fun _ => True) (by kernel_rfl) trivial (fun _ => ?_)
  refine take_at (i := 0) (d := some 50) (v := ?vp0) rfl rfl (by kernel_rfl) (by kernel_rfl) (by kernel_rfl) (fun _ _ _ h => h) (Or.inl ⟨by rfl, ?hyp0⟩) trivial ?restp0
  case hyp0 => (intro w hSw; go_simp; try with_reducible rfl)
  try simp only [Act.put, List.setIfInBounds_toArray, List.set_cons_zero, List.set_cons_succ]
  refine take_at (i := 2) (d := some 52) (v := ?vp2) rfl rfl (by kernel_rfl) (by kernel_rfl) (by kernel_rfl) (fun _ _ _ h => h) (Or.inl ⟨by rfl, ?hyp2⟩) trivial ?restp2
  case hyp2 => (intro w hSw; go_simp; try with_reducible rfl)
  try simp only [Act.put, List.setIfInBounds_toArray, List.set_cons_zero, List.set_cons_succ]
  refine take_at (i := 3) (d := some 53) (v := ?vp3) rfl rfl (by kernel_rfl) (by kernel_rfl) (by kernel_rfl) (fun _ _ _ h => h) (Or.inl ⟨by rfl, ?hyp3⟩) trivial ?restp3
  case hyp3 => (intro w hSw; go_simp; try with_reducible rfl)
  try simp only [Act.put, List.setIfInBounds_toArray, List.set_cons_zero, List.set_cons_succ]
  refine take_at (i := 4) (d := some 54) (v := ?vp4) rfl rfl (by kernel_rfl) (by kernel_rfl) (by kernel_rfl) (fun _ _ _ h => h) (Or.inl ⟨by rfl, ?hyp4⟩) trivial ?restp4
  case hyp4 => (intro w hSw; go_simp; try with_reducible rfl)
  try simp only [Act.put, List.setIfInBounds_toArray, List.set_cons_zero, List.set_cons_succ]
  refine take_at (i := 6) (d := some 56) (v := ?vp6) rfl rfl (by kernel_rfl) (by kernel_rfl) (by kernel_rfl) (fun _ _ _ h => h) (Or.inl ⟨by rfl, ?hyp6⟩) trivial ?restp6
  case hyp6 => (intro w hSw; go_simp; try with_reducible rfl)
  try simp only [Act.put, List.setIfInBounds_toArray, List.set_cons_zero, List.set_cons_succ]
  refine take_at (i := 7) (d := some 57) (v := ?vp7) rfl rfl (by kernel_rfl) (by kernel_rfl) (by kernel_rfl) (fun _ _ _ h => h) (Or.inl ⟨by rfl, ?hyp7⟩) trivial ?restp7
  case hyp7 => (intro w hSw; go_simp; try with_reducible rfl)
  try simp only [Act.put, List.setIfInBounds_toArray, List.set_cons_zero, List.set_cons_succ]
  refine take_at (i := 8) (d := some 58) (v := ?vp8) rfl rfl (by kernel_rfl) (by kernel_rfl) (by kernel_rfl) (fun _ _ _ h => h) (Or.inl ⟨by rfl, ?hyp8⟩) trivial ?restp8
  case hyp8 => (intro w hSw; go_simp; try with_reducible rfl)
  try simp only [Act.put, List.setIfInBounds_toArray, List.set_cons_zero, List.set_cons_succ]
  apply mid
  · intro tail
    refine wpAnyH_ready (rs := [1, 5, 9]) (by kernel_rfl) (by simp) ?_
    refine (AllReadyH.cons rfl (fun K hK => ?_) (AllReadyH.cons rfl (fun K hK => ?_) (AllReadyH.cons rfl (fun K hK => ?_) AllReadyH.nil)))
    · go_simp
      refine hK.out _ _ trivial (fun _ => ?_)
      clear hK K
      try simp only [Act.put, List.setIfInBounds_toArray, List.set_cons_zero, List.set_cons_succ]
      refine wpAnyH_ready (rs := [5, 9]) (by kernel_rfl) (by simp) ?_
      refine (AllReadyH.cons rfl (fun K hK => ?_) (AllReadyH.cons rfl (fun K hK => ?_) AllReadyH.nil))
      · go_simp
        refine hK.out _ _ trivial (fun _ => ?_)
        clear hK K
        try simp only [Act.put, List.setIfInBounds_toArray, List.set_cons_zero, List.set_cons_succ]
        refine wpAnyH_ready (rs := [9]) (by kernel_rfl) (by simp) ?_
        refine (AllReadyH.cons rfl (fun K hK => ?_) AllReadyH.nil)
        · go_simp
          refine hK.out _ _ trivial (fun _ => ?_)
          clear hK K
          try simp only [Act.put, List.setIfInBounds_toArray, List.set_cons_zero, List.set_cons_succ]
          refine take_at (i := 10) (d := some 60) (v := ?vq1x5x9y10) rfl rfl (by kernel_rfl) (by kernel_rfl) (by kernel_rfl) (fun _ _ _ h => h) (Or.inl ⟨by rfl, ?hyq1x5x9y10⟩) trivial ?restq1x5x9y10
          case hyq1x5x9y10 => (intro w hSw; go_simp; try with_reducible rfl)
          try simp only [Act.put, List.setIfInBounds_toArray, List.set_cons_zero, List.set_cons_succ]
          refine take_at (i := 11) (d := some 61) (v := ?vq1x5x9y11) rfl rfl (by kernel_rfl) (by kernel_rfl) (by kernel_rfl) (fun _ _ _ h => h) (Or.inl ⟨by rfl, ?hyq1x5x9y11⟩) trivial ?restq1x5x9y11
          case hyq1x5x9y11 => (intro w hSw; go_simp; try with_reducible rfl)
          try simp only [Act.put, List.setIfInBounds_toArray, List.set_cons_zero, List.set_cons_succ]
          refine take_at (i := 12) (d := some 62) (v := ?vq1x5x9w12) rfl rfl (by kernel_rfl) (by kernel_rfl) (by kernel_rfl) (fun _ _ _ h => h) (Or.inl ⟨by rfl, ?hyq1x5x9w12⟩) trivial ?restq1x5x9w12
          case hyq1x5x9w12 => (intro w hSw; go_simp; try with_reducible rfl)
          try simp only [Act.put, List.setIfInBounds_toArray, List.set_cons_zero, List.set_cons_succ]
          exact tail
      · go_simp
        refine hK.out _ _ trivial (fun _ => ?_)
        clear hK K
        try simp only [Act.put, List.setIfInBounds_toArray, List.set_cons_zero, List.set_cons_succ]
        refine take_at (i := 10) (d := some 60) (v := ?vq1x9y10) rfl rfl (by kernel_rfl) (by kernel_rfl) (by kernel_rfl) (fun _ _ _ h => h) (Or.inl ⟨by rfl, ?hyq1x9y10⟩) trivial ?restq1x9y10
        case hyq1x9y10 => (intro w hSw; go_simp; try with_reducible rfl)
        try simp only [Act.put, List.setIfInBounds_toArray, List.set_cons_zero, List.set_cons_succ]
        refine take_at (i := 11) (d := some 61) (v := ?vq1x9y11) rfl rfl (by kernel_rfl) (by kernel_rfl) (by kernel_rfl) (fun _ _ _ h => h) (Or.inl ⟨by rfl, ?hyq1x9y11⟩) trivial ?restq1x9y11
        case hyq1x9y11 => (intro w hSw; go_simp; try with_reducible rfl)
        try simp only [Act.put, List.setIfInBounds_toArray, List.set_cons_zero, List.set_cons_succ]
        refine wpAnyH_ready (rs := [5]) (by kernel_rfl) (by simp) ?_
        refine (AllReadyH.cons rfl (fun K hK => ?_) AllReadyH.nil)
        · go_simp
          refine hK.out _ _ trivial (fun _ => ?_)
          clear hK K
          try simp only [Act.put, List.setIfInBounds_toArray, List.set_cons_zero, List.set_cons_succ]
          refine take_at (i := 12) (d := some 62) (v := ?vq1x9x5w12) rfl rfl (by kernel_rfl) (by kernel_rfl) (by kernel_rfl) (fun _ _ _ h => h) (Or.inl ⟨by rfl, ?hyq1x9x5w12⟩) trivial ?restq1x9x5w12
          case hyq1x9x5w12 => (intro w hSw; go_simp; try with_reducible rfl)
          try simp only [Act.put, List.setIfInBounds_toArray, List.set_cons_zero, List.set_cons_succ]
          exact tail
    · go_simp
      refine hK.out _ _ trivial (fun _ => ?_)
      clear hK K
      try simp only [Act.put, List.setIfInBounds_toArray, List.set_cons_zero, List.set_cons_succ]
      refine wpAnyH_ready (rs := [1, 9]) (by kernel_rfl) (by simp) ?_
      refine (AllReadyH.cons rfl (fun K hK => ?_) (AllReadyH.cons rfl (fun K hK => ?_) AllReadyH.nil))
      · go_simp
        refine hK.out _ _ trivial (fun _ => ?_)
        clear hK K
        try simp only [Act.put, List.setIfInBounds_toArray, List.set_cons_zero, List.set_cons_succ]
        refine wpAnyH_ready (rs := [9]) (by kernel_rfl) (by simp) ?_
        refine (AllReadyH.cons rfl (fun K hK => ?_) AllReadyH.nil)
        · go_simp
          refine hK.out _ _ trivial (fun _ => ?_)
          clear hK K
          try simp only [Act.put, List.setIfInBounds_toArray, List.set_cons_zero, List.set_cons_succ]
          refine take_at (i := 10) (d := some 60) (v := ?vq5x1x9y10) rfl rfl (by kernel_rfl) (by kernel_rfl) (by kernel_rfl) (fun _ _ _ h => h) (Or.inl ⟨by rfl, ?hyq5x1x9y10⟩) trivial ?restq5x1x9y10
          case hyq5x1x9y10 => (intro w hSw; go_simp; try with_reducible rfl)
          try simp only [Act.put, List.setIfInBounds_toArray, List.set_cons_zero, List.set_cons_succ]
          refine take_at (i := 11) (d := some 61) (v := ?vq5x1x9y11) rfl rfl (by kernel_rfl) (by kernel_rfl) (by kernel_rfl) (fun _ _ _ h => h) (Or.inl ⟨by rfl, ?hyq5x1x9y11⟩) trivial ?restq5x1x9y11
          case hyq5x1x9y11 => (intro w hSw; go_simp; try with_reducible rfl)
          try simp only [Act.put, List.setIfInBounds_toArray, List.set_cons_zero, List.set_cons_succ]
          refine take_at (i := 12) (d := some 62) (v := ?vq5x1x9w12) rfl rfl (by kernel_rfl) (by kernel_rfl) (by kernel_rfl) (fun _ _ _ h => h) (Or.inl ⟨by rfl, ?hyq5x1x9w12⟩) trivial ?restq5x1x9w12
          case hyq5x1x9w12 => (intro w hSw; go_simp; try with_reducible rfl)
          try simp only [Act.put, List.setIfInBounds_toArray, List.set_cons_zero, List.set_cons_succ]
          exact tail
      · go_simp
        refine hK.out _ _ trivial (fun _ => ?_)
        clear hK K
        try simp only [Act.put, List.setIfInBounds_toArray, List.set_cons_zero, List.set_cons_succ]
        refine take_at (i := 10) (d := some 60) (v := ?vq5x9y10) rfl rfl (by kernel_rfl) (by kernel_rfl) (by kernel_rfl) (fun _ _ _ h => h) (Or.inl ⟨by rfl, ?hyq5x9y10⟩) trivial ?restq5x9y10
        case hyq5x9y10 => (intro w hSw; go_simp; try with_reducible rfl)
        try simp only [Act.put, List.setIfInBounds_toArray, List.set_cons_zero, List.set_cons_succ]
        refine take_at (i := 11) (d := some 61) (v := ?vq5x9y11) rfl rfl (by kernel_rfl) (by kernel_rfl) (by kernel_rfl) (fun _ _ _ h => h) (Or.inl ⟨by rfl, ?hyq5x9y11⟩) trivial ?restq5x9y11
        case hyq5x9y11 => (intro w hSw; go_simp; try with_reducible rfl)
        try simp only [Act.put, List.setIfInBounds_toArray, List.set_cons_zero, List.set_cons_succ]
        refine take_at (i := 12) (d := some 62) (v := ?vq5x9w12) rfl rfl (by kernel_rfl) (by kernel_rfl) (by kernel_rfl) (fun _ _ _ h => h) (Or.inl ⟨by rfl, ?hyq5x9w12⟩) trivial ?restq5x9w12
        case hyq5x9w12 => (intro w hSw; go_simp; try with_reducible rfl)
        try simp only [Act.put, List.setIfInBounds_toArray, List.set_cons_zero, List.set_cons_succ]
        refine wpAnyH_ready (rs := [1]) (by kernel_rfl) (by simp) ?_
        refine (AllReadyH.cons rfl (fun K hK => ?_) AllReadyH.nil)
        · go_simp
          refine hK.out _ _ trivial (fun _ => ?_)
          clear hK K
          try simp only [Act.put, List.setIfInBounds_toArray, List.set_cons_zero, List.set_cons_succ]
          exact tail
    · go_simp
      refine hK.out _ _ trivial (fun _ => ?_)
      clear hK K
      try simp only [Act.put, List.setIfInBounds_toArray, List.set_cons_zero, List.set_cons_succ]
      refine take_at (i := 10) (d := some 60) (v := ?vq9y10) rfl rfl (by kernel_rfl) (by kernel_rfl) (by kernel_rfl) (fun _ _ _ h => h) (Or.inl ⟨by rfl, ?hyq9y10⟩) trivial ?restq9y10
      case hyq9y10 => (intro w hSw; go_simp; try with_reducible rfl)
      try simp only [Act.put, List.setIfInBounds_toArray, List.set_cons_zero, List.set_cons_succ]
      refine take_at (i := 11) (d := some 61) (v := ?vq9y11) rfl rfl (by kernel_rfl) (by kernel_rfl) (by kernel_rfl) (fun _ _ _ h => h) (Or.inl ⟨by rfl, ?hyq9y11⟩) trivial ?restq9y11
      case hyq9y11 => (intro w hSw; go_simp; try with_reducible rfl)
      try simp only [Act.put, List.setIfInBounds_toArray, List.set_cons_zero, List.set_cons_succ]
      refine wpAnyH_ready (rs := [1, 5]) (by kernel_rfl) (by simp) ?_
      refine (AllReadyH.cons rfl (fun K hK => ?_) (AllReadyH.cons rfl (fun K hK => ?_) AllReadyH.nil))
      · go_simp
        refine hK.out _ _ trivial (fun _ => ?_)
        clear hK K
        try simp only [Act.put, List.setIfInBounds_toArray, List.set_cons_zero, List.set_cons_succ]
        refine wpAnyH_ready (rs := [5]) (by kernel_rfl) (by simp) ?_
        refine (AllReadyH.cons rfl (fun K hK => ?_) AllReadyH.nil)
        · go_simp
          refine hK.out _ _ trivial (fun _ => ?_)
          clear hK K
          try simp only [Act.put, List.setIfInBounds_toArray, List.set_cons_zero, List.set_cons_succ]
          refine take_at (i := 12) (d := some 62) (v := ?vq9x1x5w12) rfl rfl (by kernel_rfl) (by kernel_rfl) (by kernel_rfl) (fun _ _ _ h => h) (Or.inl ⟨by rfl, ?hyq9x1x5w12⟩) trivial ?restq9x1x5w12
          case hyq9x1x5w12 => (intro w hSw; go_simp; try with_reducible rfl)
          try simp only [Act.put, List.setIfInBounds_toArray, List.set_cons_zero, List.set_cons_succ]
          exact tail
      · go_simp
        refine hK.out _ _ trivial (fun _ => ?_)
        clear hK K
        try simp only [Act.put, List.setIfInBounds_toArray, List.set_cons_zero, List.set_cons_succ]
        refine take_at (i := 12) (d := some 62) (v := ?vq9x5w12) rfl rfl (by kernel_rfl) (by kernel_rfl) (by kernel_rfl) (fun _ _ _ h => h) (Or.inl ⟨by rfl, ?hyq9x5w12⟩) trivial ?restq9x5w12
        case hyq9x5w12 => (intro w hSw; go_simp; try with_reducible rfl)
        try simp only [Act.put, List.setIfInBounds_toArray, List.set_cons_zero, List.set_cons_succ]
        refine wpAnyH_ready (rs := [1]) (by kernel_rfl) (by simp) ?_
        refine (AllReadyH.cons rfl (fun K hK => ?_) AllReadyH.nil)
        · go_simp
          refine hK.out _ _ trivial (fun _ => ?_)
          clear hK K
          try simp only [Act.put, List.setIfInBounds_toArray, List.set_cons_zero, List.set_cons_succ]
          exact tail
  clear f3 hwr gle
  have hpre : w3.ownsRow B 3 1 (.slice (some la) fr.length lc) fr.length (nums .i64 fr) := by
    have h := HD3.out.loose
    obtain ⟨g, cur, rfl, _⟩ := row_at h
    exact own_prefix (k := .i64) (ys := [(i : Int)]) h
  have hcp : Cells (w3.alloc (.cells #[] 3)).drew (some la) (nums .i64 fr) := by
    obtain ⟨A', c', e1, _, _, h⟩ := Cells.of_own (own_below hpre (below_drewN (below_alloc (below_refl w3) (.cells #[] 3)) 1))
    injection e1 with e1
    subst e1
    exact h
  refine wpAnyH_ready (rs := [13]) (by kernel_rfl) (by simp) ?_
  refine AllReadyH.cons rfl (fun K hK => ?_) AllReadyH.nil
  obtain ⟨v4, w4, hrun, ho4, hg4, hat4⟩ := append_run (P := Tryd.prog) (W := (w3.alloc (.cells #[] 3)).drew) w3.heap.size 45 45 3 (.int .i64 0) 1 8 Tryd.underlying45 info3 rfl (by decide) (.slice (some ⟨w3.heap.size, 0, none⟩) 0 0) 0 fr.length lc (some la) [] (nums .i64 fr) (by rw [nums_length, Nat.mul_one]) (nums_one _ _) (by have h := World.ownsRow_lit (base := w3.heap.size) (e := 3) (size := 1) w3 #[] 0 (Nat.le_refl _) (by simp [maxLen]) (by simp); exact own_below h (below_drewN (below_refl _) 1)) hcp (Nat.le_of_lt (by simp)) (by have := HFl.out; omega) (by have := HFl.out; omega)
  have HBw4 := Aside.mk (show Below w3.heap.size w3 w4 from (below_drewN (below_alloc (below_refl w3) (.cells #[] 3)) 1).grown hg4 (Nat.le_of_lt (by simp)) (fun k e => by cases e; exact Nat.le_refl _))
  have HO4 := Aside.mk (show w4.ownsRow w3.heap.size 3 1 v4 fr.length (nums .i64 fr) by have h := ho4; rw [Nat.zero_add, List.nil_append] at h; exact h)
  obtain ⟨lA4, lc4, rfl, _⟩ := own_form HO4.out
  refine app_step (.tmp 51) (.tmp 62) _ _ _ rfl rfl rfl hrun ?_
  refine hK.out _ _ trivial (fun _ => ?_)
  clear hK K hrun ho4 hg4 hat4 hcp hpre
  try simp only [Act.put, List.setIfInBounds_toArray, List.set_cons_zero, List.set_cons_succ]
  refine take_at (i := 14) (d := some 64) (v := ?vz14) rfl rfl (by kernel_rfl) (by kernel_rfl) (by kernel_rfl) (fun _ _ _ h => h) (Or.inl ⟨by rfl, ?hyz14⟩) trivial ?restz14
  case hyz14 => (intro w hSw; go_simp; try with_reducible rfl)
  try simp only [Act.put, List.setIfInBounds_toArray, List.set_cons_zero, List.set_cons_succ]
  refine take_at (i := 15) (d := some 65) (v := ?vz15) rfl rfl (by kernel_rfl) (by kernel_rfl) (by kernel_rfl) (fun _ _ _ h => h) (Or.inl ⟨by rfl, ?hyz15⟩) trivial ?restz15
  case hyz15 => (intro w hSw; go_simp; try with_reducible rfl)
  try simp only [Act.put, List.setIfInBounds_toArray, List.set_cons_zero, List.set_cons_succ]
  refine wpAnyH_ready (rs := [16]) (by kernel_rfl) (by simp) ?_
  refine AllReadyH.cons rfl (fun K hK => ?_) AllReadyH.nil
  have k3 : w4.cell? ⟨db, 3, none⟩ = some (.slice (some la) (fr.length + 1) lc) := by
    have h := (HD3.out.below HBw4.out).f3
    rw [show (fr ++ [(i : Int)]).length = fr.length + 1 by simp] at h
    exact h
  have z3 := (HD3.out.below HBw4.out).fz 3
  go_simp
  refine hK.out _ _ trivial (fun _ => ?_)
  clear hK K k3 z3
  try simp only [Act.put, List.setIfInBounds_toArray, List.set_cons_zero, List.set_cons_succ]
  refine wpAnyH_done (by kernel_rfl) ?_ _
  refine NoPanic.normal ?_
  have HD5 := Aside.mk (HD3.out.newLoose (fr := fr) HBw4.out HO4.out)
  have HT5 := Aside.mk ((Turn.of_below (O := O) (below_then HB3.out HBw4.out)).trans (turn_set w4 ⟨db, 3, none⟩ (.slice lA4 fr.length lc4) HD3.out.dbO))
  have HS45 := setCell_size w4 ⟨db, 3, none⟩ (.slice lA4 fr.length lc4)
  have HI5 := Aside.mk (show ∀ k, Grow O w3 w4 k → Grow O w (w4.setCell ⟨db, 3, none⟩ (.slice lA4 fr.length lc4)) k from fun k hk => hk.elim .inl (fun h => .inr ⟨by have := HB3.out.size; omega, by rw [HS45]; exact h.2⟩))
  clear f3a HS45
  generalize w4.setCell ⟨db, 3, none⟩ (.slice lA4 fr.length lc4) = w5 at HD5 HT5 HI5 ⊢
  generalize Grow O w3 w4 = O5 at HD5 HI5
  skip
  have HSrc5 := Aside.mk (asrc_turn HSrc.out HT5.out (fun k hk => (HTop.out k hk).1) HFar.out HL0.out)
  have HPl5 := HPl
  obtain ⟨sv5, hsv5⟩ : ∃ sv5, sv = sv5 := ⟨_, rfl⟩
  obtain ⟨hv5, hhv5⟩ : ∃ hv5, hv = hv5 := ⟨_, rfl⟩
  rw [hsv5, hhv5] at HD5
  clear hsv5 hhv5
  obtain ⟨m5, hm5⟩ : ∃ m5, S.length = m5 := ⟨_, rfl⟩
  have HM5 := Aside.mk hm5
  have HMH := Aside.mk (show H.length = m5 by rw [← HPl5.out.len]; exact hm5)
  obtain ⟨sa, scc, hsv5, hsc, _⟩ : ∃ sa scc, sv5 = .slice (some sa) m5 scc ∧ m5 ≤ scc ∧ True := by
    obtain ⟨sA, scc, h1, h2, _, h3⟩ := sets_slice HD5.out.sets
    obtain ⟨x, hx⟩ : ∃ x, S[i]? = some x := ⟨_, List.getElem?_eq_getElem HIl.out⟩
    obtain ⟨a, rfl, _⟩ := h3 i x hx
    exact ⟨a, scc, by rw [hm5] at h1; exact h1, by rw [hm5] at h2; exact h2, trivial⟩
  subst hsv5
  obtain ⟨sx, hsx⟩ : ∃ s, S[i]? = some s := ⟨_, List.getElem?_eq_getElem HIl.out⟩
  have HSx := Aside.mk hsx
  clear hsx
  have HO5 := Aside.mk (show O5 (sa.add i).block by
      obtain ⟨g, cur, rfl, _⟩ := row_at (n := m5) (by have h := HD5.out.sets; rw [hm5] at h; exact h)
      rw [addr_block]
      exact HD5.out.setsO g rfl)
  have HNe5 := Aside.mk (show (sa.add i).block ≠ db by
      obtain ⟨g, cur, rfl, _⟩ := row_at (n := m5) (by have h := HD5.out.sets; rw [hm5] at h; exact h)
      rw [addr_block]
      exact own_ne HD5.out.sets HD5.out.hb (by decide) g rfl)
  have g5 : (m5 : Int) ≤ (scc : Int) := by omega
  have g6 : (i : Int) < (m5 : Int) := by have := HIl.out; omega
  have g8 : (m5 : Int) ≤ 1000001 := by have := HSl.out; omega
  have HIl := Aside.mk (show i < m5 by have := HIl.out; omega)
  clear hm5 hsc hal
  go_wp2_with fail
  have f15 := HD5.out.f1
  refine wp_region_noPanic ?_
  refine wp_region_held_drew (S := fun W => W.cell? ⟨db, 1, none⟩ = some (.slice (some sa) m5 scc)) (by kernel_rfl) (f15) (fun hHeld => ?_)
  refine take_at (i := 0) (d := some 89) (v := ?vl0) rfl rfl (by kernel_rfl) (by kernel_rfl) (by kernel_rfl) (fun _ _ _ h => h) (Or.inl ⟨by rfl, ?hyl0⟩) hHeld ?restl0
  case hyl0 => (intro w hSw; (try dsimp only at hSw); go_simp; try with_reducible rfl)
  try simp only [Act.put, List.setIfInBounds_toArray, List.set_cons_zero, List.set_cons_succ]
  refine take_at (i := 1) (d := some 90) (v := ?vl1) rfl rfl (by kernel_rfl) (by kernel_rfl) (by kernel_rfl) (fun _ _ _ h => h) (Or.inl ⟨by rfl, ?hyl1⟩) hHeld ?restl1
  case hyl1 => (intro w hSw; (try dsimp only at hSw); go_simp; try with_reducible rfl)
  try simp only [Act.put, List.setIfInBounds_toArray, List.set_cons_zero, List.set_cons_succ]
  refine take_at (i := 2) (d := some 91) (v := ?vl2) rfl rfl (by kernel_rfl) (by kernel_rfl) (by kernel_rfl) (fun _ _ _ h => h) (Or.inl ⟨by rfl, ?hyl2⟩) hHeld ?restl2
  case hyl2 => (intro w hSw; (try dsimp only at hSw); go_simp; try with_reducible rfl)
  try simp only [Act.put, List.setIfInBounds_toArray, List.set_cons_zero, List.set_cons_succ]
  refine take_at (i := 3) (d := some 92) (v := ?vl3) rfl rfl (by kernel_rfl) (by kernel_rfl) (by kernel_rfl) (fun _ _ _ h => h) (Or.inl ⟨by rfl, ?hyl3⟩) hHeld ?restl3
  case hyl3 => (intro w hSw; (try dsimp only at hSw); go_simp; try with_reducible rfl)
  try simp only [Act.put, List.setIfInBounds_toArray, List.set_cons_zero, List.set_cons_succ]
  refine take_at (i := 4) (d := some 93) (v := ?vl4) rfl rfl (by kernel_rfl) (by kernel_rfl) (by kernel_rfl) (fun _ _ _ h => h) (Or.inl ⟨by rfl, ?hyl4⟩) hHeld ?restl4
  case hyl4 => (intro w hSw; (try dsimp only at hSw); go_simp; try with_reducible rfl)
  try simp only [Act.put, List.setIfInBounds_toArray, List.set_cons_zero, List.set_cons_succ]
  refine take_at (i := 6) (d := some 95) (v := ?vl6) rfl rfl (by kernel_rfl) (by kernel_rfl) (by kernel_rfl) (fun _ _ _ h => h) (Or.inl ⟨by rfl, ?hyl6⟩) hHeld ?restl6
  case hyl6 => (intro w hSw; (try dsimp only at hSw); go_simp; try with_reducible rfl)
  try simp only [Act.put, List.setIfInBounds_toArray, List.set_cons_zero, List.set_cons_succ]
  refine wpAnyH_ready (rs := [5]) (by kernel_rfl) (by simp) ?_
  refine AllReadyH.cons rfl (fun K hK => ?_) AllReadyH.nil
  go_simp
  refine hK.out _ _ (cell_below (below_alloc (below_refl _) _) hHeld) (fun hHeld' => ?_)
  clear hK K hHeld
  have hHeld := hHeld'
  clear hHeld'
  try simp only [Act.put, List.setIfInBounds_toArray, List.set_cons_zero, List.set_cons_succ]
  refine wpAnyH_ready (rs := [7]) (by kernel_rfl) (by simp) ?_
  refine AllReadyH.cons rfl (fun K hK => ?_) AllReadyH.nil
  obtain ⟨v6, w6, hrun, ho6, hg6, hat6⟩ := append_run (P := Tryd.prog) (W := (w5.alloc (.cells #[] 58)).drew) w5.heap.size 48 48 58 (.agg #[.int .i64 0, .int .u8 0, .int .i64 0, .int .u64 0, .string ⟨#[]⟩]) 5 48 Tryd.underlying48 info58 rfl (by decide) (.slice (some ⟨w5.heap.size, 0, none⟩) 0 0) 0 l.length c A (acells []) (acells l) (acells_length l) (acells_one l) (own_below (own_lit5 w5 w5.heap.size (Nat.le_refl _)) (below_drewN (below_refl _) 1)) ((HSrc5.out.below (below_drewN (below_alloc (below_refl w5) _) 1)).cells) (Nat.le_of_lt (by simp)) (by have := HAl.out; omega) (by have := HAl.out; omega)
  have HBw6 := Aside.mk (show Below w5.heap.size w5 w6 from (below_drewN (below_alloc (below_refl w5) (.cells #[] 58)) 1).grown hg6 (Nat.le_of_lt (by simp)) (fun k e => by cases e; exact Nat.le_refl _))
  have HO6 := Aside.mk (show w6.ownsRow w5.heap.size 58 5 v6 l.length (acells l) by have h := ho6; rw [Nat.zero_add] at h; exact h)
  have HRow6 := Aside.mk (show w6.ownsRow B 48 1 (.slice (some sa) m5 scc) m5 (S.map (·.1)) by have h := (HD5.out.below HBw6.out).sets; rw [HM5.out] at h; exact h)
  obtain ⟨uA, uc, rfl, _⟩ := own_form HO6.out
  refine app_step (.tmp 94) (.tmp 95) _ _ _ rfl rfl rfl hrun ?_
  refine hK.out _ _ (cell_below HBw6.out f15) (fun hHeld' => ?_)
  clear hK K hHeld hrun ho6 hg6 hat6
  have hHeld := hHeld'
  clear hHeld'
  try simp only [Act.put, List.setIfInBounds_toArray, List.set_cons_zero, List.set_cons_succ]
  refine take_at (i := 8) (d := some 97) (v := ?vl8) rfl rfl (by kernel_rfl) (by kernel_rfl) (by kernel_rfl) (fun _ _ _ h => h) (Or.inl ⟨by rfl, ?hyl8⟩) hHeld ?restl8
  case hyl8 => (intro w hSw; (try dsimp only at hSw); go_simp; try with_reducible rfl)
  try simp only [Act.put, List.setIfInBounds_toArray, List.set_cons_zero, List.set_cons_succ]
  refine wpAnyH_ready (rs := [9]) (by kernel_rfl) (by simp) ?_
  refine AllReadyH.cons rfl (fun K hK => ?_) AllReadyH.nil
  have cx := (HD5.out.below HBw6.out).set_cell HSx.out
  have cz := row_fz0 HRow6.out i
  go_simp
  refine hK.out _ _ (cell_far hHeld HNe5.out) (fun hHeld' => ?_)
  clear hK K hHeld cx cz
  have hHeld := hHeld'
  clear hHeld'
  try simp only [Act.put, List.setIfInBounds_toArray, List.set_cons_zero, List.set_cons_succ]
  refine wpAnyH_done (by kernel_rfl) ?_ _
  refine NoPanic.normal ?_
  clear hHeld f15
  have HT7 := Aside.mk ((Turn.of_below (O := O5) HBw6.out).trans (turn_set w6 (sa.add i) (.slice uA l.length uc) HO5.out))
  have HD7 := Aside.mk (HD5.out.putSet (sA := none) rfl (i := i) HBw6.out HO6.out)
  have HS67 := Aside.mk (setCell_size w6 (sa.add i) (.slice uA l.length uc))
  generalize w6.setCell (sa.add i) (.slice uA l.length uc) = w7 at HT7 HD7 HS67 ⊢
  obtain ⟨ha, hc5, hhv, hhc, HH⟩ : ∃ ha hc5, hv5 = .slice (some ha) m5 hc5 ∧ m5 ≤ hc5 ∧ True := by
    obtain ⟨hA, hcc, h1, h2, _, h3⟩ := nums_slice HD7.out.held
    obtain ⟨x, hx⟩ : ∃ x, H[i]? = some x := ⟨_, List.getElem?_eq_getElem (by have := HMH.out; have := HIl.out; omega)⟩
    obtain ⟨a, rfl, _⟩ := h3 i x hx
    exact ⟨a, hcc, by rw [HMH.out] at h1; exact h1, by rw [HMH.out] at h2; exact h2, trivial⟩
  subst hhv
  have HD8 := Aside.mk (HD7.out.putHeld rfl i 0)
  have HD9 := Aside.mk (HD8.out.putHeld rfl i 1)
  have HHeld7 := Aside.mk (show w7.ownsRow B 3 1 (.slice (some ha) m5 hc5) m5 (nums .i64 H) by have h := HD7.out.held; rw [HMH.out] at h; exact h)
  have HHeld8 := Aside.mk (show (w7.setCell (ha.add i) (.int .i64 0)).ownsRow B 3 1 (.slice (some ha) m5 hc5) m5 (nums .i64 (H.set i 0)) by have h := HD8.out.held; rw [List.length_set, HMH.out] at h; exact h)
  have HaO := Aside.mk (show Grow O5 w5 w6 ha.block from by
      obtain ⟨g, cur, rfl, _⟩ := row_at HHeld7.out
      exact HD7.out.heldO g rfl)
  have f2 := HD7.out.f2
  have z7 := row_fz0 HHeld7.out i
  have d2 := HD8.out.f2
  have z8 := row_fz0 HHeld8.out i
  obtain ⟨x7, hx7⟩ : ∃ x, H[i]? = some x := ⟨_, List.getElem?_eq_getElem (by have := HMH.out; have := HIl.out; omega)⟩
  have cx7 := HD7.out.held_cell hx7
  clear hx7
  have cx8 : (w7.setCell (ha.add i) (.int .i64 0)).cell? (ha.add i) = some (.int .i64 0) := World.cell?_setCell_same' _ _ _ (by rw [cx7]; rfl)
  have g7 : (m5 : Int) ≤ (hc5 : Int) := by omega
  clear hhc HH
  have HE := Aside.mk (show R (.returned (.tuple #[.int .i64 ((i : Int) + 1), .int .i64 0])) ((w7.setCell (ha.add i) (.int .i64 0)).setCell (ha.add i) (.int .i64 1)) from by
      rw [← HR.out]
      have ht1 : Turn (Grow O5 w5 w6) w7 ((w7.setCell (ha.add i) (.int .i64 0)).setCell (ha.add i) (.int .i64 1)) := (turn_set w7 (ha.add i) (.int .i64 0) (by rw [addr_block]; exact HaO.out)).trans (turn_set _ (ha.add i) (.int .i64 1) (by rw [addr_block]; exact HaO.out))
      have ht2 : Turn O5 w5 ((w7.setCell (ha.add i) (.int .i64 0)).setCell (ha.add i) (.int .i64 1)) := HT7.out.then ht1 (fun k hk => hk.elim .inl (fun h => .inr h.1))
      have ht3 : Turn O w ((w7.setCell (ha.add i) (.int .i64 0)).setCell (ha.add i) (.int .i64 1)) := HT5.out.then ht2 (fun k hk => (HI5.out k hk).elim .inl (fun h => .inr h.1))
      have hs9 : ((w7.setCell (ha.add i) (.int .i64 0)).setCell (ha.add i) (.int .i64 1)).heap.size = w6.heap.size := by rw [setCell_size, setCell_size]; exact HS67.out
      refine ⟨rfl, ⟨_, _, _, _, _, HD9.out.wide (fun k hk => ?_) (grow_top HTop.out HBase.out ht3.size), ?_, ?_⟩, ht3⟩
      · rcases hk with hk | hk
        · rcases HI5.out k hk with h | h
          · exact .inl h
          · refine .inr ⟨h.1, ?_⟩; rw [hs9]; have := HBw6.out.size; omega
        · refine .inr ⟨?_, by rw [hs9]; exact hk.2⟩; have := HT5.out.size; omega
      · rw [List.set_set]; exact HPl5.out.set i _ l 1 (by omega) HA64.out
      · rw [List.set_set, psOf_set _ _ _ HPl5.out.len (by have := HM5.out; have := HIl.out; omega)])
  go_wp2
  exact HE.out
end Go.Proofs.YtaejlgdmalhhnaaDoor
/- Layer 7, the document's: Add of a table where a set is laid at a new place (printed by gen_docadd.py). -/
set_option linter.unusedVariables false
set_option linter.unusedSimpArgs false
namespace Go.Proofs.YtaejlgdmalhhnaaDoor
open Go.RowKit Go.Maps

variable {B db : Nat} {O : Nat → Prop} {w w' w1 : World} {KA : Option Addr} {kc : Nat} {ks : List Ky} {sv hv lv v1 : Value} {S : List (Value × List At)} {H free : List Int} {empty : Int} {D : Ps} {A : Option Addr} {c : Nat} {l : List At}
set_option maxRecDepth 100000 in
set_option maxHeartbeats 8000000 in
theorem add_docN (hK : KSrc w KA ks) (hkc : ks.length ≤ kc) (hkl : ks.length ≤ 9223372036854775807) (h : DocM B O w db (.slice KA ks.length kc) D [] empty) (hbd : DBd D [] empty) (ha : ArgS w A c l) (hfar : ∀ a, A = some a → a.block < B) (he : mayA ks l = 0) (h0 : l ≠ []) (hf : findP D l = none) :
    Calls Tryd.prog 36 #[.pointer (some ⟨db, 0, none⟩), .slice A l.length c] w (DocPost B O w db (.slice KA ks.length kc) (D ++ [(l, 1)]) [] empty (.tuple #[.int .i64 ((D.length : Int) + 1), .int .i64 0])) := by
  have HM := Aside.mk (dMayA_any KA kc ks A c l w hkc hkl hK ha.src ha.cap ha.len ha.wf ha.sz)
  rw [he] at HM
  obtain ⟨ht, hB⟩ := h.top
  have HTop := Aside.mk ht
  have HBase := Aside.mk hB
  have HA64 := Aside.mk (mayA_len he)
  have HAl := Aside.mk ha.len
  have HFar := Aside.mk hfar
  have HSrc := Aside.mk ha.src
  have HL0 := Aside.mk h0
  obtain ⟨sv, hv, lv, S, H, hd, hp, rfl⟩ := h
  have HD := Aside.mk hd
  have HPl := Aside.mk hp
  have f0 := hd.f0
  have hlp := psOf_len S H hp.len
  have hll := hbd.len
  have HFd := Aside.mk (fun (w1 : World) (hb : Below w.heap.size w w1) => find_doc A c l (hd.below hb) hp (by have := hp.len; omega) (ha.src.below hb) ha.cap (by have := ha.len; omega))
  rw [hf] at HFd
  have hlz : ((l.length : Int) == 0) = false := by
    have := List.length_pos_iff.2 h0
    simp; omega
  have hal : (l.length : Int) ≤ 100000 := by have := ha.len; omega
  have hac : (l.length : Int) ≤ (c : Int) := by have := ha.cap; omega
  obtain ⟨R, hR⟩ : ∃ R, DocPost B O w db (.slice KA ks.length kc) (psOf S H ++ [(l, 1)]) [] empty (.tuple #[.int .i64 (((psOf S H).length : Int) + 1), .int .i64 0]) = R := ⟨_, rfl⟩
  rw [hR]
  have HR := Aside.mk hR
  obtain ⟨lA, lc, hlv, l1, l2, _⟩ := nums_slice hd.loose
  obtain ⟨sA, scc, hsv, s1, s2, _⟩ := sets_slice hd.sets
  obtain ⟨hA, hcc, hhv, t1, t2, _⟩ := nums_slice hd.held
  subst hlv hsv hhv
  have HSl0 := Aside.mk (show S.length ≤ 1000000 by omega)
  have HSH := Aside.mk hp.len
  obtain ⟨i, hi⟩ : ∃ i, S.length = i := ⟨_, rfl⟩
  have HIe := Aside.mk hi
  have gi : (i : Int) ≤ 1000000 := by omega
  have hHi : H.length = i := by rw [← hp.len]; exact hi
  rw [hi, hHi] at HD
  have HR := Aside.mk (show DocPost B O w db (.slice KA ks.length kc) (psOf S H ++ [(l, 1)]) [] empty (.tuple #[.int .i64 ((i : Int) + 1), .int .i64 0]) = R by rw [← hlp.trans hi]; exact hR)
  clear hR hd hp ha hK he ht h0 hf hfar hB hbd hll l1 l2 s1 s2 t1 t2 hi hlp hHi
  go_enter Tryd.func36, Tryd.ntmps36
  go_wp2_with fail
  (with_reducible refine HM.out.mono ?_)
  rintro e w1 ⟨rfl, hb⟩
  have HB := Aside.mk hb
  clear hb
  go_wp2_with fail
  (with_reducible refine (HFd.out _ HB.out).mono ?_)
  rintro e w2 ⟨rfl, hb⟩
  have HB2 := Aside.mk (below_then HB.out hb)
  have HD2 := Aside.mk (HD.out.below HB2.out)
  clear hb
  have f3 := HD2.out.f3
  have f1 := HD2.out.f1
  go_wp2_with (at_builtin; go_must (refine app_lit (w0 := w2) B rfl (.tmp 75) (.tmp 76) 44 48 (.slice none 0 0) 1 24 _ rfl Tryd.underlying44 info48 rfl (by decide) (.slice sA i scc) i 1 (S.map (·.1)) [.slice none 0 0] rfl rfl rfl rfl (by intro u hu; simp only [List.mem_singleton] at hu; subst hu; rfl) (by have h := HD2.out.sets; rw [HIe.out] at h; exact h) (Below.refl _ _) HD2.out.baseB (by omega) (by omega) ?_))
  intro v3 w3 hown hbel hg hat
  have HD3 := Aside.mk (HD2.out.growSets hg (by rw [HIe.out]; exact hown) hat)
  have hdb := HD2.out.dbk HD2.out.sets (by decide) hg
  obtain ⟨A3, c3, rfl, _⟩ := own_form hown
  have HG3 := Aside.mk hg
  have HT3 := Aside.mk (((Turn.of_below (O := O) HB2.out).trans (Turn.of_grown hg HD2.out.setsO)).trans (turn_set w3 ⟨db, 1, none⟩ (.slice A3 (i + 1) c3) HD2.out.dbO))
  have e1 : w3.cell? ⟨db, 1, none⟩ = some (.slice sA i scc) := by unfold World.cell?; simp only [hdb]; rfl
  have z1 := frozen_of_row w3 db 1 _ 47 hdb
  have f2 := HD3.out.f2
  clear hown hbel hg hat hdb f1 f3
  go_wp2_with (at_builtin; go_must (refine app_lit2 (w0 := w3.setCell ⟨db, 1, none⟩ (.slice A3 (i + 1) c3)) w3.heap.size B (setCell_size _ _ _).symm rfl (.tmp 84) (.tmp 85) 45 3 (.int .i64 0) 1 8 _ rfl Tryd.underlying45 info3 rfl (by decide) (.slice hA i hcc) i 1 (nums .i64 H) (nums .i64 [0]) rfl rfl rfl rfl (nums_one _ _) (by have h := HD3.out.held; rw [← HSH.out, HIe.out] at h; exact h) (Below.refl _ _) HD3.out.baseB (by omega) (by omega) ?_))
  intro v4 w4 hown hbel hg hat
  have HD5 := Aside.mk (HD3.out.growHeld (x := 0) hg (by rw [← HSH.out, HIe.out]; exact hown) (by rw [setCell_size]; exact hat))
  have hdb := HD3.out.dbk HD3.out.held (by decide) hg
  obtain ⟨A4, c4, rfl, _⟩ := own_form hown
  have HT5 := Aside.mk (HT3.out.then ((Turn.of_grown hg HD3.out.heldO).trans (turn_set w4 ⟨db, 2, none⟩ (.slice A4 (i + 1) c4) HD3.out.dbO)) (fun k hk => hk.elim .inl (fun h => .inr (by have := HB2.out.size; omega))))
  have HS34 := setCell_size w3 ⟨db, 1, none⟩ (.slice A3 (i + 1) c3)
  have HS45 := setCell_size w4 ⟨db, 2, none⟩ (.slice A4 (i + 1) c4)
  have hgs := hg.size
  have hgs3 := HG3.out.size
  rw [HS34] at hgs
  have HI5 := Aside.mk (show ∀ k, Grow (Grow O w2 w3) (w3.setCell ⟨db, 1, none⟩ (.slice A3 (i + 1) c3)) w4 k → Grow O w (w4.setCell ⟨db, 2, none⟩ (.slice A4 (i + 1) c4)) k from by
      rintro k ((hk | hk) | hk)
      · exact .inl hk
      · refine .inr ⟨by have := HB2.out.size; omega, by rw [HS45]; omega⟩
      · rw [HS34] at hk; exact .inr ⟨by have := HB2.out.size; omega, by rw [HS45]; exact hk.2⟩)
  have e2 : w4.cell? ⟨db, 2, none⟩ = some (.slice hA i hcc) := by unfold World.cell?; simp only [hdb]; rfl
  have z2 := frozen_of_row w4 db 2 _ 47 hdb
  clear hown hbel hg hat hdb HS34 HS45 hgs hgs3 HG3 e1 z1 f2
  go_wp2_with fail
  clear e2 z2
  generalize w4.setCell ⟨db, 2, none⟩ (.slice A4 (i + 1) c4) = w5 at HD5 HT5 HI5 ⊢
  generalize Grow (Grow O w2 w3) (w3.setCell ⟨db, 1, none⟩ (.slice A3 (i + 1) c3)) w4 = O5 at HD5 HI5
  have HSrc5 := Aside.mk (asrc_turn HSrc.out HT5.out (fun k hk => (HTop.out k hk).1) HFar.out HL0.out)
  have HPl5 := Aside.mk HPl.out.snoc
  have HPs5 := Aside.mk (show (psOf (S ++ [(.slice none 0 0, [])]) (H ++ [0])).set i (l, 1) = psOf S H ++ [(l, 1)] by rw [psOf_snoc _ _ _ HSH.out, List.set_append_right i (l, 1) (by rw [psOf_len S H HSH.out, HIe.out]; exact Nat.le_refl _), psOf_len S H HSH.out, HIe.out, Nat.sub_self]; rfl)
  have HIl := Aside.mk (show i < (S ++ [((.slice none 0 0 : Value), ([] : List At))]).length by rw [List.length_append, HIe.out]; simp)
  have HSl := Aside.mk (show (S ++ [((.slice none 0 0 : Value), ([] : List At))]).length ≤ 1000001 by have := HSl0.out; rw [List.length_append]; simp; omega)
  generalize S ++ [((.slice none 0 0 : Value), ([] : List At))] = S5 at HD5 HPl5 HPs5 HIl HSl
  generalize H ++ [(0 : Int)] = H5 at HD5 HPl5 HPs5
  obtain ⟨sv5, hsv5⟩ : ∃ sv5, (Value.slice A3 (i + 1) c3) = sv5 := ⟨_, rfl⟩
  obtain ⟨hv5, hhv5⟩ : ∃ hv5, (Value.slice A4 (i + 1) c4) = hv5 := ⟨_, rfl⟩
  rw [hsv5, hhv5] at HD5
  clear hsv5 hhv5
  obtain ⟨m5, hm5⟩ : ∃ m5, S5.length = m5 := ⟨_, rfl⟩
  have HM5 := Aside.mk hm5
  have HMH := Aside.mk (show H5.length = m5 by rw [← HPl5.out.len]; exact hm5)
  obtain ⟨sa, scc, hsv5, hsc, _⟩ : ∃ sa scc, sv5 = .slice (some sa) m5 scc ∧ m5 ≤ scc ∧ True := by
    obtain ⟨sA, scc, h1, h2, _, h3⟩ := sets_slice HD5.out.sets
    obtain ⟨x, hx⟩ : ∃ x, S5[i]? = some x := ⟨_, List.getElem?_eq_getElem HIl.out⟩
    obtain ⟨a, rfl, _⟩ := h3 i x hx
    exact ⟨a, scc, by rw [hm5] at h1; exact h1, by rw [hm5] at h2; exact h2, trivial⟩
  subst hsv5
  obtain ⟨sx, hsx⟩ : ∃ s, S5[i]? = some s := ⟨_, List.getElem?_eq_getElem HIl.out⟩
  have HSx := Aside.mk hsx
  clear hsx
  have HO5 := Aside.mk (show O5 (sa.add i).block by
      obtain ⟨g, cur, rfl, _⟩ := row_at (n := m5) (by have h := HD5.out.sets; rw [hm5] at h; exact h)
      rw [addr_block]
      exact HD5.out.setsO g rfl)
  have HNe5 := Aside.mk (show (sa.add i).block ≠ db by
      obtain ⟨g, cur, rfl, _⟩ := row_at (n := m5) (by have h := HD5.out.sets; rw [hm5] at h; exact h)
      rw [addr_block]
      exact own_ne HD5.out.sets HD5.out.hb (by decide) g rfl)
  have g5 : (m5 : Int) ≤ (scc : Int) := by omega
  have g6 : (i : Int) < (m5 : Int) := by have := HIl.out; omega
  have g8 : (m5 : Int) ≤ 1000001 := by have := HSl.out; omega
  have HIl := Aside.mk (show i < m5 by have := HIl.out; omega)
  clear hm5 hsc hal
  have f15 := HD5.out.f1
  refine wp_region_noPanic ?_
  refine wp_region_held_drew (S := fun W => W.cell? ⟨db, 1, none⟩ = some (.slice (some sa) m5 scc)) (by kernel_rfl) (f15) (fun hHeld => ?_)
  refine take_at (i := 0) (d := some 89) (v := ?vn0) rfl rfl (by kernel_rfl) (by kernel_rfl) (by kernel_rfl) (fun _ _ _ h => h) (Or.inl ⟨by rfl, ?hyn0⟩) hHeld ?restn0
  case hyn0 => (intro w hSw; (try dsimp only at hSw); go_simp; try with_reducible rfl)
  try simp only [Act.put, List.setIfInBounds_toArray, List.set_cons_zero, List.set_cons_succ]
  refine take_at (i := 1) (d := some 90) (v := ?vn1) rfl rfl (by kernel_rfl) (by kernel_rfl) (by kernel_rfl) (fun _ _ _ h => h) (Or.inl ⟨by rfl, ?hyn1⟩) hHeld ?restn1
  case hyn1 => (intro w hSw; (try dsimp only at hSw); go_simp; try with_reducible rfl)
  try simp only [Act.put, List.setIfInBounds_toArray, List.set_cons_zero, List.set_cons_succ]
  refine take_at (i := 2) (d := some 91) (v := ?vn2) rfl rfl (by kernel_rfl) (by kernel_rfl) (by kernel_rfl) (fun _ _ _ h => h) (Or.inl ⟨by rfl, ?hyn2⟩) hHeld ?restn2
  case hyn2 => (intro w hSw; (try dsimp only at hSw); go_simp; try with_reducible rfl)
  try simp only [Act.put, List.setIfInBounds_toArray, List.set_cons_zero, List.set_cons_succ]
  refine take_at (i := 3) (d := some 92) (v := ?vn3) rfl rfl (by kernel_rfl) (by kernel_rfl) (by kernel_rfl) (fun _ _ _ h => h) (Or.inl ⟨by rfl, ?hyn3⟩) hHeld ?restn3
  case hyn3 => (intro w hSw; (try dsimp only at hSw); go_simp; try with_reducible rfl)
  try simp only [Act.put, List.setIfInBounds_toArray, List.set_cons_zero, List.set_cons_succ]
  refine take_at (i := 4) (d := some 93) (v := ?vn4) rfl rfl (by kernel_rfl) (by kernel_rfl) (by kernel_rfl) (fun _ _ _ h => h) (Or.inl ⟨by rfl, ?hyn4⟩) hHeld ?restn4
  case hyn4 => (intro w hSw; (try dsimp only at hSw); go_simp; try with_reducible rfl)
  try simp only [Act.put, List.setIfInBounds_toArray, List.set_cons_zero, List.set_cons_succ]
  refine take_at (i := 6) (d := some 95) (v := ?vn6) rfl rfl (by kernel_rfl) (by kernel_rfl) (by kernel_rfl) (fun _ _ _ h => h) (Or.inl ⟨by rfl, ?hyn6⟩) hHeld ?restn6
  case hyn6 => (intro w hSw; (try dsimp only at hSw); go_simp; try with_reducible rfl)
  try simp only [Act.put, List.setIfInBounds_toArray, List.set_cons_zero, List.set_cons_succ]
  refine wpAnyH_ready (rs := [5]) (by kernel_rfl) (by simp) ?_
  refine AllReadyH.cons rfl (fun K hK => ?_) AllReadyH.nil
  go_simp
  refine hK.out _ _ (cell_below (below_alloc (below_refl _) _) hHeld) (fun hHeld' => ?_)
  clear hK K hHeld
  have hHeld := hHeld'
  clear hHeld'
  try simp only [Act.put, List.setIfInBounds_toArray, List.set_cons_zero, List.set_cons_succ]
  refine wpAnyH_ready (rs := [7]) (by kernel_rfl) (by simp) ?_
  refine AllReadyH.cons rfl (fun K hK => ?_) AllReadyH.nil
  obtain ⟨v6, w6, hrun, ho6, hg6, hat6⟩ := append_run (P := Tryd.prog) (W := (w5.alloc (.cells #[] 58)).drew) w5.heap.size 48 48 58 (.agg #[.int .i64 0, .int .u8 0, .int .i64 0, .int .u64 0, .string ⟨#[]⟩]) 5 48 Tryd.underlying48 info58 rfl (by decide) (.slice (some ⟨w5.heap.size, 0, none⟩) 0 0) 0 l.length c A (acells []) (acells l) (acells_length l) (acells_one l) (own_below (own_lit5 w5 w5.heap.size (Nat.le_refl _)) (below_drewN (below_refl _) 1)) ((HSrc5.out.below (below_drewN (below_alloc (below_refl w5) _) 1)).cells) (Nat.le_of_lt (by simp)) (by have := HAl.out; omega) (by have := HAl.out; omega)
  have HBw6 := Aside.mk (show Below w5.heap.size w5 w6 from (below_drewN (below_alloc (below_refl w5) (.cells #[] 58)) 1).grown hg6 (Nat.le_of_lt (by simp)) (fun k e => by cases e; exact Nat.le_refl _))
  have HO6 := Aside.mk (show w6.ownsRow w5.heap.size 58 5 v6 l.length (acells l) by have h := ho6; rw [Nat.zero_add] at h; exact h)
  have HRow6 := Aside.mk (show w6.ownsRow B 48 1 (.slice (some sa) m5 scc) m5 (S5.map (·.1)) by have h := (HD5.out.below HBw6.out).sets; rw [HM5.out] at h; exact h)
  obtain ⟨uA, uc, rfl, _⟩ := own_form HO6.out
  refine app_step (.tmp 94) (.tmp 95) _ _ _ rfl rfl rfl hrun ?_
  refine hK.out _ _ (cell_below HBw6.out f15) (fun hHeld' => ?_)
  clear hK K hHeld hrun ho6 hg6 hat6
  have hHeld := hHeld'
  clear hHeld'
  try simp only [Act.put, List.setIfInBounds_toArray, List.set_cons_zero, List.set_cons_succ]
  refine take_at (i := 8) (d := some 97) (v := ?vn8) rfl rfl (by kernel_rfl) (by kernel_rfl) (by kernel_rfl) (fun _ _ _ h => h) (Or.inl ⟨by rfl, ?hyn8⟩) hHeld ?restn8
  case hyn8 => (intro w hSw; (try dsimp only at hSw); go_simp; try with_reducible rfl)
  try simp only [Act.put, List.setIfInBounds_toArray, List.set_cons_zero, List.set_cons_succ]
  refine wpAnyH_ready (rs := [9]) (by kernel_rfl) (by simp) ?_
  refine AllReadyH.cons rfl (fun K hK => ?_) AllReadyH.nil
  have cx := (HD5.out.below HBw6.out).set_cell HSx.out
  have cz := row_fz0 HRow6.out i
  go_simp
  refine hK.out _ _ (cell_far hHeld HNe5.out) (fun hHeld' => ?_)
  clear hK K hHeld cx cz
  have hHeld := hHeld'
  clear hHeld'
  try simp only [Act.put, List.setIfInBounds_toArray, List.set_cons_zero, List.set_cons_succ]
  refine wpAnyH_done (by kernel_rfl) ?_ _
  refine NoPanic.normal ?_
  clear hHeld f15
  have HT7 := Aside.mk ((Turn.of_below (O := O5) HBw6.out).trans (turn_set w6 (sa.add i) (.slice uA l.length uc) HO5.out))
  have HD7 := Aside.mk (HD5.out.putSet (sA := none) rfl (i := i) HBw6.out HO6.out)
  have HS67 := Aside.mk (setCell_size w6 (sa.add i) (.slice uA l.length uc))
  generalize w6.setCell (sa.add i) (.slice uA l.length uc) = w7 at HT7 HD7 HS67 ⊢
  obtain ⟨ha, hc5, hhv, hhc, HH5⟩ : ∃ ha hc5, hv5 = .slice (some ha) m5 hc5 ∧ m5 ≤ hc5 ∧ True := by
    obtain ⟨hA, hcc, h1, h2, _, h3⟩ := nums_slice HD7.out.held
    obtain ⟨x, hx⟩ : ∃ x, H5[i]? = some x := ⟨_, List.getElem?_eq_getElem (by have := HMH.out; have := HIl.out; omega)⟩
    obtain ⟨a, rfl, _⟩ := h3 i x hx
    exact ⟨a, hcc, by rw [HMH.out] at h1; exact h1, by rw [HMH.out] at h2; exact h2, trivial⟩
  subst hhv
  have HD8 := Aside.mk (HD7.out.putHeld rfl i 0)
  have HD9 := Aside.mk (HD8.out.putHeld rfl i 1)
  have HHeld7 := Aside.mk (show w7.ownsRow B 3 1 (.slice (some ha) m5 hc5) m5 (nums .i64 H5) by have h := HD7.out.held; rw [HMH.out] at h; exact h)
  have HHeld8 := Aside.mk (show (w7.setCell (ha.add i) (.int .i64 0)).ownsRow B 3 1 (.slice (some ha) m5 hc5) m5 (nums .i64 (H5.set i 0)) by have h := HD8.out.held; rw [List.length_set, HMH.out] at h; exact h)
  have HaO := Aside.mk (show Grow O5 w5 w6 ha.block from by
      obtain ⟨g, cur, rfl, _⟩ := row_at HHeld7.out
      exact HD7.out.heldO g rfl)
  have f2 := HD7.out.f2
  have z7 := row_fz0 HHeld7.out i
  have d2 := HD8.out.f2
  have z8 := row_fz0 HHeld8.out i
  obtain ⟨x7, hx7⟩ : ∃ x, H5[i]? = some x := ⟨_, List.getElem?_eq_getElem (by have := HMH.out; have := HIl.out; omega)⟩
  have cx7 := HD7.out.held_cell hx7
  clear hx7
  have cx8 : (w7.setCell (ha.add i) (.int .i64 0)).cell? (ha.add i) = some (.int .i64 0) := World.cell?_setCell_same' _ _ _ (by rw [cx7]; rfl)
  have g7 : (m5 : Int) ≤ (hc5 : Int) := by omega
  clear hhc HH5
  have HE := Aside.mk (show R (.returned (.tuple #[.int .i64 ((i : Int) + 1), .int .i64 0])) ((w7.setCell (ha.add i) (.int .i64 0)).setCell (ha.add i) (.int .i64 1)) from by
      rw [← HR.out]
      have ht1 : Turn (Grow O5 w5 w6) w7 ((w7.setCell (ha.add i) (.int .i64 0)).setCell (ha.add i) (.int .i64 1)) := (turn_set w7 (ha.add i) (.int .i64 0) (by rw [addr_block]; exact HaO.out)).trans (turn_set _ (ha.add i) (.int .i64 1) (by rw [addr_block]; exact HaO.out))
      have ht2 : Turn O5 w5 ((w7.setCell (ha.add i) (.int .i64 0)).setCell (ha.add i) (.int .i64 1)) := HT7.out.then ht1 (fun k hk => hk.elim .inl (fun h => .inr h.1))
      have ht3 : Turn O w ((w7.setCell (ha.add i) (.int .i64 0)).setCell (ha.add i) (.int .i64 1)) := HT5.out.then ht2 (fun k hk => (HI5.out k hk).elim .inl (fun h => .inr h.1))
      have hs9 : ((w7.setCell (ha.add i) (.int .i64 0)).setCell (ha.add i) (.int .i64 1)).heap.size = w6.heap.size := by rw [setCell_size, setCell_size]; exact HS67.out
      refine ⟨rfl, ⟨_, _, _, _, _, HD9.out.wide (fun k hk => ?_) (grow_top HTop.out HBase.out ht3.size), ?_, ?_⟩, ht3⟩
      · rcases hk with hk | hk
        · rcases HI5.out k hk with h | h
          · exact .inl h
          · refine .inr ⟨h.1, ?_⟩; rw [hs9]; have := HBw6.out.size; omega
        · refine .inr ⟨?_, by rw [hs9]; exact hk.2⟩; have := HT5.out.size; omega
      · rw [List.set_set]; exact HPl5.out.set i _ l 1 (by omega) HA64.out
      · rw [List.set_set, psOf_set _ _ _ HPl5.out.len (by have := HM5.out; have := HIl.out; omega)]; exact HPs5.out)
  go_wp2
  exact HE.out
end Go.Proofs.YtaejlgdmalhhnaaDoor
/- Layer 7, the document's calls told of its sets; how the table and the document's stand to each other. -/
set_option linter.unusedVariables false
set_option linter.unusedSimpArgs false
namespace Go.Proofs.YtaejlgdmalhhnaaDoor
open Go.RowKit Go.Maps

variable {B db : Nat} {O : Nat → Prop} {w w' w1 : World} {KA : Option Addr} {kc : Nat} {ks : List Ky} {kv : Value} {S : List (Value × List At)} {H free : List Int} {empty : Int} {D P : Ps} {A : Option Addr} {c : Nat} {l : List At}
def hasP (D : Ps) (id : Int) : Bool := if id = 0 then true else if id ≤ 0 then false else match D[(id - 1).toNat]? with
  | none => false
  | some p => decide (0 < p.2)
theorem hasD_psOf (h : S.length = H.length) (id : Int) : hasD H id = hasP (psOf S H) id := by
  unfold hasD hasP
  split
  · rfl
  · split
    · rfl
    · rw [psOf_at]
      cases hH : H[(id - 1).toNat]? with
      | none => cases S[(id - 1).toNat]? <;> rfl
      | some x =>
        rw [List.getElem?_eq_getElem (show (id - 1).toNat < S.length by have := (List.getElem?_eq_some_iff.1 hH).1; omega)]
theorem has_docM (id : Int) (h : DocM B O w db kv D free empty) (hl : D.length ≤ 1000000) (hw : (Lit.int .i64 id).wf = true) :
    Calls Tryd.prog 34 #[.pointer (some ⟨db, 0, none⟩), .int .i64 id] w fun e w' => e = .returned (.bool (hasP D id)) ∧ w' = w := by
  obtain ⟨sv, hv, lv, S, H, hd, hp, rfl⟩ := h
  rw [← hasD_psOf hp.len]
  exact has_doc id hd (by rw [psOf_len S H hp.len, hp.len] at hl; exact hl) hw
theorem add_doc (hK : KSrc w KA ks) (hkc : ks.length ≤ kc) (hkl : ks.length ≤ 9223372036854775807) (h : DocM B O w db (.slice KA ks.length kc) D free empty) (hbd : DBd D free empty) (ha : ArgS w A c l) (hfar : l ≠ [] → ∀ a, A = some a → a.block < B) (hfr : ∀ f ∈ free, ∃ j : Nat, j < D.length ∧ f = (j : Int)) :
    Calls Tryd.prog 36 #[.pointer (some ⟨db, 0, none⟩), .slice A l.length c] w (DocPost B O w db (.slice KA ks.length kc) (addP ks D free empty l).1 (addP ks D free empty l).2.1 (addP ks D free empty l).2.2.1 (.tuple #[.int .i64 (addP ks D free empty l).2.2.2.1, .int .i64 (addP ks D free empty l).2.2.2.2])) := by
  by_cases he : mayA ks l ≠ 0
  · have e : addP ks D free empty l = (D, free, empty, 0, mayA ks l) := by unfold addP; rw [if_pos he]
    rw [e]
    exact add_docE hK hkc hkl h ha he
  have he0 : mayA ks l = 0 := by omega
  by_cases h0 : l = []
  · have e : addP ks D free empty l = (D, free, empty + 1, 0, 0) := by unfold addP; rw [if_neg he, if_pos h0]
    rw [e]
    exact add_docZ hK hkc hkl h hbd ha he0 h0
  cases hf : findP D l with
  | some i =>
    obtain ⟨hd, hi, hd0⟩ := findP_some hf
    have e : addP ks D free empty l = (D.set i (l, hd + 1), free, empty, (i : Int) + 1, 0) := by unfold addP; rw [if_neg he, if_neg h0, hf]; simp only [hi]; rfl
    rw [e]
    exact add_docF hK hkc hkl h hbd ha he0 h0 hf hi
  | none =>
    rcases List.eq_nil_or_concat free with hfe | ⟨fr, f, hfe⟩
    · subst hfe
      have e : addP ks D [] empty l = (D ++ [(l, 1)], [], empty, (D.length : Int) + 1, 0) := by unfold addP; rw [if_neg he, if_neg h0, hf]; simp
      rw [e]
      exact add_docN hK hkc hkl h hbd ha (hfar h0) he0 h0 hf
    · rw [List.concat_eq_append] at hfe
      subst hfe
      obtain ⟨i, hi, hfi⟩ := hfr f (by simp)
      subst hfi
      have e : addP ks D (fr ++ [(i : Int)]) empty l = (D.set i (l, 1), fr, empty, (i : Int) + 1, 0) := by unfold addP; rw [if_neg he, if_neg h0, hf]; simp
      rw [e]
      exact add_docL hK hkc hkl h hbd ha (hfar h0) he0 h0 hf hi
/-- The document's sets are the table's wherever one is held. -/
structure Rel (P D : Ps) : Prop where
  len : P.length = D.length
  held : ∀ (i : Nat) p q, P[i]? = some p → D[i]? = some q → p.2 = q.2
  sets : ∀ (i : Nat) p q, P[i]? = some p → D[i]? = some q → p.2 ≠ 0 → p.1 = q.1
theorem Rel.at_ (h : Rel P D) {i : Nat} {p : List At × Int} (hp : P[i]? = some p) : ∃ q, D[i]? = some q ∧ p.2 = q.2 ∧ (p.2 ≠ 0 → p.1 = q.1) := by
  have hl := (List.getElem?_eq_some_iff.1 hp).1
  have hq := List.getElem?_eq_getElem (show i < D.length by rw [← h.len]; exact hl)
  exact ⟨_, hq, h.held i _ _ hp hq, h.sets i _ _ hp hq⟩
theorem Rel.back (h : Rel P D) {i : Nat} {q : List At × Int} (hq : D[i]? = some q) : ∃ p, P[i]? = some p ∧ p.2 = q.2 ∧ (p.2 ≠ 0 → p.1 = q.1) := by
  have hl := (List.getElem?_eq_some_iff.1 hq).1
  have hp := List.getElem?_eq_getElem (show i < P.length by rw [h.len]; exact hl)
  exact ⟨_, hp, h.held i _ _ hp hq, h.sets i _ _ hp hq⟩
theorem Rel.nil : Rel [] [] := ⟨rfl, fun i p q hp => (by simp at hp), fun i p q hp => (by simp at hp)⟩
theorem Rel.set (h : Rel P D) (i : Nat) {p q : List At × Int} (h1 : p.2 = q.2) (h2 : p.2 ≠ 0 → p.1 = q.1) : Rel (P.set i p) (D.set i q) := by
  have key : ∀ (j : Nat) p' q', (P.set i p)[j]? = some p' → (D.set i q)[j]? = some q' → (p' = p ∧ q' = q) ∨ (P[j]? = some p' ∧ D[j]? = some q') := by
    intro j p' q' hp hq
    by_cases hij : i = j
    · subst hij
      have hl : i < P.length := by have := (List.getElem?_eq_some_iff.1 hp).1; rwa [List.length_set] at this
      rw [List.getElem?_set_self hl] at hp
      rw [List.getElem?_set_self (by rw [← h.len]; exact hl)] at hq
      cases hp; cases hq; exact .inl ⟨rfl, rfl⟩
    · rw [List.getElem?_set_ne hij] at hp hq
      exact .inr ⟨hp, hq⟩
  refine ⟨by rw [List.length_set, List.length_set]; exact h.len, fun j p' q' hp hq => ?_, fun j p' q' hp hq => ?_⟩
  · rcases key j p' q' hp hq with ⟨rfl, rfl⟩ | ⟨a, b⟩
    · exact h1
    · exact h.held j _ _ a b
  · rcases key j p' q' hp hq with ⟨rfl, rfl⟩ | ⟨a, b⟩
    · exact h2
    · exact h.sets j _ _ a b
theorem Rel.snoc (h : Rel P D) (p : List At × Int) : Rel (P ++ [p]) (D ++ [p]) := by
  have key : ∀ (j : Nat) p' q', (P ++ [p])[j]? = some p' → (D ++ [p])[j]? = some q' → (p' = p ∧ q' = p) ∨ (P[j]? = some p' ∧ D[j]? = some q') := by
    intro j p' q' hp hq
    rcases Nat.lt_or_ge j P.length with hl | hl
    · rw [List.getElem?_append_left hl] at hp
      rw [List.getElem?_append_left (by rw [← h.len]; exact hl)] at hq
      exact .inr ⟨hp, hq⟩
    · rw [List.getElem?_append_right hl] at hp
      rw [List.getElem?_append_right (by rw [← h.len]; exact hl)] at hq
      have a := List.mem_of_getElem? hp
      have b := List.mem_of_getElem? hq
      simp at a b
      exact .inl ⟨a, b⟩
  refine ⟨by rw [List.length_append, List.length_append, h.len], fun j p' q' hp hq => ?_, fun j p' q' hp hq => ?_⟩
  · rcases key j p' q' hp hq with ⟨rfl, rfl⟩ | ⟨a, b⟩
    · rfl
    · exact h.held j _ _ a b
  · rcases key j p' q' hp hq with ⟨rfl, rfl⟩ | ⟨a, b⟩
    · exact fun _ => rfl
    · exact h.sets j _ _ a b
theorem Rel.find (h : Rel P D) (l : List At) : findP P l = findP D l := by
  have key : ∀ (i : Nat) p q, P[i]? = some p → D[i]? = some q → ((p.2 ≠ 0 ∧ p.1 = l) ↔ (q.2 ≠ 0 ∧ q.1 = l)) := by
    intro i p q hp hq
    have h1 := h.held i p q hp hq
    have h2 := h.sets i p q hp hq
    constructor
    · rintro ⟨a, b⟩; exact ⟨by rw [← h1]; exact a, by rw [← h2 a]; exact b⟩
    · rintro ⟨a, b⟩; have a' : p.2 ≠ 0 := by rw [h1]; exact a
      exact ⟨a', by rw [h2 a']; exact b⟩
  cases hf : findP P l with
  | some i =>
    unfold findP at hf
    rw [List.findIdx?_eq_some_iff_getElem] at hf
    obtain ⟨hi, h1, h2⟩ := hf
    obtain ⟨q, hq, _⟩ := h.at_ (List.getElem?_eq_getElem hi)
    have hh := (key i _ q (List.getElem?_eq_getElem hi) hq).1 (by simpa using h1)
    refine (findP_at hq hh.1 hh.2 (fun j hj r hr hn => ?_)).symm
    obtain ⟨p, hp, _⟩ := h.back hr
    have := (key j p r hp hr).2 hn
    have h3 := h2 j hj
    rw [(List.getElem?_eq_some_iff.1 hp).2] at h3
    simp at h3
    exact h3 this.1 this.2
  | none =>
    refine (findP_not (fun j hj r hr hn => ?_)).symm
    obtain ⟨p, hp, _⟩ := h.back hr
    have := (key j p r hp hr).2 hn
    exact findP_none hf p (List.mem_of_getElem? hp) this.1 this.2
/-- An Add keeps the two together, and answers alike. -/
theorem Rel.add (h : Rel P D) (l : List At) : Rel (addP ks P free empty l).1 (addP ks D free empty l).1 ∧ (addP ks P free empty l).2 = (addP ks D free empty l).2 := by
  unfold addP
  rw [← h.find l]
  by_cases hm : mayA ks l ≠ 0
  · rw [if_pos hm, if_pos hm]; exact ⟨h, rfl⟩
  rw [if_neg hm, if_neg hm]
  by_cases h0 : l = []
  · rw [if_pos h0, if_pos h0]; exact ⟨h, rfl⟩
  rw [if_neg h0, if_neg h0]
  cases hf : findP P l with
  | some i =>
    obtain ⟨hd, hi, _⟩ := findP_some hf
    obtain ⟨q, hq, he, _⟩ := h.at_ hi
    simp only [hi, hq, Option.map_some, Option.getD_some]
    exact ⟨h.set i (by simp only at he ⊢; rw [he]) (fun _ => rfl), trivial⟩
  | none =>
    cases hl : free.getLast? with
    | some f => exact ⟨h.set _ rfl (fun _ => rfl), rfl⟩
    | none => exact ⟨h.snoc _, by simp only [h.len]⟩
theorem Rel.hold (h : Rel P D) {i : Nat} {p q : List At × Int} (hp : P[i]? = some p) (hq : D[i]? = some q) (h0 : p.2 ≠ 0) : Rel (P.set i (p.1, p.2 + 1)) (D.set i (q.1, q.2 + 1)) :=
  h.set i (by have := h.held i p q hp hq; simp only; omega) (fun _ => h.sets i p q hp hq h0)
theorem Rel.drop (h : Rel P D) {i : Nat} {p q : List At × Int} (hp : P[i]? = some p) (hq : D[i]? = some q) (h0 : p.2 ≠ 0) (s : List At) (hs : p.2 ≠ 1 → s = p.1) : Rel (P.set i (s, p.2 - 1)) (D.set i (q.1, q.2 - 1)) :=
  h.set i (by have := h.held i p q hp hq; simp only; omega) (fun h1 => by simp only at h1 ⊢; rw [hs (by omega)]; exact h.sets i p q hp hq h0)
theorem Rel.has (h : Rel P D) (hn : ∀ p ∈ P, 0 ≤ p.2) (id : Int) : hasP D id = ((askP P empty id).2 == 0) := by
  unfold hasP askP
  by_cases h0 : id = 0
  · rw [if_pos h0, if_pos h0]; rfl
  rw [if_neg h0, if_neg h0]
  by_cases hneg : id < 0
  · rw [if_pos (show id ≤ 0 by omega), if_pos hneg]; rfl
  rw [if_neg (show ¬ id ≤ 0 by omega), if_neg hneg]
  cases hP : P[(id - 1).toNat]? with
  | none =>
    rw [List.getElem?_eq_none (by rw [← h.len]; exact List.getElem?_eq_none_iff.1 hP)]; rfl
  | some p =>
    obtain ⟨q, hq, he, _⟩ := h.at_ hP
    have := hn p (List.mem_of_getElem? hP)
    rw [hq]
    simp only
    by_cases hz : p.2 = 0
    · rw [if_pos hz]; simp; omega
    · rw [if_neg hz]; simp; omega
end Go.Proofs.YtaejlgdmalhhnaaDoor
