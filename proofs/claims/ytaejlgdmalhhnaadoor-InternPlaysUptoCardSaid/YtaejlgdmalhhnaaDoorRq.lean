/- Layer 1, plain: there and back between runes and bytes; the order of texts; bytes that are cut within a rune. No walk stands here. -/
import Derived.Test.YtaejlgdmalhhnaaDoorRj
import Derived.Lib.MapLaws
import Derived.Lib.QuoteLoop
namespace Go.Proofs.YtaejlgdmalhhnaaDoor
open Go.Lib

theorem u8_of {x : Int} (h0 : 0 ≤ x) (h1 : x < 256) : ((UInt8.ofNat x.toNat).toNat : Int) = x := by
  simp [UInt8.toNat_ofNat']; omega
theorem toU_append (a b : List Int) : toU (a ++ b) = toU a ++ toU b := by simp [toU]
theorem toU_length (a : List Int) : (toU a).length = a.length := by simp [toU]

theorem decode_enc (r : Int) (h : may r = true) (t : List UInt8) : decodeL (toU (enc r) ++ t) = (r.toNat, (enc r).length) := by
  obtain ⟨h0, h1, h2⟩ := may_cases h
  rw [decodeL_N]
  by_cases c1 : r ≤ 127
  · rw [enc1 c1]
    have e0 := u8_of h0 (show r < 256 by omega)
    have f0 : ((toU [r] ++ t).getD 0 0).toNat = r.toNat := by simp only [toU, List.map_cons, List.map_nil, List.cons_append, List.getD_cons_zero]; omega
    rw [f0]
    unfold decodeN
    rw [if_pos (by omega)]
    rfl
  by_cases c2 : r ≤ 2047
  · rw [enc2 (by omega) c2]
    have e0 := u8_of (x := 192 + r / 64) (by omega) (by omega)
    have e1 := u8_of (x := 128 + r % 64) (by omega) (by omega)
    have f0 : ((toU [192 + r / 64, 128 + r % 64] ++ t).getD 0 0).toNat = (192 + r / 64).toNat := by simp only [toU, List.map_cons, List.map_nil, List.cons_append, List.getD_cons_zero]; omega
    have f1 : ((toU [192 + r / 64, 128 + r % 64] ++ t).getD 1 0).toNat = (128 + r % 64).toNat := by simp only [toU, List.map_cons, List.map_nil, List.cons_append, List.getD_cons_zero, List.getD_cons_succ]; omega
    have fl : 1 < (toU [192 + r / 64, 128 + r % 64] ++ t).length := by simp [toU]
    rw [f0, f1]
    unfold decodeN
    rw [if_neg (by omega), if_pos (by omega), if_pos (by omega)]
    apply Prod.ext <;> simp only [List.length_cons, List.length_nil] <;> omega
  by_cases c3 : r ≤ 65535
  · rw [enc3 (by omega) c3]
    have e0 := u8_of (x := 224 + r / 4096) (by omega) (by omega)
    have e1 := u8_of (x := 128 + r / 64 % 64) (by omega) (by omega)
    have e2 := u8_of (x := 128 + r % 64) (by omega) (by omega)
    have f0 : ((toU [224 + r / 4096, 128 + r / 64 % 64, 128 + r % 64] ++ t).getD 0 0).toNat = (224 + r / 4096).toNat := by simp only [toU, List.map_cons, List.map_nil, List.cons_append, List.getD_cons_zero]; omega
    have f1 : ((toU [224 + r / 4096, 128 + r / 64 % 64, 128 + r % 64] ++ t).getD 1 0).toNat = (128 + r / 64 % 64).toNat := by simp only [toU, List.map_cons, List.map_nil, List.cons_append, List.getD_cons_zero, List.getD_cons_succ]; omega
    have f2 : ((toU [224 + r / 4096, 128 + r / 64 % 64, 128 + r % 64] ++ t).getD 2 0).toNat = (128 + r % 64).toNat := by simp only [toU, List.map_cons, List.map_nil, List.cons_append, List.getD_cons_zero, List.getD_cons_succ]; omega
    have fl : 2 < (toU [224 + r / 4096, 128 + r / 64 % 64, 128 + r % 64] ++ t).length := by simp [toU]
    rw [f0, f1, f2]
    unfold decodeN
    rw [if_neg (by omega), if_neg (by omega), if_pos (by omega), if_pos (by omega)]
    apply Prod.ext <;> simp only [List.length_cons, List.length_nil] <;> omega
  · rw [enc4 (by omega)]
    have e0 := u8_of (x := 240 + r / 262144) (by omega) (by omega)
    have e1 := u8_of (x := 128 + r / 4096 % 64) (by omega) (by omega)
    have e2 := u8_of (x := 128 + r / 64 % 64) (by omega) (by omega)
    have e3 := u8_of (x := 128 + r % 64) (by omega) (by omega)
    have f0 : ((toU [240 + r / 262144, 128 + r / 4096 % 64, 128 + r / 64 % 64, 128 + r % 64] ++ t).getD 0 0).toNat = (240 + r / 262144).toNat := by simp only [toU, List.map_cons, List.map_nil, List.cons_append, List.getD_cons_zero]; omega
    have f1 : ((toU [240 + r / 262144, 128 + r / 4096 % 64, 128 + r / 64 % 64, 128 + r % 64] ++ t).getD 1 0).toNat = (128 + r / 4096 % 64).toNat := by simp only [toU, List.map_cons, List.map_nil, List.cons_append, List.getD_cons_zero, List.getD_cons_succ]; omega
    have f2 : ((toU [240 + r / 262144, 128 + r / 4096 % 64, 128 + r / 64 % 64, 128 + r % 64] ++ t).getD 2 0).toNat = (128 + r / 64 % 64).toNat := by simp only [toU, List.map_cons, List.map_nil, List.cons_append, List.getD_cons_zero, List.getD_cons_succ]; omega
    have f3 : ((toU [240 + r / 262144, 128 + r / 4096 % 64, 128 + r / 64 % 64, 128 + r % 64] ++ t).getD 3 0).toNat = (128 + r % 64).toNat := by simp only [toU, List.map_cons, List.map_nil, List.cons_append, List.getD_cons_zero, List.getD_cons_succ]; omega
    have fl : 3 < (toU [240 + r / 262144, 128 + r / 4096 % 64, 128 + r / 64 % 64, 128 + r % 64] ++ t).length := by simp [toU]
    rw [f0, f1, f2, f3]
    unfold decodeN
    rw [if_neg (by omega), if_neg (by omega), if_neg (by omega), if_pos (by omega), if_pos (by omega)]
    apply Prod.ext <;> simp only [List.length_cons, List.length_nil] <;> omega
theorem enc_pos (r : Int) : 0 < (enc r).length := by
  rw [enc_len_cases]
  repeat' split
  all_goals omega
theorem enc_notbad (r : Int) (h : may r = true) (t : List UInt8) : badStep (toU (enc r) ++ t) = false := by
  unfold badStep
  rw [decode_enc r h t]
  refine decide_eq_false fun hh => ?_
  have := hh.2
  have h1 := hh.1
  simp only at this h1
  rw [enc_len_cases] at this
  obtain ⟨h0, _, _⟩ := may_cases h
  repeat' split at this
  all_goals omega
theorem toU_enc_ne (r : Int) (t : List UInt8) : toU (enc r) ++ t ≠ [] := by
  intro e
  have := congrArg List.length e
  have hp := enc_pos r
  simp [toU] at this
  rw [this.1] at hp
  simp at hp

/-- What has bytes is read out of them, whatever stands behind. -/
theorem read_enc (l : List Int) (h : l.all may = true) (t : List UInt8) : runesD (toU (l.flatMap enc) ++ t) = l ++ runesD t ∧ validD (toU (l.flatMap enc) ++ t) = validD t := by
  induction l with
  | nil => simp [toU]
  | cons r l ih =>
    simp only [List.all_cons, Bool.and_eq_true] at h
    obtain ⟨ih1, ih2⟩ := ih h.2
    obtain ⟨h0, _, _⟩ := may_cases h.1
    rw [List.flatMap_cons, toU_append, List.append_assoc]
    have hd := decode_enc r h.1 (toU (l.flatMap enc) ++ t)
    have hdrop : (toU (enc r) ++ (toU (l.flatMap enc) ++ t)).drop (enc r).length = toU (l.flatMap enc) ++ t := by
      rw [List.drop_append_of_le_length (by rw [toU_length]; exact Nat.le_refl _)]
      rw [← toU_length (enc r), List.drop_length, List.nil_append]
    constructor
    · rw [runesD_step _ (toU_enc_ne r _), hd]
      simp only
      rw [hdrop, ih1]
      simp; omega
    · rw [goodStep_valid (toU_enc_ne r _) (enc_notbad r h.1 _), hd]
      simp only
      rw [hdrop, ih2]

theorem bytesU_t {l : List Int} (h : l.all may = true) : bytesU l = toU (l.flatMap enc) ∧ bytesE l = 0 := by
  unfold bytesU bytesE; rw [bytesF_t h]; exact ⟨rfl, rfl⟩
theorem bytesU_f {l : List Int} (h : l.all may = false) : bytesU l = [] ∧ bytesE l = 3 := by
  unfold bytesU bytesE; rw [bytesF_f h]; exact ⟨rfl, rfl⟩
theorem bytesE_cases (l : List Int) : (l.all may = true ∧ bytesE l = 0) ∨ (l.all may = false ∧ bytesE l = 3) := by
  rcases h : l.all may with _ | _
  · exact .inr ⟨rfl, (bytesU_f h).2⟩
  · exact .inl ⟨rfl, (bytesU_t h).2⟩
/-- There and back. -/
theorem back_bytes {l : List Int} (h : l.all may = true) : readF (bytesU l) = (l, 0) := by
  obtain ⟨h1, h2⟩ := read_enc l h []
  rw [List.append_nil] at h1 h2
  rw [(bytesU_t h).1, readF_t (by rw [h2, validD_nil]), h1, runesD_nil, List.append_nil]
theorem readF_cases (b : List UInt8) : (validD b = true ∧ (readF b).2 = 0) ∨ (validD b = false ∧ (readF b).2 = 3 ∧ (readF b).1 = []) := by
  rcases h : validD b with _ | _
  · rw [readF_f h]; exact .inr ⟨rfl, rfl, rfl⟩
  · rw [readF_t h]; exact .inl ⟨rfl, rfl⟩
theorem may_decode (l : List UInt8) : may ((decodeL l).1 : Int) = true := rune_valid ⟨l.toArray⟩
theorem enc_Z {r : Int} (h : may r = true) : encodeRune r = toU (enc r) := by
  obtain ⟨h0, h1, h2⟩ := may_cases h
  unfold encodeRune toU
  by_cases c1 : r ≤ 127
  · rw [enc1 c1, encodeRuneZ_one h0 c1]
  by_cases c2 : r ≤ 2047
  · rw [enc2 (by omega) c2, encodeRuneZ_two (by omega) c2]
  by_cases c3 : r ≤ 65535
  · rw [enc3 (by omega) c3, encodeRuneZ_three (by omega)]
  · rw [enc4 (by omega), encodeRuneZ_four (by omega) h1]
theorem runes_back (n : Nat) : ∀ b : List UInt8, b.length ≤ n → validD b = true → (runesD b).all may = true ∧ toU ((runesD b).flatMap enc) = b := by
  induction n with
  | zero =>
    intro b hb _
    obtain rfl := List.eq_nil_of_length_eq_zero (show b.length = 0 by omega)
    exact ⟨rfl, rfl⟩
  | succ n ih =>
    intro b hb hv
    by_cases hne : b = []
    · subst hne; exact ⟨rfl, rfl⟩
    have hg : badStep b = false := by
      rcases h : badStep b with _ | _
      · rfl
      · rw [badStep_valid hne h] at hv; cases hv
    have hw := decodeL_width b
    have hl := List.length_pos_iff.2 hne
    obtain ⟨i1, i2⟩ := ih (b.drop (decodeL b).2) (by rw [List.length_drop]; omega) (by rw [← goodStep_valid hne hg]; exact hv)
    have hm := may_decode b
    have he := encode_decode b hne (by unfold badStep at hg; exact of_decide_eq_false hg)
    rw [enc_Z hm] at he
    rw [runesD_step b hne]
    refine ⟨by simp only [List.all_cons, hm, i1, Bool.and_self], ?_⟩
    rw [List.flatMap_cons, toU_append, he, i2, List.take_append_drop]
theorem back_runes {b : List UInt8} (h : validD b = true) : bytesU (readF b).1 = b ∧ bytesE (readF b).1 = 0 := by
  obtain ⟨h1, h2⟩ := runes_back b.length b (Nat.le_refl _) h
  rw [readF_t h]
  exact ⟨by rw [(bytesU_t h1).1]; exact h2, (bytesU_t h1).2⟩
theorem runes_len (n : Nat) : ∀ b : List UInt8, b.length ≤ n → (runesD b).length ≤ b.length := by
  induction n with
  | zero =>
    intro b hb
    obtain rfl := List.eq_nil_of_length_eq_zero (show b.length = 0 by omega)
    exact Nat.le_refl _
  | succ n ih =>
    intro b hb
    by_cases hne : b = []
    · subst hne; exact Nat.le_refl _
    have hw := decodeL_width b
    have hl := List.length_pos_iff.2 hne
    have := ih (b.drop (decodeL b).2) (by rw [List.length_drop]; omega)
    rw [runesD_step b hne, List.length_cons]
    rw [List.length_drop] at this
    omega
theorem readF_len (b : List UInt8) : (readF b).1.length ≤ b.length := by
  unfold readF; split
  · exact runes_len _ b (Nat.le_refl _)
  · simp

/-! ### joined rows -/
theorem join_E (a b : List Int) : (a ++ b).all may = (a.all may && b.all may) := by rw [List.all_append]
theorem join_U {a b : List Int} (ha : a.all may = true) (hb : b.all may = true) : bytesU (a ++ b) = bytesU a ++ bytesU b := by
  rw [(bytesU_t (l := a ++ b) (by rw [join_E, ha, hb]; rfl)).1, (bytesU_t ha).1, (bytesU_t hb).1, List.flatMap_append, toU_append]

/-! ### bytes that are cut within a rune -/
theorem cut_bad (r : Int) (h : may r = true) (j : Nat) (h0 : 0 < j) (hj : j < (enc r).length) : decodeL (toU ((enc r).take j)) = (65533, 1) := by
  obtain ⟨g0, g1, g2⟩ := may_cases h
  rw [decodeL_N]
  have hl : (toU ((enc r).take j)).length = j := by rw [toU_length, List.length_take]; omega
  rw [hl]
  have hf : ((toU ((enc r).take j)).getD 0 0).toNat = ((enc r).getD 0 0).toNat := by
    have hr := enc_range h ((enc r).getD 0 0) (by rw [List.getD_eq_getElem?_getD, List.getElem?_eq_getElem (by omega)]; exact List.getElem_mem _)
    have e0 := u8_of hr.1 hr.2
    have : (toU ((enc r).take j)).getD 0 0 = UInt8.ofNat ((enc r).getD 0 0).toNat := by
      simp only [toU, List.getD_eq_getElem?_getD, List.getElem?_map, List.getElem?_take, if_pos h0]
      rw [List.getElem?_eq_getElem (by omega)]
      rfl
    rw [this]; omega
  rw [hf]
  rw [enc_len_cases] at hj
  have hb1 := ((toU ((enc r).take j)).getD 1 0).toNat_lt
  by_cases c1 : r ≤ 127
  · rw [if_pos c1] at hj; omega
  by_cases c2 : r ≤ 2047
  · rw [if_neg c1, if_pos c2] at hj
    rw [enc2 (by omega) c2]
    simp only [List.getD_cons_zero]
    unfold decodeN
    repeat' split
    all_goals first | rfl | (exfalso; omega)
  by_cases c3 : r ≤ 65535
  · rw [if_neg c1, if_neg c2, if_pos c3] at hj
    rw [enc3 (by omega) c3]
    simp only [List.getD_cons_zero]
    unfold decodeN
    repeat' split
    all_goals first | rfl | (exfalso; omega)
  · rw [if_neg c1, if_neg c2, if_neg c3] at hj
    rw [enc4 (by omega)]
    simp only [List.getD_cons_zero]
    unfold decodeN
    repeat' split
    all_goals first | rfl | (exfalso; omega)
theorem cut_invalid {l : List Int} {r : Int} (hl : l.all may = true) (hr : may r = true) (k : Nat) (h0 : 1 ≤ k) (hk : k < (enc r).length) :
    readF ((bytesU (l ++ [r])).take ((bytesU (l ++ [r])).length - k)) = ([], 3) := by
  have hall : (l ++ [r]).all may = true := by rw [join_E, hl]; simp [hr]
  rw [(bytesU_t hall).1, List.flatMap_append]
  have e : [r].flatMap enc = enc r := by simp
  rw [e, toU_append]
  have hlen : (toU (l.flatMap enc) ++ toU (enc r)).length - k = (toU (l.flatMap enc)).length + ((enc r).length - k) := by
    rw [List.length_append, toU_length (enc r)]; omega
  rw [hlen, List.take_length_add_append]
  have ht : (toU (enc r)).take ((enc r).length - k) = toU ((enc r).take ((enc r).length - k)) := by simp [toU, List.map_take]
  rw [ht]
  refine readF_f ?_
  rw [(read_enc l hl _).2]
  have hd := cut_bad r hr ((enc r).length - k) (by omega) (by omega)
  have hne : toU ((enc r).take ((enc r).length - k)) ≠ [] := fun e => by
    have := congrArg List.length e
    rw [toU_length, List.length_take] at this
    simp at this; omega
  exact badStep_valid hne (by unfold badStep; rw [hd]; rfl)
end Go.Proofs.YtaejlgdmalhhnaaDoor
