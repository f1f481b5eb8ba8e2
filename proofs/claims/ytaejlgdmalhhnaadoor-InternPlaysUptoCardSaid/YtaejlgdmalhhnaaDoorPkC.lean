/- Texts put together: Ip, Ia, Ib, Ic, Id, Ie. -/
import Derived.Test.YtaejlgdmalhhnaaDoorVm
import Derived.Test.YtaejlgdmalhhnaaDoorPkA
import Derived.Lib.Varint
import Derived.Test.YtaejlgdmalhhnaaDoorVc
import Derived.Laws.IdiomStrings
import Derived.Test.YtaejlgdmalhhnaaDoorPkB
/- Layer 7: the text of a set tells it, plain. -/
set_option linter.unusedVariables false
namespace Go.Proofs.YtaejlgdmalhhnaaDoor
/-- A natural number as bytes of seven bits. -/
def uv (n : Nat) : List UInt8 := if h : n ≤ 127 then [UInt8.ofNat n] else UInt8.ofNat (n % 128 + 128) :: uv (n / 128)
termination_by n
decreasing_by omega
theorem u8_eq {a b : Nat} (ha : a < 256) (hb : b < 256) (h : UInt8.ofNat a = UInt8.ofNat b) : a = b := by
  have := congrArg UInt8.toNat h
  simp at this
  omega
theorem uv_inj : ∀ (n m : Nat) (a b : List UInt8), uv n ++ a = uv m ++ b → n = m ∧ a = b := by
  intro n
  induction n using Nat.strongRecOn with
  | _ n ih =>
    intro m a b h
    rw [uv, uv.eq_def m] at h
    by_cases hn : n ≤ 127 <;> by_cases hm : m ≤ 127
    · rw [dif_pos hn, dif_pos hm] at h
      simp only [List.cons_append, List.nil_append, List.cons.injEq] at h
      exact ⟨u8_eq (by omega) (by omega) h.1, h.2⟩
    · rw [dif_pos hn, dif_neg hm] at h
      simp only [List.cons_append, List.nil_append, List.cons.injEq] at h
      have := u8_eq (by omega) (by omega) h.1
      omega
    · rw [dif_neg hn, dif_pos hm] at h
      simp only [List.cons_append, List.nil_append, List.cons.injEq] at h
      have := u8_eq (by omega) (by omega) h.1
      omega
    · rw [dif_neg hn, dif_neg hm] at h
      simp only [List.cons_append, List.cons.injEq] at h
      have h1 := u8_eq (by omega) (by omega) h.1
      obtain ⟨h2, h3⟩ := ih (n / 128) (by omega) (m / 128) a b h.2
      exact ⟨by omega, h3⟩
theorem uv_ne (n : Nat) : uv n ≠ [] := by rw [uv]; split <;> simp
/-- A whole number as a natural one. -/
def zigN (n : Int) : Nat := if 0 ≤ n then (2 * n).toNat else (-2 * n - 1).toNat
theorem zigN_inj {a b : Int} (h : zigN a = zigN b) : a = b := by unfold zigN at h; split at h <;> split at h <;> omega
/-- An attribute. -/
structure At where
  key : Int
  v : Val
deriving DecidableEq
def encA (a : At) : List UInt8 := uv (zigN a.key) ++ (uv a.v.k.toNat ++ (uv (zigN a.v.n) ++ (uv a.v.f ++ (uv a.v.s.size ++ a.v.s.data.toList))))
/-- The text of a set. -/
def textA (l : List At) : List UInt8 := (l.map encA).flatten
theorem encA_inj {a b : At} (ha : 0 ≤ a.v.k) (hb : 0 ≤ b.v.k) {x y : List UInt8} (h : encA a ++ x = encA b ++ y) : a = b ∧ x = y := by
  obtain ⟨ak, ⟨a1, a2, a3, a4⟩⟩ := a
  obtain ⟨bk, ⟨b1, b2, b3, b4⟩⟩ := b
  unfold encA at h
  simp only [List.append_assoc] at h ha hb
  obtain ⟨e1, h⟩ := uv_inj _ _ _ _ h
  obtain ⟨e2, h⟩ := uv_inj _ _ _ _ h
  obtain ⟨e3, h⟩ := uv_inj _ _ _ _ h
  obtain ⟨e4, h⟩ := uv_inj _ _ _ _ h
  obtain ⟨e5, h⟩ := uv_inj _ _ _ _ h
  have hl : a4.data.toList.length = b4.data.toList.length := by rw [Array.length_toList, Array.length_toList]; exact e5
  obtain ⟨h6, h7⟩ := List.append_inj h hl
  have h8 : a4 = b4 := by
    cases a4; cases b4
    simp only [ByteArray.mk.injEq]
    exact Array.ext' h6
  have := zigN_inj e1
  have := zigN_inj e3
  subst h8
  simp only [At.mk.injEq, Val.mk.injEq]
  refine ⟨⟨?_, ?_, ?_, ?_, ?_⟩, h7⟩ <;> first | trivial | assumption | omega | rfl
theorem encA_ne (a : At) (x : List UInt8) : encA a ++ x ≠ [] := by
  unfold encA
  have := uv_ne (zigN a.key)
  intro h
  simp only [List.append_eq_nil_iff] at h
  exact this h.1.1
theorem textA_inj : ∀ (l m : List At), (∀ a ∈ l, 0 ≤ a.v.k) → (∀ a ∈ m, 0 ≤ a.v.k) → textA l = textA m → l = m := by
  intro l
  induction l with
  | nil =>
    intro m _ _ h
    cases m with
    | nil => rfl
    | cons b s => exact absurd (by simpa [textA] using h.symm) (encA_ne b (textA s))
  | cons a r ih =>
    intro m hl hm h
    cases m with
    | nil => exact absurd (by simpa [textA] using h) (encA_ne a (textA r))
    | cons b s =>
      have h' : encA a ++ textA r = encA b ++ textA s := by simpa [textA] using h
      obtain ⟨e, h2⟩ := encA_inj (hl a (by simp)) (hm b (by simp)) h'
      rw [e, ih s (fun x hx => hl x (by simp [hx])) (fun x hx => hm x (by simp [hx])) h2]
theorem uv_len : ∀ (j n : Nat), n < 128 ^ (j + 1) → (uv n).length ≤ j + 1 := by
  intro j
  induction j with
  | zero => intro n h; rw [uv, dif_pos (by omega)]; simp
  | succ j ih =>
    intro n h
    rw [uv]
    split
    · simp
    · have := ih (n / 128) (by rw [Nat.div_lt_iff_lt_mul (by omega)]; rw [Nat.pow_succ] at h; exact h)
      simp; omega
theorem textA_snoc (l : List At) (a : At) : textA (l ++ [a]) = textA l ++ encA a := by simp [textA]
end Go.Proofs.YtaejlgdmalhhnaaDoor
/- Layer 7: bytes that are appended: a copy, natural numbers, whole numbers. -/
set_option linter.unusedVariables false
set_option linter.unusedSimpArgs false
namespace Go.Proofs.YtaejlgdmalhhnaaDoor
open Go.RowKit

theorem wf_i64 {x : Int} (h : (Lit.int .i64 x).wf = true) : -9223372036854775808 ≤ x ∧ x ≤ 9223372036854775807 := by
  simp [Lit.wf, IntKind.min, IntKind.max] at h
  simp [IntKind.signed, IntKind.bits] at h
  omega
theorem wrap_u64 (n : Int) : IntKind.u64.wrap n = n % 18446744073709551616 := by
  have : IntKind.u64.wrap n = n % (2 ^ 64 : Int) := by unfold IntKind.wrap; rfl
  rw [this]
  rfl
theorem xor_zero (a : Int) (h0 : 0 ≤ a) (h1 : a < 18446744073709551616) : bits .xor .u64 a 0 = a := by
  show IntKind.u64.wrap ((BitVec.ofInt 64 a ^^^ BitVec.ofInt 64 0).toNat : Int) = a
  have e : BitVec.ofInt 64 0 = 0#64 := by decide
  rw [e, BitVec.xor_zero, BitVec.toNat_ofInt, wrap_u64]
  omega
theorem xor_ones (a : Int) (h0 : 0 ≤ a) (h1 : a < 18446744073709551616) : bits .xor .u64 a 18446744073709551615 = 18446744073709551615 - a := by
  show IntKind.u64.wrap ((BitVec.ofInt 64 a ^^^ BitVec.ofInt 64 18446744073709551615).toNat : Int) = _
  have e : BitVec.ofInt 64 18446744073709551615 = BitVec.allOnes 64 := by decide
  rw [e, BitVec.xor_allOnes, BitVec.toNat_not, BitVec.toNat_ofInt, wrap_u64]
  omega
theorem zig_eq (n : Int) (h0 : -9223372036854775808 ≤ n) (h1 : n ≤ 9223372036854775807) :
    bits .xor .u64 (IntKind.u64.wrap (IntKind.u64.wrap n * 2)) (IntKind.u64.wrap (n / 9223372036854775808)) = (zigN n : Int) := by
  unfold zigN
  simp only [wrap_u64]
  by_cases h : 0 ≤ n
  · rw [if_pos h, show n / 9223372036854775808 % 18446744073709551616 = 0 by omega, xor_zero _ (by omega) (by omega)]
    omega
  · rw [if_neg h, show n / 9223372036854775808 % 18446744073709551616 = 18446744073709551615 by omega, xor_ones _ (by omega) (by omega)]
    omega
set_option maxRecDepth 100000 in
theorem zig_any (n : Int) (w : World) (hw : (Lit.int .i64 n).wf = true) : Calls Tryd.prog 119 #[.int .i64 n] w fun e w' => e = .returned (.int .u64 (zigN n : Int)) ∧ w' = w := by
  go_enter Tryd.func119, Tryd.ntmps119
  go_wp2
  go_ret
  have hb := wf_i64 hw
  exact ⟨ret_int (zig_eq n hb.1 hb.2), rfl⟩
def BClone (w : World) (xs : List Int) (e : Ending) (w' : World) : Prop := ∃ v, e = .returned v ∧ OwnN w' w.heap.size 5 .u8 v xs ∧ Below w.heap.size w w'
theorem own_lit0 (W : World) (B : Nat) (hb : B ≤ W.heap.size) : (W.alloc (.cells #[] 5)).ownsRow B 5 1 (.slice (some ⟨W.heap.size, 0, none⟩) 0 0) 0 (nums .u8 []) := by
  have h := World.ownsRow_lit (base := B) (e := 5) (size := 1) W #[] 0 hb (by simp [maxLen]) (by simp)
  simpa [nums] using h
set_option maxRecDepth 100000 in
theorem clone_bytes (A : Option Addr) (c : Nat) (xs : List Int) (w : World) (hA : A = none → xs = [] ∧ c = 0) (hC : Nums w .u8 A xs) (hl : xs.length ≤ 140737488355328) :
    Calls Tryd.prog 120 #[.slice A xs.length c] w (BClone w xs) := by
  rcases A with _ | ad
  · obtain ⟨rfl, rfl⟩ := hA rfl
    have HP : BClone w [] (.returned (.slice none 0 0)) w := ⟨_, rfl, OwnN.nil _ _ _ _, below_refl w⟩
    have HP := Aside.mk HP
    clear hA hC hl
    obtain ⟨R, hR⟩ : ∃ R, BClone w [] = R := ⟨_, rfl⟩
    rw [hR] at HP ⊢
    clear hR
    have q23 : ∀ W : World, (binOp .eql 23 (.slice none 0 0) (.slice none 0 0)).run Tryd.prog W = .ok (.bool true) W := fun W => Lib.run_eql_slice_nil W 23 5 none 0 0 0 0 Tryd.underlying23
    go_enter Tryd.func120, Tryd.ntmps120
    go_wp2
    exact HP.out
  · clear hA
    have HC := Aside.mk ((hC.below (below_alloc (below_refl w) (.cells #[] 5))).cells)
    have HR : Aside (∀ v w', w'.ownsRow w.heap.size 5 1 v xs.length (nums .u8 [] ++ nums .u8 xs) → Below w.heap.size w w' → BClone w xs (.returned v) w') := by
      refine Aside.mk (fun v w' h hb => ⟨v, rfl, ?_, hb⟩)
      have := own_n h
      rwa [List.nil_append] at this
    obtain ⟨R, hR⟩ : ∃ R, BClone w xs = R := ⟨_, rfl⟩
    rw [hR] at HR ⊢
    have HL := Aside.mk hl
    clear hR hC hl
    have q23 : ∀ W : World, (binOp .eql 23 (.slice (some ad) xs.length c) (.slice none 0 0)).run Tryd.prog W = .ok (.bool false) W := fun W => Lib.run_eql_slice_nil W 23 5 (some ad) xs.length c 0 0 Tryd.underlying23
    go_enter Tryd.func120, Tryd.ntmps120
    go_wp2_with (at_builtin; go_must (refine app_src (w0 := w) w.heap.size rfl (.tmp 5) (.tmp 6) 23 5 (.int .u8 0) 1 1 rfl Tryd.underlying23 info5 rfl (by decide) _ 0 xs.length c (some ad) (nums .u8 []) (nums .u8 xs) rfl rfl (by rw [nums_length, Nat.mul_one]) (nums_one _ _) (own_lit0 w w.heap.size (Nat.le_refl _)) HC.out (below_alloc (below_refl w) _) (below_alloc (below_refl w) _).size (by have := HL.out; omega) (by have := HL.out; omega) ?_))
    intro v1 w1 hown hbel hg hat
    go_wp2
    exact HR.out v1 w1 hown hbel
end Go.Proofs.YtaejlgdmalhhnaaDoor
/- Layer 7: AppendUint, AppendInt, AppendBytes. -/
set_option linter.unusedVariables false
set_option linter.unusedSimpArgs false
namespace Go.Proofs.YtaejlgdmalhhnaaDoor
open Go.RowKit

theorem uv_small (n : Nat) (h : n ≤ 127) : ints (uv n) = [(n : Int)] := by
  rw [uv, dif_pos h]
  simp [ints]
  omega
theorem uv_big (n : Nat) (h : ¬ n ≤ 127) : ints (uv n) = ((n % 128 + 128 : Nat) : Int) :: ints (uv (n / 128)) := by
  rw [uv, dif_neg h]
  simp [ints]
  omega
theorem uv_ten (n : Nat) (h : n < 18446744073709551616) : (ints (uv n)).length ≤ 10 := by
  rw [ints_length]
  exact uv_len 9 n (by omega)
theorem or128 (m : Nat) : bits .or .u8 (IntKind.u8.wrap (m : Int)) 128 = ((m % 128 + 128 : Nat) : Int) := by
  have e : IntKind.u8.wrap (m : Int) = (m : Int) % 256 := by unfold IntKind.wrap; rfl
  rw [e, Lib.u8_or128_any _ (by omega) (by omega)]
  omega
theorem or128' (m : Nat) : bits .or .u8 ((m : Int) % 256) 128 = (m : Int) % 128 + 128 := by
  rw [Lib.u8_or128_any _ (by omega) (by omega)]
  omega
theorem wrap8 (m : Nat) (h : m ≤ 127) : IntKind.u8.wrap (m : Int) = (m : Int) := by
  have e : IntKind.u8.wrap (m : Int) = (m : Int) % 256 := by unfold IntKind.wrap; rfl
  rw [e]; omega
structure UvAt (w wr : World) (v : Value) (xs : List Int) (n m : Nat) (pre : List Int) : Prop where
  below : Below w.heap.size w wr
  own : OwnN wr w.heap.size 5 .u8 v (xs ++ pre)
  eq : pre ++ ints (uv m) = ints (uv n)
  le : m ≤ n
set_option maxRecDepth 100000 in
set_option maxHeartbeats 1000000 in
theorem appendUint_any (A : Option Addr) (c : Nat) (xs : List Int) (n : Nat) (w : World) (hA : A = none → xs = [] ∧ c = 0) (hC : Nums w .u8 A xs) (hl : xs.length ≤ 1000000000) (hn : n < 18446744073709551616) :
    Calls Tryd.prog 105 #[.slice A xs.length c, .int .u64 (n : Int)] w (BClone w (xs ++ ints (uv n))) := by
  have HC := Aside.mk (clone_bytes A c xs w hA hC (by omega))
  have HL := Aside.mk hl
  have HN10 := Aside.mk (uv_ten n hn)
  have HNn := Aside.mk hn
  obtain ⟨R, hR⟩ : ∃ R, BClone w (xs ++ ints (uv n)) = R := ⟨_, rfl⟩
  rw [hR]
  have HR := Aside.mk hR
  clear hA hC hl hn hR
  go_enter Tryd.func105, Tryd.ntmps105
  go_wp2_with fail
  (with_reducible refine HC.out.mono ?_)
  rintro e w1 ⟨v, rfl, ho1, hb1⟩
  have H0 := Aside.mk (UvAt.mk (n := n) (m := n) (pre := []) hb1 (by rw [List.append_nil]; exact ho1) rfl (Nat.le_refl n))
  clear ho1 hb1
  go_wp2_with fail
  go_loopw [0, 1] (fun b i wr => ∃ m : Nat, i = .int .u64 (m : Int) ∧ ∃ pre, Aside (UvAt w wr b xs n m pre)) (fun _ i _ => (intOf i).toNat)
  case atStart => exact ⟨n, rfl, [], H0⟩
  case round =>
    obtain ⟨m, rfl, pre, HU⟩ := hrel
    have HL2 := Aside.mk (show pre.length ≤ 10 by have := congrArg List.length HU.out.eq; rw [List.length_append] at this; have := HN10.out; omega)
    have HM := Aside.mk (show m < 18446744073709551616 by have := HU.out.le; have := HNn.out; omega)
    by_cases hm : m ≤ 127
    · have hmz : (m : Int) ≤ 127 := by omega
      have h8 := wrap8 m hm
      go_wp2_with (at_builtin; go_must (refine app_lit (w0 := w) w.heap.size rfl (.tmp 17) (.tmp 20) 23 5 (.int .u8 0) 1 1 _ rfl Tryd.underlying23 info5 rfl (by decide) u0 (xs ++ pre).length 1 (nums .u8 (xs ++ pre)) (nums .u8 [(m : Int)]) rfl rfl rfl rfl (nums_one _ _) HU.out.own HU.out.below HU.out.below.size (by have := HL.out; have := HL2.out; rw [List.length_append]; omega) (by have := HL.out; have := HL2.out; rw [List.length_append]; omega) ?_))
      intro v1 w2 hown hbel hg hat
      have HZ := Aside.mk (show BClone w (xs ++ ints (uv n)) (.returned v1) w2 from ⟨v1, rfl, by
        have h1 := own_n hown
        have h2 : xs ++ ints (uv n) = xs ++ pre ++ [(m : Int)] := by rw [← HU.out.eq, uv_small m hm, List.append_assoc]
        rw [h2]; exact h1, hbel⟩)
      clear hown hbel hg hat h8
      go_wp2
      rw [← HR.out]
      exact HZ.out
    · have hmz : (127 : Int) < (m : Int) := by omega
      have h8 := or128' m
      go_wp2_with (at_builtin; go_must (refine app_lit (w0 := w) w.heap.size rfl (.tmp 11) (.tmp 15) 23 5 (.int .u8 0) 1 1 _ rfl Tryd.underlying23 info5 rfl (by decide) u0 (xs ++ pre).length 1 (nums .u8 (xs ++ pre)) (nums .u8 [(m : Int) % 128 + 128]) rfl rfl rfl rfl (nums_one _ _) HU.out.own HU.out.below HU.out.below.size (by have := HL.out; have := HL2.out; rw [List.length_append]; omega) (by have := HL.out; have := HL2.out; rw [List.length_append]; omega) ?_))
      intro v1 w2 hown hbel hg hat
      have HZ := Aside.mk (show UvAt w w2 v1 xs n (m / 128) (pre ++ [((m % 128 + 128 : Nat) : Int)]) from ⟨hbel, by
        have h1 := own_n hown
        rw [← List.append_assoc, show (((m % 128 + 128 : Nat) : Int)) = (m : Int) % 128 + 128 by omega]; exact h1, by rw [List.append_assoc, List.singleton_append, ← uv_big m hm]; exact HU.out.eq, by have := HU.out.le; omega⟩)
      clear hown hbel hg hat h8
      go_wp2
      go_roundw
      case rel => exact ⟨m / 128, by simp, _, HZ⟩
      case measure => simp [intOf]; omega
set_option maxRecDepth 100000 in
theorem appendInt_any (A : Option Addr) (c : Nat) (xs : List Int) (n : Int) (w : World) (hA : A = none → xs = [] ∧ c = 0) (hC : Nums w .u8 A xs) (hl : xs.length ≤ 1000000000) (hn : (Lit.int .i64 n).wf = true) :
    Calls Tryd.prog 104 #[.slice A xs.length c, .int .i64 n] w (BClone w (xs ++ ints (uv (zigN n)))) := by
  have hz : zigN n < 18446744073709551616 := by have := wf_i64 hn; unfold zigN; split <;> omega
  have HC := Aside.mk (appendUint_any A c xs (zigN n) w hA hC hl hz)
  have HZ := Aside.mk (zig_any n w hn)
  obtain ⟨z, hzz⟩ : ∃ z, zigN n = z := ⟨_, rfl⟩
  rw [hzz] at HC HZ ⊢
  obtain ⟨R, hR⟩ : ∃ R, BClone w (xs ++ ints (uv z)) = R := ⟨_, rfl⟩
  rw [hR]
  have HR := Aside.mk hR
  clear hA hC hl hn hR hz hzz
  go_enter Tryd.func104, Tryd.ntmps104
  go_wp2_with fail
  (with_reducible refine HZ.out.mono ?_)
  rintro e w1 ⟨rfl, rfl⟩
  go_wp2_with fail
  (with_reducible refine HC.out.mono ?_)
  rintro e w2 ⟨v, rfl, ho1, hb1⟩
  have HE := Aside.mk (show BClone w1 (xs ++ ints (uv z)) (.returned v) w2 from ⟨v, rfl, ho1, hb1⟩)
  clear ho1 hb1
  go_wp2
  rw [← HR.out]
  exact HE.out
set_option maxRecDepth 100000 in
theorem appendBytes_any (A A2 : Option Addr) (c c2 : Nat) (xs ys : List Int) (w : World) (hA : A = none → xs = [] ∧ c = 0) (hC : Nums w .u8 A xs) (hY : Nums w .u8 A2 ys) (hl : xs.length ≤ 1000000000) (hy : ys.length ≤ 1000000000) :
    Calls Tryd.prog 106 #[.slice A xs.length c, .slice A2 ys.length c2] w (BClone w (xs ++ ints (uv ys.length) ++ ys)) := by
  have HC := Aside.mk (appendUint_any A c xs ys.length w hA hC hl (by omega))
  have HL := Aside.mk hl
  have HLy := Aside.mk hy
  have HL10 := Aside.mk (uv_ten ys.length (by omega))
  have HY := Aside.mk hY
  have gy : (ys.length : Int) ≤ 1000000000 := by omega
  obtain ⟨R, hR⟩ : ∃ R, BClone w (xs ++ ints (uv ys.length) ++ ys) = R := ⟨_, rfl⟩
  rw [hR]
  have HR := Aside.mk hR
  clear hA hC hl hR hY hy
  go_enter Tryd.func106, Tryd.ntmps106
  go_wp2_with fail
  (with_reducible refine HC.out.mono ?_)
  rintro e w1 ⟨v, rfl, ho1, hb1⟩
  have HO := Aside.mk ho1
  have HB := Aside.mk hb1
  clear ho1 hb1
  go_wp2_with (at_builtin; go_must (refine app_src (w0 := w) w.heap.size rfl (.tmp 9) (.tmp 10) 23 5 (.int .u8 0) 1 1 rfl Tryd.underlying23 info5 rfl (by decide) v (xs ++ ints (uv ys.length)).length ys.length c2 A2 (nums .u8 (xs ++ ints (uv ys.length))) (nums .u8 ys) rfl rfl (by rw [nums_length, Nat.mul_one]) (nums_one _ _) HO.out (HY.out.below HB.out).cells HB.out HB.out.size (by have := HL.out; have := HL10.out; have := HLy.out; rw [List.length_append]; omega) (by have := HL.out; have := HL10.out; have := HLy.out; rw [List.length_append]; omega) ?_))
  intro v1 w2 hown hbel hg hat
  have HE := Aside.mk (show BClone w (xs ++ ints (uv ys.length) ++ ys) (.returned v1) w2 from ⟨v1, rfl, own_n hown, hbel⟩)
  clear hown hbel hg hat
  go_wp2
  rw [← HR.out]
  exact HE.out
end Go.Proofs.YtaejlgdmalhhnaaDoor
/- Layer 7: rows of attributes; the text of a set. -/
set_option linter.unusedVariables false
set_option linter.unusedSimpArgs false
namespace Go.Proofs.YtaejlgdmalhhnaaDoor
open Go.RowKit

def At.cells (a : At) : List Value := [.int .i64 a.key, .int .u8 a.v.k, .int .i64 a.v.n, .int .u64 (a.v.f : Int), .string a.v.s]
def acells (l : List At) : List Value := l.flatMap At.cells
theorem acells_len1 (a : At) : a.cells.length = 5 := rfl
theorem acells_length (l : List At) : (acells l).length = l.length * 5 := by
  induction l with
  | nil => rfl
  | cons a r ih => have e : acells (a :: r) = a.cells ++ acells r := by simp [acells]
                   rw [e, List.length_append, ih, acells_len1]; simp; omega
theorem acells_get (l : List At) (j : Nat) (a : At) (hj : l[j]? = some a) (i : Nat) (v : Value) (hi : a.cells[i]? = some v) : (acells l)[j * 5 + i]? = some v := by
  induction l generalizing j with
  | nil => simp at hj
  | cons x r ih =>
    have e : acells (x :: r) = x.cells ++ acells r := by simp [acells]
    have hi6 : i < 5 := (List.getElem?_eq_some_iff.1 hi).1
    rw [e]
    cases j with
    | zero =>
      simp at hj; subst hj
      rw [List.getElem?_append_left (by rw [acells_len1]; omega)]
      simpa using hi
    | succ j =>
      rw [List.getElem?_append_right (by rw [acells_len1]; omega), acells_len1]
      have e2 : (j + 1) * 5 + i - 5 = j * 5 + i := by omega
      rw [e2]
      exact ih j (by simpa using hj)
theorem acells_inv (l : List At) (t : Nat) (u : Value) (h : (acells l)[t]? = some u) : ∃ a, l[t / 5]? = some a ∧ a.cells[t % 5]? = some u := by
  induction l generalizing t with
  | nil => simp [acells] at h
  | cons k r ih =>
    have e : acells (k :: r) = k.cells ++ acells r := by simp [acells]
    rw [e] at h
    by_cases h6 : t < 5
    · rw [List.getElem?_append_left (by rw [acells_len1]; exact h6)] at h
      refine ⟨k, ?_, ?_⟩
      · rw [Nat.div_eq_of_lt h6]; rfl
      · rw [Nat.mod_eq_of_lt h6]; exact h
    · rw [List.getElem?_append_right (by rw [acells_len1]; omega), acells_len1] at h
      obtain ⟨k', h1, h2⟩ := ih _ h
      refine ⟨k', ?_, ?_⟩
      · have : t / 5 = (t - 5) / 5 + 1 := by omega
        rw [this]; exact h1
      · have : t % 5 = (t - 5) % 5 := by omega
        rw [this]; exact h2
/-- A row of attributes that a slice shows. -/
def ASrc (w : World) (A : Option Addr) (l : List At) : Prop := (A = none → l = []) ∧ ∀ ad, A = some ad → ∀ j a, l[j]? = some a → ∀ i v, a.cells[i]? = some v → w.cell? (ad.add (j * 5 + i)) = some v
theorem ASrc.below {w w1 : World} {A : Option Addr} {l : List At} (h : ASrc w A l) (hb : Below w.heap.size w w1) : ASrc w1 A l :=
  ⟨h.1, fun ad ha j k hj i v hi => cell_below hb (h.2 ad ha j k hj i v hi)⟩
theorem ASrc.cells {w : World} {A : Option Addr} {l : List At} (h : ASrc w A l) : Cells w A (acells l) := by
  intro h0
  rcases A with _ | ad
  · have := h.1 rfl; subst this; simp [acells] at h0
  · refine ⟨ad, rfl, fun t u ht => ?_⟩
    obtain ⟨k, h1, h2⟩ := acells_inv l t u ht
    have := h.2 ad rfl _ _ h1 _ _ h2
    have e : t / 5 * 5 + t % 5 = t := by omega
    rw [e] at this
    exact this
theorem ASrc.five {w : World} {ad : Addr} {l : List At} (h : ASrc w (some ad) l) {k : Nat} {key kd n : Int} {f : Nat} {s : ByteArray} (hk : l[k]? = some ⟨key, ⟨kd, n, f, s⟩⟩) :
    w.cell? (ad.add (k * 5)) = some (.int .i64 key) ∧ w.cell? ⟨(ad.add (k * 5)).block, (ad.add (k * 5)).off + 1, none⟩ = some (.int .u8 kd) ∧ w.cell? ⟨(ad.add (k * 5)).block, (ad.add (k * 5)).off + 2, none⟩ = some (.int .i64 n) ∧ w.cell? ⟨(ad.add (k * 5)).block, (ad.add (k * 5)).off + 3, none⟩ = some (.int .u64 (f : Int)) ∧ w.cell? ⟨(ad.add (k * 5)).block, (ad.add (k * 5)).off + 4, none⟩ = some (.string s) := by
  have g : ∀ i v, (At.mk key ⟨kd, n, f, s⟩).cells[i]? = some v → w.cell? ((ad.add (k * 5)).add i) = some v := by
    intro i v hi
    rw [addr_add_add]
    exact h.2 ad rfl k _ hk i v hi
  exact ⟨g 0 _ rfl, g 1 _ rfl, g 2 _ rfl, g 3 _ rfl, g 4 _ rfl⟩
def At.obj (a : At) : Obj := .cells #[.int .i64 a.key, .int .u8 a.v.k, .int .i64 a.v.n, .int .u64 (a.v.f : Int), .string a.v.s] 58

/-- A slice of bytes that reads as xs. -/
def BRead (w : World) (v : Value) (xs : List Int) : Prop := ∃ A c, v = .slice A xs.length c ∧ (A = none → xs = [] ∧ c = 0) ∧ Nums w .u8 A xs
theorem BRead.below {w w1 : World} {v : Value} {xs : List Int} (h : BRead w v xs) (hb : Below w.heap.size w w1) : BRead w1 v xs := by
  obtain ⟨A, c, h1, h2, h3⟩ := h
  exact ⟨A, c, h1, h2, h3.below hb⟩
theorem BRead.nil (w : World) : BRead w (.slice none 0 0) [] := ⟨none, 0, rfl, fun _ => ⟨rfl, rfl⟩, Nums.nil _ _ _⟩
theorem BRead.of_own {w : World} {B : Nat} {e : TypeId} {v : Value} {xs : List Int} (h : OwnN w B e .u8 v xs) : BRead w v xs := by
  obtain ⟨A, c, rfl, hc, hn⟩ := h.reads
  refine ⟨A, c, rfl, fun hA => ?_, hn⟩
  subst hA
  rcases h.2 with ⟨hv, h0⟩ | ⟨g, cap, cur, hv, _⟩
  · injection hv with h1 h2 h3
    exact ⟨List.eq_nil_of_length_eq_zero h0, h3⟩
  · cases hv
def BPost (w : World) (xs : List Int) (e : Ending) (w' : World) : Prop := ∃ v, e = .returned v ∧ BRead w' v xs ∧ Below w.heap.size w w'
theorem BPost.of {w : World} {xs : List Int} {e : Ending} {w' : World} (h : BClone w xs e w') : BPost w xs e w' := by
  obtain ⟨v, rfl, ho, hb⟩ := h
  exact ⟨v, rfl, BRead.of_own ho, hb⟩
theorem appInt {v : Value} {xs : List Int} {w : World} (n : Int) (h : BRead w v xs) (hl : xs.length ≤ 1000000000) (hn : (Lit.int .i64 n).wf = true) : Calls Tryd.prog 104 #[v, .int .i64 n] w (BPost w (xs ++ ints (uv (zigN n)))) := by
  obtain ⟨A, c, rfl, hA, hr⟩ := h
  exact (appendInt_any A c xs n w hA hr hl hn).mono fun e w' h => BPost.of h
theorem appUint {v : Value} {xs : List Int} {w : World} (n : Nat) (h : BRead w v xs) (hl : xs.length ≤ 1000000000) (hn : n < 18446744073709551616) : Calls Tryd.prog 105 #[v, .int .u64 (n : Int)] w (BPost w (xs ++ ints (uv n))) := by
  obtain ⟨A, c, rfl, hA, hr⟩ := h
  exact (appendUint_any A c xs n w hA hr hl hn).mono fun e w' h => BPost.of h
theorem appBytes {v : Value} {xs ys : List Int} {w : World} (A2 : Option Addr) (c2 : Nat) (h : BRead w v xs) (hY : Nums w .u8 A2 ys) (hl : xs.length ≤ 1000000000) (hy : ys.length ≤ 1000000000) : Calls Tryd.prog 106 #[v, .slice A2 ys.length c2] w (BPost w (xs ++ ints (uv ys.length) ++ ys)) := by
  obtain ⟨A, c, rfl, hA, hr⟩ := h
  exact (appendBytes_any A A2 c c2 xs ys w hA hr hY hl hy).mono fun e w' h => BPost.of h
theorem conv_back (l : List UInt8) (v : Value) (w : World) (h : BRead w v (ints l)) : (convert 23 9 v).run Tryd.prog w = .ok (.string ⟨l.toArray⟩) w := by
  obtain ⟨A, c, rfl, hA, hr⟩ := h
  rw [ints_length]
  rcases A with _ | ad
  · have h0 := (hA rfl).1
    have : l = [] := by cases l <;> simp [ints] at h0 ⊢
    subst this
    exact run_convert_bytes_nil w 23 5 Tryd.underlying23 Tryd.underlying5 0 c 9 Tryd.underlying9
  · refine run_convert_bytes_back w 23 9 5 ad c l Tryd.underlying23 Tryd.underlying5 Tryd.underlying9 (fun j hj => ?_)
    obtain ⟨ad', e, hc⟩ := hr.2 (by rw [ints_length]; omega)
    cases e
    rw [hc j (by rw [ints_length]; exact hj), ints_getD, List.getD_eq_getElem?_getD, List.getElem?_eq_getElem hj]
    rfl
/-- What the text of a set asks of an attribute. -/
def At.okT (a : At) : Prop := (Lit.int .i64 a.key).wf = true ∧ 0 ≤ a.v.k ∧ a.v.k < 256 ∧ (Lit.int .i64 a.v.n).wf = true ∧ a.v.f < 18446744073709551616 ∧ a.v.s.size ≤ 1000
theorem encA_ints (a : At) : ints (encA a) = ints (uv (zigN a.key)) ++ ints (uv a.v.k.toNat) ++ ints (uv (zigN a.v.n)) ++ ints (uv a.v.f) ++ ints (uv (ints a.v.s.data.toList).length) ++ ints a.v.s.data.toList := by
  unfold encA
  have e : (ints a.v.s.data.toList).length = a.v.s.size := by rw [ints_length]; exact toList_length _
  rw [e]
  simp only [ints_append, List.append_assoc]
theorem zig_lt {n : Int} (h : (Lit.int .i64 n).wf = true) : zigN n < 18446744073709551616 := by have := wf_i64 h; unfold zigN; split <;> omega
theorem encA_len {a : At} (h : a.okT) : (ints (encA a)).length ≤ 1050 := by
  obtain ⟨h1, h2, h3, h4, h5, h6⟩ := h
  rw [encA_ints]
  have e : (ints a.v.s.data.toList).length = a.v.s.size := by rw [ints_length]; exact toList_length _
  have e1 := uv_ten _ (zig_lt h1)
  have e2 := uv_ten a.v.k.toNat (by omega)
  have e3 := uv_ten _ (zig_lt h4)
  have e4 := uv_ten _ h5
  have e5 := uv_ten a.v.s.size (by omega)
  rw [e]
  simp only [List.length_append]
  omega
theorem textA_take {l : List At} {k : Nat} {a : At} (h : l[k]? = some a) : textA (l.take (k + 1)) = textA (l.take k) ++ encA a := by
  have hl := (List.getElem?_eq_some_iff.1 h).1
  rw [List.take_succ_eq_append_getElem hl, (List.getElem?_eq_some_iff.1 h).2, textA_snoc]
theorem textA_len {l : List At} (h : ∀ a ∈ l, a.okT) : (ints (textA l)).length ≤ l.length * 1050 := by
  induction l with
  | nil => simp [textA, ints]
  | cons a r ih =>
    have e : textA (a :: r) = encA a ++ textA r := by simp [textA]
    have h1 := encA_len (h a (by simp))
    have h2 := ih (fun x hx => h x (by simp [hx]))
    rw [e, ints_append, List.length_append]
    simp
    omega
end Go.Proofs.YtaejlgdmalhhnaaDoor
/- Layer 7: text's walk. -/
set_option linter.unusedVariables false
set_option linter.unusedSimpArgs false
namespace Go.Proofs.YtaejlgdmalhhnaaDoor
open Go.RowKit

def ABox (w : World) (g : Nat) (key kd n : Int) (f : Nat) (s : ByteArray) : Prop :=
  w.cell? ⟨g, 0, none⟩ = some (.int .i64 key) ∧ w.cell? ⟨g, 1, none⟩ = some (.int .u8 kd) ∧ w.cell? ⟨g, 2, none⟩ = some (.int .i64 n) ∧ w.cell? ⟨g, 3, none⟩ = some (.int .u64 (f : Int)) ∧ w.cell? ⟨g, 4, none⟩ = some (.string s)
theorem ABox.below {w w1 : World} {g : Nat} {key kd n : Int} {f : Nat} {s : ByteArray} (h : ABox w g key kd n f s) (hb : Below w.heap.size w w1) : ABox w1 g key kd n f s :=
  ⟨cell_below hb h.1, cell_below hb h.2.1, cell_below hb h.2.2.1, cell_below hb h.2.2.2.1, cell_below hb h.2.2.2.2⟩
theorem ABox.new (w : World) (key kd n : Int) (f : Nat) (s : ByteArray) : ABox (w.alloc (.cells #[.int .i64 key, .int .u8 kd, .int .i64 n, .int .u64 (f : Int), .string s] 58)) w.heap.size key kd n f s := by
  have h2 : (w.alloc (.cells #[.int .i64 key, .int .u8 kd, .int .i64 n, .int .u64 (f : Int), .string s] 58)).heap[w.heap.size]? = some (.cells #[.int .i64 key, .int .u8 kd, .int .i64 n, .int .u64 (f : Int), .string s] 58) := heap_alloc_new w _
  refine ⟨?_, ?_, ?_, ?_, ?_⟩ <;> (unfold World.cell?; simp only [h2]; rfl)
theorem len_app {xs ys : List Int} {a b : Nat} (hx : xs.length ≤ a) (hy : ys.length ≤ b) : (xs ++ ys).length ≤ a + b := by rw [List.length_append]; omega
theorem conv_u8 (kn : Nat) (h : kn < 256) (w : World) : (convert 5 54 (.int .u8 (kn : Int))).run Tryd.prog w = .ok (.int .u64 (kn : Int)) w := by
  have e : IntKind.u64.wrap (kn : Int) = (kn : Int) := by rw [wrap_u64]; omega
  simp [convert, run_underlying Tryd.underlying5, run_underlying Tryd.underlying54, Conv.intToInt, e]
structure TxAt (w wr : World) (v : Value) (xs : List Int) : Prop where
  below : Below w.heap.size w wr
  read : BRead wr v xs
set_option maxRecDepth 100000 in
set_option maxHeartbeats 2000000 in
theorem text_some (ad : Addr) (c : Nat) (l : List At) (w : World) (hS : ASrc w (some ad) l) (hc : l.length ≤ c) (hl : l.length ≤ 64) (hk : ∀ a ∈ l, a.okT) :
    Calls Tryd.prog 85 #[.slice (some ad) l.length c] w fun e w' => e = .returned (.string ⟨(textA l).toArray⟩) ∧ Below w.heap.size w w' := by
  have HS := Aside.mk hS
  have HK := Aside.mk hk
  have HL := Aside.mk hl
  have g1 : (l.length : Int) ≤ (c : Int) := by omega
  clear hS hk hc
  go_enter Tryd.func85, Tryd.ntmps85
  go_wp2_with fail
  go_loopw [3, 8] (fun v i wr => ∃ k : Nat, k ≤ l.length ∧ i = .int .i64 k ∧ Aside (TxAt w wr v (ints (textA (l.take k))))) (fun _ i _ => l.length - (intOf i).toNat)
  case atStart => exact ⟨0, Nat.zero_le _, rfl, ⟨below_refl _, BRead.nil _⟩⟩
  case round =>
    obtain ⟨k, hk, rfl, HN⟩ := hrel
    by_cases hlt : k < l.length
    · have hkz : (k : Int) < (l.length : Int) := by omega
      obtain ⟨⟨key, ⟨kd, n, f, s⟩⟩, hx⟩ : ∃ a, l[k]? = some a := ⟨_, List.getElem?_eq_getElem hlt⟩
      obtain ⟨o1, o2, o3, o4, o5, o6⟩ := HK.out _ (List.mem_of_getElem? hx)
      have HT := Aside.mk (textA_take hx)
      have HE := Aside.mk (encA_ints ⟨key, ⟨kd, n, f, s⟩⟩)
      have L0 := Aside.mk (show (ints (textA (l.take k))).length ≤ 67200 by
        have := textA_len (l := l.take k) (fun a ha => HK.out a (List.mem_of_mem_take ha))
        have h2 := List.length_take_le k l
        have := HL.out
        omega)
      simp only at o1 o2 o3 o4 o5 o6
      obtain ⟨kn, hkn⟩ : ∃ kn : Nat, kd = (kn : Int) := ⟨kd.toNat, by omega⟩
      subst hkn
      have O1 := Aside.mk o1
      have O4 := Aside.mk o4
      have O5 := Aside.mk o5
      have O6 := Aside.mk (show (ints s.data.toList).length ≤ 1000 by rw [ints_length, toList_length]; exact o6)
      have HKn := Aside.mk (show kn < 256 by omega)
      have L1 := Aside.mk (len_app L0.out (uv_ten (zigN key) (zig_lt o1)))
      have L2 := Aside.mk (len_app L1.out (uv_ten kn (by omega)))
      have L3 := Aside.mk (len_app L2.out (uv_ten (zigN n) (zig_lt o4)))
      have L4 := Aside.mk (len_app L3.out (uv_ten f o5))
      clear o1 o2 o3 o4 o5 o6
      have hcv : ∀ W : World, (convert 5 54 (.int .u8 (kn : Int))).run Tryd.prog W = .ok (.int .u64 (kn : Int)) W := fun W => conv_u8 kn HKn.out W
      have hcs := fun W => conv_sb s W
      obtain ⟨s0, s1, s2, s3, s4⟩ := (HS.out.below HN.out.below).five hx
      have HB0 := Aside.mk (ABox.new wr key kn n f s)
      have HBw := Aside.mk (below_alloc (below_refl wr) (.cells #[.int .i64 key, .int .u8 kn, .int .i64 n, .int .u64 (f : Int), .string s] 58))
      go_wp2_with fail
      (with_reducible refine (appInt key (HN.out.read.below HBw.out) (by have := L0.out; omega) O1.out).mono ?_)
      rintro e w1 ⟨v1, rfl, hr1, hb1⟩
      obtain ⟨b0, b1, b2, b3, b4⟩ := HB0.out.below hb1
      have R1 := Aside.mk hr1
      have B1 := Aside.mk (below_then HBw.out hb1)
      have X1 := Aside.mk (HB0.out.below hb1)
      clear hr1 hb1 s0 s1 s2 s3 s4 HB0 HBw
      go_wp2_with fail
      (with_reducible refine (appUint kn R1.out (by have := L1.out; omega) (by have := HKn.out; omega)).mono ?_)
      rintro e w2 ⟨v2, rfl, hr2, hb2⟩
      clear b0 b1 b2 b3 b4
      obtain ⟨b0, b1, b2, b3, b4⟩ := X1.out.below hb2
      have R2 := Aside.mk hr2
      have B2 := Aside.mk (below_then B1.out hb2)
      have X2 := Aside.mk (X1.out.below hb2)
      clear hr2 hb2 R1 B1 X1
      go_wp2_with fail
      (with_reducible refine (appInt n R2.out (by have := L2.out; omega) O4.out).mono ?_)
      rintro e w3 ⟨v3, rfl, hr3, hb3⟩
      clear b0 b1 b2 b3 b4
      obtain ⟨b0, b1, b2, b3, b4⟩ := X2.out.below hb3
      have R3 := Aside.mk hr3
      have B3 := Aside.mk (below_then B2.out hb3)
      have X3 := Aside.mk (X2.out.below hb3)
      clear hr3 hb3 R2 B2 X2
      go_wp2_with fail
      (with_reducible refine (appUint f R3.out (by have := L3.out; omega) O5.out).mono ?_)
      rintro e w4 ⟨v4, rfl, hr4, hb4⟩
      clear b0 b1 b2 b3 b4
      obtain ⟨b0, b1, b2, b3, b4⟩ := X3.out.below hb4
      have R4 := Aside.mk (hr4.below (below_bytes w4 s))
      have B4 := Aside.mk (below_then (below_then B3.out hb4) (below_bytes w4 s))
      have HY := Aside.mk (bytes_reads w4 s (by have := O6.out; rw [ints_length, toList_length] at this; omega))
      clear hr4 hb4 R3 B3 X3
      have C5 := Aside.mk (appBytes (some ⟨w4.heap.size, 0, none⟩) (grownCap w4 s.size 0 5) R4.out HY.out (by have := L4.out; omega) (by have := O6.out; omega))
      rw [ints_length, toList_length] at C5
      go_wp2_with fail
      (with_reducible refine C5.out.mono ?_)
      rintro e w5 ⟨v5, rfl, hr5, hb5⟩
      have HZ := Aside.mk (show TxAt w w5 v5 (ints (textA (l.take (k + 1)))) from ⟨below_then HN.out.below (below_then B4.out hb5), by
        rw [HT.out, ints_append, HE.out]
        simp only [ints_length, toList_length, Int.toNat_natCast]
        simpa only [List.append_assoc] using hr5⟩)
      clear hr5 hb5 b0 b1 b2 b3 b4 hcv hcs
      go_wp2
      go_roundw
      case rel => exact ⟨k + 1, by omega, by go_num, HZ⟩
      case measure => simp [intOf]; omega
    · obtain rfl : k = l.length := by omega
      have hcb : (convert 23 9 u3).run Tryd.prog wr = .ok (.string ⟨(textA l).toArray⟩) wr := by
        have h := HN.out.read
        rw [List.take_length] at h
        exact conv_back _ _ _ h
      go_wp2
      go_ret
      exact ⟨rfl, HN.out.below⟩
theorem textSet_any (A : Option Addr) (c : Nat) (l : List At) (w : World) (hS : ASrc w A l) (hc : l.length ≤ c) (hl : l.length ≤ 64) (hk : ∀ a ∈ l, a.okT) (h0 : l ≠ []) :
    Calls Tryd.prog 85 #[.slice A l.length c] w fun e w' => e = .returned (.string ⟨(textA l).toArray⟩) ∧ Below w.heap.size w w' := by
  rcases A with _ | ad
  · exact absurd (hS.1 rfl) h0
  · exact text_some ad c l w hS hc hl hk
end Go.Proofs.YtaejlgdmalhhnaaDoor
/- Layer 7: attrs: a copy; which sets may be. -/
set_option linter.unusedVariables false
set_option linter.unusedSimpArgs false
namespace Go.Proofs.YtaejlgdmalhhnaaDoor
open Go.RowKit

theorem info58 : (Tryd.prog.info? 58).map (fun i => (i.zero, i.size, i.bytes)) = some (some (.agg #[.int .i64 0, .int .u8 0, .int .i64 0, .int .u64 0, .string ⟨#[]⟩]), 5, 48) := by kernel_rfl
theorem acells_one (l : List At) : ∀ u ∈ acells l, u.oneCell' = true := by
  intro u hu
  simp only [acells, List.mem_flatMap] at hu
  obtain ⟨k, _, hu⟩ := hu
  simp only [At.cells, List.mem_cons, List.mem_nil_iff, or_false] at hu
  rcases hu with rfl | rfl | rfl | rfl | rfl <;> rfl
theorem own_lit5 (W : World) (B : Nat) (hb : B ≤ W.heap.size) : (W.alloc (.cells #[] 58)).ownsRow B 58 5 (.slice (some ⟨W.heap.size, 0, none⟩) 0 0) 0 (acells []) := by
  have h := World.ownsRow_lit (base := B) (e := 58) (size := 5) W #[] 0 hb (by simp [maxLen]) (by simp)
  simpa [acells] using h
def AClone (w : World) (l : List At) (e : Ending) (w' : World) : Prop := ∃ v, e = .returned v ∧ w'.ownsRow w.heap.size 58 5 v l.length (acells l) ∧ Below w.heap.size w w'
set_option maxRecDepth 100000 in
theorem clone_attrs (A : Option Addr) (c : Nat) (l : List At) (w : World) (hA : A = none → c = 0) (hC : ASrc w A l) (hl : l.length ≤ 1000000) :
    Calls Tryd.prog 107 #[.slice A l.length c] w (AClone w l) := by
  rcases A with _ | ad
  · obtain rfl := hA rfl
    obtain rfl := hC.1 rfl
    have HP : AClone w [] (.returned (.slice none 0 0)) w := ⟨_, rfl, ⟨rfl, .inl ⟨rfl, rfl⟩⟩, below_refl w⟩
    have HP := Aside.mk HP
    clear hA hC hl
    obtain ⟨R, hR⟩ : ∃ R, AClone w [] = R := ⟨_, rfl⟩
    rw [hR] at HP ⊢
    clear hR
    have q48 : ∀ W : World, (binOp .eql 48 (.slice none 0 0) (.slice none 0 0)).run Tryd.prog W = .ok (.bool true) W := fun W => Lib.run_eql_slice_nil W 48 58 none 0 0 0 0 Tryd.underlying48
    go_enter Tryd.func107, Tryd.ntmps107
    go_wp2
    exact HP.out
  · clear hA
    have HC := Aside.mk ((hC.below (below_alloc (below_refl w) (.cells #[] 58))).cells)
    have HR : Aside (∀ v w', w'.ownsRow w.heap.size 58 5 v l.length (acells [] ++ acells l) → Below w.heap.size w w' → AClone w l (.returned v) w') := by
      refine Aside.mk (fun v w' h hb => ⟨v, rfl, ?_, hb⟩)
      rwa [show acells [] = [] from rfl, List.nil_append] at h
    obtain ⟨R, hR⟩ : ∃ R, AClone w l = R := ⟨_, rfl⟩
    rw [hR] at HR ⊢
    have HL := Aside.mk hl
    clear hR hC hl
    have q48 : ∀ W : World, (binOp .eql 48 (.slice (some ad) l.length c) (.slice none 0 0)).run Tryd.prog W = .ok (.bool false) W := fun W => Lib.run_eql_slice_nil W 48 58 (some ad) l.length c 0 0 Tryd.underlying48
    go_enter Tryd.func107, Tryd.ntmps107
    go_wp2_with (at_builtin; go_must (refine app_src (w0 := w) w.heap.size rfl (.tmp 5) (.tmp 6) 48 58 (.agg #[.int .i64 0, .int .u8 0, .int .i64 0, .int .u64 0, .string ⟨#[]⟩]) 5 48 rfl Tryd.underlying48 info58 rfl (by decide) _ 0 l.length c (some ad) (acells []) (acells l) rfl rfl (acells_length l) (acells_one l) (own_lit5 w w.heap.size (Nat.le_refl _)) HC.out (below_alloc (below_refl w) _) (below_alloc (below_refl w) _).size (by have := HL.out; omega) (by have := HL.out; omega) ?_))
    intro v1 w1 hown hbel hg hat
    go_wp2
    exact HR.out v1 w1 hown hbel
set_option maxRecDepth 100000 in
theorem copy_any (A : Option Addr) (c : Nat) (l : List At) (w : World) (hA : A = none → c = 0) (hC : ASrc w A l) (hl : l.length ≤ 1000000) :
    Calls Tryd.prog 87 #[.slice A l.length c] w (AClone w l) := by
  have HC := Aside.mk (clone_attrs A c l w hA hC hl)
  obtain ⟨R, hR⟩ : ∃ R, AClone w l = R := ⟨_, rfl⟩
  rw [hR]
  have HR := Aside.mk hR
  clear hR hA hC hl
  go_enter Tryd.func87, Tryd.ntmps87
  go_wp2_with fail
  (with_reducible refine HC.out.mono ?_)
  intro e w1 h1
  obtain ⟨v, rfl, ho, hb⟩ := id h1
  have HE := Aside.mk (show AClone w l (.returned v) w1 from ⟨v, rfl, ho, hb⟩)
  clear h1 ho hb
  go_wp2
  rw [← HR.out]
  exact HE.out

/-- Is the attribute at a place above the one ahead of it, and its value one that may be? -/
def okAt (l : List At) (k : Nat) : Bool := match l[k]? with
  | none => true
  | some a => (match k with
    | 0 => true
    | j + 1 => decide (((l[j]?).map (·.key)).getD 0 < a.key)) && mayV a.v
/-- Why a set may not be one of a schema. -/
def mayA (ks : List Ky) (l : List At) : Int := if 64 < l.length then 3 else if ∀ k < l.length, okAt l k = true then (if ∀ a ∈ l, fitsK ks a.key a.v = true then 0 else 4) else 3
end Go.Proofs.YtaejlgdmalhhnaaDoor
