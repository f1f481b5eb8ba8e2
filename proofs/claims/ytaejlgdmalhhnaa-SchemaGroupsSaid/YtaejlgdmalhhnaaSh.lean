/- Layer 4: Find, Len, Keys of a schema, nil and zero let in. -/
import Derived.Test.YtaejlgdmalhhnaaSt
set_option linter.unusedVariables false
set_option linter.unusedSimpArgs false
namespace Go.Proofs.Ytaejlgdmalhhnaa
open Go.RowKit Go.Maps

def FindPost (w : World) (ks : List Ky) (id : Int) (e : Ending) (w' : World) : Prop :=
  e = .returned (.tuple #[((findK ks id).getD zeroK).v, .bool (findK ks id).isSome]) ∧ Below w.heap.size w w'
set_option maxRecDepth 100000 in
theorem find_any {lo hi : Nat} {v : Value} {ks srt : List Ky} (id : Int) (w : World) (hS : Sch lo hi w v ks srt) (hw : (Lit.int .i64 id).wf = true) :
    Calls Try.prog 15 #[v, .int .i64 id] w (FindPost w ks id) := by
  rcases hS with ⟨rfl, rfl, rfl⟩ | ⟨g, A, c, m, rfl, hS⟩
  · have HP : ∀ w', Below w.heap.size w w' → FindPost w [] id (.returned (.tuple #[.agg #[.int .i64 0, .bool false, .int .u8 0, .bool false, .bool false, .int .i64 0], .bool false])) w' := fun w' h => ⟨rfl, h⟩
    have HP := Aside.mk HP
    obtain ⟨R, hR⟩ : ∃ R, FindPost w [] id = R := ⟨_, rfl⟩
    rw [hR] at HP ⊢
    clear hR hw
    go_enter Try.func15, Try.ntmps15
    go_wp2
    refine bodyPost_ret (v := .tuple #[.agg #[.int .i64 0, .bool false, .int .u8 0, .bool false, .bool false, .int .i64 0], .bool false]) (by simp [results, Try.results15, go_sem]) rfl (HP.out _ ?_)
    exact below_alloc (below_refl w) _
  · have HL := Aside.mk (fun W (hs : Stays lo hi w W) => (hS.map.stays hs).look hw)
    have hcm := fun o => cell_below (below_alloc (below_refl w) o) hS.cm
    have HT := Aside.mk hS.top
    obtain ⟨⟨id', bl, kd, af, be, gr⟩, hk⟩ : ∃ k, (findK ks id).getD zeroK = k := ⟨_, rfl⟩
    obtain ⟨ok, hok⟩ : ∃ ok, (findK ks id).isSome = ok := ⟨_, rfl⟩
    rw [hk, hok] at HL
    have HP : ∀ w', Below w.heap.size w w' → FindPost w ks id (.returned (.tuple #[.agg #[.int .i64 id', .bool bl, .int .u8 kd, .bool af, .bool be, .int .i64 gr], .bool ok])) w' := fun w' h => ⟨by rw [hk, hok]; rfl, h⟩
    have HP := Aside.mk HP
    obtain ⟨R, hR⟩ : ∃ R, FindPost w ks id = R := ⟨_, rfl⟩
    rw [hR] at HP ⊢
    clear hR hw hk hok hS
    unfold Ky.v at HL
    go_enter Try.func15, Try.ntmps15
    go_wp2_with (at_lookup; go_must (refine lookup_run rfl _ _ 37 m _ _ rfl rfl rfl (HL.out _ (Stays.of_below (below_alloc (below_refl w) _) HT.out)) ?_))
    go_wp2
    refine bodyPost_ret (v := .tuple #[.agg #[.int .i64 id', .bool bl, .int .u8 kd, .bool af, .bool be, .int .i64 gr], .bool ok]) (by simp [results, Try.results15, go_sem]) rfl (HP.out _ ?_)
    exact below_alloc (below_alloc (below_refl w) _) _
theorem len_any {lo hi : Nat} {v : Value} {ks srt : List Ky} (w : World) (hS : Sch lo hi w v ks srt) :
    Calls Try.prog 9 #[v] w fun e w' => e = .returned (.int .i64 srt.length) ∧ w' = w := by
  rcases hS with ⟨rfl, rfl, rfl⟩ | ⟨g, A, c, m, rfl, hS⟩
  · go_enter Try.func9, Try.ntmps9
    go_wp2
    go_ret
    exact ⟨rfl, rfl⟩
  · have h0 := hS.c0
    clear hS
    go_enter Try.func9, Try.ntmps9
    go_wp2
    go_ret
    exact ⟨rfl, rfl⟩
set_option maxRecDepth 100000 in
theorem keys_any {lo hi : Nat} {v : Value} {ks srt : List Ky} (w : World) (hS : Sch lo hi w v ks srt) (hl : srt.length * 24 ≤ 140737488355328) : Calls Try.prog 6 #[v] w (KClone w srt) := by
  rcases hS with ⟨rfl, rfl, rfl⟩ | ⟨g, A, c, m, rfl, hS⟩
  · have HP : KClone w [] (.returned (.slice none 0 0)) w := ⟨_, rfl, ⟨rfl, .inl ⟨rfl, rfl⟩⟩, below_refl w⟩
    have HP := Aside.mk HP
    obtain ⟨R, hR⟩ : ∃ R, KClone w [] = R := ⟨_, rfl⟩
    rw [hR] at HP ⊢
    clear hR hl
    go_enter Try.func6, Try.ntmps6
    go_wp2
    exact HP.out
  · have h0 := hS.c0
    have HC := Aside.mk (clone_keys A c srt w hS.nil hS.src.cells hl)
    clear hS hl
    go_enter Try.func6, Try.ntmps6
    go_wp2_with fail
    (with_reducible refine HC.out.mono ?_)
    rintro e w1 ⟨v, rfl, ho1, hb1⟩
    have HF := Aside.mk (⟨ho1, hb1⟩ : _ ∧ _)
    obtain ⟨A1, c1, rfl, hlt1⟩ := own_form ho1
    clear ho1 hb1 hlt1
    go_wp2
    go_ret
    exact ⟨_, rfl, HF.out⟩
end Go.Proofs.Ytaejlgdmalhhnaa
