/- Layer 3: ValueMay. -/
import Derived.Test.YtaejlgdmalhhnaaDoorVqA
import Derived.Test.YtaejlgdmalhhnaaDoorVqB
import Derived.Test.YtaejlgdmalhhnaaDoorVqC
import Derived.Test.YtaejlgdmalhhnaaDoorVqD
set_option linter.unusedVariables false
set_option linter.unusedSimpArgs false
namespace Go.Proofs.YtaejlgdmalhhnaaDoor
open Go.RowKit
theorem valueMay_walk (v : Val) (f : Nat) (n : Int) (s : ByteArray) (b : Bool) (w : World) (fv : v.fits) (hf : f < 18446744073709551616) (hn : (Lit.int .i64 n).wf = true) (hs : s.size ≤ 9223372036854775807) (hT : Lib.Utf8Tabs 1 2 w) :
    Calls Tryd.prog 8 #[v.v, .int .u64 (f : Int), .int .i64 n, .string s, .bool b] w fun e w' => e = .returned (.bool true) ∧ Below w.heap.size w w' := by
  by_cases h1 : 1000 < v.s.size
  · exact may_big v f n s b w (.inl h1) hT
  by_cases h2 : 1000 < s.size
  · exact may_big v f n s b w (.inr h2) hT
  cases b <;> cases hok : okText s
  · exact may_false_false v f n s w fv hf (by omega) (by omega) hT hok
  · exact may_false_true v f n s w fv hf (by omega) (by omega) hT hok
  · exact may_true_false v f n s w fv hf (by omega) (by omega) hT hok
  · exact may_true_true v f n s w fv hf (by omega) (by omega) hT hok
end Go.Proofs.YtaejlgdmalhhnaaDoor
