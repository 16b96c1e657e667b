/-
  The contracts of FormatClaim in the words of the law.
-/
import Derived.Test.YtncjfgebolikoaaDoorQwFcI
import Derived.Test.YtncjfgebolikoaaDoorQwFcS
import Derived.Test.YtncjfgebolikoaaDoorQwDoor
namespace Go.Proofs.YtncjfgebolikoaaDoor
open Go.RowKit

section
variable (k : Clm) (w : World) (B : Nat)
theorem FormatClaim_sL (h : RdK w B k) (hB : B ≤ w.heap.size) (hk : SmK k) (a : Clm) (hka : SameK a k) (hI : I64K a) :
    Calls Tryd.prog 12 #[.agg #[.int .i64 k.K, .int .i64 k.s, .slice k.A0 k.n0 k.c0, .string k.t, .slice k.A1 k.n1 k.c1, .slice k.A2 k.n2 k.c2, .slice k.A3 k.D.length k.c3]] w fun e w' => e = .returned (.string (fcB a)) ∧ Below w.heap.size w w' := by
  rw [fcB_same hka]
  exact FormatClaim_s k w (h.keep (Below.refl _ _) hB) hk (hI.same hka)
theorem FormatClaim_iL (h : RdK w B k) (hB : B ≤ w.heap.size) (hk : SmK k) (a : Clm) (hka : SameK a k) (hI : I64K a) (hT : Tb w) :
    Calls Tryd.prog 14 #[.agg #[.int .i64 k.K, .int .i64 k.s, .slice k.A0 k.n0 k.c0, .string k.t, .slice k.A1 k.n1 k.c1, .slice k.A2 k.n2 k.c2, .slice k.A3 k.D.length k.c3]] w fun e w' => e = .returned (.string (fcB a)) ∧ Below w.heap.size w w' := by
  rw [fcB_same hka]
  exact FormatClaim_i k w (h.keep (Below.refl _ _) hB) hk (hI.same hka) hT
end
end Go.Proofs.YtncjfgebolikoaaDoor
