/-
  Contract of the law's helper that asks whether a graph holds its marks.
-/
import Derived.Test.YtnnlmdenffnjbaaLawGraph
namespace Go.Proofs.Ytnnlmdenffnjbaa
open Go.RowKit

set_option maxHeartbeats 400000 in
theorem heldGraph_yes (sz : Int) (A : Option Addr) (n c : Nat) (k : Int) (w : World) (B : Nat) (h : Rd w B A n c (fun j => k + j)) (hn : n ≤ 1048576) (hk0 : 0 ≤ k) (hk1 : k ≤ 1099511627776) (hB : B ≤ w.heap.size) :
    Calls Try.prog 22 #[.agg #[.int .i64 sz, .slice A n c], .int .i64 k] w fun e w' => e = .returned (.int .i64 (k + n)) ∧ Below w.heap.size w w' := by
  have hk2 : 0 ≤ k + n := by omega
  have HB : Hid (Below w.heap.size w (w.alloc (Obj.cells #[Value.int IntKind.i64 sz, Value.slice A n c] 28))) := (Below.refl _ _).alloc (Nat.le_refl _) _
  have HK := Lib.hid (h.keep (HB.out.mono hB) (Nat.le_refl _))
  clear h
  go_enter Try.func22, Try.ntmps22
  go_wp2_with fail
  refine (heldIntS_yes A n c k _ B HK.out (by omega) hk0 (by omega)).mono ?_
  rintro e w' ⟨rfl, rfl⟩
  clear HK
  go_wp2
  go_ret
  exact ⟨rfl, HB.out⟩
end Go.Proofs.Ytnnlmdenffnjbaa
