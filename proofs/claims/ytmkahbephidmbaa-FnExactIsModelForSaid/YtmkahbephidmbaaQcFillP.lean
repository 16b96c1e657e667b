/-
  Plain: the filling of a graph in an order.
-/
import Derived.Test.YtmkahbephidmbaaQcLater
import Derived.Test.YtmkahbephidmbaaQcGB
namespace Go.Proofs.Ytmkahbephidmbaa
open Go.RowKit

theorem listN_getD {s j : Nat} (h : j < (listN s).length) : (listN s).getD j 0 = (listN s)[j] := by simp [List.getD, h]
theorem listN_lt {s m j : Nat} (hs : s < 2 ^ m) (hj : j < (listN s).length) : (listN s).getD j 0 < m := by
  rw [listN_getD hj]
  exact bit_lt hs (listN_at hj).2
theorem ltN_lt {m : Nat} {r : Nat → Nat} {l : List Int} {v : Int} (vg : VG m r) (h0 : 0 ≤ v) (h1 : v < m) : ltN r l v < 2 ^ m := Nat.lt_of_le_of_lt Nat.and_le_left (vg.lt _ (by omega))
theorem orB_yes {m : Nat} {x : Nat → Int} {l : List Int} (h : okB (m : Int) m x = true) (hV : VZ m l) (hl : l.length = m) : orB (m : Int) m x l = true := by
  unfold orB vrB
  rw [h, vzB_iff.2 hV, decide_eq_true hl]; rfl
end Go.Proofs.Ytmkahbephidmbaa
