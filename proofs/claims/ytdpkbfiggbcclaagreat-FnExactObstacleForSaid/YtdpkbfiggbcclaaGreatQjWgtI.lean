/-
  Several texts in one: words for memory, plain laws and contracts that the later texts lean on.
-/
import Derived.Test.YtdpkbfiggbcclaaGreatQjGL
import Derived.Test.YtdpkbfiggbcclaaGreatQjGB
import Derived.Test.YtdpkbfiggbcclaaGreatQjGC
import Derived.Test.YtdpkbfiggbcclaaGreatQjSet2I
/-
  Contracts: the filling of a graph in an order, of the reference.
-/
namespace Go.Proofs.YtdpkbfiggbcclaaGreat
open Go.RowKit

/-- Rows of numbers that the call made. -/
structure OG (lo : Nat) (w : World) (A : Option Addr) (m c : Nat) (r : Nat → Nat) : Prop where
  own : Own w lo w.heap.size 3 1 A m c (fun j => .int .i64 (r j : Nat))
section
variable {w w' : World} {A : Option Addr} {c lo m : Nat} {r : Nat → Nat}
theorem OG.keep (h : OG lo w A m c r) (hb : Below w.heap.size w w') : OG lo w' A m c r := ⟨(h.own.keepB hb (Nat.le_refl _)).mono (Nat.le_refl _) hb.size⟩
theorem OG.gv (h : OG lo w A m c r) (vg : VG m r) : GV w A m c r := ⟨vg, h.own.rd⟩
theorem OG.drew (h : OG lo w A m c r) : OG lo w.drew A m c r := ⟨h.own.drew⟩
theorem ON.set {q : Nat} {AL : Option Addr} {cL : Nat} {L : List Nat} (h : ON (q + 1) w AL cL L) (x y : Value) : ON (q + 1) ((w.setCell ⟨q, 0, none⟩ x).setCell ⟨q, 1, none⟩ y) AL cL L :=
  ⟨(h.own.keep (fr2 w q x y) (.inr (Nat.le_refl _))).mono (Nat.le_refl _) (fr2 w q x y).size⟩
end
end Go.Proofs.YtdpkbfiggbcclaaGreat

/-
  Plain: orders in which all between two neighbors are neighbors of both.
-/
namespace Go.Proofs.YtdpkbfiggbcclaaGreat
open Go.RowKit

/-- What lies at j between the places i and k. -/
def Ub (r : Nat → Nat) (l : List Nat) (i k j : Nat) : Prop := (r (l.getD i 0)).testBit (l.getD k 0) = true → (r (l.getD i 0)).testBit (l.getD j 0) = true ∧ (r (l.getD k 0)).testBit (l.getD j 0) = true
def Um (r : Nat → Nat) (l : List Nat) : Prop := ∀ i k j, i < j → j < k → k < l.length → Ub r l i k j
section
variable {r : Nat → Nat} {l : List Nat}
/-- Up to the first place, the second, the third. -/
def Um1 (r : Nat → Nat) (l : List Nat) (i : Nat) : Prop := ∀ i', i' < i → ∀ k j, i' < j → j < k → k < l.length → Ub r l i' k j
def Um2 (r : Nat → Nat) (l : List Nat) (i k : Nat) : Prop := ∀ k', k' < k → ∀ j, i < j → j < k' → Ub r l i k' j
def Um3 (r : Nat → Nat) (l : List Nat) (i k j : Nat) : Prop := ∀ j', i < j' → j' < j → Ub r l i k j'
theorem Um1.zero : Um1 r l 0 := fun i' h => absurd h (by omega)
theorem Um2.zero {i : Nat} : Um2 r l i (i + 2) := fun k' h j h1 h2 => absurd h1 (by omega)
theorem Um3.zero {i k : Nat} : Um3 r l i k (i + 1) := fun j' h1 h2 => absurd h1 (by omega)
theorem Um3.step {i k j : Nat} (h : Um3 r l i k j) (h2 : Ub r l i k j) : Um3 r l i k (j + 1) := fun j' h3 h4 => by
  by_cases e : j' < j
  · exact h j' h3 e
  · obtain rfl : j' = j := by omega
    exact h2
theorem Um2.step {i k : Nat} (h : Um2 r l i k) (h2 : Um3 r l i k k) : Um2 r l i (k + 1) := fun k' h3 j h4 h5 => by
  by_cases e : k' < k
  · exact h k' e j h4 h5
  · obtain rfl : k' = k := by omega
    exact h2 j h4 h5
theorem Um2.skip {i k : Nat} (h : Um2 r l i k) (h2 : (r (l.getD i 0)).testBit (l.getD k 0) = false) : Um2 r l i (k + 1) := h.step fun j _ _ h3 => by rw [h2] at h3; cases h3
theorem Um1.step {i k : Nat} (h : Um1 r l i) (h2 : Um2 r l i k) (hk : l.length ≤ k) : Um1 r l (i + 1) := fun i' h3 k' j h4 h5 h6 => by
  by_cases e : i' < i
  · exact h i' e k' j h4 h5 h6
  · obtain rfl : i' = i := by omega
    exact h2 k' (by omega) j h4 h5
theorem Um1.all {i : Nat} (h : Um1 r l i) (hi : l.length ≤ i) : Um r l := fun i' k j h1 h2 h3 => h i' (by omega) k j h1 h2 h3
end
/-- The vertices of an order as natural numbers. -/
def nats (l : List Int) : List Nat := l.map Int.toNat
theorem LI.ln {w : World} {A : Option Addr} {n c : Nat} {l : List Int} {m : Nat} (h : LI w A n c l) (hV : VZ m l) : LN w A c (nats l) := by
  have hl : (nats l).length = n := by rw [h.len]; unfold nats; simp
  refine ⟨?_⟩
  rw [hl]
  refine h.rd.congr fun k hk => ?_
  have hk2 : k < l.length := by rw [← h.len]; exact hk
  have := (hV.2 _ (getD_mem hk2)).1
  unfold nats
  simp only [List.getD, List.getElem?_map, List.getElem?_eq_getElem hk2, Option.map_some, Option.getD_some] at this ⊢
  omega
end Go.Proofs.YtdpkbfiggbcclaaGreat

/-
  Contracts: orders in which all between two neighbors are neighbors of both: the program's test.
-/
namespace Go.Proofs.YtdpkbfiggbcclaaGreat
open Go.RowKit

theorem LN.cell {w : World} {b o c j : Nat} {l : List Nat} (h : LN w (some ⟨b, o, none⟩) c l) (hj : j < l.length) : w.cell? ⟨b, o + j, none⟩ = some (.int .i64 (l.getD j 0 : Nat)) := by
  rw [h.at hj]; simp [List.getD, hj]
end Go.Proofs.YtdpkbfiggbcclaaGreat

/-
  Contracts: the first order in which all between two neighbors are neighbors of both; is a graph a proper interval graph? The program's.
-/
namespace Go.Proofs.YtdpkbfiggbcclaaGreat
open Go.RowKit

section
variable {A : Option Addr} {m c : Nat} {r : Nat → Nat}
end
set_option maxRecDepth 100000 in
set_option maxHeartbeats 1600000 in
/-- The program's search in what is no graph. -/
theorem firstList_noG {sz : Int} {A : Option Addr} {m c : Nat} {x : Nat → Int} {w : World} {n : Int} {fm fh : FuncId} {cm ch : Array Value} (h : GA w A m c x) (hm : m ≤ 1048576) (hok : okB sz m x = false) :
    Calls Tryz.prog 215 #[.agg #[.int .i64 sz, .slice A m c], .int .i64 n, .func (.func fm) #[] cm, .func (.func fh) #[] ch] w fun e w' => e = .returned (.tuple #[.slice none 0 0, .bool false]) ∧ Below w.heap.size w w' := by
  obtain ⟨W4, hW4⟩ : ∃ W : World, W = ((((w.alloc (Obj.cells #[Value.int IntKind.i64 sz, Value.slice A m c] 28)).alloc (Obj.cells #[Value.int IntKind.i64 n] 3)).alloc (Obj.cells #[.func (.func fm) #[] cm] 137)).alloc (Obj.cells #[.func (.func fh) #[] ch] 137)) := ⟨_, rfl⟩
  have HF4 : Hid (From w W4) := by rw [hW4]; exact (((From.alloc _ _).alloc_ _).alloc_ _).alloc_ _
  have hz4 : w.heap.size + 1 + 1 + 1 + 1 = W4.heap.size := by rw [hW4]; simp
  have a0 : W4.cell? ⟨w.heap.size, 0, none⟩ = some (.int .i64 sz) := by rw [hW4]; simp [go_sem]
  have a1 : W4.cell? ⟨w.heap.size, 1, none⟩ = some (.slice A m c) := by rw [hW4]; simp [go_sem]
  obtain ⟨W, hW⟩ : ∃ W : World, W = W4.alloc (Obj.cells #[.func (.func 321) #[] #[.pointer (some ⟨w.heap.size + 1, 0, none⟩), .pointer (some ⟨w.heap.size + 1 + 1 + 1, 0, none⟩), .pointer (some ⟨w.heap.size, 0, none⟩), .pointer (some ⟨w.heap.size + 1 + 1, 0, none⟩), .pointer (some ⟨W4.heap.size, 0, none⟩)]] 96) := ⟨_, rfl⟩
  have hbW : Below W4.heap.size W4 W := by rw [hW]; exact (Below.refl _ _).alloc (Nat.le_refl _) _
  have HB : Hid (From w W) := HF4.out.keep hbW
  have c1 : w.heap.size < W4.heap.size := by omega
  have e0 := up hbW a0 (by omega)
  have e1 := up hbW a1 (by omega)
  have HK := Lib.hid (h.keep HB.out.below)
  have HW := Lib.hid hW
  have HW4 := Lib.hid hW4
  have HZ4 := Lib.hid hz4
  have Ho := Lib.hid hok
  clear hW hW4 h hz4 hbW hok HF4
  go_enter Tryz.func215, Tryz.ntmps215
  go_upto_region 2 with (fail)
  rw [← HW4.out, HZ4.out]
  clear HW4
  go_wp2_with fail
  rw [← HW.out]
  clear HW
  refine (IsGraph_any sz A m c x W W.heap.size HK.out.rd (Nat.le_refl _) hm).mono ?_
  rintro e w1 ⟨rfl, hb1⟩
  rw [Ho.out]
  replace HB := Lib.hid (HB.out.keep hb1)
  clear hb1 e0 e1 a0 a1
  go_wp2
  go_ret2
  exact ⟨rfl, HB.out.below⟩
section
variable (sz : Int) (A : Option Addr) (m c : Nat) (x : Nat → Int) (w : World)
end
end Go.Proofs.YtdpkbfiggbcclaaGreat

/-
  Contract: do weights and a limit make a threshold graph? The program's test.
-/
namespace Go.Proofs.YtdpkbfiggbcclaaGreat
open Go.RowKit

/-- The weights are fine up to v; the pairs below v are. -/
def Tw1 (l : List Int) (v : Nat) : Prop := ∀ u, u < v → 0 ≤ l.getD u 0 ∧ l.getD u 0 ≤ 1000000
def Twp (r : Nat → Nat) (l : List Int) (lim : Int) (v k : Nat) : Prop := (r v).testBit k = decide (lim < l.getD k 0 + l.getD v 0)
def Tw2 (r : Nat → Nat) (l : List Int) (lim : Int) (v : Nat) : Prop := ∀ u, u < v → ∀ k, k < u → Twp r l lim u k
section
variable {r : Nat → Nat} {m v k : Nat} {l : List Int} {lim : Int}
theorem Tw1.zero : Tw1 l 0 := fun u h => absurd h (by omega)
theorem Tw2.zero : Tw2 r l lim 0 := fun u h => absurd h (by omega)
theorem Tw1.step (h : Tw1 l v) (h2 : 0 ≤ l.getD v 0 ∧ l.getD v 0 ≤ 1000000) : Tw1 l (v + 1) := fun u hu => by
  by_cases e : u < v
  · exact h u e
  · obtain rfl : u = v := by omega
    exact h2
theorem Tw2.step (h : Tw2 r l lim v) (h2 : ∀ k, k < v → Twp r l lim v k) : Tw2 r l lim (v + 1) := fun u hu => by
  by_cases e : u < v
  · exact h u e
  · obtain rfl : u = v := by omega
    exact h2
end
end Go.Proofs.YtdpkbfiggbcclaaGreat
