/-
  Contracts: two bits of a graph turned.
-/
import Derived.Test.YtnnlmdenffnjbaaGraph
import Derived.Test.YtnnlmdenffnjbaaAddP
import Derived.Test.YtnnlmdenffnjbaaLawGraph
import Derived.Test.YtnnlmdenffnjbaaBits
import Derived.Deep.RegionHeld3
namespace Go.Proofs.Ytnnlmdenffnjbaa
open Go.RowKit


theorem bits_flip {a u : Nat} (ha : a < 128) (hu : u < 7) : bits .xor .i64 (a : Int) (2 ^ u) = ((a ^^^ 2 ^ u : Nat) : Int) := by
  have h2 := two_pow_le (n := u) (by omega)
  have := i64_xor_nat a (2 ^ u) (by omega) (by omega)
  rw [← this]; simp
set_option maxHeartbeats 1000000 in
theorem flip_any (sz : Int) (g m c : Nat) (x : Nat → Nat) (v u : Nat) (w : World) (lo hi : Nat) (h : Own w lo hi 3 1 (some ⟨g, 0, none⟩) m c (fun j => .int .i64 (x j))) (_hhi : hi ≤ w.heap.size) (hm : m ≤ 7) (hv : v < m) (hu : u < m) (hne : v ≠ u) (hx : ∀ j, j < m → x j < 128) :
    Calls Try.prog 202 #[.agg #[.int .i64 sz, .slice (some ⟨g, 0, none⟩) m c], .int .i64 v, .int .i64 u] w fun e w' => e = .returned (.tuple #[]) ∧ Own w' lo hi 3 1 (some ⟨g, 0, none⟩) m c (fun j => .int .i64 (addN x v u j)) ∧ Fr lo hi w w' := by
  obtain ⟨g', e1, hg1, hg2, hg3, hc, hf⟩ := h.at_ (by omega)
  simp only [Option.some.injEq, Addr.mk.injEq, and_true] at e1
  subst e1
  have q1 := hc v (by omega)
  have q2 := hc u (by omega)
  have b1 := bits_flip (hx v hv) (u := u) (by omega)
  have b2 := bits_flip (hx u hu) (u := v) (by omega)
  have f1 := hf v
  have f2 := hf u
  have p1 := pow_shl v (by omega)
  have p2 := pow_shl u (by omega)
  have i1 : (v : Int) < (m : Int) := by omega
  have i2 : (u : Int) < (m : Int) := by omega
  have HH := Lib.hid h
  have HX := Lib.hid hx
  clear h hc hf hx
  go_enter Try.func202, Try.ntmps202
  go_wp2_with fail
  go_region
  have hgn : g ≠ w.heap.size := by omega
  have hne2 : (u = v) = False := by simp; omega
  have hne3 : (v = u) = False := by simp; omega
  go_wp2
  go_region
  have O1 : Hid (Own (((w.setCell ⟨g, v, none⟩ (.int .i64 ((x v ^^^ 2 ^ u : Nat) : Int))).setCell ⟨g, u, none⟩ (.int .i64 ((x u ^^^ 2 ^ v : Nat) : Int))).alloc (Obj.cells #[Value.int IntKind.i64 sz, Value.slice (some ⟨g, 0, none⟩) m c] 28)).drew.drew lo hi 3 1 (some ⟨g, 0, none⟩) m c (fun j => .int .i64 (addN x v u j))) := by
    refine (((((HH.out.set_ v _).set_ u _).alloc _).drew).drew).congr (fun j hj => ?_)
    unfold addN
    by_cases h1 : j = u
    · subst h1; rw [if_pos rfl, if_neg (fun e => hne e.symm), if_pos rfl]
    · rw [if_neg h1]
      by_cases h2 : j = v
      · subst h2; rw [if_pos rfl, if_pos rfl]
      · rw [if_neg h2, if_neg h2, if_neg h1]
  have F1 : Hid (Fr lo hi w (((w.setCell ⟨g, v, none⟩ (.int .i64 ((x v ^^^ 2 ^ u : Nat) : Int))).setCell ⟨g, u, none⟩ (.int .i64 ((x u ^^^ 2 ^ v : Nat) : Int))).alloc (Obj.cells #[Value.int IntKind.i64 sz, Value.slice (some ⟨g, 0, none⟩) m c] 28)).drew.drew) :=
    ((((Fr.refl lo hi w).setCell (p := ⟨g, v, none⟩) hg1 hg2 _).setCell (p := ⟨g, u, none⟩) hg1 hg2 _).alloc _).drew.drew
  clear q1 q2 b1 b2 f1 f2 p1 p2
  go_end0
  exact ⟨rfl, O1.out, F1.out⟩
end Go.Proofs.Ytnnlmdenffnjbaa
