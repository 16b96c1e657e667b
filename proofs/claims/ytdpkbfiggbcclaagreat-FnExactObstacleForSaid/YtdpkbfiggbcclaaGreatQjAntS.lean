/-
  Several texts in one: words for memory, plain laws and contracts that the later texts lean on.
-/
import Derived.Test.YtdpkbfiggbcclaaGreatQjGB
import Derived.Test.YtdpkbfiggbcclaaGreatQjGL
import Derived.Test.YtdpkbfiggbcclaaGreatQjV
import Derived.Test.YtdpkbfiggbcclaaGreatQjBarP
import Derived.Test.YtdpkbfiggbcclaaGreatQjFirst
import Derived.Test.YtdpkbfiggbcclaaGreatQjSet2I
import Derived.Test.YtdpkbfiggbcclaaGreatQjHamT
import Derived.Deep.RegionHeld3
import Derived.Test.YtdpkbfiggbcclaaGreatQjBarS
import Derived.Test.YtdpkbfiggbcclaaGreatQjColI
import Derived.Test.YtdpkbfiggbcclaaGreatQjAntI
import Derived.Test.YtdpkbfiggbcclaaGreatQjHolS
/-
  A claim as it lies in memory; contracts of the law's helpers on claims: size, copy, compare.
-/
namespace Go.Proofs.YtdpkbfiggbcclaaGreat
open Go.RowKit

/-- A claim: kind, graph, class, numbers, others, edges, each slice with its place. -/
structure Clm where
  K : Int
  s : Int
  A0 : Option Addr
  n0 : Nat
  c0 : Nat
  x0 : Nat → Int
  t : ByteArray
  A1 : Option Addr
  n1 : Nat
  c1 : Nat
  x1 : Nat → Int
  A2 : Option Addr
  n2 : Nat
  c2 : Nat
  x2 : Nat → Int
  A3 : Option Addr
  c3 : Nat
  D : List Dsc
def RdK (w : World) (B : Nat) (k : Clm) : Prop := Rd w B k.A0 k.n0 k.c0 k.x0 ∧ Rd w B k.A1 k.n1 k.c1 k.x1 ∧ Rd w B k.A2 k.n2 k.c2 k.x2 ∧ RdD w B k.A3 k.c3 k.D
def OwnK (w : World) (lo hi : Nat) (k : Clm) : Prop := Own w lo hi 3 1 k.A0 k.n0 k.c0 (fun j => .int .i64 (k.x0 j)) ∧ Own w lo hi 3 1 k.A1 k.n1 k.c1 (fun j => .int .i64 (k.x1 j)) ∧ Own w lo hi 3 1 k.A2 k.n2 k.c2 (fun j => .int .i64 (k.x2 j)) ∧ OwnD w lo hi k.A3 k.c3 k.D
def SameK (a b : Clm) : Prop := a.K = b.K ∧ a.s = b.s ∧ a.n0 = b.n0 ∧ a.x0 = b.x0 ∧ a.t = b.t ∧ a.n1 = b.n1 ∧ a.x1 = b.x1 ∧ a.n2 = b.n2 ∧ a.x2 = b.x2 ∧ lists a.D = lists b.D

section
variable {w w' : World} {lo hi lo' hi' B B' : Nat} {k j : Clm}
theorem RdK.keep (h : RdK w B k) (hb : Below B w w') (hB : B ≤ B') : RdK w' B' k := ⟨h.1.keep hb hB, h.2.1.keep hb hB, h.2.2.1.keep hb hB, h.2.2.2.keep hb hB⟩
theorem OwnK.keepB (h : OwnK w lo hi k) (hf : Below B w w') (hB : hi ≤ B) : OwnK w' lo hi k := ⟨h.1.keepB hf hB, h.2.1.keepB hf hB, h.2.2.1.keepB hf hB, h.2.2.2.keepB hf hB⟩
theorem OwnK.keep {a b : Nat} (h : OwnK w lo hi k) (hf : Fr a b w w') (hab : hi ≤ a ∨ b ≤ lo) : OwnK w' lo hi k := ⟨h.1.keep hf hab, h.2.1.keep hf hab, h.2.2.1.keep hf hab, h.2.2.2.keep hf hab⟩
theorem OwnK.mono (h : OwnK w lo hi k) (h1 : lo' ≤ lo) (h2 : hi ≤ hi') : OwnK w lo' hi' k := ⟨h.1.mono h1 h2, h.2.1.mono h1 h2, h.2.2.1.mono h1 h2, h.2.2.2.mono h1 h2⟩
theorem SameK.symm (h : SameK k j) : SameK j k := by
  obtain ⟨h1, h2, h3, h4, h5, h6, h7, h8, h9, h10⟩ := h
  exact ⟨h1.symm, h2.symm, h3.symm, h4.symm, h5.symm, h6.symm, h7.symm, h8.symm, h9.symm, h10.symm⟩
theorem SameK.trans {i : Clm} (h : SameK i k) (g : SameK k j) : SameK i j := by
  obtain ⟨h1, h2, h3, h4, h5, h6, h7, h8, h9, h10⟩ := h
  obtain ⟨g1, g2, g3, g4, g5, g6, g7, g8, g9, g10⟩ := g
  exact ⟨h1.trans g1, h2.trans g2, h3.trans g3, h4.trans g4, h5.trans g5, h6.trans g6, h7.trans g7, h8.trans g8, h9.trans g9, h10.trans g10⟩
end

end Go.Proofs.YtdpkbfiggbcclaaGreat

/-
  Contracts of the law's helpers that mark a claim and ask whether it holds its marks.
-/
namespace Go.Proofs.YtdpkbfiggbcclaaGreat
open Go.RowKit

/-- No two slices of a claim lie at one place. -/
structure ApK (k : Clm) : Prop where
  a01 : ∀ a, k.A0 = some a → k.A1 ≠ some a
  a02 : ∀ a, k.A0 = some a → k.A2 ≠ some a
  a12 : ∀ a, k.A1 = some a → k.A2 ≠ some a
  d0 : ∀ d ∈ k.D, ∀ a, k.A0 = some a → d.1 ≠ some a
  d1 : ∀ d ∈ k.D, ∀ a, k.A1 = some a → d.1 ≠ some a
  d2 : ∀ d ∈ k.D, ∀ a, k.A2 = some a → d.1 ≠ some a
def mkK (q : Int) (k : Clm) : Clm := { k with x0 := fun j => q + j, x1 := fun j => q + k.n0 + j, x2 := fun j => q + k.n0 + k.n1 + j, D := mkD (q + k.n0 + k.n1 + k.n2) k.D }

theorem RdK.held {w : World} {B : Nat} {k : Clm} {q : Int} (h : RdK w B (mkK q k)) : Rd w B k.A0 k.n0 k.c0 (fun j => q + j) ∧ Rd w B k.A1 k.n1 k.c1 (fun j => q + k.n0 + j) ∧ Rd w B k.A2 k.n2 k.c2 (fun j => q + k.n0 + k.n1 + j) ∧ RdD w B k.A3 k.c3 (mkD (q + k.n0 + k.n1 + k.n2) k.D) := h
end Go.Proofs.YtdpkbfiggbcclaaGreat

/-
  A claim in a box that may be written.
-/
namespace Go.Proofs.YtdpkbfiggbcclaaGreat
open Go.RowKit

/-- The box at q holds the claim k, and may be written. -/
structure KB (w : World) (q : Nat) (k : Clm) : Prop where
  c0 : w.cell? ⟨q, 0, none⟩ = some (.int .i64 k.K)
  c1 : w.cell? ⟨q, 1, none⟩ = some (.int .i64 k.s)
  c2 : w.cell? ⟨q, 2, none⟩ = some (.slice k.A0 k.n0 k.c0)
  c3 : w.cell? ⟨q, 3, none⟩ = some (.string k.t)
  c4 : w.cell? ⟨q, 4, none⟩ = some (.slice k.A1 k.n1 k.c1)
  c5 : w.cell? ⟨q, 5, none⟩ = some (.slice k.A2 k.n2 k.c2)
  c6 : w.cell? ⟨q, 6, none⟩ = some (.slice k.A3 k.D.length k.c3)
  f0 : w.frozen? ⟨q, 0, none⟩ = false
  f1 : w.frozen? ⟨q, 1, none⟩ = false
  f2 : w.frozen? ⟨q, 2, none⟩ = false
  f3 : w.frozen? ⟨q, 3, none⟩ = false
  f4 : w.frozen? ⟨q, 4, none⟩ = false
  f5 : w.frozen? ⟨q, 5, none⟩ = false
  f6 : w.frozen? ⟨q, 6, none⟩ = false
def zeroK : Clm := ⟨0, 0, none, 0, 0, fun _ => 0, ⟨#[]⟩, none, 0, 0, fun _ => 0, none, 0, 0, fun _ => 0, none, 0, []⟩
section
variable {w w' : World} {q : Nat} {k j : Clm}
theorem KB.lt (h : KB w q k) : q < w.heap.size := World.block_lt_of_cell? _ _ h.c0
theorem KB.keep (h : KB w q k) (hb : Below w.heap.size w w') : KB w' q k :=
  ⟨up hb h.c0 h.lt, up hb h.c1 h.lt, up hb h.c2 h.lt, up hb h.c3 h.lt, up hb h.c4 h.lt, up hb h.c5 h.lt, up hb h.c6 h.lt, upf hb h.f0 h.lt, upf hb h.f1 h.lt, upf hb h.f2 h.lt, upf hb h.f3 h.lt, upf hb h.f4 h.lt, upf hb h.f5 h.lt, upf hb h.f6 h.lt⟩
theorem KB.new (w : World) : KB (w.alloc (Obj.cells #[.int .i64 0, .int .i64 0, .slice none 0 0, .string ⟨#[]⟩, .slice none 0 0, .slice none 0 0, .slice none 0 0] 54)) w.heap.size zeroK := by
  unfold zeroK
  constructor <;> simp [go_sem]
theorem OwnK.zero (w : World) (lo hi : Nat) : OwnK w lo hi zeroK := ⟨Own.nil _ _ _ _ _ _, Own.nil _ _ _ _ _ _, Own.nil _ _ _ _ _ _, Own.nil _ _ _ _ _ _, (fun d hd => by cases hd), List.Pairwise.nil⟩
theorem ApK.zero : ApK zeroK := ⟨(fun a h => by cases h), (fun a h => by cases h), (fun a h => by cases h), (fun d hd => by cases hd), (fun d hd => by cases hd), (fun d hd => by cases hd)⟩
end
end Go.Proofs.YtdpkbfiggbcclaaGreat

/-
  Contracts: a cover by cliques: the reference's.
-/
namespace Go.Proofs.YtdpkbfiggbcclaaGreat
open Go.RowKit

section
variable {A : Option Addr} {m c : Nat} {r : Nat → Nat}
theorem ComplementOf_sv {w : World} (h : GV w A m c r) :
    Calls Tryz.prog 290 #[.agg #[.int .i64 m, .slice A m c]] w fun e w' => ∃ A' c', e = .returned (.tuple #[.agg #[.int .i64 m, .slice A' m c'], .bool true]) ∧ GV w' A' m c' (coR r m) ∧ Below w.heap.size w w' := by
  have hk := ComplementOf_s (m : Int) A m c _ w ⟨h.rd⟩ (by have := h.vg.n7; omega)
  rw [h.ok] at hk
  refine hk.mono ?_
  rintro e w' ⟨sz', A', m', c', rfl, h2, h3⟩
  obtain ⟨rfl, rfl, h4⟩ := h2 rfl
  rw [rw_cast] at h4
  exact ⟨A', c', rfl, h4, h3⟩

end
end Go.Proofs.YtdpkbfiggbcclaaGreat

/-
  Contracts: the first odd hole of the complement (the reference's).
-/
namespace Go.Proofs.YtdpkbfiggbcclaaGreat
open Go.RowKit

set_option maxRecDepth 100000 in
set_option maxHeartbeats 1600000 in
theorem FindAntihole_sv {A : Option Addr} {m c : Nat} {r : Nat → Nat} {w : World} (h : GV w A m c r) : Calls Tryz.prog 212 #[.agg #[.int .i64 m, .slice A m c]] w (lsQ w (ahO r m)) := by
  obtain ⟨W, hW⟩ : ∃ W : World, W = (w.alloc (Obj.cells #[Value.int IntKind.i64 m, Value.slice A m c] 28)) := ⟨_, rfl⟩
  have HB : Hid (From w W) := by rw [hW]; exact From.alloc _ _
  have HG : Hid (GBox W w.heap.size A m c r) := by rw [hW]; exact h.box
  have HW := Lib.hid hW
  clear hW h
  have e0 := HG.out.c0
  have e1 := HG.out.c1
  go_enter Tryz.func212, Tryz.ntmps212
  go_wp2_with fail
  rw [← HW.out]
  refine (ComplementOf_sv HG.out.gv).mono ?_
  rintro e w1 ⟨A2, c2, rfl, hG2, hb1⟩
  clear HW
  clear e0 e1
  replace HB := Lib.hid (HB.out.keep hb1)
  replace HG := Lib.hid (HG.out.keep hb1)
  clear hb1
  have e0 := HG.out.c0
  have e1 := HG.out.c1
  obtain ⟨W2, hW2⟩ : ∃ W2 : World, W2 = (w1.alloc (Obj.cells #[Value.int IntKind.i64 m, Value.slice A2 m c2] 28)) := ⟨_, rfl⟩
  have hb2 : Below w1.heap.size w1 W2 := by rw [hW2]; exact (Below.refl _ _).alloc (Nat.le_refl _) _
  have HG2 : Hid (GV W2 A2 m c2 (coR r m)) := hG2.keep hb2
  have HQ : Hid (GC W2 w1.heap.size m A2 m c2) := by rw [hW2]; exact GC.new _ _ _ _ _
  have HB2 : Hid (From w W2) := HB.out.keep hb2
  have HZ2 : Hid (w.heap.size ≤ W2.heap.size) := HB2.out.below.size
  have HW2 := Lib.hid hW2
  clear hW2 hb2 hG2 HB HG e0 e1
  have d0 := HQ.out.c0
  have d1 := HQ.out.c1
  go_wp2_with fail
  rw [← HW2.out]
  clear HW2
  refine (FindOddHole_sv HG2.out).mono ?_
  rintro e w3 ⟨A3, c3, rfl, ho3, hb3⟩
  have HO3 := Lib.hid (ho3.mono HZ2.out)
  clear ho3
  clear d0 d1
  replace HB2 := Lib.hid (HB2.out.keep hb3)
  replace HQ := Lib.hid (HQ.out.keep hb3)
  clear hb3
  have d0 := HQ.out.c0
  have d1 := HQ.out.c1
  go_wp2
  go_ret2
  exact ⟨_, _, rfl, HO3.out, HB2.out.below⟩
set_option maxRecDepth 100000 in
set_option maxHeartbeats 1600000 in
theorem FindAntihole_sno (sz : Int) (A : Option Addr) (m c : Nat) (x : Nat → Int) (w : World) (h : GA w A m c x) (hm : m ≤ 1048576) (hok : okB sz m x = false) :
    Calls Tryz.prog 212 #[.agg #[.int .i64 sz, .slice A m c]] w (lsQ w none) := by
  obtain ⟨W, hW⟩ : ∃ W : World, W = (w.alloc (Obj.cells #[Value.int IntKind.i64 sz, Value.slice A m c] 28)) := ⟨_, rfl⟩
  have HB : Hid (From w W) := by rw [hW]; exact From.alloc _ _
  have HK := Lib.hid (h.keep HB.out.below)
  have HC : Hid (GC W w.heap.size sz A m c) := by rw [hW]; exact GC.new _ _ _ _ _
  have HW := Lib.hid hW
  have K1 := Lib.hid (ComplementOf_s sz A m c x W HK.out hm)
  rw [hok] at K1
  clear hW h hok
  go_enter Tryz.func212, Tryz.ntmps212
  have e0 := HC.out.c0
  have e1 := HC.out.c1
  go_wp2_with fail
  rw [← HW.out]
  refine (K1.out).mono ?_
  rintro e w1 ⟨z2, A2, m2, c2, rfl, _, hb1⟩
  clear HW
  clear e0 e1
  replace HB := Lib.hid (HB.out.keep hb1)
  replace HK := Lib.hid (HK.out.keep hb1)
  replace HC := Lib.hid (HC.out.keep hb1)
  clear hb1
  have e0 := HC.out.c0
  have e1 := HC.out.c1
  clear K1
  have HON : Hid (ON w1.heap.size ((w1.alloc (Obj.cells #[Value.int IntKind.i64 z2, Value.slice A2 m2 c2] 28)).alloc (Obj.cells #[] 3)) (some ⟨w1.heap.size + 1, 0, none⟩) 0 []) := by
    have := ON.nil (w1.alloc (Obj.cells #[Value.int IntKind.i64 z2, Value.slice A2 m2 c2] 28))
    have e : (w1.alloc (Obj.cells #[Value.int IntKind.i64 z2, Value.slice A2 m2 c2] 28)).heap.size = w1.heap.size + 1 := by simp
    rw [e] at this
    exact this.mono (by omega)
  have HBz := Lib.hid ((HB.out.alloc_ (Obj.cells #[Value.int IntKind.i64 z2, Value.slice A2 m2 c2] 28)).alloc_ (Obj.cells #[] 3))
  go_wp2
  go_ret2
  exact ⟨_, _, rfl, HON.out.mono HB.out.below.size, HBz.out.below⟩
end Go.Proofs.YtdpkbfiggbcclaaGreat
