/-
  A claim as it lies in memory; contracts of the law's helpers on claims: size, copy, compare.
-/
import Derived.Test.YtmkahbephidmbaaQcGB
import Derived.Test.YtmkahbephidmbaaQcGL
namespace Go.Proofs.Ytmkahbephidmbaa
open Go.RowKit

/-- A claim: kind, graph, class, numbers, others, edges, each slice with its place. -/
structure Clm where
  K : Int
  s : Int
  A0 : Option Addr
  n0 : Nat
  c0 : Nat
  x0 : Nat → Int
  t : ByteArray
  A1 : Option Addr
  n1 : Nat
  c1 : Nat
  x1 : Nat → Int
  A2 : Option Addr
  n2 : Nat
  c2 : Nat
  x2 : Nat → Int
  A3 : Option Addr
  c3 : Nat
  D : List Dsc
def RdK (w : World) (B : Nat) (k : Clm) : Prop := Rd w B k.A0 k.n0 k.c0 k.x0 ∧ Rd w B k.A1 k.n1 k.c1 k.x1 ∧ Rd w B k.A2 k.n2 k.c2 k.x2 ∧ RdD w B k.A3 k.c3 k.D
def OwnK (w : World) (lo hi : Nat) (k : Clm) : Prop := Own w lo hi 3 1 k.A0 k.n0 k.c0 (fun j => .int .i64 (k.x0 j)) ∧ Own w lo hi 3 1 k.A1 k.n1 k.c1 (fun j => .int .i64 (k.x1 j)) ∧ Own w lo hi 3 1 k.A2 k.n2 k.c2 (fun j => .int .i64 (k.x2 j)) ∧ OwnD w lo hi k.A3 k.c3 k.D
def SameK (a b : Clm) : Prop := a.K = b.K ∧ a.s = b.s ∧ a.n0 = b.n0 ∧ a.x0 = b.x0 ∧ a.t = b.t ∧ a.n1 = b.n1 ∧ a.x1 = b.x1 ∧ a.n2 = b.n2 ∧ a.x2 = b.x2 ∧ lists a.D = lists b.D

section
variable {w w' : World} {lo hi lo' hi' B B' : Nat} {k j : Clm}
theorem RdK.keep (h : RdK w B k) (hb : Below B w w') (hB : B ≤ B') : RdK w' B' k := ⟨h.1.keep hb hB, h.2.1.keep hb hB, h.2.2.1.keep hb hB, h.2.2.2.keep hb hB⟩
theorem OwnK.keepB (h : OwnK w lo hi k) (hf : Below B w w') (hB : hi ≤ B) : OwnK w' lo hi k := ⟨h.1.keepB hf hB, h.2.1.keepB hf hB, h.2.2.1.keepB hf hB, h.2.2.2.keepB hf hB⟩
theorem OwnK.keep {a b : Nat} (h : OwnK w lo hi k) (hf : Fr a b w w') (hab : hi ≤ a ∨ b ≤ lo) : OwnK w' lo hi k := ⟨h.1.keep hf hab, h.2.1.keep hf hab, h.2.2.1.keep hf hab, h.2.2.2.keep hf hab⟩
theorem OwnK.mono (h : OwnK w lo hi k) (h1 : lo' ≤ lo) (h2 : hi ≤ hi') : OwnK w lo' hi' k := ⟨h.1.mono h1 h2, h.2.1.mono h1 h2, h.2.2.1.mono h1 h2, h.2.2.2.mono h1 h2⟩
theorem SameK.symm (h : SameK k j) : SameK j k := by
  obtain ⟨h1, h2, h3, h4, h5, h6, h7, h8, h9, h10⟩ := h
  exact ⟨h1.symm, h2.symm, h3.symm, h4.symm, h5.symm, h6.symm, h7.symm, h8.symm, h9.symm, h10.symm⟩
theorem SameK.trans {i : Clm} (h : SameK i k) (g : SameK k j) : SameK i j := by
  obtain ⟨h1, h2, h3, h4, h5, h6, h7, h8, h9, h10⟩ := h
  obtain ⟨g1, g2, g3, g4, g5, g6, g7, g8, g9, g10⟩ := g
  exact ⟨h1.trans g1, h2.trans g2, h3.trans g3, h4.trans g4, h5.trans g5, h6.trans g6, h7.trans g7, h8.trans g8, h9.trans g9, h10.trans g10⟩
end

end Go.Proofs.Ytmkahbephidmbaa
