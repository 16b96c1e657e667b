/-
  Several texts in one.
-/
import Derived.Test.YtjonhbmgmamchaaGreatDoorRdSet2P
import Derived.Test.YtjonhbmgmamchaaGreatDoorRdBndP
import Derived.Test.YtjonhbmgmamchaaGreatDoorRdGA
import Derived.Test.YtjonhbmgmamchaaGreatDoorRdGB
import Derived.Test.YtjonhbmgmamchaaGreatDoorRdFirst
import Derived.Test.YtjonhbmgmamchaaGreatDoorRdUmbI
import Derived.Test.YtjonhbmgmamchaaGreatDoorRdV
import Derived.Test.YtjonhbmgmamchaaGreatDoorRdSet2S
/-
  Plain: the least band, the least greatest front, the least width over all orders, and what the reference computes for them.
-/
namespace Go.Proofs.YtjonhbmgmamchaaGreatDoor

noncomputable def bdP (r : Nat → Nat) (q : List Nat) : Int := ((bdV r q : Nat) : Int)
noncomputable def cuP (r : Nat → Nat) (m : Nat) (q : List Nat) : Int := ((csW (fun S _ => fwN r S) q m : Nat) : Int)
noncomputable def wiP (r : Nat → Nat) (m : Nat) (q : List Nat) : Int := ((mwK (fl r (q.map fun v : Nat => (v : Int)) m) (q.map fun v : Nat => (v : Int)) m : Nat) : Int)
noncomputable def bwI (r : Nat → Nat) (m : Nat) : Int := (boF (bdP r) (visG m (fun _ => true) m [])).2
noncomputable def pwI (r : Nat → Nat) (m : Nat) : Int := (boF (cuP r m) (visG m (fun _ => true) m [])).2
noncomputable def trI (r : Nat → Nat) (m : Nat) : Int := (boF (wiP r m) (visG m (fun _ => true) m [])).2
section
variable {r : Nat → Nat} {m k : Nat} {o : List Nat}
theorem pwI_is (vg : VG m r) : pwI r m = ((wdF (fun S _ => fwN r S) m (2 ^ m - 1) : Nat) : Int) := by
  obtain ⟨⟨q, hq, e⟩, h⟩ := pw_min vg
  refine boF_is (fun l => Int.natCast_nonneg _) ⟨q, hq, congrArg (fun n : Nat => (n : Int)) e⟩ (fun q a b c => ?_)
  exact Int.ofNat_le.2 (h q a b c)
theorem trI_is (vg : VG m r) : trI r m = ((wdF (fun S v => cn (rchN r m S v)) m (2 ^ m - 1) : Nat) : Int) := by
  obtain ⟨⟨q, hq, e⟩, h⟩ := tw_min vg
  refine boF_is (fun l => Int.natCast_nonneg _) ⟨q, hq, congrArg (fun n : Nat => (n : Int)) e⟩ (fun q a b c => ?_)
  exact Int.ofNat_le.2 (h q a b c)
theorem bwI_is (h1 : seaG m (bdB r k) (fun _ => true) m [] = some o) (h2 : ∀ j, j < k → seaG m (bdB r j) (fun _ => true) m [] = none) : bwI r m = ((bdV r o : Nat) : Int) := by
  obtain ⟨ho, h⟩ := bd_law h1 h2
  refine boF_is (fun l => Int.natCast_nonneg _) ⟨o, ho, rfl⟩ (fun q a b c => ?_)
  exact Int.ofNat_le.2 (h q a b c)
theorem wdF_top {c : Nat → Nat → Nat} {S : Nat} : wdF c m S ≤ m := by
  by_cases h : S = 0
  · subst h; rw [wdF_zero]; exact Nat.zero_le _
  · rw [wdF_pos h]
    have : ∀ k, wdK c m (wdF c m) S k ≤ m := by
      intro k
      induction k with
      | zero => exact Nat.le_refl _
      | succ k ih =>
        cases hb : S.testBit k with
        | true => rw [wdK_yes hb]; exact Nat.le_trans (Nat.min_le_left _ _) ih
        | false => rw [wdK_no hb]; exact ih
    exact this m
theorem bwI_low (hm : 1 ≤ m) : ∃ n : Nat, bwI r m = (n : Int) ∧ n ≤ m := by
  obtain ⟨⟨l, hl, e⟩, _⟩ := boF_min (p := bdP r) (fun l => Int.natCast_nonneg _) (visG_some (m := m))
  refine ⟨bdV r l, e, ?_⟩
  have := bdV_le (r := r) (q := l) (m := m) (by rw [(visG_all.1 hl).1]; exact Nat.le_refl _)
  omega
theorem pwI_low (vg : VG m r) : ∃ n : Nat, pwI r m = (n : Int) ∧ n ≤ m := ⟨_, pwI_is vg, wdF_top⟩
theorem trI_low (vg : VG m r) : ∃ n : Nat, trI r m = (n : Int) ∧ n ≤ m := ⟨_, trI_is vg, wdF_top⟩
end
end Go.Proofs.YtjonhbmgmamchaaGreatDoor

/-
  Plain: a matching with most edges among some that avoid a set, earlier ones preferred; both sides' choice.
-/
namespace Go.Proofs.YtjonhbmgmamchaaGreatDoor

/-- An edge that has a vertex of a set. -/
def maB (u : Nat) (e : Nat × Nat) : Bool := u.testBit e.1 || u.testBit e.2
def maL : List (Nat × Nat) → Nat → List (Nat × Nat)
  | [], _ => []
  | e :: es, u => if maB u e = true then maL es u
    else if (maL es u).length ≤ (maL es (u ||| 2 ^ e.1 ||| 2 ^ e.2)).length + 1 then e :: maL es (u ||| 2 ^ e.1 ||| 2 ^ e.2) else maL es u
section
variable {e : Nat × Nat} {es : List (Nat × Nat)} {u : Nat}
theorem maL_hit (h : maB u e = true) : maL (e :: es) u = maL es u := by rw [maL, if_pos h]
theorem maL_with (h : maB u e = false) (hl : (maL es u).length ≤ (maL es (u ||| 2 ^ e.1 ||| 2 ^ e.2)).length + 1) : maL (e :: es) u = e :: maL es (u ||| 2 ^ e.1 ||| 2 ^ e.2) := by
  rw [maL, if_neg (by rw [h]; simp), if_pos hl]
theorem maL_rest (h : maB u e = false) (hl : ¬ (maL es u).length ≤ (maL es (u ||| 2 ^ e.1 ||| 2 ^ e.2)).length + 1) : maL (e :: es) u = maL es u := by
  rw [maL, if_neg (by rw [h]; simp), if_neg hl]
theorem maL_sub : ∀ (es : List (Nat × Nat)) (u : Nat), (maL es u).Sublist es
  | [], _ => List.Sublist.slnil
  | e :: es, u => by
    rw [maL]
    split
    · exact (maL_sub es u).cons e
    · split
      · exact (maL_sub es _).cons_cons e
      · exact (maL_sub es u).cons e
theorem maL_len : (maL es u).length ≤ es.length := (maL_sub es u).length_le
end
end Go.Proofs.YtjonhbmgmamchaaGreatDoor

/-
  Plain: the arcs that an arc forces, all that it forces in the order of a search by breadth, an orientation out of them.
-/
namespace Go.Proofs.YtjonhbmgmamchaaGreatDoor

section
variable {r : Nat → Nat} {m a b v k : Nat}
/-- The program's way through the arcs with the same tail. -/
theorem listN_filter {s : Nat} (hs : s < 2 ^ m) (hm : m ≤ 7) : listN s = (List.range m).filter fun c => s.testBit c := by
  obtain ⟨d, hd⟩ : ∃ d, 7 = m + d := ⟨7 - m, by omega⟩
  unfold listN listK
  rw [hd, List.range_add, List.filter_append]
  have : ((List.range d).map (m + ·)).filter (fun c => s.testBit c) = [] := by
    rw [List.filter_eq_nil_iff]
    intro c hc
    obtain ⟨e, _, rfl⟩ := List.mem_map.1 hc
    intro hb
    have := bit_lt hs hb
    omega
  rw [this, List.append_nil]
end
section
variable {r : Nat → Nat} {m a b k : Nat} {o l : List (Nat × Nat)} {p : Nat × Nat}
end
/-- Edges one after the other. -/
def edN (r : Nat → Nat) (m : Nat) : List (Nat × Nat) := (pr m).filter fun p => (r p.1).testBit p.2
section
variable {r s : Nat → Nat} {m : Nat} {L : List (Nat × Nat)} {p : Nat × Nat}
theorem mem_edN : p ∈ edN r m ↔ (p.1 < p.2 ∧ p.2 < m) ∧ (r p.1).testBit p.2 = true := by unfold edN; rw [List.mem_filter, mem_pr]
theorem edN_len (hm : m ≤ 7) : (edN r m).length ≤ 21 := Nat.le_trans (List.length_filter_le _ _) (length_pr_le hm)
end
end Go.Proofs.YtjonhbmgmamchaaGreatDoor

/-
  A claim as it lies in memory; contracts of the law's helpers on claims: size, copy, compare.
-/
namespace Go.Proofs.YtjonhbmgmamchaaGreatDoor
open Go.RowKit

/-- A claim: kind, graph, class, numbers, others, edges, each slice with its place. -/
structure Clm where
  K : Int
  s : Int
  A0 : Option Addr
  n0 : Nat
  c0 : Nat
  x0 : Nat → Int
  t : ByteArray
  A1 : Option Addr
  n1 : Nat
  c1 : Nat
  x1 : Nat → Int
  A2 : Option Addr
  n2 : Nat
  c2 : Nat
  x2 : Nat → Int
  A3 : Option Addr
  c3 : Nat
  D : List Dsc
section
variable {w w' : World} {lo hi lo' hi' B B' : Nat} {k j : Clm}
end

end Go.Proofs.YtjonhbmgmamchaaGreatDoor

/-
  A claim in a box that may be written.
-/
namespace Go.Proofs.YtjonhbmgmamchaaGreatDoor
open Go.RowKit

/-- The box at q holds the claim k, and may be written. -/
structure KB (w : World) (q : Nat) (k : Clm) : Prop where
  c0 : w.cell? ⟨q, 0, none⟩ = some (.int .i64 k.K)
  c1 : w.cell? ⟨q, 1, none⟩ = some (.int .i64 k.s)
  c2 : w.cell? ⟨q, 2, none⟩ = some (.slice k.A0 k.n0 k.c0)
  c3 : w.cell? ⟨q, 3, none⟩ = some (.string k.t)
  c4 : w.cell? ⟨q, 4, none⟩ = some (.slice k.A1 k.n1 k.c1)
  c5 : w.cell? ⟨q, 5, none⟩ = some (.slice k.A2 k.n2 k.c2)
  c6 : w.cell? ⟨q, 6, none⟩ = some (.slice k.A3 k.D.length k.c3)
  f0 : w.frozen? ⟨q, 0, none⟩ = false
  f1 : w.frozen? ⟨q, 1, none⟩ = false
  f2 : w.frozen? ⟨q, 2, none⟩ = false
  f3 : w.frozen? ⟨q, 3, none⟩ = false
  f4 : w.frozen? ⟨q, 4, none⟩ = false
  f5 : w.frozen? ⟨q, 5, none⟩ = false
  f6 : w.frozen? ⟨q, 6, none⟩ = false
section
variable {w w' : World} {q : Nat} {k j : Clm}
theorem KB.lt (h : KB w q k) : q < w.heap.size := World.block_lt_of_cell? _ _ h.c0
theorem KB.keep (h : KB w q k) (hb : Below w.heap.size w w') : KB w' q k :=
  ⟨up hb h.c0 h.lt, up hb h.c1 h.lt, up hb h.c2 h.lt, up hb h.c3 h.lt, up hb h.c4 h.lt, up hb h.c5 h.lt, up hb h.c6 h.lt, upf hb h.f0 h.lt, upf hb h.f1 h.lt, upf hb h.f2 h.lt, upf hb h.f3 h.lt, upf hb h.f4 h.lt, upf hb h.f5 h.lt, upf hb h.f6 h.lt⟩
end
end Go.Proofs.YtjonhbmgmamchaaGreatDoor

/-
  Plain: the least dominating set, the greatest packing, the gap between them; the claim of a packing.
-/
namespace Go.Proofs.YtjonhbmgmamchaaGreatDoor

def fdN (r : Nat → Nat) (m : Nat) : Nat := (fwK (domB r m) (2 ^ m)).getD 0
theorem fd_some {r : Nat → Nat} {m : Nat} (h : VG m r) : fwK (domB r m) (2 ^ m) = some (fdN r m) := by
  unfold fdN
  cases e : fwK (domB r m) (2 ^ m) with
  | none => exact absurd e (fwK_some _ (2 ^ m - 1) (by have := Nat.two_pow_pos m; omega) (dom_all h))
  | some b => rfl
theorem fd_lt {r : Nat → Nat} {m : Nat} (h : VG m r) : fdN r m < 2 ^ m := (fwK_lt _ _ (fd_some h)).1
end Go.Proofs.YtjonhbmgmamchaaGreatDoor
