/-
  Several texts in one: words for memory, plain laws and contracts that the later texts lean on.
-/
import Derived.Test.YtdpkbfiggbcclaaGreatQjV
import Derived.Test.YtdpkbfiggbcclaaGreatQjGA
import Derived.Test.YtdpkbfiggbcclaaGreatQjSet2I
import Derived.Test.YtdpkbfiggbcclaaGreatQjListS
import Derived.Test.YtdpkbfiggbcclaaGreatQjTake
import Derived.Test.YtdpkbfiggbcclaaGreatQjBarP
import Derived.Test.YtdpkbfiggbcclaaGreatQjColI
import Derived.Test.YtdpkbfiggbcclaaGreatQjFirst
import Derived.Test.YtdpkbfiggbcclaaGreatQjGB
import Derived.Test.YtdpkbfiggbcclaaGreatRows
import Derived.Deep.RegionHeld3
import Derived.Deep.QuietTactic
import Derived.BigQuiet
import Derived.ProofKit
import Derived.OpenShut
import Derived.ShutString
import Derived.Lib.SmallJoins
import Derived.Carry
import Derived.Deep.Slices
import Derived.Deep.Fields
import Derived.ChangeSame
/-
  Contracts: what a search for a list leaves; the program's search for the least set.
-/
namespace Go.Proofs.YtdpkbfiggbcclaaGreat
open Go.RowKit

/-- A list and whether there is one. -/
def lsQ (w : World) (o : Option (List Nat)) (e : Ending) (w' : World) : Prop :=
  ∃ A' c', e = .returned (.tuple #[.slice A' (o.getD []).length c', .bool o.isSome]) ∧ ON w.heap.size w' A' c' (o.getD []) ∧ Below w.heap.size w w'
theorem lsQ.no {w w' : World} (hb : Below w.heap.size w w') : lsQ w none (.returned (.tuple #[.slice none 0 0, .bool false])) w' := ⟨none, 0, rfl, ⟨Own.nil _ _ _ _ _ _⟩, hb⟩
theorem lsQ.yes {w w' : World} {A : Option Addr} {c : Nat} {l : List Nat} (ho : ON w.heap.size w' A c l) (hb : Below w.heap.size w w') : lsQ w (some l) (.returned (.tuple #[.slice A l.length c, .bool true])) w' := ⟨A, c, rfl, ho, hb⟩
theorem lsQ.up {w w' : World} {o : Option (List Nat)} {e : Ending} {W : World} (h : lsQ W o e w') (hb : Below w.heap.size w W) : lsQ w o e w' := by
  obtain ⟨A, c, h1, h2, h3⟩ := h
  exact ⟨A, c, h1, h2.mono hb.size, hb.trans (h3.mono hb.size)⟩
/-- append of a list onto a new empty one. -/
theorem wpList_copyN (W : World) {ops : Array Oper} {rest : List Oper} {o : Oper} {a : Act} {Q : Exit → Act → World → Prop} (hgd : o.guard = none) (s z : Operand)
    (ho : o.op = .call { callee := .builtin .append, args := #[s, z], argTypes := #[22, 22] })
    (Al : Option Addr) (cl : Nat) (l : List Nat) (h : LN W Al cl l) (hl : l.length ≤ 1073741824) (H : Nat) (hH : W.heap.size = H) (hs : a.eval s = .slice (some ⟨H, 0, none⟩) 0 0) (hz : a.eval z = .slice Al l.length cl)
    (hK : ∀ A' c' w', Own w' W.heap.size w'.heap.size 3 1 A' l.length c' (ni l) → Below W.heap.size W w' → wpList Tryz.prog ops Q rest (a.put o.dst (.slice A' l.length c')) w') :
    wpList Tryz.prog ops Q (o :: rest) a (W.alloc (Obj.cells #[] 3)) := by
  subst hH
  have HO : Own (W.alloc (Obj.cells #[] 3)) W.heap.size (W.heap.size + 1) 3 1 (some ⟨W.heap.size, 0, none⟩) 0 0 (ni []) :=
    .inr ⟨W.heap.size, #[], rfl, Nat.le_refl _, Nat.lt_succ_self _, heap_alloc_new W _, Nat.le_refl _, by unfold maxLen; omega, rfl, fun j hj => absurd hj (by omega)⟩
  have HB : Below W.heap.size W (W.alloc (Obj.cells #[] 3)) := (Below.refl _ _).alloc (Nat.le_refl _) _
  refine wpList_appendI _ hgd s z ho hs HO hz (h.rd.keep HB (Nat.le_refl _)) HB.size (by omega) hl fun A' c' w' h1 h2 => ?_
  have h3 : Own w' W.heap.size w'.heap.size 3 1 A' l.length c' (ni l) := by
    have := h1
    rw [Nat.zero_add] at this
    exact this.congr fun j hj => by unfold thenI ni; simp
  have := hK A' c' w' h3 (HB.trans h2)
  rw [Nat.zero_add]
  exact this
section
variable {A : Option Addr} {m c : Nat} {r : Nat → Nat} {fn : FuncId} {caps : Array Value} {p : Nat → Bool}
end
end Go.Proofs.YtdpkbfiggbcclaaGreat

/-
  Contracts: the first order for which a number is least, whatever the number is.
-/
namespace Go.Proofs.YtdpkbfiggbcclaaGreat
open Go.RowKit

/-- The captured variables of the search. -/
structure BO (w0 z : World) (H : Nat) (A : Option Addr) (m c : Nat) (fn : FuncId) (caps : Array Value) (s : List Nat × Int) : Prop where
  fr : From w0 z
  c0 : z.cell? ⟨H, 0, none⟩ = some (.int .i64 m)
  c1 : z.cell? ⟨H, 1, none⟩ = some (.slice A m c)
  f : z.cell? ⟨H + 1, 0, none⟩ = some (.func (.func fn) #[] caps)
  b : ∃ Ab cb, z.cell? ⟨H + 2, 0, none⟩ = some (.slice Ab s.1.length cb) ∧ ON (H + 4) z Ab cb s.1
  n : z.cell? ⟨H + 3, 0, none⟩ = some (.int .i64 s.2)
  fb : z.frozen? ⟨H + 2, 0, none⟩ = false
  fn : z.frozen? ⟨H + 3, 0, none⟩ = false
theorem BO.keep {w0 z z' : World} {H m c : Nat} {A : Option Addr} {fn : FuncId} {caps : Array Value} {s : List Nat × Int} (h : BO w0 z H A m c fn caps s) (hb : Below z.heap.size z z') : BO w0 z' H A m c fn caps s := by
  obtain ⟨Ab, cb, hc, ho⟩ := h.b
  exact ⟨h.fr.keep hb, up_ hb h.c0, up_ hb h.c1, up_ hb h.f, ⟨Ab, cb, up_ hb hc, ho.keep hb⟩, up_ hb h.n, upf hb h.fb (World.block_lt_of_cell? _ _ hc), upf hb h.fn (World.block_lt_of_cell? _ _ h.n)⟩

theorem always_n (A : Option Addr) (n c : Nat) (w : World) : Calls Tryz.prog 222 #[.slice A n c] w fun e w' => e = .returned (.bool true) ∧ Below w.heap.size w w' := by
  go_enter Tryz.func222, Tryz.ntmps222
  go_wp2
  go_ret
  exact ⟨rfl, Below.refl _ _⟩

section
variable {m c H : Nat} {A : Option Addr} {r : Nat → Nat} {fn : FuncId} {caps : Array Value} {p : List Nat → Int} {w0 : World}
end
end Go.Proofs.YtdpkbfiggbcclaaGreat

/-
  Contracts: the first place of a list at which something holds, whatever it is.
-/
namespace Go.Proofs.YtdpkbfiggbcclaaGreat
open Go.RowKit

theorem LN.li {w : World} {A : Option Addr} {c : Nat} {l : List Nat} (h : LN w A c l) : LI w A l.length c (l.map fun v : Nat => (v : Int)) :=
  ⟨by simp, h.rd.congr fun k hk => by simp [List.getD, hk]⟩
section
variable {fn : FuncId} {caps : Array Value} {p : Int → Bool}
end
end Go.Proofs.YtdpkbfiggbcclaaGreat

/-
  Contracts: the neighbours of a vertex that stand behind it in an order: both programs'.
-/
namespace Go.Proofs.YtdpkbfiggbcclaaGreat
open Go.RowKit

/-- An order has every vertex. -/
theorem VZ.all {m : Nat} {l : List Int} (h : VZ m l) (hl : l.length = m) {v : Int} (h0 : 0 ≤ v) (h1 : v < m) : v ∈ l := by
  refine Classical.byContradiction fun hn => ?_
  have : VZ m (v :: l) := ⟨List.nodup_cons.2 ⟨hn, h.1⟩, fun u hu => by
    rw [List.mem_cons] at hu
    rcases hu with rfl | hu
    · exact ⟨h0, h1⟩
    · exact h.2 u hu⟩
  have := this.len
  rw [List.length_cons] at this
  omega
end Go.Proofs.YtdpkbfiggbcclaaGreat

/-
  Several texts in one: words for memory, plain laws and contracts that the later texts lean on.
-/
/-
  Contracts of the law's helpers on slices of edits.
-/
namespace Go.Proofs.YtdpkbfiggbcclaaGreat
open Go.RowKit

end Go.Proofs.YtdpkbfiggbcclaaGreat

/-
  Contracts of the law's helpers on slices of at most nine strings.
-/
namespace Go.Proofs.YtdpkbfiggbcclaaGreat
open Go.RowKit

end Go.Proofs.YtdpkbfiggbcclaaGreat

/-
  How the laws' arguments read: slices of integers, graphs, integers, strings.
-/
namespace Go.Proofs.YtdpkbfiggbcclaaGreat
open Go.ChangeShapes Go.WideShapes Go.ChangeAt Go.RowKit

theorem own : ownKnob Tryz.prog.godebug = none := by kernel_rfl
theorem laidOut : laidOutB Tryz.prog = true := by kernel_rfl

section
variable {H : Type} {enc : TypeId × Value → H} {w : World} {base : Nat} {spare : Nat → Bool} {held : Bool}

theorem rd_of_cells {a : Addr} {n c : Nat} {x : Nat → Int} (hl : n ≤ c) (hc : ∀ i, i < n → w.cell? (a.add i) = some (.int .i64 (x i))) : Rd w w.heap.size (some a) n c x := by
  refine ⟨hl, fun hn => ?_⟩
  obtain ⟨b, o, s⟩ := a
  have h0 := hc 0 hn
  have hs : s = none := by simpa [Addr.add] using World.cell?_spot h0
  subst hs
  have hadd : ∀ k, (⟨b, o, none⟩ : Addr).add k = ⟨b, o + k, none⟩ := fun k => by unfold Addr.add; split <;> simp_all
  refine ⟨b, o, rfl, ?_, fun k hk => by rw [← hadd]; exact hc k hk⟩
  have := World.block_lt_of_cell? w _ h0
  rw [hadd] at this
  exact this

theorem open_intS {fuel : Nat} {v : Value} {y : DataW H × List MemPlace} (h : DataW.trod enc Tryz.prog w base spare held fuel 22 [v] = some y) :
    ∃ A n c x, v = .slice A n c ∧ Rd w w.heap.size A n c x ∧ n ≤ maxLen := by
  rcases open_ints Tryz.underlying22 Tryz.underlying3 (by kernel_rfl) h with ⟨hcs, _⟩ | ⟨a, l, c, zs, hcs, _, hl, hm, hz, _, hcell, _⟩
  · simp only [List.cons.injEq, and_true] at hcs
    exact ⟨none, 0, 0, fun _ => 0, hcs, Rd.nil _ _ _ _ _, Nat.zero_le _⟩
  · simp only [List.cons.injEq, and_true] at hcs
    refine ⟨some a, l, c, fun i => zs.getD i 0, hcs, rd_of_cells hl (fun i hi => hcell i ?_), Nat.le_trans hl hm⟩
    rw [hz]; split <;> omega

set_option maxRecDepth 100000 in
theorem open_graph {r : Reach} {b0 : Nat} {v : Value} {d : DataW H} {p : List MemPlace} (hv : Value.okWide Tryz.prog w r b0 24 v)
    (h : DataW.Trod enc Tryz.prog w base spare held 24 v d p) :
    ∃ sz A n c x, v = .agg #[.int .i64 sz, .slice A n c] ∧ Rd w w.heap.size A n c x ∧ n ≤ maxLen := by
  obtain ⟨v0, v1, y0, y1, m, rfl, _, _, h0, h1⟩ := Go.Joins.open_agg2 Tryz.underlying24 (by kernel_rfl) (by kernel_rfl) hv h
  obtain ⟨sz, e0, _, _⟩ := DataW.trod_int Tryz.underlying3 h0
  simp only [List.cons.injEq, and_true] at e0
  subst e0
  obtain ⟨A, n, c, x, rfl, hr, hn⟩ := open_intS h1
  exact ⟨sz, A, n, c, x, rfl, hr, hn⟩

theorem places_lt {t : TypeId} {v : Value} {d : DataW H} {p : List MemPlace} (h : DataW.Trod enc Tryz.prog w base spare held t v d p) : ∀ x ∈ p, x.block < w.heap.size := by
  obtain ⟨m, hm⟩ := h
  exact DataW.trod_lt m _ _ _ hm
end
end Go.Proofs.YtdpkbfiggbcclaaGreat

/-
  How further arguments read (slices of edits); small laws that the generated walks use.
-/
namespace Go.Proofs.YtdpkbfiggbcclaaGreat
open Go.ChangeShapes Go.WideShapes Go.ChangeAt Go.RowKit Go.Deep

theorem bd {w w' : World} (h : Below w.drew.heap.size w.drew w') : Below w.heap.size w w' := ⟨h.os, h.tape, h.output, h.size, h.block⟩
theorem upFr {lo hi b o : Nat} {W w1 : World} {v : Value} (hf : Fr lo hi W w1) (e : W.cell? ⟨b, o, none⟩ = some v) (h : b < W.heap.size) (h2 : b < lo ∨ hi ≤ b) : w1.cell? ⟨b, o, none⟩ = some v := (hf.cell (p := ⟨b, o, none⟩) h h2).trans e
theorem Own.marked {w : World} {lo hi n c : Nat} {e : TypeId} {A : Option Addr} {k : Int} {x : Nat → Value} (h : Own w lo hi e 1 A n c (mks k x n)) : Own w lo hi e 1 A n c (fun j => .int .i64 (k + j)) :=
  h.congr (fun j hj => by unfold mks; rw [if_pos (by omega)])
section
variable {H : Type} {enc : TypeId × Value → H} {w : World} {base : Nat} {spare : Nat → Bool} {held : Bool}
end
end Go.Proofs.YtdpkbfiggbcclaaGreat

/-
  Contract of the law's helper that asks whether a graph holds its marks.
-/
namespace Go.Proofs.YtdpkbfiggbcclaaGreat
open Go.RowKit

end Go.Proofs.YtdpkbfiggbcclaaGreat

/-
  How arguments read: slices of slices of integers; integers; strings.
-/
namespace Go.Proofs.YtdpkbfiggbcclaaGreat
open Go.ChangeShapes Go.WideShapes Go.ChangeAt Go.RowKit Go.Deep

section
variable {H : Type} {enc : TypeId × Value → H} {w : World} {base : Nat} {spare : Nat → Bool} {held : Bool}
end
end Go.Proofs.YtdpkbfiggbcclaaGreat
