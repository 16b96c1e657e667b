/-
  A claim in a box that may be written.
-/
import Derived.Test.YtnnlmdenffnjbaaQbClaimMark
namespace Go.Proofs.Ytnnlmdenffnjbaa
open Go.RowKit

/-- The box at q holds the claim k, and may be written. -/
structure KB (w : World) (q : Nat) (k : Clm) : Prop where
  c0 : w.cell? ⟨q, 0, none⟩ = some (.int .i64 k.K)
  c1 : w.cell? ⟨q, 1, none⟩ = some (.int .i64 k.s)
  c2 : w.cell? ⟨q, 2, none⟩ = some (.slice k.A0 k.n0 k.c0)
  c3 : w.cell? ⟨q, 3, none⟩ = some (.string k.t)
  c4 : w.cell? ⟨q, 4, none⟩ = some (.slice k.A1 k.n1 k.c1)
  c5 : w.cell? ⟨q, 5, none⟩ = some (.slice k.A2 k.n2 k.c2)
  c6 : w.cell? ⟨q, 6, none⟩ = some (.slice k.A3 k.D.length k.c3)
  f0 : w.frozen? ⟨q, 0, none⟩ = false
  f1 : w.frozen? ⟨q, 1, none⟩ = false
  f2 : w.frozen? ⟨q, 2, none⟩ = false
  f3 : w.frozen? ⟨q, 3, none⟩ = false
  f4 : w.frozen? ⟨q, 4, none⟩ = false
  f5 : w.frozen? ⟨q, 5, none⟩ = false
  f6 : w.frozen? ⟨q, 6, none⟩ = false
def zeroK : Clm := ⟨0, 0, none, 0, 0, fun _ => 0, ⟨#[]⟩, none, 0, 0, fun _ => 0, none, 0, 0, fun _ => 0, none, 0, []⟩
def set7 (w : World) (q : Nat) (k : Clm) : World := (((((((w.setCell ⟨q, 0, none⟩ (.int .i64 k.K)).setCell ⟨q, 1, none⟩ (.int .i64 k.s)).setCell ⟨q, 2, none⟩ (.slice k.A0 k.n0 k.c0)).setCell ⟨q, 3, none⟩ (.string k.t)).setCell ⟨q, 4, none⟩ (.slice k.A1 k.n1 k.c1)).setCell ⟨q, 5, none⟩ (.slice k.A2 k.n2 k.c2)).setCell ⟨q, 6, none⟩ (.slice k.A3 k.D.length k.c3))
section
variable {w w' : World} {q : Nat} {k j : Clm}
theorem KB.lt (h : KB w q k) : q < w.heap.size := World.block_lt_of_cell? _ _ h.c0
theorem KB.keep (h : KB w q k) (hb : Below w.heap.size w w') : KB w' q k :=
  ⟨up hb h.c0 h.lt, up hb h.c1 h.lt, up hb h.c2 h.lt, up hb h.c3 h.lt, up hb h.c4 h.lt, up hb h.c5 h.lt, up hb h.c6 h.lt, upf hb h.f0 h.lt, upf hb h.f1 h.lt, upf hb h.f2 h.lt, upf hb h.f3 h.lt, upf hb h.f4 h.lt, upf hb h.f5 h.lt, upf hb h.f6 h.lt⟩
theorem KB.new (w : World) : KB (w.alloc (Obj.cells #[.int .i64 0, .int .i64 0, .slice none 0 0, .string ⟨#[]⟩, .slice none 0 0, .slice none 0 0, .slice none 0 0] 46)) w.heap.size zeroK := by
  unfold zeroK
  constructor <;> simp [go_sem]
theorem fr7 (w : World) (q : Nat) (k : Clm) : Fr q (q + 1) w (set7 w q k) := by
  unfold set7
  exact (((((((Fr.refl _ _ w).setCell (p := ⟨q, 0, none⟩) (Nat.le_refl _) (Nat.lt_succ_self _) _).setCell (p := ⟨q, 1, none⟩) (Nat.le_refl _) (Nat.lt_succ_self _) _).setCell (p := ⟨q, 2, none⟩) (Nat.le_refl _) (Nat.lt_succ_self _) _).setCell (p := ⟨q, 3, none⟩) (Nat.le_refl _) (Nat.lt_succ_self _) _).setCell (p := ⟨q, 4, none⟩) (Nat.le_refl _) (Nat.lt_succ_self _) _).setCell (p := ⟨q, 5, none⟩) (Nat.le_refl _) (Nat.lt_succ_self _) _).setCell (p := ⟨q, 6, none⟩) (Nat.le_refl _) (Nat.lt_succ_self _) _
theorem From.set7 {w0 : World} (h : From w0 w) (hq : w0.heap.size ≤ q) (k : Clm) : From w0 (set7 w q k) := ⟨h.below.trans ((fr7 w q k).below hq h.below.size)⟩
theorem OwnK.zero (w : World) (lo hi : Nat) : OwnK w lo hi zeroK := ⟨Own.nil _ _ _ _ _ _, Own.nil _ _ _ _ _ _, Own.nil _ _ _ _ _ _, Own.nil _ _ _ _ _ _, (fun d hd => by cases hd), List.Pairwise.nil⟩
theorem ApK.zero : ApK zeroK := ⟨(fun a h => by cases h), (fun a h => by cases h), (fun a h => by cases h), (fun d hd => by cases hd), (fun d hd => by cases hd), (fun d hd => by cases hd)⟩
end
/-- A new slice of one number. -/
theorem own_one (w : World) (v : Int) : Own (w.alloc (Obj.cells #[.int .i64 v] 3)) w.heap.size (w.heap.size + 1) 3 1 (some ⟨w.heap.size, 0, none⟩) 1 1 (fun _ => .int .i64 v) :=
  .inr ⟨w.heap.size, #[.int .i64 v], rfl, Nat.le_refl _, Nat.lt_succ_self _, heap_alloc_new w _, Nat.le_refl _, by unfold maxLen; omega, rfl, fun j hj => by
    have e : j = 0 := by omega
    subst e; rfl⟩
theorem bset {w z : World} {q j : Nat} {x : Value} (h : Below q w z) : Below q w (z.setCell ⟨q, j, none⟩ x) := h.setCell (p := ⟨q, j, none⟩) (Nat.le_refl _) _
theorem balloc {w z : World} {B : Nat} {o : Obj} (hB : B ≤ w.heap.size) (h : Below B w z) : Below B w (z.alloc o) := h.alloc (Nat.le_trans hB h.size) _
theorem own_one' (X : World) (v : Int) {n : Nat} (h : X.heap.size = n) : Own (X.alloc (Obj.cells #[.int .i64 v] 3)) n (n + 1) 3 1 (some ⟨n, 0, none⟩) 1 1 (fun _ => .int .i64 v) := by subst h; exact own_one X v
end Go.Proofs.Ytnnlmdenffnjbaa
