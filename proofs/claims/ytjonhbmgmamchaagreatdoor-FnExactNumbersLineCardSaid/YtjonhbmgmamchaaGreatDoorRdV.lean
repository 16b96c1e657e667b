/-
  A valid graph in memory, by value and in its box; the contracts known so far in these words.
-/
import Derived.Test.YtjonhbmgmamchaaGreatDoorRdGC
import Derived.Test.YtjonhbmgmamchaaGreatDoorRdGB
namespace Go.Proofs.YtjonhbmgmamchaaGreatDoor
open Go.RowKit

/-- The value '.agg #[.int m, .slice A m c]' reads as the valid graph of m vertices with rows r. -/
structure GV (w : World) (A : Option Addr) (m c : Nat) (r : Nat → Nat) : Prop where
  vg : VG m r
  rd : Rd w w.heap.size A m c (fun v => (r v : Int))
/-- Such a graph, and its box at q. -/
structure GBox (w : World) (q : Nat) (A : Option Addr) (m c : Nat) (r : Nat → Nat) : Prop where
  gv : GV w A m c r
  c0 : w.cell? ⟨q, 0, none⟩ = some (.int .i64 m)
  c1 : w.cell? ⟨q, 1, none⟩ = some (.slice A m c)
  lt : q < w.heap.size
theorem rw_cast (r : Nat → Nat) : rw_ (fun v => (r v : Int)) = r := by funext v; simp [rw_]
theorem up_ {b o : Nat} {W w1 : World} {v : Value} (hb : Below W.heap.size W w1) (e : W.cell? ⟨b, o, none⟩ = some v) : w1.cell? ⟨b, o, none⟩ = some v := up hb e (World.block_lt_of_cell? _ _ e)

section
variable {w w' : World} {A : Option Addr} {m c q b o v : Nat} {r : Nat → Nat}
theorem GV.keep (h : GV w A m c r) (hb : Below w.heap.size w w') : GV w' A m c r := ⟨h.vg, h.rd.keep hb hb.size⟩
theorem GV.drewN (h : GV w A m c r) (n : Nat) : GV (w.drewN n) A m c r := ⟨h.vg, h.rd⟩
theorem GV.drew (h : GV w A m c r) : GV w.drew A m c r := ⟨h.vg, h.rd⟩
theorem GV.ok (h : GV w A m c r) : okB m m (fun v => (r v : Int)) = true := okB_yes ⟨r, rfl, h.vg, fun _ _ => rfl⟩
theorem GV.of {x : Nat → Int} {B : Nat} (h : Rd w B A m c x) (hB : B ≤ w.heap.size) (hok : okB m m x = true) : GV w A m c (rw_ x) :=
  ⟨(okB_vg hok).1, (h.keep (Below.refl _ _) hB).congr (okB_vg hok).2⟩
theorem GV.addr (h : GV w A m c r) : ∃ b o, A = some ⟨b, o, none⟩ := by
  obtain ⟨b, o, e, _⟩ := h.rd.pos (by have := h.vg.n1; omega)
  exact ⟨b, o, e⟩
theorem GV.row (h : GV w (some ⟨b, o, none⟩) m c r) (hv : v < m) : w.cell? ⟨b, o + v, none⟩ = some (.int .i64 (r v : Nat)) := by
  obtain ⟨b', o', e, _, hc⟩ := h.rd.pos (by have := h.vg.n1; omega)
  simp only [Option.some.injEq, Addr.mk.injEq, and_true] at e
  obtain ⟨rfl, rfl⟩ := e
  exact hc v hv
theorem GV.bl (h : GV w (some ⟨b, o, none⟩) m c r) : b < w.heap.size := by
  obtain ⟨b', o', e, hb, hc⟩ := h.rd.pos (by have := h.vg.n1; omega)
  simp only [Option.some.injEq, Addr.mk.injEq, and_true] at e
  obtain ⟨rfl, rfl⟩ := e
  exact hb
theorem GV.box (h : GV w A m c r) : GBox (w.alloc (Obj.cells #[Value.int IntKind.i64 m, Value.slice A m c] 27)) w.heap.size A m c r :=
  ⟨h.keep ((Below.refl _ _).alloc (Nat.le_refl _) _), by simp [go_sem], by simp [go_sem], by simp⟩
theorem GBox.keep (h : GBox w q A m c r) (hb : Below w.heap.size w w') : GBox w' q A m c r :=
  ⟨h.gv.keep hb, up hb h.c0 h.lt, up hb h.c1 h.lt, Nat.lt_of_lt_of_le h.lt hb.size⟩
theorem GBox.drewN (h : GBox w q A m c r) (n : Nat) : GBox (w.drewN n) q A m c r := ⟨h.gv.drewN n, h.c0, h.c1, h.lt⟩
theorem GBox.drew (h : GBox w q A m c r) : GBox w.drew q A m c r := ⟨h.gv.drew, h.c0, h.c1, h.lt⟩

theorem IsGraph_v (h : GV w A m c r) : Calls Tryz.prog 26 #[.agg #[.int .i64 m, .slice A m c]] w fun e w' => e = .returned (.bool true) ∧ Below w.heap.size w w' := by
  have := IsGraph_any m A m c _ w w.heap.size h.rd (Nat.le_refl _) (by have := h.vg.n7; omega)
  rwa [h.ok] at this
theorem IsGraph_sv (h : GV w A m c r) : Calls Tryz.prog 10 #[.agg #[.int .i64 m, .slice A m c]] w fun e w' => e = .returned (.bool true) ∧ Below w.heap.size w w' := by
  have := IsGraph_sany m A m c _ w w.heap.size h.rd (Nat.le_refl _) (by have := h.vg.n7; omega)
  rwa [h.ok] at this
theorem all_v (h : GV w A m c r) : Calls Tryz.prog 94 #[.agg #[.int .i64 m, .slice A m c]] w fun e w' => e = .returned (.int .i64 ((2 ^ m - 1 : Nat) : Int)) ∧ Below w.heap.size w w' :=
  all_any m A c w h.vg.n7
theorem isClique_v (h : GV w A m c r) {s : Nat} (hs : s < 2 ^ m) : Calls Tryz.prog 113 #[.agg #[.int .i64 m, .slice A m c], .int .i64 s] w fun e w' => e = .returned (.bool (cliq r s)) ∧ Below w.heap.size w w' := by
  have := isClique_i m A c _ s w w.heap.size h.rd (Nat.le_refl _) h.ok hs
  rwa [rw_cast] at this
theorem IsClique_sv (h : GV w A m c r) {s : Nat} (hs : s < 2 ^ m) : Calls Tryz.prog 83 #[.agg #[.int .i64 m, .slice A m c], .int .i64 s] w fun e w' => e = .returned (.bool (cliq r s)) ∧ Below w.heap.size w w' := by
  have := IsClique_s m A c _ s w w.heap.size h.rd (Nat.le_refl _) h.ok hs
  rwa [rw_cast] at this
theorem IsSet_sv (h : GV w A m c r) {s : Nat} (hs : s < 2 ^ m) : Calls Tryz.prog 86 #[.agg #[.int .i64 m, .slice A m c], .int .i64 s] w fun e w' => e = .returned (.bool true) ∧ Below w.heap.size w w' :=
  IsSet_yes m A c _ s w w.heap.size h.rd (Nat.le_refl _) h.vg.n7 h.ok hs
theorem neighbors_v (h : GV w A m c r) {s : Nat} (hs : s < 2 ^ m) : Calls Tryz.prog 96 #[.agg #[.int .i64 m, .slice A m c], .int .i64 s] w fun e w' => e = .returned (.int .i64 (nb r s : Nat)) ∧ Below w.heap.size w w' := by
  have := neighbors_i m A c _ s w w.heap.size h.rd (Nat.le_refl _) h.ok hs
  rwa [rw_cast] at this
theorem AroundSet_sv (h : GV w A m c r) {s : Nat} (hs : s < 2 ^ m) : Calls Tryz.prog 54 #[.agg #[.int .i64 m, .slice A m c], .int .i64 s] w fun e w' => e = .returned (.int .i64 ((s ||| nb r s : Nat) : Int)) ∧ Below w.heap.size w w' := by
  have := AroundSet_s m A c _ s w w.heap.size h.rd (Nat.le_refl _) h.ok hs
  rwa [rw_cast] at this
theorem l2Edge_v (h : GV w A m c r) {v u : Nat} (hv : v < m) (hu : u < m) : Calls Tryz.prog 87 #[.agg #[.int .i64 m, .slice A m c], .int .i64 v, .int .i64 u] w fun e w' => e = .returned (.bool ((r v).testBit u)) ∧ Below w.heap.size w w' := by
  obtain ⟨b, o, rfl⟩ := h.addr
  have := l2Edge_any m b o m c w v u (r v : Int) (h.row hv) h.bl hv (by omega) (by have := h.vg.lt128 hv; omega) (by have := h.vg.n7; omega)
  simpa using this
theorem has_v {s v : Nat} (w : World) (hs : s < 128) (hv : v < 64) : Calls Tryz.prog 58 #[.int .i64 (s : Int), .int .i64 (v : Int)] w fun e w' => e = .returned (.bool (s.testBit v)) ∧ w = w' := by
  have := has_any s v w (by omega) (by omega) (by omega) (by omega)
  simpa using this
end
/-- The world w is w0 with new memory. -/
structure From (w0 w : World) : Prop where
  below : Below w0.heap.size w0 w
theorem From.refl (w : World) : From w w := ⟨Below.refl _ _⟩
theorem From.keep {w0 w w' : World} (h : From w0 w) (hb : Below w.heap.size w w') : From w0 w' := ⟨h.below.trans (hb.mono h.below.size)⟩
theorem From.alloc (w : World) (o : Obj) : From w (w.alloc o) := ⟨(Below.refl _ _).alloc (Nat.le_refl _) _⟩
theorem From.alloc_ {w0 w : World} (h : From w0 w) (o : Obj) : From w0 (w.alloc o) := h.keep ((Below.refl _ _).alloc (Nat.le_refl _) _)
theorem From.drewN {w0 w : World} (h : From w0 w) (n : Nat) : From w0 (w.drewN n) := ⟨below_drewN h.below n⟩
theorem From.drew {w0 w : World} (h : From w0 w) : From w0 w.drew := h.drewN 1
theorem From.up {w0 w w1 : World} (h : From w0 w) (k : From w w1) : From w0 w1 := h.keep k.below
/-- A slice that reads as a list of numbers that are not negative; one that the call made since w0. -/
structure LN (w : World) (A : Option Addr) (c : Nat) (l : List Nat) : Prop where
  rd : Rd w w.heap.size A l.length c (fun j => ((l.getD j 0 : Nat) : Int))
structure ON (lo : Nat) (w : World) (A : Option Addr) (c : Nat) (l : List Nat) : Prop where
  own : Own w lo w.heap.size 3 1 A l.length c (ni l)
section
variable {w w' : World} {A : Option Addr} {c lo b o j : Nat} {l : List Nat}
theorem LN.keep (h : LN w A c l) (hb : Below w.heap.size w w') : LN w' A c l := ⟨h.rd.keep hb hb.size⟩
theorem ON.keep (h : ON lo w A c l) (hb : Below w.heap.size w w') : ON lo w' A c l := ⟨(h.own.keepB hb (Nat.le_refl _)).mono (Nat.le_refl _) hb.size⟩
theorem ON.mono {lo' : Nat} (h : ON lo w A c l) (hl : lo' ≤ lo) : ON lo' w A c l := ⟨h.own.mono hl (Nat.le_refl _)⟩
theorem ON.ln (h : ON lo w A c l) : LN w A c l := ⟨h.own.rd⟩
theorem LN.addr (h : LN w A c l) (hl : 0 < l.length) : ∃ b o, A = some ⟨b, o, none⟩ := by
  obtain ⟨b, o, e, _⟩ := h.rd.pos hl
  exact ⟨b, o, e⟩
theorem LN.at (h : LN w (some ⟨b, o, none⟩) c l) (hj : j < l.length) : w.cell? ⟨b, o + j, none⟩ = some (.int .i64 (l[j] : Nat)) := by
  obtain ⟨b', o', e, _, hc⟩ := h.rd.pos (by omega)
  simp only [Option.some.injEq, Addr.mk.injEq, and_true] at e
  obtain ⟨rfl, rfl⟩ := e
  rw [hc j hj]; simp [List.getD, hj]
theorem LN.le (h : LN w A c l) : l.length ≤ c := h.rd.le
theorem ON.nil (w : World) : ON w.heap.size (w.alloc (Obj.cells #[] 3)) (some ⟨w.heap.size, 0, none⟩) 0 [] :=
  ⟨.inr ⟨w.heap.size, #[], rfl, Nat.le_refl _, by simp, heap_alloc_new w _, Nat.le_refl _, by unfold maxLen; omega, rfl, fun j hj => absurd hj (by simp)⟩⟩
end
theorem ListOf_v (s : Nat) (hs : s < 128) (w : World) : Calls Tryz.prog 61 #[.int .i64 s] w fun e w' => ∃ A c, e = .returned (.slice A (listN s).length c) ∧ ON w.heap.size w' A c (listN s) ∧ Below w.heap.size w w' :=
  (ListOf_i s hs w).mono fun _ _ ⟨A, c, h1, h2, h3⟩ => ⟨A, c, h1, ⟨h2⟩, h3⟩
/-- A cell. -/
structure CL (w : World) (b o : Nat) (v : Value) : Prop where
  c : w.cell? ⟨b, o, none⟩ = some v
theorem CL.keep {w w' : World} {b o : Nat} {v : Value} (h : CL w b o v) (hb : Below w.heap.size w w') : CL w' b o v := ⟨up_ hb h.c⟩
/-- A function with a body is entered. -/
def Ent (f : FuncId) : Prop := ∀ (args : Array Value) (w : World), (callFunc f args).run Tryz.prog w = .ok (.enter f args) w
theorem ent_of {f : FuncId} {fn : Func} {c : Code} (hf : Tryz.prog.funcs[f]? = some fn) (hname : (fn.name == "runtime.NumGoroutine") = false) (hb : fn.body = some c) : Ent f := by
  intro args w
  have h1 : fn.name ≠ "runtime.NumGoroutine" := by simpa using hname
  simp [callFunc, hf, h1, hb]
theorem frC_ {lo hi b o : Nat} {W w1 : World} {v : Value} (hf : Fr lo hi W w1) (e : W.cell? ⟨b, o, none⟩ = some v) (h : b < W.heap.size) (h2 : b < lo ∨ hi ≤ b) : w1.cell? ⟨b, o, none⟩ = some v := (hf.cell (p := ⟨b, o, none⟩) h h2).trans e
theorem bl_alloc {w z : World} {o : Obj} (h : Below w.heap.size w z) : Below w.heap.size w (z.alloc o) := h.alloc h.size o
theorem bl_set {w z : World} {q j : Nat} {x : Value} (h : Below w.heap.size w z) (hq : w.heap.size ≤ q) : Below w.heap.size w (z.setCell ⟨q, j, none⟩ x) := h.setCell (p := ⟨q, j, none⟩) hq _
theorem bl_trans {w z y : World} (h : Below w.heap.size w z) (k : Below z.heap.size z y) : Below w.heap.size w y := h.trans (k.mono h.size)
/-- A graph's value in a box that may be written. -/
structure GC (w : World) (q : Nat) (sz : Int) (A : Option Addr) (m c : Nat) : Prop where
  c0 : w.cell? ⟨q, 0, none⟩ = some (.int .i64 sz)
  c1 : w.cell? ⟨q, 1, none⟩ = some (.slice A m c)
  f0 : w.frozen? ⟨q, 0, none⟩ = false
  f1 : w.frozen? ⟨q, 1, none⟩ = false
theorem frZ_ {lo hi b o : Nat} {W w1 : World} {v : Bool} (hf : Fr lo hi W w1) (e : W.frozen? ⟨b, o, none⟩ = v) (h : b < W.heap.size) (h2 : b < lo ∨ hi ≤ b) : w1.frozen? ⟨b, o, none⟩ = v := (World.frozen?_of_block (hf.block b h h2)).trans e
section
variable {w w' : World} {q m c m' c' lo hi : Nat} {sz sz' : Int} {A A' : Option Addr}
theorem GC.lt (h : GC w q sz A m c) : q < w.heap.size := World.block_lt_of_cell? _ _ h.c0
theorem GC.keep (h : GC w q sz A m c) (hb : Below w.heap.size w w') : GC w' q sz A m c := ⟨up hb h.c0 h.lt, up hb h.c1 h.lt, upf hb h.f0 h.lt, upf hb h.f1 h.lt⟩
theorem GC.drew (h : GC w q sz A m c) : GC w.drew q sz A m c := ⟨h.c0, h.c1, h.f0, h.f1⟩
theorem GC.keepF (h : GC w q sz A m c) (hf : Fr lo hi w w') (hq : q < lo ∨ hi ≤ q) : GC w' q sz A m c := ⟨frC_ hf h.c0 h.lt hq, frC_ hf h.c1 h.lt hq, frZ_ hf h.f0 h.lt hq, frZ_ hf h.f1 h.lt hq⟩
theorem GC.new (w : World) (sz : Int) (A : Option Addr) (m c : Nat) : GC (w.alloc (Obj.cells #[Value.int IntKind.i64 sz, Value.slice A m c] 27)) w.heap.size sz A m c := by constructor <;> simp [go_sem]
theorem GC.set (h : GC w q sz A m c) : GC ((w.setCell ⟨q, 0, none⟩ (.int .i64 sz')).setCell ⟨q, 1, none⟩ (.slice A' m' c')) q sz' A' m' c' := by
  have h0 := h.c0
  have h1 := h.c1
  have h2 := h.f0
  have h3 := h.f1
  constructor <;> simp [go_sem, h0, h1, h2, h3]
theorem fr2 (w : World) (q : Nat) (x y : Value) : Fr q (q + 1) w ((w.setCell ⟨q, 0, none⟩ x).setCell ⟨q, 1, none⟩ y) :=
  ((Fr.refl _ _ w).setCell (p := ⟨q, 0, none⟩) (Nat.le_refl _) (Nat.lt_succ_self _) _).setCell (p := ⟨q, 1, none⟩) (Nat.le_refl _) (Nat.lt_succ_self _) _
theorem From.set {w0 w : World} (h : From w0 w) (hq : w0.heap.size ≤ q) (x y : Value) : From w0 ((w.setCell ⟨q, 0, none⟩ x).setCell ⟨q, 1, none⟩ y) :=
  ⟨(h.below.setCell (p := ⟨q, 0, none⟩) hq _).setCell (p := ⟨q, 1, none⟩) hq _⟩
end
end Go.Proofs.YtjonhbmgmamchaaGreatDoor
