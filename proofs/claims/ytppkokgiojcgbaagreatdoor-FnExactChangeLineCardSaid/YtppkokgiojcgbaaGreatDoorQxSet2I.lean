/-
  Several texts in one.
-/
import Derived.Test.YtppkokgiojcgbaaGreatDoorQxGC
import Derived.Test.YtppkokgiojcgbaaGreatDoorQxGB
import Derived.Test.YtppkokgiojcgbaaGreatDoorQxGA
/-
-/
namespace Go.Proofs.YtppkokgiojcgbaaGreatDoor
open Go.RowKit
structure GV (w : World) (A : Option Addr) (m c : Nat) (r : Nat → Nat) : Prop where
 vg : VG m r
 rd : Rd w w.heap.size A m c (fun v => (r v : Int))
structure GBox (w : World) (q : Nat) (A : Option Addr) (m c : Nat) (r : Nat → Nat) : Prop where
 gv : GV w A m c r
 c0 : w.cell? ⟨q, 0, none⟩ = some (.int .i64 m)
 c1 : w.cell? ⟨q, 1, none⟩ = some (.slice A m c)
 lt : q < w.heap.size
theorem rw_cast (r : Nat → Nat) : rw_ (fun v => (r v : Int)) = r := by funext v; simp [rw_]
theorem up_ {b o : Nat} {W w1 : World} {v : Value} (hb : Below W.heap.size W w1) (e : W.cell? ⟨b, o, none⟩ = some v) : w1.cell? ⟨b, o, none⟩ = some v := up hb e (World.block_lt_of_cell? _ _ e)
section
variable {w w' : World} {A : Option Addr} {m c q b o v : Nat} {r : Nat → Nat}
theorem GV.keep (h : GV w A m c r) (hb : Below w.heap.size w w') : GV w' A m c r := ⟨h.vg, h.rd.keep hb hb.size⟩
theorem GV.drewN (h : GV w A m c r) (n : Nat) : GV (w.drewN n) A m c r := ⟨h.vg, h.rd⟩
theorem GV.drew (h : GV w A m c r) : GV w.drew A m c r := ⟨h.vg, h.rd⟩
theorem GV.ok (h : GV w A m c r) : okB m m (fun v => (r v : Int)) = true := okB_yes ⟨r, rfl, h.vg, fun _ _ => rfl⟩
theorem GV.of {x : Nat → Int} {B : Nat} (h : Rd w B A m c x) (hB : B ≤ w.heap.size) (hok : okB m m x = true) : GV w A m c (rw_ x) :=
 ⟨(okB_vg hok).1, (h.keep (Below.refl _ _) hB).congr (okB_vg hok).2⟩
theorem GV.addr (h : GV w A m c r) : ∃ b o, A = some ⟨b, o, none⟩ := by
 obtain ⟨b, o, e, _⟩ := h.rd.pos (by have := h.vg.n1; omega)
 exact ⟨b, o, e⟩
theorem GV.row (h : GV w (some ⟨b, o, none⟩) m c r) (hv : v < m) : w.cell? ⟨b, o + v, none⟩ = some (.int .i64 (r v : Nat)) := by
 obtain ⟨b', o', e, _, hc⟩ := h.rd.pos (by have := h.vg.n1; omega)
 simp only [Option.some.injEq, Addr.mk.injEq, and_true] at e
 obtain ⟨rfl, rfl⟩ := e
 exact hc v hv
theorem GV.bl (h : GV w (some ⟨b, o, none⟩) m c r) : b < w.heap.size := by
 obtain ⟨b', o', e, hb, hc⟩ := h.rd.pos (by have := h.vg.n1; omega)
 simp only [Option.some.injEq, Addr.mk.injEq, and_true] at e
 obtain ⟨rfl, rfl⟩ := e
 exact hb
theorem GV.box (h : GV w A m c r) : GBox (w.alloc (Obj.cells #[Value.int IntKind.i64 m, Value.slice A m c] 29)) w.heap.size A m c r :=
 ⟨h.keep ((Below.refl _ _).alloc (Nat.le_refl _) _), by simp [go_sem], by simp [go_sem], by simp⟩
theorem GBox.keep (h : GBox w q A m c r) (hb : Below w.heap.size w w') : GBox w' q A m c r :=
 ⟨h.gv.keep hb, up hb h.c0 h.lt, up hb h.c1 h.lt, Nat.lt_of_lt_of_le h.lt hb.size⟩
theorem GBox.drewN (h : GBox w q A m c r) (n : Nat) : GBox (w.drewN n) q A m c r := ⟨h.gv.drewN n, h.c0, h.c1, h.lt⟩
theorem GBox.drew (h : GBox w q A m c r) : GBox w.drew q A m c r := ⟨h.gv.drew, h.c0, h.c1, h.lt⟩
theorem IsGraph_v (h : GV w A m c r) : Calls Tryz.prog 61 #[.agg #[.int .i64 m, .slice A m c]] w fun e w' => e = .returned (.bool true) ∧ Below w.heap.size w w' := by
 have := IsGraph_any m A m c _ w w.heap.size h.rd (Nat.le_refl _) (by have := h.vg.n7; omega)
 rwa [h.ok] at this
theorem IsGraph_sv (h : GV w A m c r) : Calls Tryz.prog 64 #[.agg #[.int .i64 m, .slice A m c]] w fun e w' => e = .returned (.bool true) ∧ Below w.heap.size w w' := by
 have := IsGraph_sany m A m c _ w w.heap.size h.rd (Nat.le_refl _) (by have := h.vg.n7; omega)
 rwa [h.ok] at this
theorem all_v (h : GV w A m c r) : Calls Tryz.prog 106 #[.agg #[.int .i64 m, .slice A m c]] w fun e w' => e = .returned (.int .i64 ((2 ^ m - 1 : Nat) : Int)) ∧ Below w.heap.size w w' :=
 all_any m A c w h.vg.n7
theorem isClique_v (h : GV w A m c r) {s : Nat} (hs : s < 2 ^ m) : Calls Tryz.prog 223 #[.agg #[.int .i64 m, .slice A m c], .int .i64 s] w fun e w' => e = .returned (.bool (cliq r s)) ∧ Below w.heap.size w w' := by
 have := isClique_i m A c _ s w w.heap.size h.rd (Nat.le_refl _) h.ok hs
 rwa [rw_cast] at this
theorem IsClique_sv (h : GV w A m c r) {s : Nat} (hs : s < 2 ^ m) : Calls Tryz.prog 242 #[.agg #[.int .i64 m, .slice A m c], .int .i64 s] w fun e w' => e = .returned (.bool (cliq r s)) ∧ Below w.heap.size w w' := by
 have := IsClique_s m A c _ s w w.heap.size h.rd (Nat.le_refl _) h.ok hs
 rwa [rw_cast] at this
theorem IsSet_sv (h : GV w A m c r) {s : Nat} (hs : s < 2 ^ m) : Calls Tryz.prog 153 #[.agg #[.int .i64 m, .slice A m c], .int .i64 s] w fun e w' => e = .returned (.bool true) ∧ Below w.heap.size w w' :=
 IsSet_yes m A c _ s w w.heap.size h.rd (Nat.le_refl _) h.vg.n7 h.ok hs
theorem neighbors_v (h : GV w A m c r) {s : Nat} (hs : s < 2 ^ m) : Calls Tryz.prog 272 #[.agg #[.int .i64 m, .slice A m c], .int .i64 s] w fun e w' => e = .returned (.int .i64 (nb r s : Nat)) ∧ Below w.heap.size w w' := by
 have := neighbors_i m A c _ s w w.heap.size h.rd (Nat.le_refl _) h.ok hs
 rwa [rw_cast] at this
theorem AroundSet_sv (h : GV w A m c r) {s : Nat} (hs : s < 2 ^ m) : Calls Tryz.prog 247 #[.agg #[.int .i64 m, .slice A m c], .int .i64 s] w fun e w' => e = .returned (.int .i64 ((s ||| nb r s : Nat) : Int)) ∧ Below w.heap.size w w' := by
 have := AroundSet_s m A c _ s w w.heap.size h.rd (Nat.le_refl _) h.ok hs
 rwa [rw_cast] at this
theorem l2Edge_v (h : GV w A m c r) {v u : Nat} (hv : v < m) (hu : u < m) : Calls Tryz.prog 70 #[.agg #[.int .i64 m, .slice A m c], .int .i64 v, .int .i64 u] w fun e w' => e = .returned (.bool ((r v).testBit u)) ∧ Below w.heap.size w w' := by
 obtain ⟨b, o, rfl⟩ := h.addr
 have := l2Edge_any m b o m c w v u (r v : Int) (h.row hv) h.bl hv (by omega) (by have := h.vg.lt128 hv; omega) (by have := h.vg.n7; omega)
 simpa using this
theorem has_v {s v : Nat} (w : World) (hs : s < 128) (hv : v < 64) : Calls Tryz.prog 69 #[.int .i64 (s : Int), .int .i64 (v : Int)] w fun e w' => e = .returned (.bool (s.testBit v)) ∧ w = w' := by
 have := has_any s v w (by omega) (by omega) (by omega) (by omega)
 simpa using this
end
structure From (w0 w : World) : Prop where
 below : Below w0.heap.size w0 w
theorem From.refl (w : World) : From w w := ⟨Below.refl _ _⟩
theorem From.keep {w0 w w' : World} (h : From w0 w) (hb : Below w.heap.size w w') : From w0 w' := ⟨h.below.trans (hb.mono h.below.size)⟩
theorem From.alloc (w : World) (o : Obj) : From w (w.alloc o) := ⟨(Below.refl _ _).alloc (Nat.le_refl _) _⟩
theorem From.alloc_ {w0 w : World} (h : From w0 w) (o : Obj) : From w0 (w.alloc o) := h.keep ((Below.refl _ _).alloc (Nat.le_refl _) _)
theorem From.drewN {w0 w : World} (h : From w0 w) (n : Nat) : From w0 (w.drewN n) := ⟨below_drewN h.below n⟩
theorem From.drew {w0 w : World} (h : From w0 w) : From w0 w.drew := h.drewN 1
theorem From.up {w0 w w1 : World} (h : From w0 w) (k : From w w1) : From w0 w1 := h.keep k.below
structure LN (w : World) (A : Option Addr) (c : Nat) (l : List Nat) : Prop where
 rd : Rd w w.heap.size A l.length c (fun j => ((l.getD j 0 : Nat) : Int))
structure ON (lo : Nat) (w : World) (A : Option Addr) (c : Nat) (l : List Nat) : Prop where
 own : Own w lo w.heap.size 3 1 A l.length c (ni l)
section
variable {w w' : World} {A : Option Addr} {c lo b o j : Nat} {l : List Nat}
theorem LN.keep (h : LN w A c l) (hb : Below w.heap.size w w') : LN w' A c l := ⟨h.rd.keep hb hb.size⟩
theorem ON.keep (h : ON lo w A c l) (hb : Below w.heap.size w w') : ON lo w' A c l := ⟨(h.own.keepB hb (Nat.le_refl _)).mono (Nat.le_refl _) hb.size⟩
theorem ON.mono {lo' : Nat} (h : ON lo w A c l) (hl : lo' ≤ lo) : ON lo' w A c l := ⟨h.own.mono hl (Nat.le_refl _)⟩
theorem ON.ln (h : ON lo w A c l) : LN w A c l := ⟨h.own.rd⟩
theorem LN.addr (h : LN w A c l) (hl : 0 < l.length) : ∃ b o, A = some ⟨b, o, none⟩ := by
 obtain ⟨b, o, e, _⟩ := h.rd.pos hl
 exact ⟨b, o, e⟩
theorem LN.at (h : LN w (some ⟨b, o, none⟩) c l) (hj : j < l.length) : w.cell? ⟨b, o + j, none⟩ = some (.int .i64 (l[j] : Nat)) := by
 obtain ⟨b', o', e, _, hc⟩ := h.rd.pos (by omega)
 simp only [Option.some.injEq, Addr.mk.injEq, and_true] at e
 obtain ⟨rfl, rfl⟩ := e
 rw [hc j hj]; simp [List.getD, hj]
theorem LN.le (h : LN w A c l) : l.length ≤ c := h.rd.le
theorem ON.nil (w : World) : ON w.heap.size (w.alloc (Obj.cells #[] 3)) (some ⟨w.heap.size, 0, none⟩) 0 [] :=
 ⟨.inr ⟨w.heap.size, #[], rfl, Nat.le_refl _, by simp, heap_alloc_new w _, Nat.le_refl _, by unfold maxLen; omega, rfl, fun j hj => absurd hj (by simp)⟩⟩
end
theorem ListOf_v (s : Nat) (hs : s < 128) (w : World) : Calls Tryz.prog 113 #[.int .i64 s] w fun e w' => ∃ A c, e = .returned (.slice A (listN s).length c) ∧ ON w.heap.size w' A c (listN s) ∧ Below w.heap.size w w' :=
 (ListOf_i s hs w).mono fun _ _ ⟨A, c, h1, h2, h3⟩ => ⟨A, c, h1, ⟨h2⟩, h3⟩
theorem ListOf_sv (s : Nat) (hs : s < 128) (w : World) : Calls Tryz.prog 101 #[.int .i64 s] w fun e w' => ∃ A c, e = .returned (.slice A (listN s).length c) ∧ ON w.heap.size w' A c (listN s) ∧ Below w.heap.size w w' :=
 (ListOf_s s hs w).mono fun _ _ ⟨A, c, h1, h2, h3⟩ => ⟨A, c, h1, ⟨h2⟩, h3⟩
structure CL (w : World) (b o : Nat) (v : Value) : Prop where
 c : w.cell? ⟨b, o, none⟩ = some v
theorem CL.keep {w w' : World} {b o : Nat} {v : Value} (h : CL w b o v) (hb : Below w.heap.size w w') : CL w' b o v := ⟨up_ hb h.c⟩
def Ent (f : FuncId) : Prop := ∀ (args : Array Value) (w : World), (callFunc f args).run Tryz.prog w = .ok (.enter f args) w
theorem ent_of {f : FuncId} {fn : Func} {c : Code} (hf : Tryz.prog.funcs[f]? = some fn) (hname : (fn.name == "runtime.NumGoroutine") = false) (hb : fn.body = some c) : Ent f := by
 intro args w
 have h1 : fn.name ≠ "runtime.NumGoroutine" := by simpa using hname
 simp [callFunc, hf, h1, hb]
theorem frC_ {lo hi b o : Nat} {W w1 : World} {v : Value} (hf : Fr lo hi W w1) (e : W.cell? ⟨b, o, none⟩ = some v) (h : b < W.heap.size) (h2 : b < lo ∨ hi ≤ b) : w1.cell? ⟨b, o, none⟩ = some v := (hf.cell (p := ⟨b, o, none⟩) h h2).trans e
theorem bl_alloc {w z : World} {o : Obj} (h : Below w.heap.size w z) : Below w.heap.size w (z.alloc o) := h.alloc h.size o
theorem bl_drew {w z : World} (h : Below w.heap.size w z) : Below w.heap.size w z.drew := h.drew
theorem bl_set {w z : World} {q j : Nat} {x : Value} (h : Below w.heap.size w z) (hq : w.heap.size ≤ q) : Below w.heap.size w (z.setCell ⟨q, j, none⟩ x) := h.setCell (p := ⟨q, j, none⟩) hq _
theorem bl_trans {w z y : World} (h : Below w.heap.size w z) (k : Below z.heap.size z y) : Below w.heap.size w y := h.trans (k.mono h.size)
structure GC (w : World) (q : Nat) (sz : Int) (A : Option Addr) (m c : Nat) : Prop where
 c0 : w.cell? ⟨q, 0, none⟩ = some (.int .i64 sz)
 c1 : w.cell? ⟨q, 1, none⟩ = some (.slice A m c)
 f0 : w.frozen? ⟨q, 0, none⟩ = false
 f1 : w.frozen? ⟨q, 1, none⟩ = false
theorem frZ_ {lo hi b o : Nat} {W w1 : World} {v : Bool} (hf : Fr lo hi W w1) (e : W.frozen? ⟨b, o, none⟩ = v) (h : b < W.heap.size) (h2 : b < lo ∨ hi ≤ b) : w1.frozen? ⟨b, o, none⟩ = v := (World.frozen?_of_block (hf.block b h h2)).trans e
section
variable {w w' : World} {q m c m' c' lo hi : Nat} {sz sz' : Int} {A A' : Option Addr}
theorem GC.lt (h : GC w q sz A m c) : q < w.heap.size := World.block_lt_of_cell? _ _ h.c0
theorem GC.keep (h : GC w q sz A m c) (hb : Below w.heap.size w w') : GC w' q sz A m c := ⟨up hb h.c0 h.lt, up hb h.c1 h.lt, upf hb h.f0 h.lt, upf hb h.f1 h.lt⟩
theorem GC.drew (h : GC w q sz A m c) : GC w.drew q sz A m c := ⟨h.c0, h.c1, h.f0, h.f1⟩
theorem GC.keepF (h : GC w q sz A m c) (hf : Fr lo hi w w') (hq : q < lo ∨ hi ≤ q) : GC w' q sz A m c := ⟨frC_ hf h.c0 h.lt hq, frC_ hf h.c1 h.lt hq, frZ_ hf h.f0 h.lt hq, frZ_ hf h.f1 h.lt hq⟩
theorem GC.new (w : World) (sz : Int) (A : Option Addr) (m c : Nat) : GC (w.alloc (Obj.cells #[Value.int IntKind.i64 sz, Value.slice A m c] 29)) w.heap.size sz A m c := by constructor <;> simp [go_sem]
theorem GC.set (h : GC w q sz A m c) : GC ((w.setCell ⟨q, 0, none⟩ (.int .i64 sz')).setCell ⟨q, 1, none⟩ (.slice A' m' c')) q sz' A' m' c' := by
 have h0 := h.c0
 have h1 := h.c1
 have h2 := h.f0
 have h3 := h.f1
 constructor <;> simp [go_sem, h0, h1, h2, h3]
theorem fr2 (w : World) (q : Nat) (x y : Value) : Fr q (q + 1) w ((w.setCell ⟨q, 0, none⟩ x).setCell ⟨q, 1, none⟩ y) :=
 ((Fr.refl _ _ w).setCell (p := ⟨q, 0, none⟩) (Nat.le_refl _) (Nat.lt_succ_self _) _).setCell (p := ⟨q, 1, none⟩) (Nat.le_refl _) (Nat.lt_succ_self _) _
theorem From.set {w0 w : World} (h : From w0 w) (hq : w0.heap.size ≤ q) (x y : Value) : From w0 ((w.setCell ⟨q, 0, none⟩ x).setCell ⟨q, 1, none⟩ y) :=
 ⟨(h.below.setCell (p := ⟨q, 0, none⟩) hq _).setCell (p := ⟨q, 1, none⟩) hq _⟩
end
end Go.Proofs.YtppkokgiojcgbaaGreatDoor

/-
-/
namespace Go.Proofs.YtppkokgiojcgbaaGreatDoor
noncomputable def setB (sz : Int) (m : Nat) (x : Nat → Int) (s : Int) : Bool := okB sz m x && decide (0 ≤ s ∧ s < 2 ^ m)
def indB (r : Nat → Nat) (s : Nat) : Bool := nb r s &&& s == 0
theorem pow_cast (m : Nat) : ((2 ^ m : Nat) : Int) = 2 ^ m := by simp
theorem setB_yes {sz : Int} {m : Nat} {x : Nat → Int} {s : Nat} (h : okB sz m x = true) (hs : s < 2 ^ m) : setB sz m x s = true := by
 unfold setB
 have := pow_cast m
 rw [h, decide_eq_true (⟨by omega, by omega⟩ : 0 ≤ (s : Int) ∧ (s : Int) < 2 ^ m)]; rfl
theorem setB_out {sz : Int} {m : Nat} {x : Nat → Int} {s : Int} (h : s < 0 ∨ 2 ^ m ≤ s) : setB sz m x s = false := by
 unfold setB
 rw [decide_eq_false (by omega : ¬(0 ≤ s ∧ s < 2 ^ m)), Bool.and_false]
theorem indB_no {r : Nat → Nat} {s v : Nat} (hv : v < 7) (hb : s.testBit v = true) (h : r v &&& s ≠ 0) : indB r s = false := by
 unfold indB
 obtain ⟨u, hu⟩ := ex_bit h
 rw [Nat.testBit_and, Bool.and_eq_true] at hu
 have : (nb r s &&& s).testBit u = true := by
  rw [Nat.testBit_and, Bool.and_eq_true]
  exact ⟨nb_bit.2 ⟨v, hv, hb, hu.1⟩, hu.2⟩
 cases hz : (nb r s &&& s == 0)
 ·rfl
 ·have e : nb r s &&& s = 0 := by simpa using hz
  rw [e] at this; simp at this
theorem indB_yes {r : Nat → Nat} {s : Nat} (h : ∀ v, v < 7 → s.testBit v = true → r v &&& s = 0) : indB r s = true := by
 unfold indB
 rw [beq_iff_eq]
 apply Nat.eq_of_testBit_eq
 intro u
 rw [Nat.zero_testBit, Nat.testBit_and]
 cases hu : s.testBit u
 ·simp
 ·cases hn : (nb r s).testBit u
  ·rfl
  ·obtain ⟨v, hv, hb, hr⟩ := nb_bit.1 hn
   have := h v hv hb
   have h2 : (r v &&& s).testBit u = true := by rw [Nat.testBit_and, hr, hu]; rfl
   rw [this] at h2; simp at h2
end Go.Proofs.YtppkokgiojcgbaaGreatDoor

/-
-/
namespace Go.Proofs.YtppkokgiojcgbaaGreatDoor
open Go.RowKit
theorem CountSet_v (s : Nat) (hs : s < 128) (w : World) :
 Calls Tryz.prog 115 #[.int .i64 s] w fun e w' => e = .returned (.int .i64 (cn s : Int)) ∧ Below w.heap.size w w' := CountSet_i s hs w
theorem CountSet_sv (s : Nat) (hs : s < 128) (w : World) :
 Calls Tryz.prog 95 #[.int .i64 s] w fun e w' => e = .returned (.int .i64 (cn s : Int)) ∧ Below w.heap.size w w' := CountSet_s s hs w
section
variable {A : Option Addr} {m c : Nat} {r : Nat → Nat} {fn : FuncId} {caps : Array Value} {p : Nat → Bool}
set_option maxHeartbeats 1000000 in
theorem largest_g (hef : Ent fn) (w : World) (h : GV w A m c r)
 (HF : ∀ (s : Nat) (z : World), s < 2 ^ m → Below w.heap.size w z → Calls Tryz.prog fn (#[.agg #[.int .i64 m, .slice A m c], .int .i64 s] ++ caps) z (fun e z' => e = .returned (.bool (p s)) ∧ Below z.heap.size z z')) :
 Calls Tryz.prog 293 #[.agg #[.int .i64 m, .slice A m c], .func (.func fn) #[] caps] w fun e w' => e = .returned (.int .i64 (lgK p (2 ^ m) : Nat)) ∧ Below w.heap.size w w' := by
 have hn7 := h.vg.n7
 unfold Ent at hef
 have h128 := two_pow_le hn7
 have hpos := Nat.two_pow_pos m
 obtain ⟨W, hW⟩ : ∃ W : World, W = (w.alloc (Obj.cells #[Value.int IntKind.i64 m, Value.slice A m c] 29)) := ⟨_, rfl⟩
 have HB : Hid (From w W) := by rw [hW]; exact From.alloc _ _
 have HG : Hid (GBox W w.heap.size A m c r) := by rw [hW]; exact h.box
 have HW := Lib.hid hW
 clear hW h
 have e0 := HG.out.c0
 have e1 := HG.out.c1
 have HF := Lib.hid HF
 go_enter Tryz.func293, Tryz.ntmps293
 go_wp2_with fail
 rw [← HW.out]
 refine (IsGraph_v HG.out.gv).mono ?_
 rintro e w1 ⟨rfl, hb1⟩
 clear HW
 clear e0 e1
 replace HB := Lib.hid (HB.out.keep hb1)
 replace HG := Lib.hid (HG.out.keep hb1)
 clear hb1
 have e0 := HG.out.c0
 have e1 := HG.out.c1
 go_wp2
 go_loopw [5, 6] (fun b i wr => ∃ k : Nat, 1 ≤ k ∧ k ≤ 2 ^ m ∧ i = .int .i64 k ∧ b = .int .i64 (lgK p k : Nat) ∧ Hid (From w1 wr)) (fun _ i _ => 2 ^ m - (intOf i).toNat)
 case atStart => exact ⟨1, Nat.le_refl _, hpos, rfl, by rw [lgK_one]; rfl, From.refl _⟩
 case round =>
  obtain ⟨k, hk1, hk, rfl, rfl, HR⟩ := hrel
  clear e0 e1
  replace HB := Lib.hid (HB.out.keep HR.out.below)
  replace HG := Lib.hid (HG.out.keep HR.out.below)
  have e0 := HG.out.c0
  have e1 := HG.out.c1
  have hlk := lgK_lt (p := p) k (by omega)
  go_wp2_with fail
  refine (all_v HG.out.gv).mono ?_
  rintro e w2 ⟨rfl, hb2⟩
  clear e0 e1
  replace HB := Lib.hid (HB.out.keep hb2)
  replace HG := Lib.hid (HG.out.keep hb2)
  replace HR := Lib.hid (HR.out.keep hb2)
  clear hb2
  have e0 := HG.out.c0
  have e1 := HG.out.c1
  by_cases hlt : k < 2 ^ m
  ·have i1 : (k : Int) ≤ ((2 ^ m - 1 : Nat) : Int) := by omega
   go_wp2_with fail
   refine (CountSet_v k (by omega) _).mono ?_
   rintro e w3 ⟨rfl, hb3⟩
   clear e0 e1
   replace HB := Lib.hid (HB.out.keep hb3)
   replace HG := Lib.hid (HG.out.keep hb3)
   replace HR := Lib.hid (HR.out.keep hb3)
   clear hb3
   have e0 := HG.out.c0
   have e1 := HG.out.c1
   go_wp2_with fail
   refine (CountSet_v (lgK p k) (by omega) _).mono ?_
   rintro e w4 ⟨rfl, hb4⟩
   clear e0 e1
   replace HB := Lib.hid (HB.out.keep hb4)
   replace HG := Lib.hid (HG.out.keep hb4)
   replace HR := Lib.hid (HR.out.keep hb4)
   clear hb4
   have e0 := HG.out.c0
   have e1 := HG.out.c1
   by_cases hcn : cn (lgK p k) < cn k
   ·have KF := Lib.hid (HF.out k _ hlt HB.out.below)
    have i2 : ((cn (lgK p k) : Nat) : Int) < ((cn k : Nat) : Int) := by omega
    go_wp2_with fail
    refine (KF.out).mono ?_
    rintro e w5 ⟨rfl, hb5⟩
    clear e0 e1
    replace HB := Lib.hid (HB.out.keep hb5)
    replace HG := Lib.hid (HG.out.keep hb5)
    replace HR := Lib.hid (HR.out.keep hb5)
    clear hb5
    have e0 := HG.out.c0
    have e1 := HG.out.c1
    cases hp : p k
    ·have Hn : Hid (lgK p (k + 1) = lgK p k) := lgK_no (.inr hp)
     clear hp KF
     go_wp2
     go_roundw
     case rel => exact ⟨k + 1, by omega, by omega, by go_num, by rw [Hn.out], HR⟩
     case measure => simp [intOf]; omega
    ·have Hn : Hid (lgK p (k + 1) = k) := lgK_yes hcn hp
     clear hp KF
     go_wp2
     go_roundw
     case rel => exact ⟨k + 1, by omega, by omega, by go_num, by rw [Hn.out], HR⟩
     case measure => simp [intOf]; omega
   ·have Hn : Hid (lgK p (k + 1) = lgK p k) := lgK_no (.inl hcn)
    have i2 : ((cn k : Nat) : Int) ≤ ((cn (lgK p k) : Nat) : Int) := by omega
    go_wp2
    go_roundw
    case rel => exact ⟨k + 1, by omega, by omega, by go_num, by rw [Hn.out], HR⟩
    case measure => simp [intOf]; omega
  ·have hkm : k = 2 ^ m := by omega
   have i1 : ((2 ^ m - 1 : Nat) : Int) < (k : Int) := by omega
   have Hk : Hid (lgK p k = lgK p (2 ^ m)) := by rw [hkm]; exact rfl
   clear hkm
   go_wp2
   go_ret
   exact ⟨ret_int (by rw [Hk.out]), HB.out.below⟩
set_option maxHeartbeats 1000000 in
theorem fewest_g (hef : Ent fn) (w : World) (h : GV w A m c r)
 (HF : ∀ (s : Nat) (z : World), s < 2 ^ m → Below w.heap.size w z → Calls Tryz.prog fn (#[.agg #[.int .i64 m, .slice A m c], .int .i64 s] ++ caps) z (fun e z' => e = .returned (.bool (p s)) ∧ Below z.heap.size z z')) :
 Calls Tryz.prog 103 #[.agg #[.int .i64 m, .slice A m c], .func (.func fn) #[] caps] w fun e w' => e = .returned (.int .i64 (fwI (fwK p (2 ^ m)))) ∧ Below w.heap.size w w' := by
 have hn7 := h.vg.n7
 unfold Ent at hef
 have h128 := two_pow_le hn7
 have hpos := Nat.two_pow_pos m
 have s1 : wrap64 (((2 ^ m - 1 : Nat) : Int) + 1) = ((2 ^ m : Nat) : Int) := by
  rw [Go.IntWalk.wrap64_in _ (by omega)]; omega
 obtain ⟨W, hW⟩ : ∃ W : World, W = (w.alloc (Obj.cells #[Value.int IntKind.i64 m, Value.slice A m c] 29)) := ⟨_, rfl⟩
 have HB : Hid (From w W) := by rw [hW]; exact From.alloc _ _
 have HG : Hid (GBox W w.heap.size A m c r) := by rw [hW]; exact h.box
 have HW := Lib.hid hW
 clear hW h
 have e0 := HG.out.c0
 have e1 := HG.out.c1
 have HF := Lib.hid HF
 have HS := Lib.hid s1
 go_enter Tryz.func103, Tryz.ntmps103
 go_wp2_with fail
 rw [← HW.out]
 refine (IsGraph_v HG.out.gv).mono ?_
 rintro e w1 ⟨rfl, hb1⟩
 clear HW
 clear e0 e1
 replace HB := Lib.hid (HB.out.keep hb1)
 replace HG := Lib.hid (HG.out.keep hb1)
 clear hb1
 have e0 := HG.out.c0
 have e1 := HG.out.c1
 go_wp2_with fail
 refine (all_v HG.out.gv).mono ?_
 rintro e w2 ⟨rfl, hb2⟩
 clear e0 e1
 replace HB := Lib.hid (HB.out.keep hb2)
 replace HG := Lib.hid (HG.out.keep hb2)
 clear hb2
 have e0 := HG.out.c0
 have e1 := HG.out.c1
 go_wp2
 go_loopw [5, 13] (fun b i wr => ∃ k : Nat, k ≤ 2 ^ m ∧ i = .int .i64 k ∧ b = .int .i64 (fwI (fwK p k)) ∧ Hid (From w2 wr)) (fun _ i _ => 2 ^ m - (intOf i).toNat)
 case atStart => exact ⟨0, Nat.zero_le _, rfl, rfl, From.refl _⟩
 case round =>
  obtain ⟨k, hk, rfl, rfl, HR⟩ := hrel
  clear e0 e1
  replace HB := Lib.hid (HB.out.keep HR.out.below)
  replace HG := Lib.hid (HG.out.keep HR.out.below)
  have e0 := HG.out.c0
  have e1 := HG.out.c1
  by_cases hlt : k < 2 ^ m
  ·have i1 : (k : Int) < ((2 ^ m : Nat) : Int) := by omega
   cases hb : fwK p k with
   | none =>
     have KF := Lib.hid (HF.out k _ hlt HB.out.below)
     have hq : fwI none = -1 := rfl
     rw [hq]
     clear hq
     go_wp2_with fail
     refine (KF.out).mono ?_
     rintro e w3 ⟨rfl, hb3⟩
     clear e0 e1
     replace HB := Lib.hid (HB.out.keep hb3)
     replace HG := Lib.hid (HG.out.keep hb3)
     replace HR := Lib.hid (HR.out.keep hb3)
     clear hb3
     have e0 := HG.out.c0
     have e1 := HG.out.c1
     cases hp : p k
     ·have Hn : Hid (fwK p (k + 1) = none) := (fwK_no (.inr hp)).trans hb
      clear hp KF hb
      go_wp2
      go_roundw
      case rel => exact ⟨k + 1, by omega, by go_num, by rw [Hn.out]; rfl, HR⟩
      case measure => simp [intOf]; omega
     ·have Hn : Hid (fwK p (k + 1) = some k) := fwK_yes (fun b h => by rw [hb] at h; cases h) hp
      clear hp KF hb
      go_wp2
      go_roundw
      case rel => exact ⟨k + 1, by omega, by go_num, by rw [Hn.out]; rfl, HR⟩
      case measure => simp [intOf]; omega
   | some b =>
     have hbl := (fwK_lt k b hb).1
     have hq : fwI (some b) = (b : Int) := rfl
     rw [hq]
     have i3 : (0 : Int) ≤ (b : Int) := by omega
     clear hq
     go_wp2_with fail
     refine (CountSet_v k (by omega) _).mono ?_
     rintro e w4 ⟨rfl, hb4⟩
     clear e0 e1
     replace HB := Lib.hid (HB.out.keep hb4)
     replace HG := Lib.hid (HG.out.keep hb4)
     replace HR := Lib.hid (HR.out.keep hb4)
     clear hb4
     have e0 := HG.out.c0
     have e1 := HG.out.c1
     go_wp2_with fail
     refine (CountSet_v b (by omega) _).mono ?_
     rintro e w5 ⟨rfl, hb5⟩
     clear e0 e1
     replace HB := Lib.hid (HB.out.keep hb5)
     replace HG := Lib.hid (HG.out.keep hb5)
     replace HR := Lib.hid (HR.out.keep hb5)
     clear hb5
     have e0 := HG.out.c0
     have e1 := HG.out.c1
     by_cases hcn : cn k < cn b
     ·have KF := Lib.hid (HF.out k _ hlt HB.out.below)
      have i2 : ((cn k : Nat) : Int) < ((cn b : Nat) : Int) := by omega
      go_wp2_with fail
      refine (KF.out).mono ?_
      rintro e w6 ⟨rfl, hb6⟩
      clear e0 e1
      replace HB := Lib.hid (HB.out.keep hb6)
      replace HG := Lib.hid (HG.out.keep hb6)
      replace HR := Lib.hid (HR.out.keep hb6)
      clear hb6
      have e0 := HG.out.c0
      have e1 := HG.out.c1
      cases hp : p k
      ·have Hn : Hid (fwK p (k + 1) = some b) := (fwK_no (.inr hp)).trans hb
       clear hp KF hb
       go_wp2
       go_roundw
       case rel => exact ⟨k + 1, by omega, by go_num, by rw [Hn.out]; rfl, HR⟩
       case measure => simp [intOf]; omega
      ·have Hn : Hid (fwK p (k + 1) = some k) := fwK_yes (fun b' h => by rw [hb] at h; injection h with h; subst h; exact hcn) hp
       clear hp KF hb
       go_wp2
       go_roundw
       case rel => exact ⟨k + 1, by omega, by go_num, by rw [Hn.out]; rfl, HR⟩
       case measure => simp [intOf]; omega
     ·have Hn : Hid (fwK p (k + 1) = some b) := (fwK_no (.inl ⟨b, hb, hcn⟩)).trans hb
      have i2 : ((cn b : Nat) : Int) ≤ ((cn k : Nat) : Int) := by omega
      clear hb
      go_wp2
      go_roundw
      case rel => exact ⟨k + 1, by omega, by go_num, by rw [Hn.out]; rfl, HR⟩
      case measure => simp [intOf]; omega
  ·have hkm : k = 2 ^ m := by omega
   have i1 : ((2 ^ m : Nat) : Int) ≤ (k : Int) := by omega
   have Hk : Hid (fwK p k = fwK p (2 ^ m)) := by rw [hkm]; exact rfl
   clear hkm
   go_wp2
   go_ret
   exact ⟨ret_int (by rw [Hk.out]), HB.out.below⟩
end
end Go.Proofs.YtppkokgiojcgbaaGreatDoor

/-
-/
namespace Go.Proofs.YtppkokgiojcgbaaGreatDoor
open Go.RowKit
structure GA (w : World) (A : Option Addr) (m c : Nat) (x : Nat → Int) : Prop where
 rd : Rd w w.heap.size A m c x
theorem GA.keep {w w' : World} {A : Option Addr} {m c : Nat} {x : Nat → Int} (h : GA w A m c x) (hb : Below w.heap.size w w') : GA w' A m c x := ⟨h.rd.keep hb hb.size⟩
theorem GA.gv {w : World} {A : Option Addr} {m c : Nat} {x : Nat → Int} (h : GA w A m c x) (hok : okB m m x = true) : GV w A m c (rw_ x) := GV.of h.rd (Nat.le_refl _) hok
theorem GV.ga {w : World} {A : Option Addr} {m c : Nat} {r : Nat → Nat} (h : GV w A m c r) : GA w A m c (fun v => (r v : Int)) := ⟨h.rd⟩
set_option maxHeartbeats 1000000 in
theorem IsSet_i (sz : Int) (A : Option Addr) (m c : Nat) (x : Nat → Int) (s : Int) (w : World) (h : GA w A m c x) (hm : m ≤ 1048576) :
 Calls Tryz.prog 157 #[.agg #[.int .i64 sz, .slice A m c], .int .i64 s] w fun e w' => e = .returned (.bool (setB sz m x s)) ∧ Below w.heap.size w w' := by
 obtain ⟨W, hW⟩ : ∃ W : World, W = (w.alloc (Obj.cells #[Value.int IntKind.i64 sz, Value.slice A m c] 29)) := ⟨_, rfl⟩
 have HB : Hid (From w W) := by rw [hW]; exact From.alloc _ _
 have HK := Lib.hid (h.keep HB.out.below)
 have HC : Hid (GC W w.heap.size sz A m c) := by rw [hW]; exact GC.new _ _ _ _ _
 have HW := Lib.hid hW
 clear hW h
 go_enter Tryz.func157, Tryz.ntmps157
 have e0 := HC.out.c0
 have e1 := HC.out.c1
 go_wp2_with fail
 rw [← HW.out]
 refine (IsGraph_any sz A m c x W W.heap.size HK.out.rd (Nat.le_refl _) hm).mono ?_
 rintro e w1 ⟨rfl, hb1⟩
 clear HW
 clear e0 e1
 replace HB := Lib.hid (HB.out.keep hb1)
 replace HK := Lib.hid (HK.out.keep hb1)
 replace HC := Lib.hid (HC.out.keep hb1)
 clear hb1
 have e0 := HC.out.c0
 have e1 := HC.out.c1
 cases ho : okB sz m x
 ·have hno : Hid (setB sz m x s = false) := by show _ = _; unfold setB; rw [ho]; rfl
  clear ho
  go_wp2
  go_ret
  exact ⟨ret_bool hno.out.symm, HB.out.below⟩
 ·obtain ⟨_, es, vg0, _⟩ := okB_ok' ho
  subst es
  have hn7 := vg0.n7
  have hp := two_pow_le hn7
  have hpos := Nat.two_pow_pos m
  have hpc := pow_cast m
  have Ho := Lib.hid ho
  clear ho vg0
  go_wp2_with fail
  refine (all_any m A c _ hn7).mono ?_
  rintro e w2 ⟨rfl, hb2⟩
  clear e0 e1
  replace HB := Lib.hid (HB.out.keep hb2)
  replace HK := Lib.hid (HK.out.keep hb2)
  replace HC := Lib.hid (HC.out.keep hb2)
  clear hb2
  have e0 := HC.out.c0
  have e1 := HC.out.c1
  by_cases hs : 0 ≤ s ∧ s < 2 ^ m
  ·have hyes : Hid (setB (m : Int) m x s = true) := by show _ = _; unfold setB; rw [Ho.out, decide_eq_true hs]; rfl
   obtain ⟨s1, s2⟩ := hs
   go_wp2_with (first | (go_at_call 85; refine (within_yes _ _ _ _ s1 (by omega)).mono ?_; rintro e w' ⟨rfl, rfl⟩))
   go_ret
   exact ⟨ret_bool hyes.out.symm, HB.out.below⟩
  ·have hno : Hid (setB (m : Int) m x s = false) := setB_out (by omega)
   have hr : Hid (s < 0 ∨ ((2 ^ m - 1 : Nat) : Int) < s) := by show _ ∨ _; omega
   clear hs
   go_wp2_with (first | (go_at_call 85; refine (within_no _ _ _ _ hr.out).mono ?_; rintro e w' ⟨rfl, rfl⟩))
   go_ret
   exact ⟨ret_bool hno.out.symm, HB.out.below⟩
section
variable {A : Option Addr} {m c : Nat} {r : Nat → Nat}
theorem IsSet_v {w : World} (h : GV w A m c r) {s : Nat} (hs : s < 2 ^ m) :
 Calls Tryz.prog 157 #[.agg #[.int .i64 m, .slice A m c], .int .i64 s] w fun e w' => e = .returned (.bool true) ∧ Below w.heap.size w w' := by
 have := IsSet_i m A m c _ s w h.ga (by have := h.vg.n7; omega)
 rwa [setB_yes h.ok hs] at this
set_option maxHeartbeats 1000000 in
theorem IsClique_v {w : World} (h : GV w A m c r) {s : Nat} (hs : s < 2 ^ m) :
 Calls Tryz.prog 270 #[.agg #[.int .i64 m, .slice A m c], .int .i64 s] w fun e w' => e = .returned (.bool (cliq r s)) ∧ Below w.heap.size w w' := by
 obtain ⟨W, hW⟩ : ∃ W : World, W = (w.alloc (Obj.cells #[Value.int IntKind.i64 m, Value.slice A m c] 29)) := ⟨_, rfl⟩
 have HB : Hid (From w W) := by rw [hW]; exact From.alloc _ _
 have HG : Hid (GBox W w.heap.size A m c r) := by rw [hW]; exact h.box
 have HW := Lib.hid hW
 clear hW h
 have e0 := HG.out.c0
 have e1 := HG.out.c1
 go_enter Tryz.func270, Tryz.ntmps270
 go_wp2_with fail
 rw [← HW.out]
 refine (IsSet_v HG.out.gv hs).mono ?_
 rintro e w1 ⟨rfl, hb1⟩
 clear HW
 clear e0 e1
 replace HB := Lib.hid (HB.out.keep hb1)
 replace HG := Lib.hid (HG.out.keep hb1)
 clear hb1
 have e0 := HG.out.c0
 have e1 := HG.out.c1
 go_wp2_with fail
 refine (isClique_v HG.out.gv hs).mono ?_
 rintro e w2 ⟨rfl, hb2⟩
 clear e0 e1
 replace HB := Lib.hid (HB.out.keep hb2)
 replace HG := Lib.hid (HG.out.keep hb2)
 clear hb2
 have e0 := HG.out.c0
 have e1 := HG.out.c1
 go_wp2
 go_ret
 exact ⟨rfl, HB.out.below⟩
set_option maxHeartbeats 1000000 in
theorem IsIndependent_v {w : World} (h : GV w A m c r) {s : Nat} (hs : s < 2 ^ m) :
 Calls Tryz.prog 236 #[.agg #[.int .i64 m, .slice A m c], .int .i64 s] w fun e w' => e = .returned (.bool (indB r s)) ∧ Below w.heap.size w w' := by
 have hp := two_pow_le h.vg.n7
 have hnb : nb r s < 2 ^ m := nb_lt (r := r) h.vg.lt hs 7
 have E := i64_and_nat (nb r s) s (by omega) (by omega)
 have hd : Hid ((((nb r s &&& s : Nat) : Int) == 0) = indB r s) := by
  show _ = _
  unfold indB
  rw [Bool.eq_iff_iff]
  simp
 obtain ⟨W, hW⟩ : ∃ W : World, W = (w.alloc (Obj.cells #[Value.int IntKind.i64 m, Value.slice A m c] 29)) := ⟨_, rfl⟩
 have HB : Hid (From w W) := by rw [hW]; exact From.alloc _ _
 have HG : Hid (GBox W w.heap.size A m c r) := by rw [hW]; exact h.box
 have HW := Lib.hid hW
 clear hW h
 have e0 := HG.out.c0
 have e1 := HG.out.c1
 go_enter Tryz.func236, Tryz.ntmps236
 go_wp2_with fail
 rw [← HW.out]
 refine (IsSet_v HG.out.gv hs).mono ?_
 rintro e w1 ⟨rfl, hb1⟩
 clear HW
 clear e0 e1
 replace HB := Lib.hid (HB.out.keep hb1)
 replace HG := Lib.hid (HG.out.keep hb1)
 clear hb1
 have e0 := HG.out.c0
 have e1 := HG.out.c1
 go_wp2_with fail
 refine (neighbors_v HG.out.gv hs).mono ?_
 rintro e w2 ⟨rfl, hb2⟩
 clear e0 e1
 replace HB := Lib.hid (HB.out.keep hb2)
 replace HG := Lib.hid (HG.out.keep hb2)
 clear hb2
 have e0 := HG.out.c0
 have e1 := HG.out.c1
 go_wp2
 go_ret
 exact ⟨ret_bool (by rw [← hd.out]), HB.out.below⟩
end
end Go.Proofs.YtppkokgiojcgbaaGreatDoor
