/-
  Several texts in one.
-/
import Derived.Test.YtfabbohijhjpcaaGreatDoorRcGC
import Derived.Test.YtfabbohijhjpcaaGreatDoorRcGB
import Derived.Test.YtfabbohijhjpcaaGreatDoorRcGA
/-
-/
namespace Go.Proofs.YtfabbohijhjpcaaGreatDoor
open Go.RowKit
structure GV (w : World) (A : Option Addr) (m c : Nat) (r : Nat → Nat) : Prop where
 vg : VG m r
 rd : Rd w w.heap.size A m c (fun v => (r v : Int))
structure GBox (w : World) (q : Nat) (A : Option Addr) (m c : Nat) (r : Nat → Nat) : Prop where
 gv : GV w A m c r
 c0 : w.cell? ⟨q, 0, none⟩ = some (.int .i64 m)
 c1 : w.cell? ⟨q, 1, none⟩ = some (.slice A m c)
 lt : q < w.heap.size
theorem rw_cast (r : Nat → Nat) : rw_ (fun v => (r v : Int)) = r := by funext v; simp [rw_]
theorem up_ {b o : Nat} {W w1 : World} {v : Value} (hb : Below W.heap.size W w1) (e : W.cell? ⟨b, o, none⟩ = some v) : w1.cell? ⟨b, o, none⟩ = some v := up hb e (World.block_lt_of_cell? _ _ e)
section
variable {w w' : World} {A : Option Addr} {m c q b o v : Nat} {r : Nat → Nat}
theorem GV.keep (h : GV w A m c r) (hb : Below w.heap.size w w') : GV w' A m c r := ⟨h.vg, h.rd.keep hb hb.size⟩
theorem GV.drewN (h : GV w A m c r) (n : Nat) : GV (w.drewN n) A m c r := ⟨h.vg, h.rd⟩
theorem GV.drew (h : GV w A m c r) : GV w.drew A m c r := ⟨h.vg, h.rd⟩
theorem GV.ok (h : GV w A m c r) : okB m m (fun v => (r v : Int)) = true := okB_yes ⟨r, rfl, h.vg, fun _ _ => rfl⟩
theorem GV.of {x : Nat → Int} {B : Nat} (h : Rd w B A m c x) (hB : B ≤ w.heap.size) (hok : okB m m x = true) : GV w A m c (rw_ x) :=
 ⟨(okB_vg hok).1, (h.keep (Below.refl _ _) hB).congr (okB_vg hok).2⟩
theorem GV.addr (h : GV w A m c r) : ∃ b o, A = some ⟨b, o, none⟩ := by
 obtain ⟨b, o, e, _⟩ := h.rd.pos (by have := h.vg.n1; omega)
 exact ⟨b, o, e⟩
theorem GV.row (h : GV w (some ⟨b, o, none⟩) m c r) (hv : v < m) : w.cell? ⟨b, o + v, none⟩ = some (.int .i64 (r v : Nat)) := by
 obtain ⟨b', o', e, _, hc⟩ := h.rd.pos (by have := h.vg.n1; omega)
 simp only [Option.some.injEq, Addr.mk.injEq, and_true] at e
 obtain ⟨rfl, rfl⟩ := e
 exact hc v hv
theorem GV.bl (h : GV w (some ⟨b, o, none⟩) m c r) : b < w.heap.size := by
 obtain ⟨b', o', e, hb, hc⟩ := h.rd.pos (by have := h.vg.n1; omega)
 simp only [Option.some.injEq, Addr.mk.injEq, and_true] at e
 obtain ⟨rfl, rfl⟩ := e
 exact hb
theorem GV.box (h : GV w A m c r) : GBox (w.alloc (Obj.cells #[Value.int IntKind.i64 m, Value.slice A m c] 26)) w.heap.size A m c r :=
 ⟨h.keep ((Below.refl _ _).alloc (Nat.le_refl _) _), by simp [go_sem], by simp [go_sem], by simp⟩
theorem GBox.keep (h : GBox w q A m c r) (hb : Below w.heap.size w w') : GBox w' q A m c r :=
 ⟨h.gv.keep hb, up hb h.c0 h.lt, up hb h.c1 h.lt, Nat.lt_of_lt_of_le h.lt hb.size⟩
theorem GBox.drewN (h : GBox w q A m c r) (n : Nat) : GBox (w.drewN n) q A m c r := ⟨h.gv.drewN n, h.c0, h.c1, h.lt⟩
theorem GBox.drew (h : GBox w q A m c r) : GBox w.drew q A m c r := ⟨h.gv.drew, h.c0, h.c1, h.lt⟩
theorem IsGraph_v (h : GV w A m c r) : Calls Tryz.prog 36 #[.agg #[.int .i64 m, .slice A m c]] w fun e w' => e = .returned (.bool true) ∧ Below w.heap.size w w' := by
 have := IsGraph_any m A m c _ w w.heap.size h.rd (Nat.le_refl _) (by have := h.vg.n7; omega)
 rwa [h.ok] at this
theorem IsGraph_sv (h : GV w A m c r) : Calls Tryz.prog 39 #[.agg #[.int .i64 m, .slice A m c]] w fun e w' => e = .returned (.bool true) ∧ Below w.heap.size w w' := by
 have := IsGraph_sany m A m c _ w w.heap.size h.rd (Nat.le_refl _) (by have := h.vg.n7; omega)
 rwa [h.ok] at this
theorem all_v (h : GV w A m c r) : Calls Tryz.prog 225 #[.agg #[.int .i64 m, .slice A m c]] w fun e w' => e = .returned (.int .i64 ((2 ^ m - 1 : Nat) : Int)) ∧ Below w.heap.size w w' :=
 all_any m A c w h.vg.n7
theorem neighbors_v (h : GV w A m c r) {s : Nat} (hs : s < 2 ^ m) : Calls Tryz.prog 312 #[.agg #[.int .i64 m, .slice A m c], .int .i64 s] w fun e w' => e = .returned (.int .i64 (nb r s : Nat)) ∧ Below w.heap.size w w' := by
 have := neighbors_i m A c _ s w w.heap.size h.rd (Nat.le_refl _) h.ok hs
 rwa [rw_cast] at this
theorem AroundSet_sv (h : GV w A m c r) {s : Nat} (hs : s < 2 ^ m) : Calls Tryz.prog 259 #[.agg #[.int .i64 m, .slice A m c], .int .i64 s] w fun e w' => e = .returned (.int .i64 ((s ||| nb r s : Nat) : Int)) ∧ Below w.heap.size w w' := by
 have := AroundSet_s m A c _ s w w.heap.size h.rd (Nat.le_refl _) h.ok hs
 rwa [rw_cast] at this
theorem l2Edge_v (h : GV w A m c r) {v u : Nat} (hv : v < m) (hu : u < m) : Calls Tryz.prog 45 #[.agg #[.int .i64 m, .slice A m c], .int .i64 v, .int .i64 u] w fun e w' => e = .returned (.bool ((r v).testBit u)) ∧ Below w.heap.size w w' := by
 obtain ⟨b, o, rfl⟩ := h.addr
 have := l2Edge_any m b o m c w v u (r v : Int) (h.row hv) h.bl hv (by omega) (by have := h.vg.lt128 hv; omega) (by have := h.vg.n7; omega)
 simpa using this
theorem has_v {s v : Nat} (w : World) (hs : s < 128) (hv : v < 64) : Calls Tryz.prog 44 #[.int .i64 (s : Int), .int .i64 (v : Int)] w fun e w' => e = .returned (.bool (s.testBit v)) ∧ w = w' := by
 have := has_any s v w (by omega) (by omega) (by omega) (by omega)
 simpa using this
end
structure From (w0 w : World) : Prop where
 below : Below w0.heap.size w0 w
theorem From.refl (w : World) : From w w := ⟨Below.refl _ _⟩
theorem From.keep {w0 w w' : World} (h : From w0 w) (hb : Below w.heap.size w w') : From w0 w' := ⟨h.below.trans (hb.mono h.below.size)⟩
theorem From.alloc (w : World) (o : Obj) : From w (w.alloc o) := ⟨(Below.refl _ _).alloc (Nat.le_refl _) _⟩
theorem From.alloc_ {w0 w : World} (h : From w0 w) (o : Obj) : From w0 (w.alloc o) := h.keep ((Below.refl _ _).alloc (Nat.le_refl _) _)
theorem From.drewN {w0 w : World} (h : From w0 w) (n : Nat) : From w0 (w.drewN n) := ⟨below_drewN h.below n⟩
theorem From.drew {w0 w : World} (h : From w0 w) : From w0 w.drew := h.drewN 1
theorem From.up {w0 w w1 : World} (h : From w0 w) (k : From w w1) : From w0 w1 := h.keep k.below
structure LN (w : World) (A : Option Addr) (c : Nat) (l : List Nat) : Prop where
 rd : Rd w w.heap.size A l.length c (fun j => ((l.getD j 0 : Nat) : Int))
structure ON (lo : Nat) (w : World) (A : Option Addr) (c : Nat) (l : List Nat) : Prop where
 own : Own w lo w.heap.size 3 1 A l.length c (ni l)
section
variable {w w' : World} {A : Option Addr} {c lo b o j : Nat} {l : List Nat}
theorem LN.keep (h : LN w A c l) (hb : Below w.heap.size w w') : LN w' A c l := ⟨h.rd.keep hb hb.size⟩
theorem ON.keep (h : ON lo w A c l) (hb : Below w.heap.size w w') : ON lo w' A c l := ⟨(h.own.keepB hb (Nat.le_refl _)).mono (Nat.le_refl _) hb.size⟩
theorem ON.mono {lo' : Nat} (h : ON lo w A c l) (hl : lo' ≤ lo) : ON lo' w A c l := ⟨h.own.mono hl (Nat.le_refl _)⟩
theorem ON.ln (h : ON lo w A c l) : LN w A c l := ⟨h.own.rd⟩
theorem LN.addr (h : LN w A c l) (hl : 0 < l.length) : ∃ b o, A = some ⟨b, o, none⟩ := by
 obtain ⟨b, o, e, _⟩ := h.rd.pos hl
 exact ⟨b, o, e⟩
theorem LN.at (h : LN w (some ⟨b, o, none⟩) c l) (hj : j < l.length) : w.cell? ⟨b, o + j, none⟩ = some (.int .i64 (l[j] : Nat)) := by
 obtain ⟨b', o', e, _, hc⟩ := h.rd.pos (by omega)
 simp only [Option.some.injEq, Addr.mk.injEq, and_true] at e
 obtain ⟨rfl, rfl⟩ := e
 rw [hc j hj]; simp [List.getD, hj]
theorem LN.le (h : LN w A c l) : l.length ≤ c := h.rd.le
theorem ON.nil (w : World) : ON w.heap.size (w.alloc (Obj.cells #[] 3)) (some ⟨w.heap.size, 0, none⟩) 0 [] :=
 ⟨.inr ⟨w.heap.size, #[], rfl, Nat.le_refl _, by simp, heap_alloc_new w _, Nat.le_refl _, by unfold maxLen; omega, rfl, fun j hj => absurd hj (by simp)⟩⟩
end
theorem ListOf_v (s : Nat) (hs : s < 128) (w : World) : Calls Tryz.prog 223 #[.int .i64 s] w fun e w' => ∃ A c, e = .returned (.slice A (listN s).length c) ∧ ON w.heap.size w' A c (listN s) ∧ Below w.heap.size w w' :=
 (ListOf_i s hs w).mono fun _ _ ⟨A, c, h1, h2, h3⟩ => ⟨A, c, h1, ⟨h2⟩, h3⟩
theorem ListOf_sv (s : Nat) (hs : s < 128) (w : World) : Calls Tryz.prog 177 #[.int .i64 s] w fun e w' => ∃ A c, e = .returned (.slice A (listN s).length c) ∧ ON w.heap.size w' A c (listN s) ∧ Below w.heap.size w w' :=
 (ListOf_s s hs w).mono fun _ _ ⟨A, c, h1, h2, h3⟩ => ⟨A, c, h1, ⟨h2⟩, h3⟩
structure CL (w : World) (b o : Nat) (v : Value) : Prop where
 c : w.cell? ⟨b, o, none⟩ = some v
theorem CL.keep {w w' : World} {b o : Nat} {v : Value} (h : CL w b o v) (hb : Below w.heap.size w w') : CL w' b o v := ⟨up_ hb h.c⟩
def Ent (f : FuncId) : Prop := ∀ (args : Array Value) (w : World), (callFunc f args).run Tryz.prog w = .ok (.enter f args) w
theorem ent_of {f : FuncId} {fn : Func} {c : Code} (hf : Tryz.prog.funcs[f]? = some fn) (hname : (fn.name == "runtime.NumGoroutine") = false) (hb : fn.body = some c) : Ent f := by
 intro args w
 have h1 : fn.name ≠ "runtime.NumGoroutine" := by simpa using hname
 simp [callFunc, hf, h1, hb]
theorem frC_ {lo hi b o : Nat} {W w1 : World} {v : Value} (hf : Fr lo hi W w1) (e : W.cell? ⟨b, o, none⟩ = some v) (h : b < W.heap.size) (h2 : b < lo ∨ hi ≤ b) : w1.cell? ⟨b, o, none⟩ = some v := (hf.cell (p := ⟨b, o, none⟩) h h2).trans e
theorem bl_alloc {w z : World} {o : Obj} (h : Below w.heap.size w z) : Below w.heap.size w (z.alloc o) := h.alloc h.size o
theorem bl_drew {w z : World} (h : Below w.heap.size w z) : Below w.heap.size w z.drew := h.drew
theorem bl_set {w z : World} {q j : Nat} {x : Value} (h : Below w.heap.size w z) (hq : w.heap.size ≤ q) : Below w.heap.size w (z.setCell ⟨q, j, none⟩ x) := h.setCell (p := ⟨q, j, none⟩) hq _
theorem bl_trans {w z y : World} (h : Below w.heap.size w z) (k : Below z.heap.size z y) : Below w.heap.size w y := h.trans (k.mono h.size)
structure GC (w : World) (q : Nat) (sz : Int) (A : Option Addr) (m c : Nat) : Prop where
 c0 : w.cell? ⟨q, 0, none⟩ = some (.int .i64 sz)
 c1 : w.cell? ⟨q, 1, none⟩ = some (.slice A m c)
 f0 : w.frozen? ⟨q, 0, none⟩ = false
 f1 : w.frozen? ⟨q, 1, none⟩ = false
theorem frZ_ {lo hi b o : Nat} {W w1 : World} {v : Bool} (hf : Fr lo hi W w1) (e : W.frozen? ⟨b, o, none⟩ = v) (h : b < W.heap.size) (h2 : b < lo ∨ hi ≤ b) : w1.frozen? ⟨b, o, none⟩ = v := (World.frozen?_of_block (hf.block b h h2)).trans e
section
variable {w w' : World} {q m c m' c' lo hi : Nat} {sz sz' : Int} {A A' : Option Addr}
theorem GC.lt (h : GC w q sz A m c) : q < w.heap.size := World.block_lt_of_cell? _ _ h.c0
theorem GC.keep (h : GC w q sz A m c) (hb : Below w.heap.size w w') : GC w' q sz A m c := ⟨up hb h.c0 h.lt, up hb h.c1 h.lt, upf hb h.f0 h.lt, upf hb h.f1 h.lt⟩
theorem GC.drew (h : GC w q sz A m c) : GC w.drew q sz A m c := ⟨h.c0, h.c1, h.f0, h.f1⟩
theorem GC.keepF (h : GC w q sz A m c) (hf : Fr lo hi w w') (hq : q < lo ∨ hi ≤ q) : GC w' q sz A m c := ⟨frC_ hf h.c0 h.lt hq, frC_ hf h.c1 h.lt hq, frZ_ hf h.f0 h.lt hq, frZ_ hf h.f1 h.lt hq⟩
theorem GC.new (w : World) (sz : Int) (A : Option Addr) (m c : Nat) : GC (w.alloc (Obj.cells #[Value.int IntKind.i64 sz, Value.slice A m c] 26)) w.heap.size sz A m c := by constructor <;> simp [go_sem]
theorem GC.set (h : GC w q sz A m c) : GC ((w.setCell ⟨q, 0, none⟩ (.int .i64 sz')).setCell ⟨q, 1, none⟩ (.slice A' m' c')) q sz' A' m' c' := by
 have h0 := h.c0
 have h1 := h.c1
 have h2 := h.f0
 have h3 := h.f1
 constructor <;> simp [go_sem, h0, h1, h2, h3]
theorem fr2 (w : World) (q : Nat) (x y : Value) : Fr q (q + 1) w ((w.setCell ⟨q, 0, none⟩ x).setCell ⟨q, 1, none⟩ y) :=
 ((Fr.refl _ _ w).setCell (p := ⟨q, 0, none⟩) (Nat.le_refl _) (Nat.lt_succ_self _) _).setCell (p := ⟨q, 1, none⟩) (Nat.le_refl _) (Nat.lt_succ_self _) _
theorem From.set {w0 w : World} (h : From w0 w) (hq : w0.heap.size ≤ q) (x y : Value) : From w0 ((w.setCell ⟨q, 0, none⟩ x).setCell ⟨q, 1, none⟩ y) :=
 ⟨(h.below.setCell (p := ⟨q, 0, none⟩) hq _).setCell (p := ⟨q, 1, none⟩) hq _⟩
end
end Go.Proofs.YtfabbohijhjpcaaGreatDoor

/-
-/
namespace Go.Proofs.YtfabbohijhjpcaaGreatDoor
open Go.RowKit
theorem CountSet_v (s : Nat) (hs : s < 128) (w : World) :
 Calls Tryz.prog 300 #[.int .i64 s] w fun e w' => e = .returned (.int .i64 (cn s : Int)) ∧ Below w.heap.size w w' := CountSet_i s hs w
theorem CountSet_sv (s : Nat) (hs : s < 128) (w : World) :
 Calls Tryz.prog 262 #[.int .i64 s] w fun e w' => e = .returned (.int .i64 (cn s : Int)) ∧ Below w.heap.size w w' := CountSet_s s hs w
section
variable {A : Option Addr} {m c : Nat} {r : Nat → Nat} {fn : FuncId} {caps : Array Value} {p : Nat → Bool}
end
end Go.Proofs.YtfabbohijhjpcaaGreatDoor

/-
-/
namespace Go.Proofs.YtfabbohijhjpcaaGreatDoor
theorem pow_cast (m : Nat) : ((2 ^ m : Nat) : Int) = 2 ^ m := by simp
end Go.Proofs.YtfabbohijhjpcaaGreatDoor

/-
-/
namespace Go.Proofs.YtfabbohijhjpcaaGreatDoor
open Go.RowKit
structure GA (w : World) (A : Option Addr) (m c : Nat) (x : Nat → Int) : Prop where
 rd : Rd w w.heap.size A m c x
theorem GA.keep {w w' : World} {A : Option Addr} {m c : Nat} {x : Nat → Int} (h : GA w A m c x) (hb : Below w.heap.size w w') : GA w' A m c x := ⟨h.rd.keep hb hb.size⟩
theorem GA.gv {w : World} {A : Option Addr} {m c : Nat} {x : Nat → Int} (h : GA w A m c x) (hok : okB m m x = true) : GV w A m c (rw_ x) := GV.of h.rd (Nat.le_refl _) hok
theorem GV.ga {w : World} {A : Option Addr} {m c : Nat} {r : Nat → Nat} (h : GV w A m c r) : GA w A m c (fun v => (r v : Int)) := ⟨h.rd⟩
section
variable {A : Option Addr} {m c : Nat} {r : Nat → Nat}
end
end Go.Proofs.YtfabbohijhjpcaaGreatDoor

/-
-/
namespace Go.Proofs.YtfabbohijhjpcaaGreatDoor
open Go.RowKit
structure LI (w : World) (A : Option Addr) (n c : Nat) (l : List Int) : Prop where
 len : n = l.length
 rd : Rd w w.heap.size A n c (fun j => l.getD j 0)
theorem LI.keep {w w' : World} {A : Option Addr} {n c : Nat} {l : List Int} (h : LI w A n c l) (hb : Below w.heap.size w w') : LI w' A n c l := ⟨h.len, h.rd.keep hb hb.size⟩
theorem LI.drew {w : World} {A : Option Addr} {n c : Nat} {l : List Int} (h : LI w A n c l) : LI w.drew A n c l := ⟨h.len, h.rd⟩
theorem LI.of {w : World} {B : Nat} {A : Option Addr} {n c : Nat} {x : Nat → Int} (h : Rd w B A n c x) (hB : B ≤ w.heap.size) : LI w A n c ((List.range n).map x) :=
 ⟨by simp, (h.keep (Below.refl _ _) hB).congr (fun k hk => by simp [List.getD, hk])⟩
theorem LI.addr {w : World} {A : Option Addr} {n c : Nat} {l : List Int} (h : LI w A n c l) (hn : 0 < n) : ∃ b o, A = some ⟨b, o, none⟩ := by
 obtain ⟨b, o, e, _⟩ := h.rd.pos hn
 exact ⟨b, o, e⟩
theorem LI.at {w : World} {b o n c j : Nat} {l : List Int} (h : LI w (some ⟨b, o, none⟩) n c l) (hj : j < n) : w.cell? ⟨b, o + j, none⟩ = some (.int .i64 (l.getD j 0)) := by
 obtain ⟨b', o', e, _, hc⟩ := h.rd.pos (by omega)
 simp only [Option.some.injEq, Addr.mk.injEq, and_true] at e
 obtain ⟨rfl, rfl⟩ := e
 exact hc j hj
theorem LI.take {w : World} {A : Option Addr} {n c k : Nat} {l : List Int} (h : LI w A n c l) (hk : k ≤ n) : LI w A k c (l.take k) :=
 ⟨by rw [List.length_take, ← h.len]; omega, by have := h.rd.1; omega, fun hn => by
   obtain ⟨b, o, e, hb, hc⟩ := h.rd.2 (by omega)
   refine ⟨b, o, e, hb, fun j hj => ?_⟩
   rw [hc j (by omega)]
   simp [List.getD, hj]⟩
theorem getD_mem {l : List Int} {k : Nat} (h : k < l.length) : l.getD k 0 ∈ l := by simp [List.getD, h]
theorem fIdz_in {l : List Int} {v : Int} (h : v ∈ l) : ∃ k : Nat, k < l.length ∧ fIdx (fun j => l.getD j 0 == v) l.length = (k : Int) := by
 unfold fIdx
 cases hf : (List.range l.length).find? (fun j => l.getD j 0 == v) with
 | some k => exact ⟨k, by have := List.mem_of_find?_eq_some hf; simpa using this, rfl⟩
 | none =>
   exfalso
   rw [List.find?_eq_none] at hf
   obtain ⟨i, hi, rfl⟩ := List.mem_iff_getElem.1 h
   have := hf i (List.mem_range.2 hi)
   simp [List.getD, hi] at this
theorem fIdz_out {l : List Int} {v : Int} (h : v ∉ l) : fIdx (fun j => l.getD j 0 == v) l.length = -1 := by
 refine fIdx_no fun j hj => ?_
 have : l[j] ≠ v := fun e => h (e ▸ List.getElem_mem hj)
 simpa [List.getD, hj] using this
set_option maxHeartbeats 1000000 in
theorem Index_z (A : Option Addr) (n c : Nat) (l : List Int) (v : Int) (w : World) (h : LI w A n c l) (hl : n ≤ 1048576) :
 Calls Tryz.prog 331 #[.slice A n c, .int .i64 v] w fun e w' => e = .returned (.int .i64 (fIdx (fun j => l.getD j 0 == v) l.length)) ∧ w = w' := by
 have HR := Lib.hid h
 have HN := Lib.hid h.len
 clear h
 go_enter Tryz.func331, Tryz.ntmps331
 go_wp2
 go_loop [8] (fun i => ∃ k : Nat, k ≤ n ∧ i = .int .i64 k ∧ Hid (∀ j, j < k → (l.getD j 0 == v) = false)) (fun i => n - (intOf i).toNat)
 case atStart => exact ⟨0, Nat.zero_le _, rfl, (fun j hj => absurd hj (by omega))⟩
 case round =>
  obtain ⟨k, hk, rfl, hall⟩ := hrel
  by_cases hlt : k < n
  ·obtain ⟨b, o, rfl⟩ := HR.out.addr (by omega)
   have q0 := HR.out.at hlt
   obtain ⟨u, hu⟩ : ∃ u : Int, u = l.getD k 0 := ⟨_, rfl⟩
   rw [← hu] at q0
   have Hu := Lib.hid hu
   have i1 : (k : Int) < (n : Int) := by omega
   clear hu
   by_cases hp : v = u
   ·have Hi : Hid (fIdx (fun j => l.getD j 0 == v) l.length = k) := fIdx_yes (by rw [← HN.out]; exact hlt) (by show (l.getD k 0 == v) = true; rw [← Hu.out, hp]; simp) hall.out
    subst hp
    go_wp2
    go_ret
    exact ⟨ret_int Hi.out.symm, rfl⟩
   ·have hne : (v == u) = false := by simpa using hp
    have hne2 : (v = u) = False := by simp [hp]
    have Hp : Hid ((l.getD k 0 == v) = false) := by show _ = _; rw [← Hu.out]; simpa using fun e => hp e.symm
    clear hp
    go_wp2
    go_round
    case rel =>
     refine ⟨k + 1, by omega, by go_num, fun j hj => ?_⟩
     by_cases hjk : j < k
     ·exact hall.out j hjk
     ·obtain rfl : j = k := by omega
      exact Hp.out
    case measure => simp [intOf]; omega
  ·have Hi : Hid (fIdx (fun j => l.getD j 0 == v) l.length = -1) := fIdx_no fun j hj => hall.out j (by rw [← HN.out] at hj; omega)
   have i1 : (n : Int) ≤ (k : Int) := by omega
   go_wp2
   go_ret
   exact ⟨ret_int Hi.out.symm, rfl⟩
set_option maxHeartbeats 1000000 in
theorem Contains_z (A : Option Addr) (n c : Nat) (l : List Int) (v : Int) (w : World) (h : LI w A n c l) (hl : n ≤ 1048576) :
 Calls Tryz.prog 283 #[.slice A n c, .int .i64 v] w fun e w' => e = .returned (.bool (decide (v ∈ l))) ∧ w = w' := by
 have HI := Lib.hid (Index_z A n c l v w h hl)
 clear h
 by_cases hv : v ∈ l
 ·obtain ⟨k, _, hk⟩ := fIdz_in hv
  rw [hk] at HI
  have Hd : Hid (decide (v ∈ l) = true) := decide_eq_true hv
  have k0 : (0 : Int) ≤ (k : Int) := by omega
  clear hk hv
  go_enter Tryz.func283, Tryz.ntmps283
  go_wp2_with fail
  refine HI.out.mono ?_
  rintro e w' ⟨rfl, rfl⟩
  go_wp2
  go_ret
  exact ⟨ret_bool Hd.out.symm, rfl⟩
 ·rw [fIdz_out hv] at HI
  have Hd : Hid (decide (v ∈ l) = false) := decide_eq_false hv
  clear hv
  go_enter Tryz.func283, Tryz.ntmps283
  go_wp2_with fail
  refine HI.out.mono ?_
  rintro e w' ⟨rfl, rfl⟩
  go_wp2
  go_ret
  exact ⟨ret_bool Hd.out.symm, rfl⟩
theorem nodup_lenz : ∀ {m : Nat} {l : List Nat}, l.Nodup → (∀ v ∈ l, v < m) → l.length ≤ m := by
 intro m
 induction m with
 | zero =>
   intro l _ h
   cases l with
   | nil => exact Nat.le_refl _
   | cons a l => exact absurd (h a (by simp)) (by omega)
 | succ m ih =>
   intro l hn h
   by_cases hm : m ∈ l
   ·have h1 := ih (hn.erase m) (fun v hv => by
     have := (hn.mem_erase_iff).1 hv
     have := h v this.2
     omega)
    rw [List.length_erase_of_mem hm] at h1
    omega
   ·have := ih hn (fun v hv => by
     have h1 := h v hv
     have : v ≠ m := fun e => hm (e ▸ hv)
     omega)
    omega
theorem map_nodup {l : List Int} (hn : l.Nodup) (h : ∀ v ∈ l, 0 ≤ v) : (l.map Int.toNat).Nodup := by
 induction l with
 | nil => exact List.nodup_nil
 | cons a l ih =>
   rw [List.nodup_cons] at hn
   rw [List.map_cons, List.nodup_cons]
   refine ⟨fun hm => ?_, ih hn.2 (fun v hv => h v (by simp [hv]))⟩
   obtain ⟨b, hb, e⟩ := List.mem_map.1 hm
   have h1 := h b (by simp [hb])
   have h2 := h a (by simp)
   have : a = b := by omega
   exact hn.1 (this ▸ hb)
def VZ (m : Nat) (l : List Int) : Prop := l.Nodup ∧ ∀ v ∈ l, 0 ≤ v ∧ v < m
noncomputable def vzB (m : Nat) (l : List Int) : Bool := @decide (VZ m l) (Classical.propDecidable _)
theorem vzB_yes {m : Nat} {l : List Int} (h : VZ m l) : vzB m l = true := @decide_eq_true _ (Classical.propDecidable _) h
theorem vzB_no {m : Nat} {l : List Int} (h : ¬ VZ m l) : vzB m l = false := @decide_eq_false _ (Classical.propDecidable _) h
theorem vzB_iff {m : Nat} {l : List Int} : vzB m l = true ↔ VZ m l := ⟨(fun h => Classical.byContradiction fun h2 => by rw [vzB_no h2] at h; cases h), vzB_yes⟩
noncomputable def vrB (sz : Int) (m : Nat) (x : Nat → Int) (l : List Int) : Bool := okB sz m x && vzB m l
theorem vrB_bad {sz : Int} {m : Nat} {x : Nat → Int} {l : List Int} (h : okB sz m x = false) : vrB sz m x l = false := by unfold vrB; rw [h]; rfl
theorem vrB_ok {sz : Int} {m : Nat} {x : Nat → Int} {l : List Int} (h : okB sz m x = true) : vrB sz m x l = vzB m l := by unfold vrB; rw [h]; rfl
theorem nodupz_take {l : List Int} {k : Nat} (hk : k < l.length) (h : (l.take k).Nodup) (hn : l.getD k 0 ∉ l.take k) : (l.take (k + 1)).Nodup := by
 have e : l.getD k 0 = l[k] := by simp [List.getD, hk]
 rw [e] at hn
 rw [List.take_succ_eq_append_getElem hk, List.nodup_append]
 exact ⟨h, by simp, fun a ha b hb e => by rw [List.mem_singleton] at hb; subst hb; subst e; exact hn ha⟩
theorem not_nodupz {l : List Int} {k : Nat} (hk : k < l.length) (hn : l.getD k 0 ∈ l.take k) : ¬ l.Nodup := by
 intro h
 have e : l.getD k 0 = l[k] := by simp [List.getD, hk]
 rw [e] at hn
 have h2 : (l.take (k + 1)).Nodup := h.sublist (List.take_sublist _ _)
 rw [List.take_succ_eq_append_getElem hk, List.nodup_append] at h2
 exact h2.2.2 _ hn _ (List.mem_singleton_self _) rfl
theorem VZ.len {m : Nat} {l : List Int} (h : VZ m l) : l.length ≤ m := by
 have e : (l.map Int.toNat).length = l.length := by simp
 rw [← e]
 refine nodup_lenz ?_ ?_
 ·exact map_nodup h.1 (fun v hv => (h.2 v hv).1)
 ·intro v hv
  obtain ⟨u, hu, rfl⟩ := List.mem_map.1 hv
  have := h.2 u hu; omega
set_option maxHeartbeats 1600000 in
theorem areVertices_z (sz : Int) (A : Option Addr) (m c : Nat) (x : Nat → Int) (Al : Option Addr) (n cl : Nat) (l : List Int) (w : World) (h : GA w A m c x) (hl : LI w Al n cl l) (hm : m ≤ 1048576) (hn : n ≤ 1048576) :
 Calls Tryz.prog 291 #[.agg #[.int .i64 sz, .slice A m c], .slice Al n cl] w fun e w' => e = .returned (.bool (vrB sz m x l)) ∧ Below w.heap.size w w' := by
 obtain ⟨W, hW⟩ : ∃ W : World, W = (w.alloc (Obj.cells #[Value.int IntKind.i64 sz, Value.slice A m c] 26)) := ⟨_, rfl⟩
 have HB : Hid (From w W) := by rw [hW]; exact From.alloc _ _
 have HK := Lib.hid (h.keep HB.out.below)
 have HL := Lib.hid (hl.keep HB.out.below)
 have HC : Hid (GC W w.heap.size sz A m c) := by rw [hW]; exact GC.new _ _ _ _ _
 have HW := Lib.hid hW
 have HN := Lib.hid hl.len
 have hcap : n ≤ cl := hl.rd.1
 have e0 := HC.out.c0
 have e1 := HC.out.c1
 clear hW h hl
 cases ho : okB sz m x
 ·have hno : Hid (vrB sz m x l = false) := vrB_bad ho
  have Ho := Lib.hid ho
  clear ho
  go_enter Tryz.func291, Tryz.ntmps291
  go_wp2
  rw [← HW.out]
  clear HW
  go_loop [9] (fun i => ∃ k : Nat, k ≤ n ∧ i = .int .i64 k) (fun i => n - (intOf i).toNat)
  case atStart => exact ⟨0, Nat.zero_le _, rfl⟩
  case round =>
   obtain ⟨k, hk, rfl⟩ := hrel
   by_cases hlt : k < n
   ·obtain ⟨b, o, rfl⟩ := HL.out.addr (by omega)
    have q0 := HL.out.at hlt
    obtain ⟨u, hu⟩ : ∃ u : Int, u = l.getD k 0 := ⟨_, rfl⟩
    rw [← hu] at q0
    have KC := Lib.hid (Contains_z (some ⟨b, o, none⟩) k cl (l.take k) u W (HL.out.take (by omega)) (by omega))
    have i1 : (k : Int) < (n : Int) := by omega
    have i4 : (k : Int) ≤ (cl : Int) := by omega
    clear hu
    go_wp2_with fail
    refine (within_any u 0 _ W).mono ?_
    rintro e w' ⟨rfl, rfl⟩
    obtain ⟨t, ht⟩ : ∃ t, t = (decide (0 ≤ u) && decide (u ≤ wrap64 (sz - 1))) := ⟨_, rfl⟩
    rw [← ht]
    clear ht
    cases t
    ·go_wp2
     go_ret
     exact ⟨ret_bool hno.out.symm, HB.out.below⟩
    ·go_wp2_with fail
     refine KC.out.mono ?_
     rintro e w' ⟨rfl, rfl⟩
     obtain ⟨t, ht⟩ : ∃ t, t = decide (u ∈ l.take k) := ⟨_, rfl⟩
     rw [← ht]
     clear ht
     cases t
     ·go_wp2
      go_round
      case rel => exact ⟨k + 1, by omega, by go_num⟩
      case measure => simp [intOf]; omega
     ·go_wp2
      go_ret
      exact ⟨ret_bool hno.out.symm, HB.out.below⟩
   ·have i1 : (n : Int) ≤ (k : Int) := by omega
    go_wp2_with fail
    refine (IsGraph_any sz A m c x W W.heap.size HK.out.rd (Nat.le_refl _) hm).mono ?_
    rintro e w1 ⟨rfl, hb1⟩
    rw [Ho.out]
    have HB1 := Lib.hid (HB.out.keep hb1)
    clear hb1
    go_wp2
    go_ret
    exact ⟨ret_bool hno.out.symm, HB1.out.below⟩
 ·have hv : Hid (vrB sz m x l = vzB m l) := vrB_ok ho
  obtain ⟨_, es, vg0, _⟩ := okB_ok' ho
  subst es
  have hn1 := vg0.n1
  have hn7 := vg0.n7
  have Ho := Lib.hid ho
  clear ho vg0
  go_enter Tryz.func291, Tryz.ntmps291
  go_wp2
  rw [← HW.out]
  clear HW
  go_loop [9] (fun i => ∃ k : Nat, k ≤ n ∧ i = .int .i64 k ∧ Hid ((l.take k).Nodup ∧ ∀ v ∈ l.take k, 0 ≤ v ∧ v < (m : Int))) (fun i => n - (intOf i).toNat)
  case atStart => exact ⟨0, Nat.zero_le _, rfl, by simp [Hid]⟩
  case round =>
   obtain ⟨k, hk, rfl, hall⟩ := hrel
   by_cases hlt : k < n
   ·have hkl : k < l.length := by rw [← HN.out]; exact hlt
    obtain ⟨b, o, rfl⟩ := HL.out.addr (by omega)
    have q0 := HL.out.at hlt
    have hmem := getD_mem hkl
    obtain ⟨u, hu⟩ : ∃ u : Int, u = l.getD k 0 := ⟨_, rfl⟩
    rw [← hu] at q0 hmem
    have KC := Lib.hid (Contains_z (some ⟨b, o, none⟩) k cl (l.take k) u W (HL.out.take (by omega)) (by omega))
    have i1 : (k : Int) < (n : Int) := by omega
    have i4 : (k : Int) ≤ (cl : Int) := by omega
    have Hu := Lib.hid hu
    have Hm := Lib.hid hmem
    clear hu hmem
    by_cases hr : 0 ≤ u ∧ u < (m : Int)
    ·obtain ⟨r1, r2⟩ := hr
     go_wp2_with fail
     refine (within_yes u 0 _ W r1 (by omega)).mono ?_
     rintro e w' ⟨rfl, rfl⟩
     go_wp2_with fail
     refine KC.out.mono ?_
     rintro e w' ⟨rfl, rfl⟩
     by_cases hin : u ∈ l.take k
     ·have hno : Hid (vzB m l = false) := vzB_no fun h => not_nodupz hkl (by rw [← Hu.out]; exact hin) h.1
      rw [decide_eq_true hin]
      clear hin
      go_wp2
      go_ret
      exact ⟨ret_bool (by rw [hv.out, hno.out]), HB.out.below⟩
     ·have hyes : Hid ((l.take (k + 1)).Nodup ∧ ∀ v ∈ l.take (k + 1), 0 ≤ v ∧ v < (m : Int)) := by
       refine ⟨nodupz_take hkl hall.out.1 (by rw [← Hu.out]; exact hin), fun v hv2 => ?_⟩
       rw [List.take_succ_eq_append_getElem hkl, List.mem_append, List.mem_singleton] at hv2
       rcases hv2 with h | h
       ·exact hall.out.2 v h
       ·have e : l.getD k 0 = l[k] := by simp [List.getD, hkl]
        rw [h, ← e, ← Hu.out]; exact ⟨r1, r2⟩
      rw [decide_eq_false hin]
      clear hin
      go_wp2
      go_round
      case rel => exact ⟨k + 1, by omega, by go_num, hyes⟩
      case measure => simp [intOf]; omega
    ·have hno : Hid (vzB m l = false) := vzB_no fun h => hr (h.2 u Hm.out)
     have hr' : Hid (u < 0 ∨ (m : Int) - 1 < u) := by show _ ∨ _; omega
     clear hr
     go_wp2_with fail
     refine (within_no u 0 _ W (by have := hr'.out; omega)).mono ?_
     rintro e w' ⟨rfl, rfl⟩
     go_wp2
     go_ret
     exact ⟨ret_bool (by rw [hv.out, hno.out]), HB.out.below⟩
   ·have hyes : Hid (vzB m l = true) := by
     refine vzB_yes ?_
     have := hall.out
     rwa [List.take_of_length_le (by rw [← HN.out]; omega)] at this
    have i1 : (n : Int) ≤ (k : Int) := by omega
    go_wp2_with fail
    refine (IsGraph_any m A m c x W W.heap.size HK.out.rd (Nat.le_refl _) hm).mono ?_
    rintro e w1 ⟨rfl, hb1⟩
    rw [Ho.out]
    have HB1 := Lib.hid (HB.out.keep hb1)
    clear hb1
    go_wp2
    go_ret
    exact ⟨ret_bool (by rw [hv.out, hyes.out]), HB1.out.below⟩
end Go.Proofs.YtfabbohijhjpcaaGreatDoor
