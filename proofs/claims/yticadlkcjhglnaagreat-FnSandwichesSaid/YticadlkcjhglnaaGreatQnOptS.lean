/-
  Several texts in one.
-/
import Derived.Test.YticadlkcjhglnaaGreatQnColI
import Derived.Test.YticadlkcjhglnaaGreatQnSet2I
import Derived.Test.YticadlkcjhglnaaGreatQnBarP
import Derived.Test.YticadlkcjhglnaaGreatQnListS
import Derived.Test.YticadlkcjhglnaaGreatQnGB
import Derived.Test.YticadlkcjhglnaaGreatRows
import Derived.Test.YticadlkcjhglnaaGreatQnGA
import Derived.Deep.RegionHeld3
import Derived.Deep.QuietTactic
import Derived.BigQuiet
import Derived.ProofKit
import Derived.OpenShut
import Derived.ShutString
import Derived.Lib.SmallJoins
import Derived.Carry
import Derived.Deep.Slices
import Derived.Deep.Fields
import Derived.ChangeSame
/-
-/
namespace Go.Proofs.YticadlkcjhglnaaGreat
open Go.RowKit
section
variable {A : Option Addr} {m c : Nat} {r : Nat → Nat}
set_option maxHeartbeats 1000000 in
theorem LargestClique_v {w : World} (h : GV w A m c r) :
 Calls Tryz.prog 217 #[.agg #[.int .i64 m, .slice A m c]] w fun e w' => e = .returned (.int .i64 (lqN r m : Nat)) ∧ Below w.heap.size w w' := by
 obtain ⟨W, hW⟩ : ∃ W : World, W = (w.alloc (Obj.cells #[Value.int IntKind.i64 m, Value.slice A m c] 26)) := ⟨_, rfl⟩
 have HB : Hid (From w W) := by rw [hW]; exact From.alloc _ _
 have HG : Hid (GBox W w.heap.size A m c r) := by rw [hW]; exact h.box
 have HW := Lib.hid hW
 clear hW h
 have e0 := HG.out.c0
 have e1 := HG.out.c1
 go_enter Tryz.func217, Tryz.ntmps217
 go_wp2_with fail
 rw [← HW.out]
 refine (largest_g (p := cliq r) (caps := #[]) (ent_of Tryz.func213 (by kernel_rfl) rfl) W HG.out.gv (fun s z hs hb => IsClique_v (HG.out.gv.keep hb) hs)).mono ?_
 rintro e w1 ⟨rfl, hb1⟩
 clear HW
 clear e0 e1
 replace HB := Lib.hid (HB.out.keep hb1)
 replace HG := Lib.hid (HG.out.keep hb1)
 clear hb1
 have e0 := HG.out.c0
 have e1 := HG.out.c1
 go_wp2
 go_ret
 exact ⟨rfl, HB.out.below⟩
set_option maxHeartbeats 1000000 in
theorem CliqueNumber_v {w : World} (h : GV w A m c r) :
 Calls Tryz.prog 204 #[.agg #[.int .i64 m, .slice A m c]] w fun e w' => e = .returned (.int .i64 (cn (lqN r m) : Nat)) ∧ Below w.heap.size w w' := by
 have hl : lqN r m < 128 := Nat.lt_of_lt_of_le (lq_lt r m) (two_pow_le h.vg.n7)
 obtain ⟨W, hW⟩ : ∃ W : World, W = (w.alloc (Obj.cells #[Value.int IntKind.i64 m, Value.slice A m c] 26)) := ⟨_, rfl⟩
 have HB : Hid (From w W) := by rw [hW]; exact From.alloc _ _
 have HG : Hid (GBox W w.heap.size A m c r) := by rw [hW]; exact h.box
 have HW := Lib.hid hW
 clear hW h
 have e0 := HG.out.c0
 have e1 := HG.out.c1
 go_enter Tryz.func204, Tryz.ntmps204
 go_wp2_with fail
 rw [← HW.out]
 refine (IsGraph_v HG.out.gv).mono ?_
 rintro e w1 ⟨rfl, hb1⟩
 clear HW
 clear e0 e1
 replace HB := Lib.hid (HB.out.keep hb1)
 replace HG := Lib.hid (HG.out.keep hb1)
 clear hb1
 have e0 := HG.out.c0
 have e1 := HG.out.c1
 go_wp2_with fail
 refine (LargestClique_v HG.out.gv).mono ?_
 rintro e w2 ⟨rfl, hb2⟩
 clear e0 e1
 replace HB := Lib.hid (HB.out.keep hb2)
 replace HG := Lib.hid (HG.out.keep hb2)
 clear hb2
 have e0 := HG.out.c0
 have e1 := HG.out.c1
 go_wp2_with fail
 refine (CountSet_v (lqN r m) hl _).mono ?_
 rintro e w3 ⟨rfl, hb3⟩
 clear e0 e1
 replace HB := Lib.hid (HB.out.keep hb3)
 replace HG := Lib.hid (HG.out.keep hb3)
 clear hb3
 have e0 := HG.out.c0
 have e1 := HG.out.c1
 go_wp2
 go_ret
 exact ⟨rfl, HB.out.below⟩
set_option maxRecDepth 100000 in
set_option maxHeartbeats 1600000 in
theorem ChromaticNumber_v {w : World} (h : GV w A m c r) :
 Calls Tryz.prog 203 #[.agg #[.int .i64 m, .slice A m c]] w fun e w' => e = .returned (.int .i64 (chN r m : Nat)) ∧ Below w.heap.size w w' := by
 have hn7 := h.vg.n7
 have hn1 := h.vg.n1
 obtain ⟨hcm, hsome, hmin⟩ := chN_spec (r := r) hn1
 have hpos := chN_pos (r := r) (m := m)
 have HS := Lib.hid hsome
 have HM := Lib.hid hmin
 obtain ⟨K, hK⟩ : ∃ K, K = chN r m := ⟨_, rfl⟩
 rw [← hK] at hcm HS HM hpos ⊢
 clear hsome hmin hK
 obtain ⟨W, hW⟩ : ∃ W : World, W = (w.alloc (Obj.cells #[Value.int IntKind.i64 m, Value.slice A m c] 26)) := ⟨_, rfl⟩
 have HB : Hid (From w W) := by rw [hW]; exact From.alloc _ _
 have HG : Hid (GBox W w.heap.size A m c r) := by rw [hW]; exact h.box
 have HW := Lib.hid hW
 clear hW h
 have e0 := HG.out.c0
 have e1 := HG.out.c1
 have HR0 : Hid (From W W) := From.refl W
 go_enter Tryz.func203, Tryz.ntmps203
 go_wp2_with fail
 rw [← HW.out]
 go_wp2
 go_loopw [3] (fun i wr => ∃ k : Nat, 1 ≤ k ∧ k ≤ K ∧ i = .int .i64 k ∧ Hid (From W wr)) (fun i _ => K - (intOf i).toNat)
 case atStart => exact ⟨1, Nat.le_refl _, hpos, rfl, HR0⟩
 case round =>
  clear HR0
  obtain ⟨k, hk1, hk, rfl, HR⟩ := hrel
  clear e0 e1
  replace HB := Lib.hid (HB.out.keep HR.out.below)
  replace HG := Lib.hid (HG.out.keep HR.out.below)
  have e0 := HG.out.c0
  have e1 := HG.out.c1
  have i1 : (k : Int) ≤ 7 := by omega
  cases hs : (cOf r m k).isSome
  ·have hlt : k < K := by
    by_cases e : k = K
    ·subst e; rw [HS.out] at hs; cases hs
    ·omega
   have Hs := Lib.hid hs
   clear hs
   go_wp2_with fail
   refine (ColoringWith_v HG.out.gv hk1 (by omega)).mono ?_
   rintro e w5 ⟨A5, n5, c5, rfl, _, hb5⟩
   rw [Hs.out]
   clear e0 e1
   replace HB := Lib.hid (HB.out.keep hb5)
   replace HG := Lib.hid (HG.out.keep hb5)
   replace HR := Lib.hid (HR.out.keep hb5)
   clear hb5
   have e0 := HG.out.c0
   have e1 := HG.out.c1
   go_wp2
   go_roundw
   case rel => exact ⟨k + 1, by omega, by omega, by go_num, HR⟩
   case measure => (simp [intOf] <;> omega)
  ·have hKe : k = K := by
    by_cases e : k < K
    ·rw [HM.out k hk1 e] at hs; cases hs
    ·omega
   have Hs := Lib.hid hs
   have HKe := Lib.hid hKe
   clear hs hKe
   go_wp2_with fail
   refine (ColoringWith_v HG.out.gv hk1 (by omega)).mono ?_
   rintro e w5 ⟨A5, n5, c5, rfl, _, hb5⟩
   rw [Hs.out]
   clear e0 e1
   replace HB := Lib.hid (HB.out.keep hb5)
   replace HG := Lib.hid (HG.out.keep hb5)
   replace HR := Lib.hid (HR.out.keep hb5)
   clear hb5
   have e0 := HG.out.c0
   have e1 := HG.out.c1
   go_wp2
   go_ret
   exact ⟨ret_int (by rw [HKe.out]), HB.out.below⟩
end
end Go.Proofs.YticadlkcjhglnaaGreat

/-
-/
namespace Go.Proofs.YticadlkcjhglnaaGreat
open Go.RowKit
section
variable {A : Option Addr} {m c : Nat} {r : Nat → Nat}
theorem made_own (w : World) (n : Nat) (hn : n ≤ 1048576) : ∃ W : World, (Instr.makeSlice 24 (.int .i64 (n : Int)) (.int .i64 (n : Int))).run Tryz.prog w = .ok (.slice (some ⟨w.heap.size, 0, none⟩) n n) W ∧ Own W w.heap.size (w.heap.size + 1) 3 1 (some ⟨w.heap.size, 0, none⟩) n n (fun _ => .int .i64 0) ∧ Below w.heap.size w W := by
 refine ⟨_, run_make_row' (P := Tryz.prog) 24 3 (.int .i64 0) 8 Tryz.underlying24 info_int rfl .i64 .i64 n (by omega) (by omega) w, ?_, (Below.refl _ _).alloc (Nat.le_refl _) _⟩
 obtain ⟨cc, q1, q2, q3⟩ := World.rowIs_made w (.int .i64 0) n 3
 exact .inr ⟨_, cc, rfl, Nat.le_refl _, Nat.lt_succ_self _, q1, Nat.le_refl _, by unfold maxLen; omega, by omega, fun j hj => by rw [q3 j (by omega)]⟩
end
end Go.Proofs.YticadlkcjhglnaaGreat

/-
-/
namespace Go.Proofs.YticadlkcjhglnaaGreat
open Go.RowKit
theorem LN.li {w : World} {A : Option Addr} {c : Nat} {l : List Nat} (h : LN w A c l) : LI w A l.length c (l.map fun v : Nat => (v : Int)) :=
 ⟨by simp, h.rd.congr fun k hk => by simp [List.getD, hk]⟩
section
variable {fn : FuncId} {caps : Array Value} {p : Int → Bool}
end
end Go.Proofs.YticadlkcjhglnaaGreat

/-
-/
namespace Go.Proofs.YticadlkcjhglnaaGreat
open Go.RowKit
theorem VZ.all {m : Nat} {l : List Int} (h : VZ m l) (hl : l.length = m) {v : Int} (h0 : 0 ≤ v) (h1 : v < m) : v ∈ l := by
 refine Classical.byContradiction fun hn => ?_
 have : VZ m (v :: l) := ⟨List.nodup_cons.2 ⟨hn, h.1⟩, fun u hu => by
  rw [List.mem_cons] at hu
  rcases hu with rfl | hu
  ·exact ⟨h0, h1⟩
  ·exact h.2 u hu⟩
 have := this.len
 rw [List.length_cons] at this
 omega
end Go.Proofs.YticadlkcjhglnaaGreat

/-
-/
namespace Go.Proofs.YticadlkcjhglnaaGreat
open Go.RowKit
theorem listN_getD {s j : Nat} (h : j < (listN s).length) : (listN s).getD j 0 = (listN s)[j] := by simp [List.getD, h]
theorem listN_lt {s m j : Nat} (hs : s < 2 ^ m) (hj : j < (listN s).length) : (listN s).getD j 0 < m := by
 rw [listN_getD hj]
 exact bit_lt hs (listN_at hj).2
end Go.Proofs.YticadlkcjhglnaaGreat

/-
-/
/-
 Contracts of the law's helpers on slices of edits.
-/
namespace Go.Proofs.YticadlkcjhglnaaGreat
open Go.RowKit
end Go.Proofs.YticadlkcjhglnaaGreat
/-
 Contracts of the law's helpers on slices of at most nine strings.
-/
namespace Go.Proofs.YticadlkcjhglnaaGreat
open Go.RowKit
def strs (x : Nat → ByteArray) : Nat → Value := fun j => .string (x j)
end Go.Proofs.YticadlkcjhglnaaGreat
/-
 How the laws' arguments read: slices of integers, graphs, integers, strings.
-/
namespace Go.Proofs.YticadlkcjhglnaaGreat
open Go.ChangeShapes Go.WideShapes Go.ChangeAt Go.RowKit
theorem own : ownKnob Tryz.prog.godebug = none := by kernel_rfl
theorem laidOut : laidOutB Tryz.prog = true := by kernel_rfl
section
variable {H : Type} {enc : TypeId × Value → H} {w : World} {base : Nat} {spare : Nat → Bool} {held : Bool}
theorem places_lt {t : TypeId} {v : Value} {d : DataW H} {p : List MemPlace} (h : DataW.Trod enc Tryz.prog w base spare held t v d p) : ∀ x ∈ p, x.block < w.heap.size := by
 obtain ⟨m, hm⟩ := h
 exact DataW.trod_lt m _ _ _ hm
end
end Go.Proofs.YticadlkcjhglnaaGreat
/-
 How further arguments read (slices of edits); small laws that the generated walks use.
-/
namespace Go.Proofs.YticadlkcjhglnaaGreat
open Go.ChangeShapes Go.WideShapes Go.ChangeAt Go.RowKit Go.Deep
theorem bd {w w' : World} (h : Below w.drew.heap.size w.drew w') : Below w.heap.size w w' := ⟨h.os, h.tape, h.output, h.size, h.block⟩
section
variable {H : Type} {enc : TypeId × Value → H} {w : World} {base : Nat} {spare : Nat → Bool} {held : Bool}
end
end Go.Proofs.YticadlkcjhglnaaGreat
/-
 Contract of the law's helper that asks whether a graph holds its marks.
-/
namespace Go.Proofs.YticadlkcjhglnaaGreat
open Go.RowKit
end Go.Proofs.YticadlkcjhglnaaGreat
/-
 How arguments read: slices of slices of integers; integers; strings.
-/
namespace Go.Proofs.YticadlkcjhglnaaGreat
open Go.ChangeShapes Go.WideShapes Go.ChangeAt Go.RowKit Go.Deep
section
variable {H : Type} {enc : TypeId × Value → H} {w : World} {base : Nat} {spare : Nat → Bool} {held : Bool}
end
end Go.Proofs.YticadlkcjhglnaaGreat

/-
-/
namespace Go.Proofs.YticadlkcjhglnaaGreat
open Go.RowKit
set_option maxHeartbeats 1000000 in
theorem OptionalEdges_s (s1 : Int) (A1 : Option Addr) (m1 c1 : Nat) (x1 : Nat → Int) (s2 : Int) (A2 : Option Addr) (m2 c2 : Nat) (x2 : Nat → Int) (w : World) (B : Nat) (h1 : Rd w B A1 m1 c1 x1) (h2 : Rd w B A2 m2 c2 x2) (hB : B ≤ w.heap.size) (hm1 : m1 ≤ 1048576) (hm2 : m2 ≤ 1048576) :
 Calls Tryz.prog 20 #[.agg #[.int .i64 s1, .slice A1 m1 c1], .agg #[.int .i64 s2, .slice A2 m2 c2]] w fun e w' => ∃ A' c' D, e = .returned (.tuple #[.slice A' D.length c', .bool (wiB s1 m1 x1 s2 m2 x2)]) ∧ lists D = optL s1 m1 x1 s2 m2 x2 ∧ OwnD w' w.heap.size w'.heap.size A' c' D ∧ Below w.heap.size w w' := by
 obtain ⟨W, hW⟩ : ∃ W : World, W = ((w.alloc (Obj.cells #[Value.int IntKind.i64 s1, Value.slice A1 m1 c1] 26)).alloc (Obj.cells #[Value.int IntKind.i64 s2, Value.slice A2 m2 c2] 26)).alloc (Obj.cells #[] 24) := ⟨_, rfl⟩
 have HB : Hid (Below w.heap.size w W) := by rw [hW]; exact (((Below.refl _ _).alloc (Nat.le_refl _) _).alloc (by simp) _).alloc (by simp <;> omega) _
 have hsz : w.heap.size + 3 = W.heap.size := by rw [hW]; simp
 have hs0 : w.heap.size < W.heap.size := by omega
 have hs1 : w.heap.size + 1 < W.heap.size := by omega
 have e0 : W.cell? ⟨w.heap.size, 0, none⟩ = some (.int .i64 s1) := by rw [hW]; simp [go_sem]
 have e1 : W.cell? ⟨w.heap.size, 1, none⟩ = some (.slice A1 m1 c1) := by rw [hW]; simp [go_sem]
 have e2 : W.cell? ⟨w.heap.size + 1, 0, none⟩ = some (.int .i64 s2) := by rw [hW]; simp [go_sem]
 have e3 : W.cell? ⟨w.heap.size + 1, 1, none⟩ = some (.slice A2 m2 c2) := by rw [hW]; simp [go_sem]
 have hg0 : W.heap[w.heap.size + 2]? = some (.cells #[] 24 (0, 0)) := by
  rw [hW]
  have := heap_alloc_new ((w.alloc (Obj.cells #[Value.int IntKind.i64 s1, Value.slice A1 m1 c1] 26)).alloc (Obj.cells #[Value.int IntKind.i64 s2, Value.slice A2 m2 c2] 26)) (Obj.cells #[] 24)
  simpa using this
 have k1 := h1.keep (HB.out.mono hB) (Nat.le_refl _)
 have k2 := h2.keep (HB.out.mono hB) (Nat.le_refl _)
 have HW := Lib.hid hW
 clear hW h1 h2
 go_enter Tryz.func20, Tryz.ntmps20
 go_wp2_with fail
 rw [← HW.out]
 refine (l31Within_any s1 s2 A1 A2 m1 m2 c1 c2 x1 x2 W B k1 k2 (by omega) hm1 hm2).mono ?_
 rintro e w1 ⟨rfl, hb1⟩
 have f0 := up hb1 e0 hs0
 have f1 := up hb1 e1 hs0
 have f2 := up hb1 e2 hs1
 have f3 := up hb1 e3 hs1
 have z1 := hb1.size
 have hg1 := (hb1.block _ (by omega)).trans hg0
 clear hg0
 have HB1 := Lib.hid (HB.out.trans (hb1.mono (by omega)))
 have k1' := k1.keep (hb1.mono (by omega)) (Nat.le_refl _)
 have k2' := k2.keep (hb1.mono (by omega)) (Nat.le_refl _)
 clear HW HB e0 e1 e2 e3 hb1 k1 k2
 cases hw : wiB s1 m1 x1 s2 m2 x2
 ·have HL : Hid (([] : List (List Int)) = optL s1 m1 x1 s2 m2 x2) := by show [] = optL _ _ _ _ _ _; unfold optL; rw [hw]; rfl
  have Hw := Lib.hid hw
  clear hw
  go_wp2
  go_ret2
  exact ⟨_, 0, [], by rw [Hw.out]; rfl, HL.out, OwnD.none_ _ _ _ _ (by omega) (by omega) hg1, HB1.out⟩
 ·have HL : Hid ((edgesL s2 m2 x2).filter (pOpt x1) = optL s1 m1 x1 s2 m2 x2) := by show _ = optL _ _ _ _ _ _; unfold optL; rw [hw]; rfl
  have hWi : Wi s1 m1 x1 s2 m2 x2 := by
   refine Classical.byContradiction fun h => ?_
   rw [wiB_no h] at hw; cases hw
  obtain ⟨⟨r1, es1, vg1, hx1⟩, ⟨r2, es2, vg2, hx2⟩, es, _⟩ := hWi
  obtain rfl : m1 = m2 := by omega
  have hzz0 : w.heap.size < w1.heap.size := by omega
  have hzz1 : w.heap.size + 1 < w1.heap.size := by omega
  have Hw := Lib.hid hw
  have hn1 := vg1.n1
  have hn7 := vg1.n7
  obtain ⟨b, o, rfl, lb, hc⟩ := k1'.pos (by omega)
  have HX := Lib.hid hx1
  have HV := Lib.hid vg1
  have HC := Lib.hid hc
  clear hw es1 es2 es vg1 hx1 hx2 hc vg2
  go_wp2_with fail
  refine (EdgesOf_s s2 A2 m1 c2 x2 w1 B k2' (by omega) hm1).mono ?_
  rintro e w2 ⟨A', c', D, rfl, hD, hO, hb2⟩
  have hz2 := hb2.size
  have HO := Lib.hid hO
  have HD := Lib.hid hD
  have g1 := up hb2 (w1 := w2) (b := w.heap.size) (o := 1) (v := .slice (some ⟨b, o, none⟩) m1 c1) f1 (by omega)
  have g2 := up hb2 (w1 := w2) (b := w.heap.size) (o := 0) (v := .int .i64 s1) f0 (by omega)
  have hg0 : Own w2 (w.heap.size + 2) (w.heap.size + 2 + 1) 24 1 (some ⟨w.heap.size + 2, 0, none⟩) 0 0 (dvs []) := by
   refine .inr ⟨w.heap.size + 2, #[], rfl, Nat.le_refl _, Nat.lt_succ_self _, (hb2.block _ (by omega)).trans hg1, Nat.le_refl _, by unfold maxLen; omega, rfl, fun j hj => absurd hj (by simp)⟩
  have HG := Lib.hid hg0
  have HB2 : Hid (Below w1.heap.size w1 w2) := hb2
  have hl21 := edges_len hD
  have HB3 : Hid (Below w.heap.size w w2) := HB1.out.trans (HB2.out.mono (by omega))
  have HC2 : Hid (∀ v, v < m1 → w2.cell? ⟨b, o + v, none⟩ = some (.int .i64 (x1 v))) := fun v hv => (HB2.out.cell (p := ⟨b, o + v, none⟩) (by show b < _; omega)).trans (HC.out v hv)
  clear hO hD hb2 f0 f1 f2 f3 k1' k2' hg0 hg1 HB1 HB2 HC
  go_wp2
  go_loopw [6, 8] (fun l i wr => ∃ (k g cg : Nat), k ≤ D.length ∧ i = .int .i64 k ∧ l = .slice (some ⟨g, 0, none⟩) ((D.take k).filter (qOpt x1)).length cg ∧ (g = w.heap.size + 2 ∨ w2.heap.size ≤ g) ∧ g < wr.heap.size ∧ Hid (Own wr g (g + 1) 24 1 (some ⟨g, 0, none⟩) ((D.take k).filter (qOpt x1)).length cg (dvs ((D.take k).filter (qOpt x1)))) ∧ Hid (OwnD wr w1.heap.size w2.heap.size A' c' D) ∧ Hid (Below (w.heap.size + 2) w2 wr)) (fun _ i _ => D.length - (intOf i).toNat)
  case atStart => exact ⟨0, w.heap.size + 2, 0, Nat.zero_le _, rfl, rfl, .inl rfl, by omega, HG, HO, Below.refl _ _⟩
  case round =>
   obtain ⟨k, g, cg, hk, rfl, rfl, hg1, hg3, hG, hE, hbr⟩ := hrel
   have q1 := up hbr.out g1 (by omega)
   have q0 := up hbr.out g2 (by omega)
   have hzr := hbr.out.size
   by_cases hlt : k < D.length
   ·obtain ⟨Ad, cd, v, u, hd, hvu, hum, _⟩ := edge_at HD.out hlt
    obtain ⟨gD, gd, rfl, rfl, d0, d1, d2⟩ := hE.out.pair hd
    have d3 := (hbr.out.cell (p := ⟨b, o + v, none⟩) (by show b < _; omega)).trans (HC2.out v (by omega))
    have y0 : 0 ≤ x1 v := by have := HX.out v (by omega); omega
    have y1 : x1 v < 16777216 := by have := HX.out v (by omega); have := HV.out.lt128 (v := v) (by omega); omega
    have i1 : (k : Int) < (D.length : Int) := by omega
    have i2 : (v : Int) < (m1 : Int) := by omega
    have hlen : ((D.take k).filter (qOpt x1)).length ≤ 21 := by
     have := List.length_filter_le (qOpt x1) (D.take k)
     rw [List.length_take] at this
     omega
    have Hd := Lib.hid hd
    clear hd
    cases hbit : (x1 v).toNat.testBit u
    ·have hq : qOpt x1 (some ⟨gd, 0, none⟩, cd, [(v : Int), (u : Int)]) = true := by show (!(x1 ((v : Int)).toNat).toNat.testBit ((u : Int)).toNat) = true; simp [hbit]
     have Hs := Lib.hid (opt_step_yes Hd.out hq)
     have Hbit := Lib.hid hbit
     clear hbit hq
     go_wp2
     have HK : Hid (∀ a z : World, (a.cell? ⟨w.heap.size, 0, none⟩ = some (.int .i64 s1) ∧ a.cell? ⟨w.heap.size, 1, none⟩ = some (.slice (some ⟨b, o, none⟩) m1 c1) ∧ a.cell? ⟨gD, k, none⟩ = some (.slice (some ⟨gd, 0, none⟩) 2 cd) ∧ a.cell? ⟨gd, 0, none⟩ = some (.int .i64 v) ∧ a.cell? ⟨gd, 1, none⟩ = some (.int .i64 u)) → Below a.heap.size a z → (z.cell? ⟨w.heap.size, 0, none⟩ = some (.int .i64 s1) ∧ z.cell? ⟨w.heap.size, 1, none⟩ = some (.slice (some ⟨b, o, none⟩) m1 c1) ∧ z.cell? ⟨gD, k, none⟩ = some (.slice (some ⟨gd, 0, none⟩) 2 cd) ∧ z.cell? ⟨gd, 0, none⟩ = some (.int .i64 v) ∧ z.cell? ⟨gd, 1, none⟩ = some (.int .i64 u))) := by
      rintro a z ⟨r0, r1, r2, r3, r4⟩ hb
      exact ⟨up hb r0 (World.block_lt_of_cell? _ _ r0), up hb r1 (World.block_lt_of_cell? _ _ r1), up hb r2 (World.block_lt_of_cell? _ _ r2), up hb r3 (World.block_lt_of_cell? _ _ r3), up hb r4 (World.block_lt_of_cell? _ _ r4)⟩
     have d3' : wr.drew.cell? ⟨b, o + v, none⟩ = some (.int .i64 (x1 v)) := d3
     have t1 : b < wr.drew.heap.size := by show b < wr.heap.size; omega
     have t2 : v < m1 := by omega
     have t3 : u ≤ 63 := by omega
     go_region_held3 (fun z => z.cell? ⟨w.heap.size, 0, none⟩ = some (.int .i64 s1) ∧ z.cell? ⟨w.heap.size, 1, none⟩ = some (.slice (some ⟨b, o, none⟩) m1 c1) ∧ z.cell? ⟨gD, k, none⟩ = some (.slice (some ⟨gd, 0, none⟩) 2 cd) ∧ z.cell? ⟨gd, 0, none⟩ = some (.int .i64 v) ∧ z.cell? ⟨gd, 1, none⟩ = some (.int .i64 u))
      (first | (refine ⟨?_, ?_, ?_, ?_, ?_⟩ <;> assumption) | exact HK.out _ _ (by assumption) hb3)
      ((go_at_call 61; ((with_reducible refine (l2Edge_any s1 b o m1 c1 wr.drew v u (x1 v) d3' t1 t2 y0 y1 t3).mono ?_); rintro e w3 ⟨rfl, hb3⟩)))
     replace hb3 := bd hb3
     rw [Hbit.out]
     have z3 := hb3.size
     have hO3 := hE.out.keepB hb3 hzr
     have hG3 := hG.out.keepB hb3 (by omega)
     have Hb3 : Hid (Below (w.heap.size + 2) w2 w3) := hbr.out.trans (hb3.mono (by omega))
     have p0 := up hb3 d0 (World.block_lt_of_cell? _ _ d0)
     clear hE hG hb3 hbr HK d0 d1 d2 d3 d3'
     go_wp2_with (first | (at_builtin; (refine wpList_pushC w3 rfl _ _ rfl _ g cg hG3 (by omega) (some ⟨gd, 0, none⟩, cd, [(v : Int), (u : Int)]) rfl 1 w3.heap.size rfl rfl (by omega) ?_; intro g' cap w4 hO2 hg' hl3 hf)))
     have H1 : Hid (Own w4 g' (g' + 1) 24 1 (some ⟨g', 0, none⟩) ((D.take (k + 1)).filter (qOpt x1)).length cap (dvs ((D.take (k + 1)).filter (qOpt x1)))) := by
      show Own _ _ _ _ _ _ _ _ _
      rw [Hs.out, List.length_append]; exact hO2
     have H2 := Lib.hid (hO3.keep hf (by omega))
     have H3 : Hid (Below (w.heap.size + 2) w2 w4) := Hb3.out.trans (hf.below (by omega) (by omega))
     have hgg : g' = w.heap.size + 2 ∨ w2.heap.size ≤ g' := by omega
     clear hO2 hf hG3 hO3 hg'
     go_wp2
     go_roundw
     case rel => exact ⟨k + 1, g', cap, by omega, by go_num, by rw [Hs.out, List.length_append]; rfl, hgg, hl3, H1, H2, H3⟩
     case measure => simp [intOf]; omega
    ·have hq : qOpt x1 (some ⟨gd, 0, none⟩, cd, [(v : Int), (u : Int)]) = false := by show (!(x1 ((v : Int)).toNat).toNat.testBit ((u : Int)).toNat) = false; simp [hbit]
     have Hs := Lib.hid (opt_step_no Hd.out hq)
     have Hbit := Lib.hid hbit
     clear hbit hq
     go_wp2
     have HK : Hid (∀ a z : World, (a.cell? ⟨w.heap.size, 0, none⟩ = some (.int .i64 s1) ∧ a.cell? ⟨w.heap.size, 1, none⟩ = some (.slice (some ⟨b, o, none⟩) m1 c1) ∧ a.cell? ⟨gD, k, none⟩ = some (.slice (some ⟨gd, 0, none⟩) 2 cd) ∧ a.cell? ⟨gd, 0, none⟩ = some (.int .i64 v) ∧ a.cell? ⟨gd, 1, none⟩ = some (.int .i64 u)) → Below a.heap.size a z → (z.cell? ⟨w.heap.size, 0, none⟩ = some (.int .i64 s1) ∧ z.cell? ⟨w.heap.size, 1, none⟩ = some (.slice (some ⟨b, o, none⟩) m1 c1) ∧ z.cell? ⟨gD, k, none⟩ = some (.slice (some ⟨gd, 0, none⟩) 2 cd) ∧ z.cell? ⟨gd, 0, none⟩ = some (.int .i64 v) ∧ z.cell? ⟨gd, 1, none⟩ = some (.int .i64 u))) := by
      rintro a z ⟨r0, r1, r2, r3, r4⟩ hb
      exact ⟨up hb r0 (World.block_lt_of_cell? _ _ r0), up hb r1 (World.block_lt_of_cell? _ _ r1), up hb r2 (World.block_lt_of_cell? _ _ r2), up hb r3 (World.block_lt_of_cell? _ _ r3), up hb r4 (World.block_lt_of_cell? _ _ r4)⟩
     have d3' : wr.drew.cell? ⟨b, o + v, none⟩ = some (.int .i64 (x1 v)) := d3
     have t1 : b < wr.drew.heap.size := by show b < wr.heap.size; omega
     have t2 : v < m1 := by omega
     have t3 : u ≤ 63 := by omega
     go_region_held3 (fun z => z.cell? ⟨w.heap.size, 0, none⟩ = some (.int .i64 s1) ∧ z.cell? ⟨w.heap.size, 1, none⟩ = some (.slice (some ⟨b, o, none⟩) m1 c1) ∧ z.cell? ⟨gD, k, none⟩ = some (.slice (some ⟨gd, 0, none⟩) 2 cd) ∧ z.cell? ⟨gd, 0, none⟩ = some (.int .i64 v) ∧ z.cell? ⟨gd, 1, none⟩ = some (.int .i64 u))
      (first | (refine ⟨?_, ?_, ?_, ?_, ?_⟩ <;> assumption) | exact HK.out _ _ (by assumption) hb3)
      ((go_at_call 61; ((with_reducible refine (l2Edge_any s1 b o m1 c1 wr.drew v u (x1 v) d3' t1 t2 y0 y1 t3).mono ?_); rintro e w3 ⟨rfl, hb3⟩)))
     replace hb3 := bd hb3
     rw [Hbit.out]
     have z3 := hb3.size
     have hO3 := Lib.hid (hE.out.keepB hb3 hzr)
     have hG3 := Lib.hid (hG.out.keepB hb3 (by omega))
     have Hb3 : Hid (Below (w.heap.size + 2) w2 w3) := hbr.out.trans (hb3.mono (by omega))
     clear hE hG hb3 hbr HK d3 d3'
     go_wp2
     go_roundw
     case rel => exact ⟨k + 1, g, cg, by omega, by go_num, by rw [Hs.out], hg1, by omega, by rw [Hs.out]; exact hG3, hO3, Hb3⟩
     case measure => simp [intOf]; omega
   ·obtain rfl : k = D.length := by omega
    have HF : Hid (lists (D.filter (qOpt x1)) = optL s1 m1 x1 s2 m1 x2) := by show _ = _; rw [lists_filter, HD.out]; exact HL.out
    have hO3 : Hid (OwnD wr w.heap.size wr.heap.size (some ⟨g, 0, none⟩) cg (D.filter (qOpt x1))) := by
     have := hG.out
     rw [List.take_length] at this
     exact hE.out.filtered this (by omega) hzr (by omega) hg3
    have HB4 : Hid (Below w.heap.size w wr) := HB3.out.trans (hbr.out.mono (by omega))
    rw [List.take_length]
    clear hG hE hbr
    go_wp2
    go_ret2
    exact ⟨_, cg, D.filter (qOpt x1), by rw [Hw.out]; rfl, HF.out, hO3.out, HB4.out⟩
theorem tot_eq {D : List Dsc} {L : List (List Int)} (h : lists D = L) : tot D = (L.map List.length).sum := by
 subst h; unfold tot lists; rw [List.map_map]; rfl
theorem sum_two {L : List (List Int)} (h : ∀ l ∈ L, l.length = 2) : (L.map List.length).sum = 2 * L.length := by
 induction L with
 | nil => rfl
 | cons a L ih =>
   have h1 := h a List.mem_cons_self
   have h2 := ih fun l hl => h l (List.mem_cons_of_mem _ hl)
   simp only [List.map_cons, List.sum_cons, List.length_cons]
   omega
theorem edgesL_two {s : Int} {m : Nat} {x : Nat → Int} : ∀ l ∈ edgesL s m x, l.length = 2 := by
 intro l hl
 unfold edgesL at hl
 split at hl
 ·unfold edAll at hl
  obtain ⟨p, _, rfl⟩ := List.mem_map.1 hl
  rfl
 ·cases hl
theorem edgesL_len {s : Int} {m : Nat} {x : Nat → Int} : (edgesL s m x).length ≤ 21 := by
 unfold edgesL
 split
 ·rename_i h
  have hOK : OkG s m x := by
   refine Classical.byContradiction fun h2 => ?_
   rw [okB_no h2] at h; cases h
  obtain ⟨r, rfl, vg, _⟩ := hOK
  exact edAll_len vg.n7
 ·simp
section
variable {s1 s2 : Int} {m1 m2 : Nat} {x1 x2 : Nat → Int}
theorem optL_two : ∀ l ∈ optL s1 m1 x1 s2 m2 x2, l.length = 2 := by
 intro l hl
 unfold optL at hl
 split at hl
 ·exact edgesL_two l (List.mem_filter.1 hl).1
 ·cases hl
theorem optL_len : (optL s1 m1 x1 s2 m2 x2).length ≤ 21 := by
 unfold optL
 split
 ·exact Nat.le_trans (List.length_filter_le _ _) edgesL_len
 ·simp
end
end Go.Proofs.YticadlkcjhglnaaGreat
