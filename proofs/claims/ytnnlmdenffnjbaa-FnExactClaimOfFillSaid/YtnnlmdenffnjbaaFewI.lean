/-
  Contracts: the searches for lists over what is no graph; the fewest edges that fill a graph, of the program.
-/
import Derived.Test.YtnnlmdenffnjbaaBestOrd
import Derived.Test.YtnnlmdenffnjbaaFillOI
namespace Go.Proofs.Ytnnlmdenffnjbaa
open Go.RowKit

set_option maxRecDepth 100000 in
set_option maxHeartbeats 1600000 in
theorem firstList_no (sz : Int) (A : Option Addr) (m c : Nat) (x : Nat → Int) (n : Int) (fm fh : FuncId) (cm ch : Array Value) (w : World) (h : GA w A m c x) (ho : okB sz m x = false) (hm : m ≤ 1048576) :
    Calls Try.prog 152 #[.agg #[.int .i64 sz, .slice A m c], .int .i64 n, .func (.func fm) #[] cm, .func (.func fh) #[] ch] w fun e w' => e = .returned (.tuple #[.slice none 0 0, .bool false]) ∧ Below w.heap.size w w' := by
  obtain ⟨W4, hW4⟩ : ∃ W : World, W = ((((w.alloc (Obj.cells #[Value.int IntKind.i64 sz, Value.slice A m c] 28)).alloc (Obj.cells #[Value.int IntKind.i64 n] 3)).alloc (Obj.cells #[.func (.func fm) #[] cm] 99)).alloc (Obj.cells #[.func (.func fh) #[] ch] 99)) := ⟨_, rfl⟩
  have HB4 : Hid (Below w.heap.size w W4) := by rw [hW4]; exact (((((Below.refl _ _).alloc (Nat.le_refl _) _).alloc (by simp) _).alloc (by simp; omega) _).alloc (by simp; omega) _)
  have hz4 : w.heap.size + 1 + 1 + 1 + 1 = W4.heap.size := by rw [hW4]; simp
  have a0 : W4.cell? ⟨w.heap.size, 0, none⟩ = some (.int .i64 sz) := by rw [hW4]; simp [go_sem]
  have a2 : W4.cell? ⟨w.heap.size + 1, 0, none⟩ = some (.int .i64 n) := by rw [hW4]; simp [go_sem]
  have a3 : W4.cell? ⟨w.heap.size + 2, 0, none⟩ = some (.func (.func fm) #[] cm) := by rw [hW4]; simp [go_sem]
  have a4 : W4.cell? ⟨w.heap.size + 3, 0, none⟩ = some (.func (.func fh) #[] ch) := by rw [hW4]; simp [go_sem]
  have a1 : W4.cell? ⟨w.heap.size, 1, none⟩ = some (.slice A m c) := by rw [hW4]; simp [go_sem]
  obtain ⟨W, hW⟩ : ∃ W : World, W = W4.alloc (Obj.cells #[.func (.func 209) #[] #[.pointer (some ⟨w.heap.size + 1, 0, none⟩), .pointer (some ⟨w.heap.size + 1 + 1 + 1, 0, none⟩), .pointer (some ⟨w.heap.size, 0, none⟩), .pointer (some ⟨w.heap.size + 1 + 1, 0, none⟩), .pointer (some ⟨W4.heap.size, 0, none⟩)]] 54) := ⟨_, rfl⟩
  have hbW : Below W4.heap.size W4 W := by rw [hW]; exact (Below.refl _ _).alloc (Nat.le_refl _) _
  have HB : Hid (Below w.heap.size w W) := HB4.out.trans (hbW.mono (by omega))
  have e0 := up hbW a0 (by omega)
  have e1 := up hbW a1 (by omega)
  have e4 : W.cell? ⟨W4.heap.size, 0, none⟩ = some (.func (.func 209) #[] #[.pointer (some ⟨w.heap.size + 1, 0, none⟩), .pointer (some ⟨w.heap.size + 1 + 1 + 1, 0, none⟩), .pointer (some ⟨w.heap.size, 0, none⟩), .pointer (some ⟨w.heap.size + 1 + 1, 0, none⟩), .pointer (some ⟨W4.heap.size, 0, none⟩)]) := by rw [hW]; simp [go_sem]
  have hzz : W4.heap.size = w.heap.size + 4 := by omega
  have hsz : W4.heap.size < W.heap.size := by rw [hW]; simp
  have HK := Lib.hid (h.keep HB.out)
  have HW := Lib.hid hW
  have HW4 := Lib.hid hW4
  have HZ4 := Lib.hid hz4
  have HZZ := Lib.hid hzz
  have c0 : w.heap.size ≤ W.heap.size := by omega
  have c1 : w.heap.size < W4.heap.size := by omega
  clear hW hW4 h a2 a3 a4 hz4 hbW hzz
  go_enter Try.func152, Try.ntmps152
  go_upto_region 2 with (fail)
  rw [← HW4.out, HZ4.out]
  clear HW4
  go_wp2_with fail
  rw [← HW.out]
  clear HW
  refine (IsGraph_any sz A m c x W W.heap.size HK.out.rd (Nat.le_refl _) hm).mono ?_
  rw [ho]
  rintro e w1 ⟨rfl, hb1⟩
  have HB1 : Hid (Below w.heap.size w w1) := HB.out.trans (hb1.mono c0)
  clear hb1 ho
  go_wp2
  go_ret2
  exact ⟨rfl, HB1.out⟩

set_option maxRecDepth 100000 in
set_option maxHeartbeats 1600000 in
theorem bestOrder_no (sz : Int) (A : Option Addr) (m c : Nat) (x : Nat → Int) (fn : FuncId) (caps : Array Value) (w : World) (h : GA w A m c x) (ho : okB sz m x = false) (hm : m ≤ 1048576) :
    Calls Try.prog 73 #[.agg #[.int .i64 sz, .slice A m c], .func (.func fn) #[] caps] w fun e w' => e = .returned (.tuple #[.slice none 0 0, .int .i64 (-1)]) ∧ Below w.heap.size w w' := by
  obtain ⟨W, hW⟩ : ∃ W : World, W = (((w.alloc (Obj.cells #[Value.int IntKind.i64 sz, Value.slice A m c] 28)).alloc (Obj.cells #[.func (.func fn) #[] caps] 77)).alloc (Obj.cells #[.slice none 0 0] 22)).alloc (Obj.cells #[.int .i64 (-1)] 3) := ⟨_, rfl⟩
  have HB : Hid (From w W) := by rw [hW]; exact (((From.alloc _ _).alloc_ _).alloc_ _).alloc_ _
  have hz : W.heap.size = w.heap.size + 4 := by rw [hW]; simp
  have e0 : W.cell? ⟨w.heap.size + 2, 0, none⟩ = some (.slice none 0 0) := by rw [hW]; simp [go_sem]
  have e1 : W.cell? ⟨w.heap.size + 3, 0, none⟩ = some (.int .i64 (-1)) := by rw [hW]; simp [go_sem]
  have HK := Lib.hid (h.keep HB.out.below)
  have HW := Lib.hid hW
  have E0 := Lib.hid e0
  have E1 := Lib.hid e1
  clear hW h hz e0 e1
  go_enter Try.func73, Try.ntmps73
  go_wp2_with fail
  rw [← HW.out]
  clear HW
  refine (firstList_no sz A m c x sz _ _ _ _ W HK.out ho hm).mono ?_
  rintro e w1 ⟨rfl, hb1⟩
  have r0 := up_ hb1 E0.out
  have r1 := up_ hb1 E1.out
  have HB1 := Lib.hid (HB.out.keep hb1)
  clear hb1 E0 E1 ho HB HK
  go_wp2
  go_region
  go_wp2
  go_ret2
  exact ⟨rfl, HB1.out.drew.below⟩

theorem LN.li {w : World} {A : Option Addr} {c : Nat} {l : List Nat} (h : LN w A c l) : LI w A l.length c (l.map fun v : Nat => (v : Int)) :=
  ⟨by simp, h.rd.congr (fun j hj => by simp [List.getD, hj])⟩
/-- The number of edges that fill a graph in an order. -/
noncomputable def pfN (m : Nat) (r : Nat → Nat) (l : List Nat) : Int := ((fofL (m : Int) m (fun v => (r v : Int)) (l.map fun v : Nat => (v : Int))).length : Int)
set_option maxRecDepth 100000 in
theorem FewestFill1_i {A : Option Addr} {m c cl : Nat} {r : Nat → Nat} {Al : Option Addr} {l : List Nat} {w : World} (h : GV w A m c r) (hl : LN w Al cl l) (hlen : l.length ≤ 7) :
    Calls Try.prog 74 #[.agg #[.int .i64 m, .slice A m c], .slice Al l.length cl] w fun e w' => e = .returned (.int .i64 (pfN m r l)) ∧ Below w.heap.size w w' := by
  have hm7 := h.vg.n7
  obtain ⟨W, hW⟩ : ∃ W : World, W = (w.alloc (Obj.cells #[Value.int IntKind.i64 m, Value.slice A m c] 28)) := ⟨_, rfl⟩
  have HB : Hid (From w W) := by rw [hW]; exact From.alloc _ _
  have HK := Lib.hid (h.keep HB.out.below)
  have HL := Lib.hid (hl.keep HB.out.below)
  have HW := Lib.hid hW
  obtain ⟨y, hy⟩ : ∃ y, y = pfN m r l := ⟨_, rfl⟩
  rw [← hy]
  have HY := Lib.hid hy
  clear hW h hl hy
  go_enter Try.func74, Try.ntmps74
  go_wp2_with fail
  rw [← HW.out]
  clear HW
  refine (FillOf_i m A m c _ Al l.length cl _ W ⟨HK.out.rd⟩ HL.out.li (by omega) (by omega)).mono ?_
  rintro e w1 ⟨A', c', D, rfl, hD, hO, hb1⟩
  have hn : (D.length : Int) = y := by
    rw [HY.out]; unfold pfN; rw [← hD, lists, List.length_map]
  have HN := Lib.hid hn
  have HB1 := Lib.hid (HB.out.keep hb1)
  clear hD hO hb1 hn
  go_wp2
  go_ret
  exact ⟨ret_int HN.out, HB1.out.below⟩
noncomputable def ffN (m : Nat) (r : Nat → Nat) : Int := (boF (pfN m r) (visG m (fun _ => true) m [])).2
noncomputable def ffI (sz : Int) (m : Nat) (x : Nat → Int) : Int := if (okB sz m x && decide (m ≤ 5)) = true then ffN m (rw_ x) else -1
theorem ffI_no {sz : Int} {m : Nat} {x : Nat → Int} (h : okB sz m x = false) : ffI sz m x = -1 := by unfold ffI; rw [h]; rfl
theorem ffI_big {sz : Int} {m : Nat} {x : Nat → Int} (h : ¬ m ≤ 5) : ffI sz m x = -1 := by unfold ffI; rw [decide_eq_false h, Bool.and_false]; rfl
theorem ffI_yes {sz : Int} {m : Nat} {x : Nat → Int} (h : okB sz m x = true) (h5 : m ≤ 5) : ffI sz m x = ffN m (rw_ x) := by unfold ffI; rw [h, decide_eq_true h5]; rfl
set_option maxRecDepth 100000 in
theorem FewestFill_i (sz : Int) (A : Option Addr) (m c : Nat) (x : Nat → Int) (w : World) (h : GA w A m c x) (hm : m ≤ 1048576) :
    Calls Try.prog 34 #[.agg #[.int .i64 sz, .slice A m c]] w fun e w' => e = .returned (.int .i64 (ffI sz m x)) ∧ Below w.heap.size w w' := by
  obtain ⟨W, hW⟩ : ∃ W : World, W = (w.alloc (Obj.cells #[Value.int IntKind.i64 sz, Value.slice A m c] 28)) := ⟨_, rfl⟩
  have HB : Hid (From w W) := by rw [hW]; exact From.alloc _ _
  have HK := Lib.hid (h.keep HB.out.below)
  have HW := Lib.hid hW
  clear hW h
  by_cases h5 : 5 < sz
  · have hf : Hid (ffI sz m x = -1) := by
      cases ho : okB sz m x
      · exact ffI_no ho
      · obtain ⟨_, es, _, _⟩ := okB_ok' ho
        exact ffI_big (by omega)
    go_enter Try.func34, Try.ntmps34
    go_wp2
    go_ret
    exact ⟨ret_int hf.out.symm, (From.alloc _ _).below⟩
  · have h6 : sz ≤ 5 := by omega
    clear h5
    cases ho : okB sz m x
    · have hf : Hid (ffI sz m x = -1) := ffI_no ho
      have Ho := Lib.hid ho
      clear ho
      go_enter Try.func34, Try.ntmps34
      go_wp2_with fail
      rw [← HW.out]
      clear HW
      refine (bestOrder_no sz A m c x _ _ W HK.out Ho.out hm).mono ?_
      rintro e w1 ⟨rfl, hb1⟩
      have HB1 := Lib.hid (HB.out.keep hb1)
      clear hb1
      go_wp2
      go_ret
      exact ⟨ret_int hf.out.symm, HB1.out.below⟩
    · obtain ⟨_, es, vg0, hx0⟩ := okB_ok' ho
      subst es
      have hn7 := vg0.n7
      have hf : Hid (ffN m (rw_ x) = ffI m m x) := (ffI_yes ho (by omega)).symm
      have HG : Hid (GV W A m c (rw_ x)) := HK.out.gv ho
      have KB := Lib.hid (bestOrder_g (fn := 74) (caps := #[]) (p := pfN m (rw_ x)) (ent_of Try.func74 (by kernel_rfl) rfl) W HG.out (fun l A' c' z hb hl hlen _ _ => FewestFill1_i (HG.out.keep hb) hl (by omega)))
      clear ho vg0 hx0
      go_enter Try.func34, Try.ntmps34
      go_wp2_with fail
      rw [← HW.out]
      clear HW
      refine KB.out.mono ?_
      rintro e w1 ⟨Ab, cb, rfl, ho, hb1⟩
      have HB1 := Lib.hid (HB.out.keep hb1)
      clear hb1 ho
      go_wp2
      go_ret
      exact ⟨ret_int hf.out, HB1.out.below⟩
end Go.Proofs.Ytnnlmdenffnjbaa
