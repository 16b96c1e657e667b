/-
  Several texts in one: words for memory, plain laws and contracts that the later texts lean on.
-/
import Derived.Test.YtdpkbfiggbcclaaGreatQjColI
import Derived.Test.YtdpkbfiggbcclaaGreatQjSet2I
import Derived.Test.YtdpkbfiggbcclaaGreatQjBarI
import Derived.Test.YtdpkbfiggbcclaaGreatQjHolJ
/-
  Contracts: a cover by cliques: the program's.
-/
namespace Go.Proofs.YtdpkbfiggbcclaaGreat
open Go.RowKit

section
variable {A : Option Addr} {m c : Nat} {r : Nat → Nat}
theorem ComplementOf_v {w : World} (h : GV w A m c r) :
    Calls Tryz.prog 335 #[.agg #[.int .i64 m, .slice A m c]] w fun e w' => ∃ A' c', e = .returned (.tuple #[.agg #[.int .i64 m, .slice A' m c'], .bool true]) ∧ GV w' A' m c' (coR r m) ∧ Below w.heap.size w w' := by
  have hk := ComplementOf_i (m : Int) A m c _ w ⟨h.rd⟩ (by have := h.vg.n7; omega)
  rw [h.ok] at hk
  refine hk.mono ?_
  rintro e w' ⟨sz', A', m', c', rfl, h2, h3⟩
  obtain ⟨rfl, rfl, h4⟩ := h2 rfl
  rw [rw_cast] at h4
  exact ⟨A', c', rfl, h4, h3⟩

end
end Go.Proofs.YtdpkbfiggbcclaaGreat

/-
  Contracts: the first odd hole of the complement (the program's).
-/
namespace Go.Proofs.YtdpkbfiggbcclaaGreat
open Go.RowKit

noncomputable def ahO (r : Nat → Nat) (m : Nat) : Option (List Nat) := oddhO (coR r m) m
set_option maxRecDepth 100000 in
set_option maxHeartbeats 1600000 in
theorem ComplementOf_no (sz : Int) (A : Option Addr) (m c : Nat) (x : Nat → Int) (w : World) (h : GA w A m c x) (hm : m ≤ 1048576) (hok : okB sz m x = false) :
    Calls Tryz.prog 335 #[.agg #[.int .i64 sz, .slice A m c]] w fun e w' => e = .returned (.tuple #[.agg #[.int .i64 0, .slice none 0 0], .bool false]) ∧ Below w.heap.size w w' := by
  obtain ⟨W, hW⟩ : ∃ W : World, W = ((w.alloc (Obj.cells #[Value.int IntKind.i64 sz, Value.slice A m c] 28)).alloc (Obj.cells #[Value.int IntKind.i64 0, Value.slice none 0 0] 28)) := ⟨_, rfl⟩
  have HB : Hid (From w W) := by rw [hW]; exact (From.alloc _ _).alloc_ _
  have HK := Lib.hid (h.keep HB.out.below)
  have HC : Hid (GC W w.heap.size sz A m c) := by rw [hW]; exact (GC.new _ _ _ _ _).keep ((Below.refl _ _).alloc (Nat.le_refl _) _)
  have HD : Hid (GC W (w.heap.size + 1) 0 none 0 0) := by rw [hW]; constructor <;> simp [go_sem]
  have HW := Lib.hid hW
  have Ho := Lib.hid hok
  clear hW h hok
  go_enter Tryz.func335, Tryz.ntmps335
  have e0 := HC.out.c0
  have e1 := HC.out.c1
  have d0 := HD.out.c0
  have d1 := HD.out.c1
  have d2 := HD.out.f0
  have d3 := HD.out.f1
  go_wp2_with fail
  rw [← HW.out]
  clear HW
  refine (IsGraph_any sz A m c x W W.heap.size HK.out.rd (Nat.le_refl _) hm).mono ?_
  rintro e w1 ⟨rfl, hb1⟩
  rw [Ho.out]
  clear e0 e1 d0 d1 d2 d3
  replace HB := Lib.hid (HB.out.keep hb1)
  replace HK := Lib.hid (HK.out.keep hb1)
  replace HC := Lib.hid (HC.out.keep hb1)
  replace HD := Lib.hid (HD.out.keep hb1)
  clear hb1
  have e0 := HC.out.c0
  have e1 := HC.out.c1
  have d0 := HD.out.c0
  have d1 := HD.out.c1
  have d2 := HD.out.f0
  have d3 := HD.out.f1
  go_wp2
  have HE := (HB.out.set (q := w.heap.size + 1) (by omega) (.int .i64 0) (.slice none 0 0)).below
  exact bodyPost_ret (v := .tuple #[.agg #[.int .i64 0, .slice none 0 0], .bool false]) (by simp [results, Tryz.results335, go_sem, *]) rfl ⟨rfl, HE⟩
set_option maxRecDepth 100000 in
set_option maxHeartbeats 1600000 in
theorem FindAntihole_v {A : Option Addr} {m c : Nat} {r : Nat → Nat} {w : World} (h : GV w A m c r) : Calls Tryz.prog 229 #[.agg #[.int .i64 m, .slice A m c]] w (lsQ w (ahO r m)) := by
  obtain ⟨W, hW⟩ : ∃ W : World, W = (w.alloc (Obj.cells #[Value.int IntKind.i64 m, Value.slice A m c] 28)) := ⟨_, rfl⟩
  have HB : Hid (From w W) := by rw [hW]; exact From.alloc _ _
  have HG : Hid (GBox W w.heap.size A m c r) := by rw [hW]; exact h.box
  have HW := Lib.hid hW
  clear hW h
  have e0 := HG.out.c0
  have e1 := HG.out.c1
  go_enter Tryz.func229, Tryz.ntmps229
  go_wp2_with fail
  rw [← HW.out]
  refine (ComplementOf_v HG.out.gv).mono ?_
  rintro e w1 ⟨A2, c2, rfl, hG2, hb1⟩
  clear HW
  clear e0 e1
  replace HB := Lib.hid (HB.out.keep hb1)
  replace HG := Lib.hid (HG.out.keep hb1)
  clear hb1
  have e0 := HG.out.c0
  have e1 := HG.out.c1
  obtain ⟨W2, hW2⟩ : ∃ W2 : World, W2 = (w1.alloc (Obj.cells #[Value.int IntKind.i64 m, Value.slice A2 m c2] 28)) := ⟨_, rfl⟩
  have hb2 : Below w1.heap.size w1 W2 := by rw [hW2]; exact (Below.refl _ _).alloc (Nat.le_refl _) _
  have HG2 : Hid (GV W2 A2 m c2 (coR r m)) := hG2.keep hb2
  have HQ : Hid (GC W2 w1.heap.size m A2 m c2) := by rw [hW2]; exact GC.new _ _ _ _ _
  have HB2 : Hid (From w W2) := HB.out.keep hb2
  have HZ2 : Hid (w.heap.size ≤ W2.heap.size) := HB2.out.below.size
  have HW2 := Lib.hid hW2
  clear hW2 hb2 hG2 HB HG e0 e1
  have d0 := HQ.out.c0
  have d1 := HQ.out.c1
  go_wp2_with fail
  rw [← HW2.out]
  clear HW2
  refine (FindOddHole_v HG2.out).mono ?_
  rintro e w3 ⟨A3, c3, rfl, ho3, hb3⟩
  have HO3 := Lib.hid (ho3.mono HZ2.out)
  clear ho3
  clear d0 d1
  replace HB2 := Lib.hid (HB2.out.keep hb3)
  replace HQ := Lib.hid (HQ.out.keep hb3)
  clear hb3
  have d0 := HQ.out.c0
  have d1 := HQ.out.c1
  go_wp2
  go_ret2
  exact ⟨_, _, rfl, HO3.out, HB2.out.below⟩
theorem ok_zero : okB 0 0 (fun _ => 0) = false := okB_no fun h => by
  obtain ⟨r, _, vg, _⟩ := h
  have := vg.n1
  omega
set_option maxRecDepth 100000 in
set_option maxHeartbeats 1600000 in
theorem FindAntihole_no (sz : Int) (A : Option Addr) (m c : Nat) (x : Nat → Int) (w : World) (h : GA w A m c x) (hm : m ≤ 1048576) (hok : okB sz m x = false) :
    Calls Tryz.prog 229 #[.agg #[.int .i64 sz, .slice A m c]] w (lsQ w none) := by
  obtain ⟨W, hW⟩ : ∃ W : World, W = (w.alloc (Obj.cells #[Value.int IntKind.i64 sz, Value.slice A m c] 28)) := ⟨_, rfl⟩
  have HB : Hid (From w W) := by rw [hW]; exact From.alloc _ _
  have HK := Lib.hid (h.keep HB.out.below)
  have HC : Hid (GC W w.heap.size sz A m c) := by rw [hW]; exact GC.new _ _ _ _ _
  have HW := Lib.hid hW
  have K1 := Lib.hid (ComplementOf_no sz A m c x W HK.out hm hok)
  clear hW h hok
  go_enter Tryz.func229, Tryz.ntmps229
  have e0 := HC.out.c0
  have e1 := HC.out.c1
  go_wp2_with fail
  rw [← HW.out]
  refine (K1.out).mono ?_
  rintro e w1 ⟨rfl, hb1⟩
  clear HW
  clear e0 e1
  replace HB := Lib.hid (HB.out.keep hb1)
  replace HK := Lib.hid (HK.out.keep hb1)
  replace HC := Lib.hid (HC.out.keep hb1)
  clear hb1
  have e0 := HC.out.c0
  have e1 := HC.out.c1
  clear K1
  obtain ⟨W2, hW2⟩ : ∃ W2 : World, W2 = (w1.alloc (Obj.cells #[Value.int IntKind.i64 0, Value.slice none 0 0] 28)) := ⟨_, rfl⟩
  have hb2 : Below w1.heap.size w1 W2 := by rw [hW2]; exact (Below.refl _ _).alloc (Nat.le_refl _) _
  have HG2 : Hid (GA W2 none 0 0 (fun _ => 0)) := ⟨⟨Nat.le_refl _, fun hn => absurd hn (by omega)⟩⟩
  have HQ : Hid (GC W2 w1.heap.size 0 none 0 0) := by rw [hW2]; exact GC.new _ _ _ _ _
  have HB2 : Hid (From w W2) := HB.out.keep hb2
  have HZ2 : Hid (w.heap.size ≤ W2.heap.size) := HB2.out.below.size
  have HW2 := Lib.hid hW2
  have K2 := Lib.hid (FindOddHole_no 0 none 0 0 (fun _ => 0) W2 HG2.out (by omega) ok_zero)
  clear hW2 hb2 HB HC HK e0 e1
  have d0 := HQ.out.c0
  have d1 := HQ.out.c1
  go_wp2_with fail
  rw [← HW2.out]
  clear HW2
  refine K2.out.mono ?_
  rintro e w3 ⟨A3, c3, rfl, ho3, hb3⟩
  have HO3 := Lib.hid (ho3.mono HZ2.out)
  clear ho3 K2
  clear d0 d1
  replace HB2 := Lib.hid (HB2.out.keep hb3)
  replace HQ := Lib.hid (HQ.out.keep hb3)
  clear hb3
  have d0 := HQ.out.c0
  have d1 := HQ.out.c1
  go_wp2
  go_ret2
  exact ⟨_, _, rfl, HO3.out, HB2.out.below⟩
end Go.Proofs.YtdpkbfiggbcclaaGreat
