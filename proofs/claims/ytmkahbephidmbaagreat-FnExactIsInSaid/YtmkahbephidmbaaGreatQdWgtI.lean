/-
  Several texts in one: words for memory, plain laws and contracts that the later texts lean on.
-/
import Derived.Test.YtmkahbephidmbaaGreatQdCls
import Derived.Test.YtmkahbephidmbaaGreatQdUmbI
/-
  Contracts: the least split partition; is a graph split? The program's.
-/
namespace Go.Proofs.YtmkahbephidmbaaGreat
open Go.RowKit

def slO (r : Nat → Nat) (m : Nat) : Option Nat := lsK (splB r m) (2 ^ m)
noncomputable def slB (sz : Int) (m : Nat) (x : Nat → Int) : Bool := okB sz m x && (slO (rw_ x) m).isSome
theorem slB_no {sz : Int} {m : Nat} {x : Nat → Int} (h : okB sz m x = false) : slB sz m x = false := by unfold slB; rw [h]; rfl
theorem slB_yes {sz : Int} {m : Nat} {x : Nat → Int} (h : okB sz m x = true) : slB sz m x = (slO (rw_ x) m).isSome := by unfold slB; rw [h]; rfl
section
variable {A : Option Addr} {m c : Nat} {r : Nat → Nat}
set_option maxHeartbeats 1000000 in
theorem SplitOf_v {w : World} (h : GV w A m c r) :
    Calls Tryz.prog 199 #[.agg #[.int .i64 m, .slice A m c]] w fun e w' => e = .returned (lsV (slO r m)) ∧ Below w.heap.size w w' := by
  obtain ⟨W, hW⟩ : ∃ W : World, W = (w.alloc (Obj.cells #[Value.int IntKind.i64 m, Value.slice A m c] 30)) := ⟨_, rfl⟩
  have HB : Hid (From w W) := by rw [hW]; exact From.alloc _ _
  have HG : Hid (GBox W w.heap.size A m c r) := by rw [hW]; exact h.box
  have HW := Lib.hid hW
  clear hW h
  have e0 := HG.out.c0
  have e1 := HG.out.c1
  go_enter Tryz.func199, Tryz.ntmps199
  go_wp2_with fail
  rw [← HW.out]
  refine (least_g (p := splB r m) (caps := #[]) (ent_of Tryz.func166 (by kernel_rfl) rfl) W HG.out.gv (fun s z hs hb => IsSplitPartition_v (HG.out.gv.keep hb) hs)).mono ?_
  rintro e w1 ⟨rfl, hb1⟩
  clear HW
  clear e0 e1
  replace HB := Lib.hid (HB.out.keep hb1)
  replace HG := Lib.hid (HG.out.keep hb1)
  clear hb1
  have e0 := HG.out.c0
  have e1 := HG.out.c1
  have HS : Hid (slO r m = lsK (splB r m) (2 ^ m)) := rfl
  rw [← HS.out]
  cases hso : slO r m with
  | none =>
    have Hn := Lib.hid hso
    clear hso
    rw [lsV_none]
    go_wp2
    go_ret2
    exact ⟨by rw [Hn.out]; rfl, HB.out.below⟩
  | some k =>
    have Hn := Lib.hid hso
    clear hso
    rw [lsV_some]
    go_wp2
    go_ret2
    exact ⟨by rw [Hn.out]; rfl, HB.out.below⟩
end
section
variable (sz : Int) (A : Option Addr) (m c : Nat) (x : Nat → Int) (w : World)
set_option maxHeartbeats 1000000 in
theorem SplitOf_no (h : GA w A m c x) (hm : m ≤ 1048576) (hok : okB sz m x = false) :
    Calls Tryz.prog 199 #[.agg #[.int .i64 sz, .slice A m c]] w fun e w' => e = .returned (lsV none) ∧ Below w.heap.size w w' := by
  obtain ⟨W, hW⟩ : ∃ W : World, W = (w.alloc (Obj.cells #[Value.int IntKind.i64 sz, Value.slice A m c] 30)) := ⟨_, rfl⟩
  have HB : Hid (From w W) := by rw [hW]; exact From.alloc _ _
  have HK := Lib.hid (h.keep HB.out.below)
  have HC : Hid (GC W w.heap.size sz A m c) := by rw [hW]; exact GC.new _ _ _ _ _
  have HW := Lib.hid hW
  have KF := Lib.hid (least_no (f := .func (.func 166) #[] #[]) HK.out hm hok)
  clear hW h hok
  go_enter Tryz.func199, Tryz.ntmps199
  have e0 := HC.out.c0
  have e1 := HC.out.c1
  go_wp2_with fail
  rw [← HW.out]
  refine (KF.out).mono ?_
  rintro e w1 ⟨rfl, hb1⟩
  clear HW
  clear e0 e1
  replace HB := Lib.hid (HB.out.keep hb1)
  replace HK := Lib.hid (HK.out.keep hb1)
  replace HC := Lib.hid (HC.out.keep hb1)
  clear hb1
  have e0 := HC.out.c0
  have e1 := HC.out.c1
  clear KF
  rw [lsV_none]
  go_wp2
  go_ret2
  exact ⟨rfl, HB.out.below⟩
set_option maxRecDepth 100000 in
set_option maxHeartbeats 1600000 in
theorem IsSplit_i (h : GA w A m c x) (hm : m ≤ 1048576) :
    Calls Tryz.prog 92 #[.agg #[.int .i64 sz, .slice A m c]] w fun e w' => e = .returned (.bool (slB sz m x)) ∧ Below w.heap.size w w' := by
  obtain ⟨W, hW⟩ : ∃ W : World, W = (w.alloc (Obj.cells #[Value.int IntKind.i64 sz, Value.slice A m c] 30)) := ⟨_, rfl⟩
  have HB : Hid (From w W) := by rw [hW]; exact From.alloc _ _
  have HK := Lib.hid (h.keep HB.out.below)
  have HC : Hid (GC W w.heap.size sz A m c) := by rw [hW]; exact GC.new _ _ _ _ _
  have HW := Lib.hid hW
  clear hW h
  go_enter Tryz.func92, Tryz.ntmps92
  cases ho : okB sz m x
  · have Hn : Hid (slB sz m x = false) := slB_no ho
    have KF := Lib.hid (SplitOf_no sz A m c x W HK.out hm ho)
    clear ho
    have e0 := HC.out.c0
    have e1 := HC.out.c1
    go_wp2_with fail
    rw [← HW.out]
    refine (KF.out).mono ?_
    rintro e w1 ⟨rfl, hb1⟩
    clear HW
    clear e0 e1
    replace HB := Lib.hid (HB.out.keep hb1)
    replace HK := Lib.hid (HK.out.keep hb1)
    replace HC := Lib.hid (HC.out.keep hb1)
    clear hb1
    have e0 := HC.out.c0
    have e1 := HC.out.c1
    clear KF
    rw [lsV_none]
    go_wp2
    go_ret
    exact ⟨ret_bool Hn.out.symm, HB.out.below⟩
  obtain ⟨_, es, _, _⟩ := okB_ok' ho
  subst es
  have Hn : Hid (slB (m : Int) m x = (slO (rw_ x) m).isSome) := slB_yes ho
  have HG : Hid (GBox W w.heap.size A m c (rw_ x)) := ⟨HK.out.gv ho, HC.out.c0, HC.out.c1, HC.out.lt⟩
  have KF := Lib.hid (SplitOf_v HG.out.gv)
  obtain ⟨o, ho2⟩ : ∃ o, o = slO (rw_ x) m := ⟨_, rfl⟩
  rw [← ho2] at Hn KF
  clear ho ho2 HC HK
  cases o
  · skip
    have e0 := HG.out.c0
    have e1 := HG.out.c1
    go_wp2_with fail
    rw [← HW.out]
    refine (KF.out).mono ?_
    rintro e w2 ⟨rfl, hb2⟩
    clear HW
    clear e0 e1
    replace HB := Lib.hid (HB.out.keep hb2)
    replace HG := Lib.hid (HG.out.keep hb2)
    clear hb2
    have e0 := HG.out.c0
    have e1 := HG.out.c1
    clear KF
    rw [lsV_none]
    go_wp2
    go_ret
    exact ⟨ret_bool Hn.out.symm, HB.out.below⟩
  · skip
    have e0 := HG.out.c0
    have e1 := HG.out.c1
    go_wp2_with fail
    rw [← HW.out]
    refine (KF.out).mono ?_
    rintro e w3 ⟨rfl, hb3⟩
    clear HW
    clear e0 e1
    replace HB := Lib.hid (HB.out.keep hb3)
    replace HG := Lib.hid (HG.out.keep hb3)
    clear hb3
    have e0 := HG.out.c0
    have e1 := HG.out.c1
    clear KF
    rw [lsV_some]
    go_wp2
    go_ret
    exact ⟨ret_bool Hn.out.symm, HB.out.below⟩
end
end Go.Proofs.YtmkahbephidmbaaGreat

/-
  Contract: do weights and a limit make a threshold graph? The program's test.
-/
namespace Go.Proofs.YtmkahbephidmbaaGreat
open Go.RowKit

/-- The weights are fine up to v; the pairs below v are. -/
def Tw1 (l : List Int) (v : Nat) : Prop := ∀ u, u < v → 0 ≤ l.getD u 0 ∧ l.getD u 0 ≤ 1000000
def Twp (r : Nat → Nat) (l : List Int) (lim : Int) (v k : Nat) : Prop := (r v).testBit k = decide (lim < l.getD k 0 + l.getD v 0)
def Tw2 (r : Nat → Nat) (l : List Int) (lim : Int) (v : Nat) : Prop := ∀ u, u < v → ∀ k, k < u → Twp r l lim u k
section
variable {r : Nat → Nat} {m v k : Nat} {l : List Int} {lim : Int}
theorem Tw1.zero : Tw1 l 0 := fun u h => absurd h (by omega)
theorem Tw2.zero : Tw2 r l lim 0 := fun u h => absurd h (by omega)
theorem Tw1.step (h : Tw1 l v) (h2 : 0 ≤ l.getD v 0 ∧ l.getD v 0 ≤ 1000000) : Tw1 l (v + 1) := fun u hu => by
  by_cases e : u < v
  · exact h u e
  · obtain rfl : u = v := by omega
    exact h2
theorem Tw2.step (h : Tw2 r l lim v) (h2 : ∀ k, k < v → Twp r l lim v k) : Tw2 r l lim (v + 1) := fun u hu => by
  by_cases e : u < v
  · exact h u e
  · obtain rfl : u = v := by omega
    exact h2
end
end Go.Proofs.YtmkahbephidmbaaGreat
