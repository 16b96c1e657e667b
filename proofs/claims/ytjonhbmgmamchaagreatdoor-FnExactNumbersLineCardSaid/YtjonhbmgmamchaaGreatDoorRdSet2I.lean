/-
  Contracts: is a number a set of a graph's vertices? is it a clique, independent, dominating, a packing? The program's tests.
-/
import Derived.Test.YtjonhbmgmamchaaGreatDoorRdSet2P
import Derived.Test.YtjonhbmgmamchaaGreatDoorRdBest
namespace Go.Proofs.YtjonhbmgmamchaaGreatDoor
open Go.RowKit

/-- A graph argument that may not be valid. -/
structure GA (w : World) (A : Option Addr) (m c : Nat) (x : Nat → Int) : Prop where
  rd : Rd w w.heap.size A m c x
theorem GA.keep {w w' : World} {A : Option Addr} {m c : Nat} {x : Nat → Int} (h : GA w A m c x) (hb : Below w.heap.size w w') : GA w' A m c x := ⟨h.rd.keep hb hb.size⟩
theorem GA.gv {w : World} {A : Option Addr} {m c : Nat} {x : Nat → Int} (h : GA w A m c x) (hok : okB m m x = true) : GV w A m c (rw_ x) := GV.of h.rd (Nat.le_refl _) hok
theorem GV.ga {w : World} {A : Option Addr} {m c : Nat} {r : Nat → Nat} (h : GV w A m c r) : GA w A m c (fun v => (r v : Int)) := ⟨h.rd⟩

set_option maxHeartbeats 1000000 in
theorem IsSet_i (sz : Int) (A : Option Addr) (m c : Nat) (x : Nat → Int) (s : Int) (w : World) (h : GA w A m c x) (hm : m ≤ 1048576) :
    Calls Tryz.prog 95 #[.agg #[.int .i64 sz, .slice A m c], .int .i64 s] w fun e w' => e = .returned (.bool (setB sz m x s)) ∧ Below w.heap.size w w' := by
  obtain ⟨W, hW⟩ : ∃ W : World, W = (w.alloc (Obj.cells #[Value.int IntKind.i64 sz, Value.slice A m c] 27)) := ⟨_, rfl⟩
  have HB : Hid (From w W) := by rw [hW]; exact From.alloc _ _
  have HK := Lib.hid (h.keep HB.out.below)
  have HC : Hid (GC W w.heap.size sz A m c) := by rw [hW]; exact GC.new _ _ _ _ _
  have HW := Lib.hid hW
  clear hW h
  go_enter Tryz.func95, Tryz.ntmps95
  have e0 := HC.out.c0
  have e1 := HC.out.c1
  go_wp2_with fail
  rw [← HW.out]
  refine (IsGraph_any sz A m c x W W.heap.size HK.out.rd (Nat.le_refl _) hm).mono ?_
  rintro e w1 ⟨rfl, hb1⟩
  clear HW
  clear e0 e1
  replace HB := Lib.hid (HB.out.keep hb1)
  replace HK := Lib.hid (HK.out.keep hb1)
  replace HC := Lib.hid (HC.out.keep hb1)
  clear hb1
  have e0 := HC.out.c0
  have e1 := HC.out.c1
  cases ho : okB sz m x
  · have hno : Hid (setB sz m x s = false) := by show _ = _; unfold setB; rw [ho]; rfl
    clear ho
    go_wp2
    go_ret
    exact ⟨ret_bool hno.out.symm, HB.out.below⟩
  · obtain ⟨_, es, vg0, _⟩ := okB_ok' ho
    subst es
    have hn7 := vg0.n7
    have hp := two_pow_le hn7
    have hpos := Nat.two_pow_pos m
    have hpc := pow_cast m
    have Ho := Lib.hid ho
    clear ho vg0
    go_wp2_with fail
    refine (all_any m A c _ hn7).mono ?_
    rintro e w2 ⟨rfl, hb2⟩
    clear e0 e1
    replace HB := Lib.hid (HB.out.keep hb2)
    replace HK := Lib.hid (HK.out.keep hb2)
    replace HC := Lib.hid (HC.out.keep hb2)
    clear hb2
    have e0 := HC.out.c0
    have e1 := HC.out.c1
    by_cases hs : 0 ≤ s ∧ s < 2 ^ m
    · have hyes : Hid (setB (m : Int) m x s = true) := by show _ = _; unfold setB; rw [Ho.out, decide_eq_true hs]; rfl
      obtain ⟨s1, s2⟩ := hs
      go_wp2_with (first | (go_at_call 57; refine (within_yes _ _ _ _ s1 (by omega)).mono ?_; rintro e w' ⟨rfl, rfl⟩))
      go_ret
      exact ⟨ret_bool hyes.out.symm, HB.out.below⟩
    · have hno : Hid (setB (m : Int) m x s = false) := setB_out (by omega)
      have hr : Hid (s < 0 ∨ ((2 ^ m - 1 : Nat) : Int) < s) := by show _ ∨ _; omega
      clear hs
      go_wp2_with (first | (go_at_call 57; refine (within_no _ _ _ _ hr.out).mono ?_; rintro e w' ⟨rfl, rfl⟩))
      go_ret
      exact ⟨ret_bool hno.out.symm, HB.out.below⟩

section
variable {A : Option Addr} {m c : Nat} {r : Nat → Nat}
theorem IsSet_v {w : World} (h : GV w A m c r) {s : Nat} (hs : s < 2 ^ m) :
    Calls Tryz.prog 95 #[.agg #[.int .i64 m, .slice A m c], .int .i64 s] w fun e w' => e = .returned (.bool true) ∧ Below w.heap.size w w' := by
  have := IsSet_i m A m c _ s w h.ga (by have := h.vg.n7; omega)
  rwa [setB_yes h.ok hs] at this

set_option maxHeartbeats 1000000 in
theorem AroundSet_v {w : World} (h : GV w A m c r) {s : Nat} (hs : s < 2 ^ m) :
    Calls Tryz.prog 98 #[.agg #[.int .i64 m, .slice A m c], .int .i64 s] w fun e w' => e = .returned (.int .i64 ((s ||| nb r s : Nat) : Int)) ∧ Below w.heap.size w w' := by
  have hp := two_pow_le h.vg.n7
  have hnb := nb_lt (r := r) h.vg.lt hs 7
  have E := i64_or_nat s (nb r s) (by omega) (by have : nb r s < 2 ^ m := hnb; omega)
  obtain ⟨W, hW⟩ : ∃ W : World, W = (w.alloc (Obj.cells #[Value.int IntKind.i64 m, Value.slice A m c] 27)) := ⟨_, rfl⟩
  have HB : Hid (From w W) := by rw [hW]; exact From.alloc _ _
  have HG : Hid (GBox W w.heap.size A m c r) := by rw [hW]; exact h.box
  have HW := Lib.hid hW
  clear hW h
  have e0 := HG.out.c0
  have e1 := HG.out.c1
  go_enter Tryz.func98, Tryz.ntmps98
  go_wp2_with fail
  rw [← HW.out]
  refine (IsSet_v HG.out.gv hs).mono ?_
  rintro e w1 ⟨rfl, hb1⟩
  clear HW
  clear e0 e1
  replace HB := Lib.hid (HB.out.keep hb1)
  replace HG := Lib.hid (HG.out.keep hb1)
  clear hb1
  have e0 := HG.out.c0
  have e1 := HG.out.c1
  go_wp2_with fail
  refine (neighbors_v HG.out.gv hs).mono ?_
  rintro e w2 ⟨rfl, hb2⟩
  clear e0 e1
  replace HB := Lib.hid (HB.out.keep hb2)
  replace HG := Lib.hid (HG.out.keep hb2)
  clear hb2
  have e0 := HG.out.c0
  have e1 := HG.out.c1
  go_wp2
  go_ret
  exact ⟨rfl, HB.out.below⟩

set_option maxHeartbeats 1000000 in
theorem IsDominating_v {w : World} (h : GV w A m c r) {s : Nat} (hs : s < 2 ^ m) :
    Calls Tryz.prog 68 #[.agg #[.int .i64 m, .slice A m c], .int .i64 s] w fun e w' => e = .returned (.bool (domB r m s)) ∧ Below w.heap.size w w' := by
  have hd : Hid (decide (((s ||| nb r s : Nat) : Int) = ((2 ^ m - 1 : Nat) : Int)) = domB r m s) := by
    show _ = _
    unfold domB
    rw [Bool.eq_iff_iff]
    simp only [decide_eq_true_eq, beq_iff_eq]
    omega
  obtain ⟨W, hW⟩ : ∃ W : World, W = (w.alloc (Obj.cells #[Value.int IntKind.i64 m, Value.slice A m c] 27)) := ⟨_, rfl⟩
  have HB : Hid (From w W) := by rw [hW]; exact From.alloc _ _
  have HG : Hid (GBox W w.heap.size A m c r) := by rw [hW]; exact h.box
  have HW := Lib.hid hW
  clear hW h
  have e0 := HG.out.c0
  have e1 := HG.out.c1
  go_enter Tryz.func68, Tryz.ntmps68
  go_wp2
  rw [← HW.out]
  clear HW
  have HSC : Hid (∀ z : World, Below W.heap.size W z → (Below W.heap.size W z ∧ z.cell? ⟨w.heap.size, 0, none⟩ = some (.int .i64 m) ∧ z.cell? ⟨w.heap.size, 1, none⟩ = some (.slice A m c))) := fun z hz => ⟨hz, up_ hz e0, up_ hz e1⟩
  have HZ0 : Hid (Below W.heap.size W W.drew) := (Below.refl _ _).drew
  have HS1 := Lib.hid (HSC.out _ HZ0.out)
  have KR1 : Hid (∀ z : World, Below W.heap.size W z → _) := fun z hz => IsSet_v (HG.out.keep hz).gv hs
  have KR2 : Hid (∀ z : World, Below W.heap.size W z → _) := fun z hz => AroundSet_v (HG.out.keep hz).gv hs
  have KR3 : Hid (∀ z : World, Below W.heap.size W z → _) := fun z hz => all_v (HG.out.keep hz).gv
  go_region_held3 (fun z => Below W.heap.size W z ∧ z.cell? ⟨w.heap.size, 0, none⟩ = some (.int .i64 m) ∧ z.cell? ⟨w.heap.size, 1, none⟩ = some (.slice A m c))
    (first | exact HS1.out | assumption | exact HSC.out _ hz3 | exact HSC.out _ hz2 | exact HSC.out _ hz1 | fail)
    (first | (go_at_call 95; ((with_reducible refine (KR1.out _ HZ0.out).mono ?_); rintro e w1 ⟨rfl, hb1⟩; have hz1 := bl_trans HZ0.out hb1)) | (go_at_call 98; ((with_reducible refine (KR2.out _ hz1).mono ?_); rintro e w2 ⟨rfl, hb2⟩; have hz2 := bl_trans hz1 hb2)) | (go_at_call 94; ((with_reducible refine (KR3.out _ hz2).mono ?_); rintro e w3 ⟨rfl, hb3⟩; have hz3 := bl_trans hz2 hb3)))
  clear e0 e1
  replace HB := Lib.hid (HB.out.keep hz3)
  replace HG := Lib.hid (HG.out.keep hz3)
  clear hb1 hz1 hb2 hz2 hb3 hz3 HSC HZ0 HS1 KR1 KR2 KR3
  have e0 := HG.out.c0
  have e1 := HG.out.c1
  go_wp2
  go_ret
  exact ⟨ret_bool (by rw [← hd.out, Bool.eq_iff_iff]; simp), HB.out.below⟩

set_option maxHeartbeats 1000000 in
theorem IsClique_v {w : World} (h : GV w A m c r) {s : Nat} (hs : s < 2 ^ m) :
    Calls Tryz.prog 91 #[.agg #[.int .i64 m, .slice A m c], .int .i64 s] w fun e w' => e = .returned (.bool (cliq r s)) ∧ Below w.heap.size w w' := by
  obtain ⟨W, hW⟩ : ∃ W : World, W = (w.alloc (Obj.cells #[Value.int IntKind.i64 m, Value.slice A m c] 27)) := ⟨_, rfl⟩
  have HB : Hid (From w W) := by rw [hW]; exact From.alloc _ _
  have HG : Hid (GBox W w.heap.size A m c r) := by rw [hW]; exact h.box
  have HW := Lib.hid hW
  clear hW h
  have e0 := HG.out.c0
  have e1 := HG.out.c1
  go_enter Tryz.func91, Tryz.ntmps91
  go_wp2_with fail
  rw [← HW.out]
  refine (IsSet_v HG.out.gv hs).mono ?_
  rintro e w1 ⟨rfl, hb1⟩
  clear HW
  clear e0 e1
  replace HB := Lib.hid (HB.out.keep hb1)
  replace HG := Lib.hid (HG.out.keep hb1)
  clear hb1
  have e0 := HG.out.c0
  have e1 := HG.out.c1
  go_wp2_with fail
  refine (isClique_v HG.out.gv hs).mono ?_
  rintro e w2 ⟨rfl, hb2⟩
  clear e0 e1
  replace HB := Lib.hid (HB.out.keep hb2)
  replace HG := Lib.hid (HG.out.keep hb2)
  clear hb2
  have e0 := HG.out.c0
  have e1 := HG.out.c1
  go_wp2
  go_ret
  exact ⟨rfl, HB.out.below⟩

set_option maxHeartbeats 1000000 in
theorem IsIndependent_v {w : World} (h : GV w A m c r) {s : Nat} (hs : s < 2 ^ m) :
    Calls Tryz.prog 63 #[.agg #[.int .i64 m, .slice A m c], .int .i64 s] w fun e w' => e = .returned (.bool (indB r s)) ∧ Below w.heap.size w w' := by
  have hp := two_pow_le h.vg.n7
  have hnb : nb r s < 2 ^ m := nb_lt (r := r) h.vg.lt hs 7
  have E := i64_and_nat (nb r s) s (by omega) (by omega)
  have hd : Hid ((((nb r s &&& s : Nat) : Int) == 0) = indB r s) := by
    show _ = _
    unfold indB
    rw [Bool.eq_iff_iff]
    simp
  obtain ⟨W, hW⟩ : ∃ W : World, W = (w.alloc (Obj.cells #[Value.int IntKind.i64 m, Value.slice A m c] 27)) := ⟨_, rfl⟩
  have HB : Hid (From w W) := by rw [hW]; exact From.alloc _ _
  have HG : Hid (GBox W w.heap.size A m c r) := by rw [hW]; exact h.box
  have HW := Lib.hid hW
  clear hW h
  have e0 := HG.out.c0
  have e1 := HG.out.c1
  go_enter Tryz.func63, Tryz.ntmps63
  go_wp2_with fail
  rw [← HW.out]
  refine (IsSet_v HG.out.gv hs).mono ?_
  rintro e w1 ⟨rfl, hb1⟩
  clear HW
  clear e0 e1
  replace HB := Lib.hid (HB.out.keep hb1)
  replace HG := Lib.hid (HG.out.keep hb1)
  clear hb1
  have e0 := HG.out.c0
  have e1 := HG.out.c1
  go_wp2_with fail
  refine (neighbors_v HG.out.gv hs).mono ?_
  rintro e w2 ⟨rfl, hb2⟩
  clear e0 e1
  replace HB := Lib.hid (HB.out.keep hb2)
  replace HG := Lib.hid (HG.out.keep hb2)
  clear hb2
  have e0 := HG.out.c0
  have e1 := HG.out.c1
  go_wp2
  go_ret
  exact ⟨ret_bool (by rw [← hd.out]), HB.out.below⟩

end
end Go.Proofs.YtjonhbmgmamchaaGreatDoor
