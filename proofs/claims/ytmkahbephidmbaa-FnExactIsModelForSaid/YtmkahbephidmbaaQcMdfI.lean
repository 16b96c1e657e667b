/-
  Contracts: is a list a model for a class? the program's test.
-/
import Derived.Test.YtmkahbephidmbaaQcGivJ
import Derived.Test.YtmkahbephidmbaaQcSetG
import Derived.Test.YtmkahbephidmbaaQcElzI
import Derived.Test.YtmkahbephidmbaaQcUmbI
import Derived.Test.YtmkahbephidmbaaQcWgtI
import Derived.Test.YtmkahbephidmbaaQcTwnI
import Derived.Test.YtmkahbephidmbaaQcOrdI
import Derived.Test.YtmkahbephidmbaaQcLater
import Derived.Test.YtmkahbephidmbaaQcTake
namespace Go.Proofs.Ytmkahbephidmbaa
open Go.RowKit

noncomputable def bpB (sz : Int) (m : Nat) (x : Nat → Int) (s : Int) : Bool := indG sz m x s && indG sz m x (((2 ^ m - 1) ^^^ s.toNat : Nat) : Int)
noncomputable def mfB (sz : Int) (m : Nat) (x : Nat → Int) (s : List UInt8) (l ol : List Int) : Bool :=
  if s = [105, 110, 116, 101, 114, 118, 97, 108] then moB sz m x l ol else if s = [116, 104, 114, 101, 115, 104, 111, 108, 100] then (decide (ol.length = 1) && wgG sz m x l (ol.getD 0 0)) else if ol.length ≠ 0 then false else if s = [99, 104, 111, 114, 100, 97, 108] then elB sz m x l else if s = [112, 114, 111, 112, 101, 114] then ulB sz m x l else if s = [99, 111, 103, 114, 97, 112, 104] then obG sz m x l (fun d s => tnB (rw_ x) m d s) else if s = [115, 112, 108, 105, 116] then (decide (l.length = 1) && splG sz m x (l.getD 0 0)) else if s = [98, 105, 112, 97, 114, 116, 105, 116, 101] then (decide (l.length = 1) && bpB sz m x (l.getD 0 0)) else if s = [115, 116, 114, 111, 110, 103] then obG sz m x l (fun d s => simB (rw_ x) d s) else false
section
variable (sz : Int) (A : Option Addr) (m c : Nat) (x : Nat → Int) (str : ByteArray) (Al : Option Addr) (n cl : Nat) (l : List Int) (Ao : Option Addr) (k co : Nat) (ol : List Int) (w : World)
set_option maxRecDepth 100000 in
set_option maxHeartbeats 3200000 in
theorem mf_i_interval (h : GA w A m c x) (hl : LI w Al n cl l) (hm : m ≤ 1048576) (_hn : n ≤ 1048576) (ho : LI w Ao k co ol) (_hk : k ≤ 1048576) (hs : str.toList = [105, 110, 116, 101, 114, 118, 97, 108]) :
    Calls Try.prog 8 #[.agg #[.int .i64 sz, .slice A m c], .string str, .slice Al n cl, .slice Ao k co] w fun e w' => e = .returned (.bool (moB sz m x l ol)) ∧ Below w.heap.size w w' := by
  obtain ⟨W, hW⟩ : ∃ W : World, W = (w.alloc (Obj.cells #[Value.int IntKind.i64 sz, Value.slice A m c] 27)) := ⟨_, rfl⟩
  have HB : Hid (From w W) := by rw [hW]; exact From.alloc _ _
  have HK := Lib.hid (h.keep HB.out.below)
  have HL := Lib.hid (hl.keep HB.out.below)
  have HC : Hid (GC W w.heap.size sz A m c) := by rw [hW]; exact GC.new _ _ _ _ _
  have HW := Lib.hid hW
  have HN := Lib.hid hl.len
  have HO := Lib.hid (ho.keep HB.out.below)
  have f0 : (str.toList == [105, 110, 116, 101, 114, 118, 97, 108]) = true := by rw [hs]; rfl
  have f1 : (str.toList == [116, 104, 114, 101, 115, 104, 111, 108, 100]) = false := by rw [hs]; rfl
  have f2 : (str.toList == [99, 104, 111, 114, 100, 97, 108]) = false := by rw [hs]; rfl
  have f3 : (str.toList == [112, 114, 111, 112, 101, 114]) = false := by rw [hs]; rfl
  have f4 : (str.toList == [99, 111, 103, 114, 97, 112, 104]) = false := by rw [hs]; rfl
  have f5 : (str.toList == [115, 112, 108, 105, 116]) = false := by rw [hs]; rfl
  have f6 : (str.toList == [98, 105, 112, 97, 114, 116, 105, 116, 101]) = false := by rw [hs]; rfl
  have f7 : (str.toList == [115, 116, 114, 111, 110, 103]) = false := by rw [hs]; rfl
  clear hs
  clear hW h hl ho
  go_enter Try.func8, Try.ntmps8
  have e0 := HC.out.c0
  have e1 := HC.out.c1
  go_wp2_with fail
  rw [← HW.out]
  refine (IsModelOf_i sz A m c x Al n cl l Ao k co ol W HK.out HL.out HO.out hm).mono ?_
  rintro e w1 ⟨rfl, hb1⟩
  clear HW
  clear e0 e1
  replace HB := Lib.hid (HB.out.keep hb1)
  replace HK := Lib.hid (HK.out.keep hb1)
  replace HL := Lib.hid (HL.out.keep hb1)
  replace HO := Lib.hid (HO.out.keep hb1)
  replace HC := Lib.hid (HC.out.keep hb1)
  clear hb1
  have e0 := HC.out.c0
  have e1 := HC.out.c1
  go_wp2
  go_ret
  exact ⟨rfl, HB.out.below⟩
set_option maxRecDepth 100000 in
set_option maxHeartbeats 3200000 in
theorem mf_i_threshold (h : GA w A m c x) (hl : LI w Al n cl l) (hm : m ≤ 1048576) (hn : n ≤ 1048576) (ho : LI w Ao k co ol) (hk : k ≤ 1048576) (hs : str.toList = [116, 104, 114, 101, 115, 104, 111, 108, 100]) :
    Calls Try.prog 8 #[.agg #[.int .i64 sz, .slice A m c], .string str, .slice Al n cl, .slice Ao k co] w fun e w' => e = .returned (.bool ((decide (ol.length = 1) && wgG sz m x l (ol.getD 0 0)))) ∧ Below w.heap.size w w' := by
  obtain ⟨W, hW⟩ : ∃ W : World, W = (w.alloc (Obj.cells #[Value.int IntKind.i64 sz, Value.slice A m c] 27)) := ⟨_, rfl⟩
  have HB : Hid (From w W) := by rw [hW]; exact From.alloc _ _
  have HK := Lib.hid (h.keep HB.out.below)
  have HL := Lib.hid (hl.keep HB.out.below)
  have HC : Hid (GC W w.heap.size sz A m c) := by rw [hW]; exact GC.new _ _ _ _ _
  have HW := Lib.hid hW
  have HN := Lib.hid hl.len
  have HO := Lib.hid (ho.keep HB.out.below)
  have HM := Lib.hid ho.len
  have f0 : (str.toList == [105, 110, 116, 101, 114, 118, 97, 108]) = false := by rw [hs]; rfl
  have f1 : (str.toList == [116, 104, 114, 101, 115, 104, 111, 108, 100]) = true := by rw [hs]; rfl
  have f2 : (str.toList == [99, 104, 111, 114, 100, 97, 108]) = false := by rw [hs]; rfl
  have f3 : (str.toList == [112, 114, 111, 112, 101, 114]) = false := by rw [hs]; rfl
  have f4 : (str.toList == [99, 111, 103, 114, 97, 112, 104]) = false := by rw [hs]; rfl
  have f5 : (str.toList == [115, 112, 108, 105, 116]) = false := by rw [hs]; rfl
  have f6 : (str.toList == [98, 105, 112, 97, 114, 116, 105, 116, 101]) = false := by rw [hs]; rfl
  have f7 : (str.toList == [115, 116, 114, 111, 110, 103]) = false := by rw [hs]; rfl
  clear hs
  clear hW h hl ho
  by_cases h1 : k = 1
  rotate_left
  · have Hn : Hid ((decide (ol.length = 1) && wgG sz m x l (ol.getD 0 0)) = false) := by show _ = _; rw [decide_eq_false (by rw [← HM.out]; exact h1)]; rfl
    have i4 : ((k : Int) == 1) = false := by simp; omega
    clear h1
    go_enter Try.func8, Try.ntmps8
    have e0 := HC.out.c0
    have e1 := HC.out.c1
    go_wp2
    rw [← HW.out]
    clear HW
    have HSC : Hid (∀ z : World, Below W.heap.size W z → (Below W.heap.size W z)) := fun z hz => hz
    have HZ0 : Hid (Below W.heap.size W W.drew) := (Below.refl _ _).drew
    have HS1 := Lib.hid (HSC.out _ HZ0.out)
    refine wp_region_held_drew (S := fun z => Below W.heap.size W z) (by kernel_rfl) HS1.out (fun hHeld => ?_)
    refine take_yes (i := 0) (d := 23) (v := ?v1) rfl rfl (by kernel_rfl) (by kernel_rfl) (by kernel_rfl) (fun _ _ _ h => h) (by rfl) ?y1 (by assumption) ?r1
    case y1 => (intro w hSw; (try dsimp only at hSw); go_simp <;> with_reducible rfl)
    simp only [Act.put, List.setIfInBounds_toArray, List.set_cons_zero, List.set_cons_succ]
    refine take_yes (i := 1) (d := 24) (v := ?v2) rfl rfl (by kernel_rfl) (by kernel_rfl) (by kernel_rfl) (fun _ _ _ h => h) (by rfl) ?y2 (by assumption) ?r2
    case y2 => (intro w hSw; (try dsimp only at hSw); go_simp <;> with_reducible rfl)
    simp only [Act.put, List.setIfInBounds_toArray, List.set_cons_zero, List.set_cons_succ]
    refine take_yes (i := 2) (d := 25) (v := ?v3) rfl rfl (by kernel_rfl) (by kernel_rfl) (by kernel_rfl) (fun _ _ _ h => h) (by rfl) ?y3 (by assumption) ?r3
    case y3 => (intro w hSw; (try dsimp only at hSw); go_simp <;> with_reducible rfl)
    simp only [Act.put, List.setIfInBounds_toArray, List.set_cons_zero, List.set_cons_succ]
    refine take_yes (i := 3) (d := 26) (v := ?v4) rfl rfl (by kernel_rfl) (by kernel_rfl) (by kernel_rfl) (fun _ _ _ h => h) (by rfl) ?y4 (by assumption) ?r4
    case y4 => (intro w hSw; (try dsimp only at hSw); go_simp <;> with_reducible rfl)
    simp only [Act.put, List.setIfInBounds_toArray, List.set_cons_zero, List.set_cons_succ]
    refine take_no (i := 4) (d := 27) rfl rfl (by kernel_rfl) (by kernel_rfl) (by kernel_rfl) (fun _ _ _ h => h) (by rfl) (by assumption) ?_
    simp only [Act.put, List.setIfInBounds_toArray, List.set_cons_zero, List.set_cons_succ]
    refine take_no (i := 5) (d := 28) rfl rfl (by kernel_rfl) (by kernel_rfl) (by kernel_rfl) (fun _ _ _ h => h) (by rfl) (by assumption) ?_
    simp only [Act.put, List.setIfInBounds_toArray, List.set_cons_zero, List.set_cons_succ]
    refine take_no (i := 6) (d := 29) rfl rfl (by kernel_rfl) (by kernel_rfl) (by kernel_rfl) (fun _ _ _ h => h) (by rfl) (by assumption) ?_
    simp only [Act.put, List.setIfInBounds_toArray, List.set_cons_zero, List.set_cons_succ]
    refine take_no (i := 7) (d := 30) rfl rfl (by kernel_rfl) (by kernel_rfl) (by kernel_rfl) (fun _ _ _ h => h) (by rfl) (by assumption) ?_
    simp only [Act.put, List.setIfInBounds_toArray, List.set_cons_zero, List.set_cons_succ]
    refine take_no (i := 8) (d := 31) rfl rfl (by kernel_rfl) (by kernel_rfl) (by kernel_rfl) (fun _ _ _ h => h) (by rfl) (by assumption) ?_
    simp only [Act.put, List.setIfInBounds_toArray, List.set_cons_zero, List.set_cons_succ]
    refine take_no (i := 9) (d := 32) rfl rfl (by kernel_rfl) (by kernel_rfl) (by kernel_rfl) (fun _ _ _ h => h) (by rfl) (by assumption) ?_
    simp only [Act.put, List.setIfInBounds_toArray, List.set_cons_zero, List.set_cons_succ]
    refine take_yes (i := 10) (d := 33) (v := ?v5) rfl rfl (by kernel_rfl) (by kernel_rfl) (by kernel_rfl) (fun _ _ _ h => h) (by rfl) ?y5 (by assumption) ?r5
    case y5 => (intro w hSw; (try dsimp only at hSw); go_simp <;> with_reducible rfl)
    simp only [Act.put, List.setIfInBounds_toArray, List.set_cons_zero, List.set_cons_succ]
    refine take_yes (i := 11) (d := 8) (v := ?v6) rfl rfl (by kernel_rfl) (by kernel_rfl) (by kernel_rfl) (fun _ _ _ h => h) (by rfl) ?y6 (by assumption) ?r6
    case y6 => (intro w hSw; (try dsimp only at hSw); go_simp <;> with_reducible rfl)
    simp only [Act.put, List.setIfInBounds_toArray, List.set_cons_zero, List.set_cons_succ]
    refine wpAnyH_done (by kernel_rfl) ?_ _
    clear e0 e1
    replace HB := Lib.hid (HB.out.keep HZ0.out)
    replace HK := Lib.hid (HK.out.keep HZ0.out)
    replace HL := Lib.hid (HL.out.keep HZ0.out)
    replace HC := Lib.hid (HC.out.keep HZ0.out)
    clear HSC HZ0 HS1
    have e0 := HC.out.c0
    have e1 := HC.out.c1
    go_wp2
    go_ret
    exact ⟨ret_bool Hn.out.symm, HB.out.below⟩
  subst h1
  have Hn : Hid ((decide (ol.length = 1) && wgG sz m x l (ol.getD 0 0)) = wgG sz m x l (ol.getD 0 0)) := by show _ = _; rw [decide_eq_true HM.out.symm]; rfl
  obtain ⟨bo, oo, rfl⟩ := HO.out.addr (by omega)
  have p0 := HO.out.at (j := 0) (by omega)
  rw [Nat.add_zero] at p0
  obtain ⟨lim, hlim⟩ : ∃ t, t = ol.getD 0 0 := ⟨_, rfl⟩
  rw [← hlim] at p0 Hn
  have KT : Hid (∀ z : World, Below W.heap.size W z → Calls Try.prog 22 #[.agg #[.int .i64 sz, .slice A m c], .slice Al n cl, .int .i64 lim] z fun e w' => e = .returned (.bool (wgG sz m x l lim)) ∧ Below z.heap.size z w') := fun z hz => AreThresholdWeights_i sz A m c x Al n cl l lim z (HK.out.keep hz) (HL.out.keep hz) hm hn
  rw [← hlim]
  clear hlim
  go_enter Try.func8, Try.ntmps8
  have e0 := HC.out.c0
  have e1 := HC.out.c1
  go_wp2
  rw [← HW.out]
  clear HW
  have HSC : Hid (∀ z : World, Below W.heap.size W z → (Below W.heap.size W z ∧ z.cell? ⟨w.heap.size, 0, none⟩ = some (.int .i64 sz) ∧ z.cell? ⟨w.heap.size, 1, none⟩ = some (.slice A m c) ∧ z.cell? ⟨bo, oo, none⟩ = some (.int .i64 lim))) := fun z hz => ⟨hz, up_ hz e0, up_ hz e1, up_ hz p0⟩
  have HZ0 : Hid (Below W.heap.size W W.drew) := (Below.refl _ _).drew
  have HS1 := Lib.hid (HSC.out _ HZ0.out)
  have KR1 : Hid (∀ z : World, Below W.heap.size W z → _) := fun z hz => KT.out _ hz
  refine wp_region_held_drew (S := fun z => Below W.heap.size W z ∧ z.cell? ⟨w.heap.size, 0, none⟩ = some (.int .i64 sz) ∧ z.cell? ⟨w.heap.size, 1, none⟩ = some (.slice A m c) ∧ z.cell? ⟨bo, oo, none⟩ = some (.int .i64 lim)) (by kernel_rfl) HS1.out (fun hHeld => ?_)
  refine take_yes (i := 0) (d := 23) (v := ?v7) rfl rfl (by kernel_rfl) (by kernel_rfl) (by kernel_rfl) (fun _ _ _ h => h) (by rfl) ?y7 (by assumption) ?r7
  case y7 => (intro w hSw; (try dsimp only at hSw); go_simp <;> with_reducible rfl)
  simp only [Act.put, List.setIfInBounds_toArray, List.set_cons_zero, List.set_cons_succ]
  refine take_yes (i := 1) (d := 24) (v := ?v8) rfl rfl (by kernel_rfl) (by kernel_rfl) (by kernel_rfl) (fun _ _ _ h => h) (by rfl) ?y8 (by assumption) ?r8
  case y8 => (intro w hSw; (try dsimp only at hSw); go_simp <;> with_reducible rfl)
  simp only [Act.put, List.setIfInBounds_toArray, List.set_cons_zero, List.set_cons_succ]
  refine take_yes (i := 2) (d := 25) (v := ?v9) rfl rfl (by kernel_rfl) (by kernel_rfl) (by kernel_rfl) (fun _ _ _ h => h) (by rfl) ?y9 (by assumption) ?r9
  case y9 => (intro w hSw; (try dsimp only at hSw); go_simp <;> with_reducible rfl)
  simp only [Act.put, List.setIfInBounds_toArray, List.set_cons_zero, List.set_cons_succ]
  refine take_yes (i := 3) (d := 26) (v := ?v10) rfl rfl (by kernel_rfl) (by kernel_rfl) (by kernel_rfl) (fun _ _ _ h => h) (by rfl) ?y10 (by assumption) ?r10
  case y10 => (intro w hSw; (try dsimp only at hSw); go_simp <;> with_reducible rfl)
  simp only [Act.put, List.setIfInBounds_toArray, List.set_cons_zero, List.set_cons_succ]
  refine take_yes (i := 4) (d := 27) (v := ?v11) rfl rfl (by kernel_rfl) (by kernel_rfl) (by kernel_rfl) (fun _ _ _ h => h) (by rfl) ?y11 (by assumption) ?r11
  case y11 => (intro w hSw; (try dsimp only at hSw); go_simp <;> with_reducible rfl)
  simp only [Act.put, List.setIfInBounds_toArray, List.set_cons_zero, List.set_cons_succ]
  refine take_yes (i := 5) (d := 28) (v := ?v12) rfl rfl (by kernel_rfl) (by kernel_rfl) (by kernel_rfl) (fun _ _ _ h => h) (by rfl) ?y12 (by assumption) ?r12
  case y12 => (intro w hSw; (try dsimp only at hSw); go_simp <;> with_reducible rfl)
  simp only [Act.put, List.setIfInBounds_toArray, List.set_cons_zero, List.set_cons_succ]
  refine take_yes (i := 6) (d := 29) (v := ?v13) rfl rfl (by kernel_rfl) (by kernel_rfl) (by kernel_rfl) (fun _ _ _ h => h) (by rfl) ?y13 (by assumption) ?r13
  case y13 => (intro w hSw; (try dsimp only at hSw); go_simp <;> with_reducible rfl)
  simp only [Act.put, List.setIfInBounds_toArray, List.set_cons_zero, List.set_cons_succ]
  refine take_yes (i := 7) (d := 30) (v := ?v14) rfl rfl (by kernel_rfl) (by kernel_rfl) (by kernel_rfl) (fun _ _ _ h => h) (by rfl) ?y14 (by assumption) ?r14
  case y14 => (intro w hSw; (try dsimp only at hSw); go_simp <;> with_reducible rfl)
  simp only [Act.put, List.setIfInBounds_toArray, List.set_cons_zero, List.set_cons_succ]
  refine take_yes (i := 8) (d := 31) (v := ?v15) rfl rfl (by kernel_rfl) (by kernel_rfl) (by kernel_rfl) (fun _ _ _ h => h) (by rfl) ?y15 (by assumption) ?r15
  case y15 => (intro w hSw; (try dsimp only at hSw); go_simp <;> with_reducible rfl)
  simp only [Act.put, List.setIfInBounds_toArray, List.set_cons_zero, List.set_cons_succ]
  refine wpAnyH_ready (rs := [9]) (by kernel_rfl) (by simp) ?_
  refine AllReadyH.cons rfl (fun K hK => ?_) AllReadyH.nil
  go_simp
  go_at_call 22; refine (KR1.out _ HZ0.out).mono ?_
  rintro e w1 ⟨rfl, hb1⟩
  have hz1 := bl_trans HZ0.out hb1
  refine hK.out _ _ (HSC.out _ hz1) (fun hHeld => ?_)
  clear hK K
  try simp only [Act.put, List.setIfInBounds_toArray, List.set_cons_zero, List.set_cons_succ]
  refine take_yes (i := 10) (d := 33) (v := ?v16) rfl rfl (by kernel_rfl) (by kernel_rfl) (by kernel_rfl) (fun _ _ _ h => h) (by rfl) ?y16 (by assumption) ?r16
  case y16 => (intro w hSw; (try dsimp only at hSw); go_simp <;> with_reducible rfl)
  simp only [Act.put, List.setIfInBounds_toArray, List.set_cons_zero, List.set_cons_succ]
  refine take_yes (i := 11) (d := 8) (v := ?v17) rfl rfl (by kernel_rfl) (by kernel_rfl) (by kernel_rfl) (fun _ _ _ h => h) (by rfl) ?y17 (by assumption) ?r17
  case y17 => (intro w hSw; (try dsimp only at hSw); go_simp <;> with_reducible rfl)
  simp only [Act.put, List.setIfInBounds_toArray, List.set_cons_zero, List.set_cons_succ]
  refine wpAnyH_done (by kernel_rfl) ?_ _
  clear e0 e1
  replace HB := Lib.hid (HB.out.keep hz1)
  replace HK := Lib.hid (HK.out.keep hz1)
  replace HL := Lib.hid (HL.out.keep hz1)
  replace HC := Lib.hid (HC.out.keep hz1)
  clear hb1 hz1 HSC HZ0 HS1 KR1
  have e0 := HC.out.c0
  have e1 := HC.out.c1
  go_wp2
  go_ret
  exact ⟨ret_bool Hn.out.symm, HB.out.below⟩
set_option maxRecDepth 100000 in
set_option maxHeartbeats 3200000 in
theorem mf_i_more (h : GA w A m c x) (hl : LI w Al n cl l) (_hm : m ≤ 1048576) (_hn : n ≤ 1048576) (hk : 0 < k) (hs0 : str.toList ≠ [105, 110, 116, 101, 114, 118, 97, 108]) (hs1 : str.toList ≠ [116, 104, 114, 101, 115, 104, 111, 108, 100]) :
    Calls Try.prog 8 #[.agg #[.int .i64 sz, .slice A m c], .string str, .slice Al n cl, .slice Ao k co] w fun e w' => e = .returned (.bool (false)) ∧ Below w.heap.size w w' := by
  obtain ⟨W, hW⟩ : ∃ W : World, W = (w.alloc (Obj.cells #[Value.int IntKind.i64 sz, Value.slice A m c] 27)) := ⟨_, rfl⟩
  have HB : Hid (From w W) := by rw [hW]; exact From.alloc _ _
  have HK := Lib.hid (h.keep HB.out.below)
  have HL := Lib.hid (hl.keep HB.out.below)
  have HC : Hid (GC W w.heap.size sz A m c) := by rw [hW]; exact GC.new _ _ _ _ _
  have HW := Lib.hid hW
  have HN := Lib.hid hl.len
  have f0 : (str.toList == [105, 110, 116, 101, 114, 118, 97, 108]) = false := by simpa using hs0
  have f1 : (str.toList == [116, 104, 114, 101, 115, 104, 111, 108, 100]) = false := by simpa using hs1
  have i1 : (0 : Int) < (k : Int) := by omega
  clear hW h hl hs0 hs1
  go_enter Try.func8, Try.ntmps8
  go_wp2
  rw [← HW.out]
  go_ret
  exact ⟨rfl, HB.out.below⟩
set_option maxRecDepth 100000 in
set_option maxHeartbeats 3200000 in
theorem mf_i_none (h : GA w A m c x) (hl : LI w Al n cl l) (_hm : m ≤ 1048576) (_hn : n ≤ 1048576) (hs0 : str.toList ≠ [105, 110, 116, 101, 114, 118, 97, 108]) (hs1 : str.toList ≠ [116, 104, 114, 101, 115, 104, 111, 108, 100]) (hs2 : str.toList ≠ [99, 104, 111, 114, 100, 97, 108]) (hs3 : str.toList ≠ [112, 114, 111, 112, 101, 114]) (hs4 : str.toList ≠ [99, 111, 103, 114, 97, 112, 104]) (hs5 : str.toList ≠ [115, 112, 108, 105, 116]) (hs6 : str.toList ≠ [98, 105, 112, 97, 114, 116, 105, 116, 101]) (hs7 : str.toList ≠ [115, 116, 114, 111, 110, 103]) :
    Calls Try.prog 8 #[.agg #[.int .i64 sz, .slice A m c], .string str, .slice Al n cl, .slice Ao 0 co] w fun e w' => e = .returned (.bool (false)) ∧ Below w.heap.size w w' := by
  obtain ⟨W, hW⟩ : ∃ W : World, W = (w.alloc (Obj.cells #[Value.int IntKind.i64 sz, Value.slice A m c] 27)) := ⟨_, rfl⟩
  have HB : Hid (From w W) := by rw [hW]; exact From.alloc _ _
  have HK := Lib.hid (h.keep HB.out.below)
  have HL := Lib.hid (hl.keep HB.out.below)
  have HC : Hid (GC W w.heap.size sz A m c) := by rw [hW]; exact GC.new _ _ _ _ _
  have HW := Lib.hid hW
  have HN := Lib.hid hl.len
  have f0 : (str.toList == [105, 110, 116, 101, 114, 118, 97, 108]) = false := by simpa using hs0
  have f1 : (str.toList == [116, 104, 114, 101, 115, 104, 111, 108, 100]) = false := by simpa using hs1
  have f2 : (str.toList == [99, 104, 111, 114, 100, 97, 108]) = false := by simpa using hs2
  have f3 : (str.toList == [112, 114, 111, 112, 101, 114]) = false := by simpa using hs3
  have f4 : (str.toList == [99, 111, 103, 114, 97, 112, 104]) = false := by simpa using hs4
  have f5 : (str.toList == [115, 112, 108, 105, 116]) = false := by simpa using hs5
  have f6 : (str.toList == [98, 105, 112, 97, 114, 116, 105, 116, 101]) = false := by simpa using hs6
  have f7 : (str.toList == [115, 116, 114, 111, 110, 103]) = false := by simpa using hs7
  clear hW h hl hs0 hs1 hs2 hs3 hs4 hs5 hs6 hs7
  go_enter Try.func8, Try.ntmps8
  go_wp2
  rw [← HW.out]
  go_ret
  exact ⟨rfl, HB.out.below⟩
set_option maxRecDepth 100000 in
set_option maxHeartbeats 3200000 in
theorem mf_i_chordal (h : GA w A m c x) (hl : LI w Al n cl l) (hm : m ≤ 1048576) (hn : n ≤ 1048576) (hs : str.toList = [99, 104, 111, 114, 100, 97, 108]) :
    Calls Try.prog 8 #[.agg #[.int .i64 sz, .slice A m c], .string str, .slice Al n cl, .slice Ao 0 co] w fun e w' => e = .returned (.bool (elB sz m x l)) ∧ Below w.heap.size w w' := by
  obtain ⟨W, hW⟩ : ∃ W : World, W = (w.alloc (Obj.cells #[Value.int IntKind.i64 sz, Value.slice A m c] 27)) := ⟨_, rfl⟩
  have HB : Hid (From w W) := by rw [hW]; exact From.alloc _ _
  have HK := Lib.hid (h.keep HB.out.below)
  have HL := Lib.hid (hl.keep HB.out.below)
  have HC : Hid (GC W w.heap.size sz A m c) := by rw [hW]; exact GC.new _ _ _ _ _
  have HW := Lib.hid hW
  have HN := Lib.hid hl.len
  have f0 : (str.toList == [105, 110, 116, 101, 114, 118, 97, 108]) = false := by rw [hs]; rfl
  have f1 : (str.toList == [116, 104, 114, 101, 115, 104, 111, 108, 100]) = false := by rw [hs]; rfl
  have f2 : (str.toList == [99, 104, 111, 114, 100, 97, 108]) = true := by rw [hs]; rfl
  have f3 : (str.toList == [112, 114, 111, 112, 101, 114]) = false := by rw [hs]; rfl
  have f4 : (str.toList == [99, 111, 103, 114, 97, 112, 104]) = false := by rw [hs]; rfl
  have f5 : (str.toList == [115, 112, 108, 105, 116]) = false := by rw [hs]; rfl
  have f6 : (str.toList == [98, 105, 112, 97, 114, 116, 105, 116, 101]) = false := by rw [hs]; rfl
  have f7 : (str.toList == [115, 116, 114, 111, 110, 103]) = false := by rw [hs]; rfl
  clear hs
  clear hW h hl
  go_enter Try.func8, Try.ntmps8
  have e0 := HC.out.c0
  have e1 := HC.out.c1
  go_wp2_with fail
  rw [← HW.out]
  refine (IsElimination_i sz A m c x Al n cl l W HK.out HL.out hm hn).mono ?_
  rintro e w1 ⟨rfl, hb1⟩
  clear HW
  clear e0 e1
  replace HB := Lib.hid (HB.out.keep hb1)
  replace HK := Lib.hid (HK.out.keep hb1)
  replace HL := Lib.hid (HL.out.keep hb1)
  replace HC := Lib.hid (HC.out.keep hb1)
  clear hb1
  have e0 := HC.out.c0
  have e1 := HC.out.c1
  go_wp2
  go_ret
  exact ⟨rfl, HB.out.below⟩
set_option maxRecDepth 100000 in
set_option maxHeartbeats 3200000 in
theorem mf_i_proper (h : GA w A m c x) (hl : LI w Al n cl l) (hm : m ≤ 1048576) (hn : n ≤ 1048576) (hs : str.toList = [112, 114, 111, 112, 101, 114]) :
    Calls Try.prog 8 #[.agg #[.int .i64 sz, .slice A m c], .string str, .slice Al n cl, .slice Ao 0 co] w fun e w' => e = .returned (.bool (ulB sz m x l)) ∧ Below w.heap.size w w' := by
  obtain ⟨W, hW⟩ : ∃ W : World, W = (w.alloc (Obj.cells #[Value.int IntKind.i64 sz, Value.slice A m c] 27)) := ⟨_, rfl⟩
  have HB : Hid (From w W) := by rw [hW]; exact From.alloc _ _
  have HK := Lib.hid (h.keep HB.out.below)
  have HL := Lib.hid (hl.keep HB.out.below)
  have HC : Hid (GC W w.heap.size sz A m c) := by rw [hW]; exact GC.new _ _ _ _ _
  have HW := Lib.hid hW
  have HN := Lib.hid hl.len
  have f0 : (str.toList == [105, 110, 116, 101, 114, 118, 97, 108]) = false := by rw [hs]; rfl
  have f1 : (str.toList == [116, 104, 114, 101, 115, 104, 111, 108, 100]) = false := by rw [hs]; rfl
  have f2 : (str.toList == [99, 104, 111, 114, 100, 97, 108]) = false := by rw [hs]; rfl
  have f3 : (str.toList == [112, 114, 111, 112, 101, 114]) = true := by rw [hs]; rfl
  have f4 : (str.toList == [99, 111, 103, 114, 97, 112, 104]) = false := by rw [hs]; rfl
  have f5 : (str.toList == [115, 112, 108, 105, 116]) = false := by rw [hs]; rfl
  have f6 : (str.toList == [98, 105, 112, 97, 114, 116, 105, 116, 101]) = false := by rw [hs]; rfl
  have f7 : (str.toList == [115, 116, 114, 111, 110, 103]) = false := by rw [hs]; rfl
  clear hs
  clear hW h hl
  go_enter Try.func8, Try.ntmps8
  have e0 := HC.out.c0
  have e1 := HC.out.c1
  go_wp2_with fail
  rw [← HW.out]
  refine (IsUmbrella_i sz A m c x Al n cl l W HK.out HL.out hm hn).mono ?_
  rintro e w1 ⟨rfl, hb1⟩
  clear HW
  clear e0 e1
  replace HB := Lib.hid (HB.out.keep hb1)
  replace HK := Lib.hid (HK.out.keep hb1)
  replace HL := Lib.hid (HL.out.keep hb1)
  replace HC := Lib.hid (HC.out.keep hb1)
  clear hb1
  have e0 := HC.out.c0
  have e1 := HC.out.c1
  go_wp2
  go_ret
  exact ⟨rfl, HB.out.below⟩
set_option maxRecDepth 100000 in
set_option maxHeartbeats 3200000 in
theorem mf_i_cograph (h : GA w A m c x) (hl : LI w Al n cl l) (hm : m ≤ 1048576) (hn : n ≤ 1048576) (hs : str.toList = [99, 111, 103, 114, 97, 112, 104]) :
    Calls Try.prog 8 #[.agg #[.int .i64 sz, .slice A m c], .string str, .slice Al n cl, .slice Ao 0 co] w fun e w' => e = .returned (.bool (obG sz m x l (fun d s => tnB (rw_ x) m d s))) ∧ Below w.heap.size w w' := by
  obtain ⟨W, hW⟩ : ∃ W : World, W = (w.alloc (Obj.cells #[Value.int IntKind.i64 sz, Value.slice A m c] 27)) := ⟨_, rfl⟩
  have HB : Hid (From w W) := by rw [hW]; exact From.alloc _ _
  have HK := Lib.hid (h.keep HB.out.below)
  have HL := Lib.hid (hl.keep HB.out.below)
  have HC : Hid (GC W w.heap.size sz A m c) := by rw [hW]; exact GC.new _ _ _ _ _
  have HW := Lib.hid hW
  have HN := Lib.hid hl.len
  have f0 : (str.toList == [105, 110, 116, 101, 114, 118, 97, 108]) = false := by rw [hs]; rfl
  have f1 : (str.toList == [116, 104, 114, 101, 115, 104, 111, 108, 100]) = false := by rw [hs]; rfl
  have f2 : (str.toList == [99, 104, 111, 114, 100, 97, 108]) = false := by rw [hs]; rfl
  have f3 : (str.toList == [112, 114, 111, 112, 101, 114]) = false := by rw [hs]; rfl
  have f4 : (str.toList == [99, 111, 103, 114, 97, 112, 104]) = true := by rw [hs]; rfl
  have f5 : (str.toList == [115, 112, 108, 105, 116]) = false := by rw [hs]; rfl
  have f6 : (str.toList == [98, 105, 112, 97, 114, 116, 105, 116, 101]) = false := by rw [hs]; rfl
  have f7 : (str.toList == [115, 116, 114, 111, 110, 103]) = false := by rw [hs]; rfl
  clear hs
  clear hW h hl
  have KF : Hid (okB sz m x = true → ∀ (d s : Nat) (z : World), d < m → s < 2 ^ m → s.testBit d = true → Below W.heap.size W z → Calls Try.prog 26 (#[.int .i64 d, .int .i64 s] ++ #[.pointer (some ⟨w.heap.size, 0, none⟩)]) z (fun e z' => e = .returned (.bool (tnB (rw_ x) m d s)) ∧ Below z.heap.size z z')) := fun ho d s z hd hs _ hz => by
    obtain ⟨r, es, _, _⟩ := okB_ok' ho
    subst es
    exact modelF1 (GBox.keep ⟨HK.out.gv ho, HC.out.c0, HC.out.c1, HC.out.lt⟩ hz) hs hd
  go_enter Try.func8, Try.ntmps8
  have e0 := HC.out.c0
  have e1 := HC.out.c1
  go_wp2_with fail
  rw [← HW.out]
  refine (isOrderBy_g (fn := 26) (caps := #[.pointer (some ⟨w.heap.size, 0, none⟩)]) (ent_of Try.func26 (by kernel_rfl) rfl) sz A m c x Al n cl l W HK.out HL.out hm hn KF.out).mono ?_
  rintro e w1 ⟨rfl, hb1⟩
  clear HW
  clear e0 e1
  replace HB := Lib.hid (HB.out.keep hb1)
  replace HK := Lib.hid (HK.out.keep hb1)
  replace HL := Lib.hid (HL.out.keep hb1)
  replace HC := Lib.hid (HC.out.keep hb1)
  clear hb1
  have e0 := HC.out.c0
  have e1 := HC.out.c1
  go_wp2
  go_ret
  exact ⟨rfl, HB.out.below⟩
set_option maxRecDepth 100000 in
set_option maxHeartbeats 3200000 in
theorem mf_i_strong (h : GA w A m c x) (hl : LI w Al n cl l) (hm : m ≤ 1048576) (hn : n ≤ 1048576) (hs : str.toList = [115, 116, 114, 111, 110, 103]) :
    Calls Try.prog 8 #[.agg #[.int .i64 sz, .slice A m c], .string str, .slice Al n cl, .slice Ao 0 co] w fun e w' => e = .returned (.bool (obG sz m x l (fun d s => simB (rw_ x) d s))) ∧ Below w.heap.size w w' := by
  obtain ⟨W, hW⟩ : ∃ W : World, W = (w.alloc (Obj.cells #[Value.int IntKind.i64 sz, Value.slice A m c] 27)) := ⟨_, rfl⟩
  have HB : Hid (From w W) := by rw [hW]; exact From.alloc _ _
  have HK := Lib.hid (h.keep HB.out.below)
  have HL := Lib.hid (hl.keep HB.out.below)
  have HC : Hid (GC W w.heap.size sz A m c) := by rw [hW]; exact GC.new _ _ _ _ _
  have HW := Lib.hid hW
  have HN := Lib.hid hl.len
  have f0 : (str.toList == [105, 110, 116, 101, 114, 118, 97, 108]) = false := by rw [hs]; rfl
  have f1 : (str.toList == [116, 104, 114, 101, 115, 104, 111, 108, 100]) = false := by rw [hs]; rfl
  have f2 : (str.toList == [99, 104, 111, 114, 100, 97, 108]) = false := by rw [hs]; rfl
  have f3 : (str.toList == [112, 114, 111, 112, 101, 114]) = false := by rw [hs]; rfl
  have f4 : (str.toList == [99, 111, 103, 114, 97, 112, 104]) = false := by rw [hs]; rfl
  have f5 : (str.toList == [115, 112, 108, 105, 116]) = false := by rw [hs]; rfl
  have f6 : (str.toList == [98, 105, 112, 97, 114, 116, 105, 116, 101]) = false := by rw [hs]; rfl
  have f7 : (str.toList == [115, 116, 114, 111, 110, 103]) = true := by rw [hs]; rfl
  clear hs
  clear hW h hl
  have KF : Hid (okB sz m x = true → ∀ (d s : Nat) (z : World), d < m → s < 2 ^ m → s.testBit d = true → Below W.heap.size W z → Calls Try.prog 31 (#[.int .i64 d, .int .i64 s] ++ #[.pointer (some ⟨w.heap.size, 0, none⟩)]) z (fun e z' => e = .returned (.bool (simB (rw_ x) d s)) ∧ Below z.heap.size z z')) := fun ho d s z hd hs _ hz => by
    obtain ⟨r, es, _, _⟩ := okB_ok' ho
    subst es
    exact modelF2 (GBox.keep ⟨HK.out.gv ho, HC.out.c0, HC.out.c1, HC.out.lt⟩ hz) hs hd
  go_enter Try.func8, Try.ntmps8
  have e0 := HC.out.c0
  have e1 := HC.out.c1
  go_wp2_with fail
  rw [← HW.out]
  refine (isOrderBy_g (fn := 31) (caps := #[.pointer (some ⟨w.heap.size, 0, none⟩)]) (ent_of Try.func31 (by kernel_rfl) rfl) sz A m c x Al n cl l W HK.out HL.out hm hn KF.out).mono ?_
  rintro e w1 ⟨rfl, hb1⟩
  clear HW
  clear e0 e1
  replace HB := Lib.hid (HB.out.keep hb1)
  replace HK := Lib.hid (HK.out.keep hb1)
  replace HL := Lib.hid (HL.out.keep hb1)
  replace HC := Lib.hid (HC.out.keep hb1)
  clear hb1
  have e0 := HC.out.c0
  have e1 := HC.out.c1
  go_wp2
  go_ret
  exact ⟨rfl, HB.out.below⟩
set_option maxRecDepth 100000 in
set_option maxHeartbeats 3200000 in
theorem mf_i_split (h : GA w A m c x) (hl : LI w Al n cl l) (hm : m ≤ 1048576) (hn : n ≤ 1048576) (hs : str.toList = [115, 112, 108, 105, 116]) :
    Calls Try.prog 8 #[.agg #[.int .i64 sz, .slice A m c], .string str, .slice Al n cl, .slice Ao 0 co] w fun e w' => e = .returned (.bool ((decide (l.length = 1) && splG sz m x (l.getD 0 0)))) ∧ Below w.heap.size w w' := by
  obtain ⟨W, hW⟩ : ∃ W : World, W = (w.alloc (Obj.cells #[Value.int IntKind.i64 sz, Value.slice A m c] 27)) := ⟨_, rfl⟩
  have HB : Hid (From w W) := by rw [hW]; exact From.alloc _ _
  have HK := Lib.hid (h.keep HB.out.below)
  have HL := Lib.hid (hl.keep HB.out.below)
  have HC : Hid (GC W w.heap.size sz A m c) := by rw [hW]; exact GC.new _ _ _ _ _
  have HW := Lib.hid hW
  have HN := Lib.hid hl.len
  have f0 : (str.toList == [105, 110, 116, 101, 114, 118, 97, 108]) = false := by rw [hs]; rfl
  have f1 : (str.toList == [116, 104, 114, 101, 115, 104, 111, 108, 100]) = false := by rw [hs]; rfl
  have f2 : (str.toList == [99, 104, 111, 114, 100, 97, 108]) = false := by rw [hs]; rfl
  have f3 : (str.toList == [112, 114, 111, 112, 101, 114]) = false := by rw [hs]; rfl
  have f4 : (str.toList == [99, 111, 103, 114, 97, 112, 104]) = false := by rw [hs]; rfl
  have f5 : (str.toList == [115, 112, 108, 105, 116]) = true := by rw [hs]; rfl
  have f6 : (str.toList == [98, 105, 112, 97, 114, 116, 105, 116, 101]) = false := by rw [hs]; rfl
  have f7 : (str.toList == [115, 116, 114, 111, 110, 103]) = false := by rw [hs]; rfl
  clear hs
  clear hW h hl
  by_cases h1 : n = 1
  rotate_left
  · have Hn : Hid ((decide (l.length = 1) && splG sz m x (l.getD 0 0)) = false) := by show _ = _; rw [decide_eq_false (by rw [← HN.out]; exact h1)]; rfl
    have i4 : ((n : Int) == 1) = false := by simp; omega
    clear h1
    go_enter Try.func8, Try.ntmps8
    have e0 := HC.out.c0
    have e1 := HC.out.c1
    go_wp2
    rw [← HW.out]
    clear HW
    have HSC : Hid (∀ z : World, Below W.heap.size W z → (Below W.heap.size W z)) := fun z hz => hz
    have HZ0 : Hid (Below W.heap.size W W.drew) := (Below.refl _ _).drew
    have HS1 := Lib.hid (HSC.out _ HZ0.out)
    refine wp_region_held_drew (S := fun z => Below W.heap.size W z) (by kernel_rfl) HS1.out (fun hHeld => ?_)
    refine take_yes (i := 0) (d := 56) (v := ?v18) rfl rfl (by kernel_rfl) (by kernel_rfl) (by kernel_rfl) (fun _ _ _ h => h) (by rfl) ?y18 (by assumption) ?r18
    case y18 => (intro w hSw; (try dsimp only at hSw); go_simp <;> with_reducible rfl)
    simp only [Act.put, List.setIfInBounds_toArray, List.set_cons_zero, List.set_cons_succ]
    refine take_yes (i := 1) (d := 57) (v := ?v19) rfl rfl (by kernel_rfl) (by kernel_rfl) (by kernel_rfl) (fun _ _ _ h => h) (by rfl) ?y19 (by assumption) ?r19
    case y19 => (intro w hSw; (try dsimp only at hSw); go_simp <;> with_reducible rfl)
    simp only [Act.put, List.setIfInBounds_toArray, List.set_cons_zero, List.set_cons_succ]
    refine take_no (i := 2) (d := 58) rfl rfl (by kernel_rfl) (by kernel_rfl) (by kernel_rfl) (fun _ _ _ h => h) (by rfl) (by assumption) ?_
    simp only [Act.put, List.setIfInBounds_toArray, List.set_cons_zero, List.set_cons_succ]
    refine take_no (i := 3) (d := 59) rfl rfl (by kernel_rfl) (by kernel_rfl) (by kernel_rfl) (fun _ _ _ h => h) (by rfl) (by assumption) ?_
    simp only [Act.put, List.setIfInBounds_toArray, List.set_cons_zero, List.set_cons_succ]
    refine take_no (i := 4) (d := 60) rfl rfl (by kernel_rfl) (by kernel_rfl) (by kernel_rfl) (fun _ _ _ h => h) (by rfl) (by assumption) ?_
    simp only [Act.put, List.setIfInBounds_toArray, List.set_cons_zero, List.set_cons_succ]
    refine take_no (i := 5) (d := 61) rfl rfl (by kernel_rfl) (by kernel_rfl) (by kernel_rfl) (fun _ _ _ h => h) (by rfl) (by assumption) ?_
    simp only [Act.put, List.setIfInBounds_toArray, List.set_cons_zero, List.set_cons_succ]
    refine take_no (i := 6) (d := 62) rfl rfl (by kernel_rfl) (by kernel_rfl) (by kernel_rfl) (fun _ _ _ h => h) (by rfl) (by assumption) ?_
    simp only [Act.put, List.setIfInBounds_toArray, List.set_cons_zero, List.set_cons_succ]
    refine take_yes (i := 7) (d := 63) (v := ?v20) rfl rfl (by kernel_rfl) (by kernel_rfl) (by kernel_rfl) (fun _ _ _ h => h) (by rfl) ?y20 (by assumption) ?r20
    case y20 => (intro w hSw; (try dsimp only at hSw); go_simp <;> with_reducible rfl)
    simp only [Act.put, List.setIfInBounds_toArray, List.set_cons_zero, List.set_cons_succ]
    refine take_yes (i := 8) (d := 8) (v := ?v21) rfl rfl (by kernel_rfl) (by kernel_rfl) (by kernel_rfl) (fun _ _ _ h => h) (by rfl) ?y21 (by assumption) ?r21
    case y21 => (intro w hSw; (try dsimp only at hSw); go_simp <;> with_reducible rfl)
    simp only [Act.put, List.setIfInBounds_toArray, List.set_cons_zero, List.set_cons_succ]
    refine wpAnyH_done (by kernel_rfl) ?_ _
    clear e0 e1
    replace HB := Lib.hid (HB.out.keep HZ0.out)
    replace HK := Lib.hid (HK.out.keep HZ0.out)
    replace HL := Lib.hid (HL.out.keep HZ0.out)
    replace HC := Lib.hid (HC.out.keep HZ0.out)
    clear HSC HZ0 HS1
    have e0 := HC.out.c0
    have e1 := HC.out.c1
    go_wp2
    go_ret
    exact ⟨ret_bool Hn.out.symm, HB.out.below⟩
  subst h1
  have Hn : Hid ((decide (l.length = 1) && splG sz m x (l.getD 0 0)) = splG sz m x (l.getD 0 0)) := by show _ = _; rw [decide_eq_true HN.out.symm]; rfl
  obtain ⟨bl, ol, rfl⟩ := HL.out.addr (by omega)
  have p0 := HL.out.at (j := 0) (by omega)
  rw [Nat.add_zero] at p0
  obtain ⟨v, hv⟩ : ∃ t, t = l.getD 0 0 := ⟨_, rfl⟩
  rw [← hv] at p0 Hn
  rw [← hv]
  clear hv
  have KT : Hid (∀ z : World, Below W.heap.size W z → Calls Try.prog 28 #[.agg #[.int .i64 sz, .slice A m c], .int .i64 v] z fun e w' => e = .returned (.bool (splG sz m x v)) ∧ Below z.heap.size z w') := fun z hz => IsSplitPartition_ig sz A m c x v z (HK.out.keep hz) hm
  go_enter Try.func8, Try.ntmps8
  have e0 := HC.out.c0
  have e1 := HC.out.c1
  go_wp2
  rw [← HW.out]
  clear HW
  have HSC : Hid (∀ z : World, Below W.heap.size W z → (Below W.heap.size W z ∧ z.cell? ⟨w.heap.size, 0, none⟩ = some (.int .i64 sz) ∧ z.cell? ⟨w.heap.size, 1, none⟩ = some (.slice A m c) ∧ z.cell? ⟨bl, ol, none⟩ = some (.int .i64 v))) := fun z hz => ⟨hz, up_ hz e0, up_ hz e1, up_ hz p0⟩
  have HZ0 : Hid (Below W.heap.size W W.drew) := (Below.refl _ _).drew
  have HS1 := Lib.hid (HSC.out _ HZ0.out)
  have KR1 : Hid (∀ z : World, Below W.heap.size W z → _) := fun z hz => KT.out _ hz
  refine wp_region_held_drew (S := fun z => Below W.heap.size W z ∧ z.cell? ⟨w.heap.size, 0, none⟩ = some (.int .i64 sz) ∧ z.cell? ⟨w.heap.size, 1, none⟩ = some (.slice A m c) ∧ z.cell? ⟨bl, ol, none⟩ = some (.int .i64 v)) (by kernel_rfl) HS1.out (fun hHeld => ?_)
  refine take_yes (i := 0) (d := 56) (v := ?v22) rfl rfl (by kernel_rfl) (by kernel_rfl) (by kernel_rfl) (fun _ _ _ h => h) (by rfl) ?y22 (by assumption) ?r22
  case y22 => (intro w hSw; (try dsimp only at hSw); go_simp <;> with_reducible rfl)
  simp only [Act.put, List.setIfInBounds_toArray, List.set_cons_zero, List.set_cons_succ]
  refine take_yes (i := 1) (d := 57) (v := ?v23) rfl rfl (by kernel_rfl) (by kernel_rfl) (by kernel_rfl) (fun _ _ _ h => h) (by rfl) ?y23 (by assumption) ?r23
  case y23 => (intro w hSw; (try dsimp only at hSw); go_simp <;> with_reducible rfl)
  simp only [Act.put, List.setIfInBounds_toArray, List.set_cons_zero, List.set_cons_succ]
  refine take_yes (i := 2) (d := 58) (v := ?v24) rfl rfl (by kernel_rfl) (by kernel_rfl) (by kernel_rfl) (fun _ _ _ h => h) (by rfl) ?y24 (by assumption) ?r24
  case y24 => (intro w hSw; (try dsimp only at hSw); go_simp <;> with_reducible rfl)
  simp only [Act.put, List.setIfInBounds_toArray, List.set_cons_zero, List.set_cons_succ]
  refine take_yes (i := 3) (d := 59) (v := ?v25) rfl rfl (by kernel_rfl) (by kernel_rfl) (by kernel_rfl) (fun _ _ _ h => h) (by rfl) ?y25 (by assumption) ?r25
  case y25 => (intro w hSw; (try dsimp only at hSw); go_simp <;> with_reducible rfl)
  simp only [Act.put, List.setIfInBounds_toArray, List.set_cons_zero, List.set_cons_succ]
  refine take_yes (i := 4) (d := 60) (v := ?v26) rfl rfl (by kernel_rfl) (by kernel_rfl) (by kernel_rfl) (fun _ _ _ h => h) (by rfl) ?y26 (by assumption) ?r26
  case y26 => (intro w hSw; (try dsimp only at hSw); go_simp <;> with_reducible rfl)
  simp only [Act.put, List.setIfInBounds_toArray, List.set_cons_zero, List.set_cons_succ]
  refine take_yes (i := 5) (d := 61) (v := ?v27) rfl rfl (by kernel_rfl) (by kernel_rfl) (by kernel_rfl) (fun _ _ _ h => h) (by rfl) ?y27 (by assumption) ?r27
  case y27 => (intro w hSw; (try dsimp only at hSw); go_simp <;> with_reducible rfl)
  simp only [Act.put, List.setIfInBounds_toArray, List.set_cons_zero, List.set_cons_succ]
  refine wpAnyH_ready (rs := [6]) (by kernel_rfl) (by simp) ?_
  refine AllReadyH.cons rfl (fun K hK => ?_) AllReadyH.nil
  go_simp
  go_at_call 28; refine (KR1.out _ HZ0.out).mono ?_
  rintro e w1 ⟨rfl, hb1⟩
  have hz1 := bl_trans HZ0.out hb1
  refine hK.out _ _ (HSC.out _ hz1) (fun hHeld => ?_)
  clear hK K
  try simp only [Act.put, List.setIfInBounds_toArray, List.set_cons_zero, List.set_cons_succ]
  refine take_yes (i := 7) (d := 63) (v := ?v28) rfl rfl (by kernel_rfl) (by kernel_rfl) (by kernel_rfl) (fun _ _ _ h => h) (by rfl) ?y28 (by assumption) ?r28
  case y28 => (intro w hSw; (try dsimp only at hSw); go_simp <;> with_reducible rfl)
  simp only [Act.put, List.setIfInBounds_toArray, List.set_cons_zero, List.set_cons_succ]
  refine take_yes (i := 8) (d := 8) (v := ?v29) rfl rfl (by kernel_rfl) (by kernel_rfl) (by kernel_rfl) (fun _ _ _ h => h) (by rfl) ?y29 (by assumption) ?r29
  case y29 => (intro w hSw; (try dsimp only at hSw); go_simp <;> with_reducible rfl)
  simp only [Act.put, List.setIfInBounds_toArray, List.set_cons_zero, List.set_cons_succ]
  refine wpAnyH_done (by kernel_rfl) ?_ _
  clear e0 e1
  replace HB := Lib.hid (HB.out.keep hz1)
  replace HK := Lib.hid (HK.out.keep hz1)
  replace HL := Lib.hid (HL.out.keep hz1)
  replace HC := Lib.hid (HC.out.keep hz1)
  clear hb1 hz1 HSC HZ0 HS1 KR1
  have e0 := HC.out.c0
  have e1 := HC.out.c1
  go_wp2
  go_ret
  exact ⟨ret_bool Hn.out.symm, HB.out.below⟩
set_option maxRecDepth 100000 in
set_option maxHeartbeats 3200000 in
theorem mf_i_bipartite (h : GA w A m c x) (hl : LI w Al n cl l) (hm : m ≤ 1048576) (hn : n ≤ 1048576) (hs : str.toList = [98, 105, 112, 97, 114, 116, 105, 116, 101]) :
    Calls Try.prog 8 #[.agg #[.int .i64 sz, .slice A m c], .string str, .slice Al n cl, .slice Ao 0 co] w fun e w' => e = .returned (.bool ((decide (l.length = 1) && bpB sz m x (l.getD 0 0)))) ∧ Below w.heap.size w w' := by
  obtain ⟨W, hW⟩ : ∃ W : World, W = (w.alloc (Obj.cells #[Value.int IntKind.i64 sz, Value.slice A m c] 27)) := ⟨_, rfl⟩
  have HB : Hid (From w W) := by rw [hW]; exact From.alloc _ _
  have HK := Lib.hid (h.keep HB.out.below)
  have HL := Lib.hid (hl.keep HB.out.below)
  have HC : Hid (GC W w.heap.size sz A m c) := by rw [hW]; exact GC.new _ _ _ _ _
  have HW := Lib.hid hW
  have HN := Lib.hid hl.len
  have f0 : (str.toList == [105, 110, 116, 101, 114, 118, 97, 108]) = false := by rw [hs]; rfl
  have f1 : (str.toList == [116, 104, 114, 101, 115, 104, 111, 108, 100]) = false := by rw [hs]; rfl
  have f2 : (str.toList == [99, 104, 111, 114, 100, 97, 108]) = false := by rw [hs]; rfl
  have f3 : (str.toList == [112, 114, 111, 112, 101, 114]) = false := by rw [hs]; rfl
  have f4 : (str.toList == [99, 111, 103, 114, 97, 112, 104]) = false := by rw [hs]; rfl
  have f5 : (str.toList == [115, 112, 108, 105, 116]) = false := by rw [hs]; rfl
  have f6 : (str.toList == [98, 105, 112, 97, 114, 116, 105, 116, 101]) = true := by rw [hs]; rfl
  have f7 : (str.toList == [115, 116, 114, 111, 110, 103]) = false := by rw [hs]; rfl
  clear hs
  clear hW h hl
  by_cases h1 : n = 1
  rotate_left
  · have Hn : Hid ((decide (l.length = 1) && bpB sz m x (l.getD 0 0)) = false) := by show _ = _; rw [decide_eq_false (by rw [← HN.out]; exact h1)]; rfl
    have i4 : ((n : Int) == 1) = false := by simp; omega
    clear h1
    go_enter Try.func8, Try.ntmps8
    have e0 := HC.out.c0
    have e1 := HC.out.c1
    go_wp2
    rw [← HW.out]
    clear HW
    have HSC : Hid (∀ z : World, Below W.heap.size W z → (Below W.heap.size W z)) := fun z hz => hz
    have HZ0 : Hid (Below W.heap.size W W.drew) := (Below.refl _ _).drew
    have HS1 := Lib.hid (HSC.out _ HZ0.out)
    refine wp_region_held_drew (S := fun z => Below W.heap.size W z) (by kernel_rfl) HS1.out (fun hHeld => ?_)
    refine take_yes (i := 0) (d := 66) (v := ?v30) rfl rfl (by kernel_rfl) (by kernel_rfl) (by kernel_rfl) (fun _ _ _ h => h) (by rfl) ?y30 (by assumption) ?r30
    case y30 => (intro w hSw; (try dsimp only at hSw); go_simp <;> with_reducible rfl)
    simp only [Act.put, List.setIfInBounds_toArray, List.set_cons_zero, List.set_cons_succ]
    refine take_yes (i := 1) (d := 67) (v := ?v31) rfl rfl (by kernel_rfl) (by kernel_rfl) (by kernel_rfl) (fun _ _ _ h => h) (by rfl) ?y31 (by assumption) ?r31
    case y31 => (intro w hSw; (try dsimp only at hSw); go_simp <;> with_reducible rfl)
    simp only [Act.put, List.setIfInBounds_toArray, List.set_cons_zero, List.set_cons_succ]
    refine take_no (i := 2) (d := 68) rfl rfl (by kernel_rfl) (by kernel_rfl) (by kernel_rfl) (fun _ _ _ h => h) (by rfl) (by assumption) ?_
    simp only [Act.put, List.setIfInBounds_toArray, List.set_cons_zero, List.set_cons_succ]
    refine take_no (i := 3) (d := 69) rfl rfl (by kernel_rfl) (by kernel_rfl) (by kernel_rfl) (fun _ _ _ h => h) (by rfl) (by assumption) ?_
    simp only [Act.put, List.setIfInBounds_toArray, List.set_cons_zero, List.set_cons_succ]
    refine take_no (i := 4) (d := 70) rfl rfl (by kernel_rfl) (by kernel_rfl) (by kernel_rfl) (fun _ _ _ h => h) (by rfl) (by assumption) ?_
    simp only [Act.put, List.setIfInBounds_toArray, List.set_cons_zero, List.set_cons_succ]
    refine take_no (i := 5) (d := 71) rfl rfl (by kernel_rfl) (by kernel_rfl) (by kernel_rfl) (fun _ _ _ h => h) (by rfl) (by assumption) ?_
    simp only [Act.put, List.setIfInBounds_toArray, List.set_cons_zero, List.set_cons_succ]
    refine take_no (i := 6) (d := 72) rfl rfl (by kernel_rfl) (by kernel_rfl) (by kernel_rfl) (fun _ _ _ h => h) (by rfl) (by assumption) ?_
    simp only [Act.put, List.setIfInBounds_toArray, List.set_cons_zero, List.set_cons_succ]
    refine take_yes (i := 7) (d := 73) (v := ?v32) rfl rfl (by kernel_rfl) (by kernel_rfl) (by kernel_rfl) (fun _ _ _ h => h) (by rfl) ?y32 (by assumption) ?r32
    case y32 => (intro w hSw; (try dsimp only at hSw); go_simp <;> with_reducible rfl)
    simp only [Act.put, List.setIfInBounds_toArray, List.set_cons_zero, List.set_cons_succ]
    refine take_yes (i := 8) (d := 74) (v := ?v33) rfl rfl (by kernel_rfl) (by kernel_rfl) (by kernel_rfl) (fun _ _ _ h => h) (by rfl) ?y33 (by assumption) ?r33
    case y33 => (intro w hSw; (try dsimp only at hSw); go_simp <;> with_reducible rfl)
    simp only [Act.put, List.setIfInBounds_toArray, List.set_cons_zero, List.set_cons_succ]
    refine take_no (i := 9) (d := 75) rfl rfl (by kernel_rfl) (by kernel_rfl) (by kernel_rfl) (fun _ _ _ h => h) (by rfl) (by assumption) ?_
    simp only [Act.put, List.setIfInBounds_toArray, List.set_cons_zero, List.set_cons_succ]
    refine take_no (i := 10) (d := 76) rfl rfl (by kernel_rfl) (by kernel_rfl) (by kernel_rfl) (fun _ _ _ h => h) (by rfl) (by assumption) ?_
    simp only [Act.put, List.setIfInBounds_toArray, List.set_cons_zero, List.set_cons_succ]
    refine take_no (i := 11) (d := 77) rfl rfl (by kernel_rfl) (by kernel_rfl) (by kernel_rfl) (fun _ _ _ h => h) (by rfl) (by assumption) ?_
    simp only [Act.put, List.setIfInBounds_toArray, List.set_cons_zero, List.set_cons_succ]
    refine take_no (i := 12) (d := 78) rfl rfl (by kernel_rfl) (by kernel_rfl) (by kernel_rfl) (fun _ _ _ h => h) (by rfl) (by assumption) ?_
    simp only [Act.put, List.setIfInBounds_toArray, List.set_cons_zero, List.set_cons_succ]
    refine take_no (i := 13) (d := 79) rfl rfl (by kernel_rfl) (by kernel_rfl) (by kernel_rfl) (fun _ _ _ h => h) (by rfl) (by assumption) ?_
    simp only [Act.put, List.setIfInBounds_toArray, List.set_cons_zero, List.set_cons_succ]
    refine take_no (i := 14) (d := 80) rfl rfl (by kernel_rfl) (by kernel_rfl) (by kernel_rfl) (fun _ _ _ h => h) (by rfl) (by assumption) ?_
    simp only [Act.put, List.setIfInBounds_toArray, List.set_cons_zero, List.set_cons_succ]
    refine take_no (i := 15) (d := 81) rfl rfl (by kernel_rfl) (by kernel_rfl) (by kernel_rfl) (fun _ _ _ h => h) (by rfl) (by assumption) ?_
    simp only [Act.put, List.setIfInBounds_toArray, List.set_cons_zero, List.set_cons_succ]
    refine take_no (i := 16) (d := 82) rfl rfl (by kernel_rfl) (by kernel_rfl) (by kernel_rfl) (fun _ _ _ h => h) (by rfl) (by assumption) ?_
    simp only [Act.put, List.setIfInBounds_toArray, List.set_cons_zero, List.set_cons_succ]
    refine take_yes (i := 17) (d := 83) (v := ?v34) rfl rfl (by kernel_rfl) (by kernel_rfl) (by kernel_rfl) (fun _ _ _ h => h) (by rfl) ?y34 (by assumption) ?r34
    case y34 => (intro w hSw; (try dsimp only at hSw); go_simp <;> with_reducible rfl)
    simp only [Act.put, List.setIfInBounds_toArray, List.set_cons_zero, List.set_cons_succ]
    refine take_yes (i := 18) (d := 8) (v := ?v35) rfl rfl (by kernel_rfl) (by kernel_rfl) (by kernel_rfl) (fun _ _ _ h => h) (by rfl) ?y35 (by assumption) ?r35
    case y35 => (intro w hSw; (try dsimp only at hSw); go_simp <;> with_reducible rfl)
    simp only [Act.put, List.setIfInBounds_toArray, List.set_cons_zero, List.set_cons_succ]
    refine wpAnyH_done (by kernel_rfl) ?_ _
    clear e0 e1
    replace HB := Lib.hid (HB.out.keep HZ0.out)
    replace HK := Lib.hid (HK.out.keep HZ0.out)
    replace HL := Lib.hid (HL.out.keep HZ0.out)
    replace HC := Lib.hid (HC.out.keep HZ0.out)
    clear HSC HZ0 HS1
    have e0 := HC.out.c0
    have e1 := HC.out.c1
    go_wp2
    go_ret
    exact ⟨ret_bool Hn.out.symm, HB.out.below⟩
  subst h1
  have Hn : Hid ((decide (l.length = 1) && bpB sz m x (l.getD 0 0)) = bpB sz m x (l.getD 0 0)) := by show _ = _; rw [decide_eq_true HN.out.symm]; rfl
  obtain ⟨bl, ol, rfl⟩ := HL.out.addr (by omega)
  have p0 := HL.out.at (j := 0) (by omega)
  rw [Nat.add_zero] at p0
  obtain ⟨v, hv⟩ : ∃ t, t = l.getD 0 0 := ⟨_, rfl⟩
  rw [← hv] at p0 Hn
  rw [← hv]
  clear hv
  cases hi : indG sz m x v
  · have Hn2 : Hid (bpB sz m x v = false) := by show _ = _; unfold bpB; rw [hi]; rfl
    have Hi := Lib.hid hi
    have KT : Hid (∀ z : World, Below W.heap.size W z → Calls Try.prog 29 #[.agg #[.int .i64 sz, .slice A m c], .int .i64 v] z fun e w' => e = .returned (.bool false) ∧ Below z.heap.size z w') := fun z hz => by
      have := IsIndependent_ig sz A m c x v z (HK.out.keep hz) hm
      rw [Hi.out] at this
      exact this
    clear hi
    go_enter Try.func8, Try.ntmps8
    have e0 := HC.out.c0
    have e1 := HC.out.c1
    go_wp2
    rw [← HW.out]
    clear HW
    have HSC : Hid (∀ z : World, Below W.heap.size W z → (Below W.heap.size W z ∧ z.cell? ⟨w.heap.size, 0, none⟩ = some (.int .i64 sz) ∧ z.cell? ⟨w.heap.size, 1, none⟩ = some (.slice A m c) ∧ z.cell? ⟨bl, ol, none⟩ = some (.int .i64 v))) := fun z hz => ⟨hz, up_ hz e0, up_ hz e1, up_ hz p0⟩
    have HZ0 : Hid (Below W.heap.size W W.drew) := (Below.refl _ _).drew
    have HS1 := Lib.hid (HSC.out _ HZ0.out)
    have KR1 : Hid (∀ z : World, Below W.heap.size W z → _) := fun z hz => KT.out _ hz
    refine wp_region_held_drew (S := fun z => Below W.heap.size W z ∧ z.cell? ⟨w.heap.size, 0, none⟩ = some (.int .i64 sz) ∧ z.cell? ⟨w.heap.size, 1, none⟩ = some (.slice A m c) ∧ z.cell? ⟨bl, ol, none⟩ = some (.int .i64 v)) (by kernel_rfl) HS1.out (fun hHeld => ?_)
    refine take_yes (i := 0) (d := 66) (v := ?v36) rfl rfl (by kernel_rfl) (by kernel_rfl) (by kernel_rfl) (fun _ _ _ h => h) (by rfl) ?y36 (by assumption) ?r36
    case y36 => (intro w hSw; (try dsimp only at hSw); go_simp <;> with_reducible rfl)
    simp only [Act.put, List.setIfInBounds_toArray, List.set_cons_zero, List.set_cons_succ]
    refine take_yes (i := 1) (d := 67) (v := ?v37) rfl rfl (by kernel_rfl) (by kernel_rfl) (by kernel_rfl) (fun _ _ _ h => h) (by rfl) ?y37 (by assumption) ?r37
    case y37 => (intro w hSw; (try dsimp only at hSw); go_simp <;> with_reducible rfl)
    simp only [Act.put, List.setIfInBounds_toArray, List.set_cons_zero, List.set_cons_succ]
    refine take_yes (i := 2) (d := 68) (v := ?v38) rfl rfl (by kernel_rfl) (by kernel_rfl) (by kernel_rfl) (fun _ _ _ h => h) (by rfl) ?y38 (by assumption) ?r38
    case y38 => (intro w hSw; (try dsimp only at hSw); go_simp <;> with_reducible rfl)
    simp only [Act.put, List.setIfInBounds_toArray, List.set_cons_zero, List.set_cons_succ]
    refine take_yes (i := 3) (d := 69) (v := ?v39) rfl rfl (by kernel_rfl) (by kernel_rfl) (by kernel_rfl) (fun _ _ _ h => h) (by rfl) ?y39 (by assumption) ?r39
    case y39 => (intro w hSw; (try dsimp only at hSw); go_simp <;> with_reducible rfl)
    simp only [Act.put, List.setIfInBounds_toArray, List.set_cons_zero, List.set_cons_succ]
    refine take_yes (i := 4) (d := 70) (v := ?v40) rfl rfl (by kernel_rfl) (by kernel_rfl) (by kernel_rfl) (fun _ _ _ h => h) (by rfl) ?y40 (by assumption) ?r40
    case y40 => (intro w hSw; (try dsimp only at hSw); go_simp <;> with_reducible rfl)
    simp only [Act.put, List.setIfInBounds_toArray, List.set_cons_zero, List.set_cons_succ]
    refine take_yes (i := 5) (d := 71) (v := ?v41) rfl rfl (by kernel_rfl) (by kernel_rfl) (by kernel_rfl) (fun _ _ _ h => h) (by rfl) ?y41 (by assumption) ?r41
    case y41 => (intro w hSw; (try dsimp only at hSw); go_simp <;> with_reducible rfl)
    simp only [Act.put, List.setIfInBounds_toArray, List.set_cons_zero, List.set_cons_succ]
    refine wpAnyH_ready (rs := [6]) (by kernel_rfl) (by simp) ?_
    refine AllReadyH.cons rfl (fun K hK => ?_) AllReadyH.nil
    go_simp
    go_at_call 29; refine (KR1.out _ HZ0.out).mono ?_
    rintro e w1 ⟨rfl, hb1⟩
    have hz1 := bl_trans HZ0.out hb1
    refine hK.out _ _ (HSC.out _ hz1) (fun hHeld => ?_)
    clear hK K
    try simp only [Act.put, List.setIfInBounds_toArray, List.set_cons_zero, List.set_cons_succ]
    refine take_yes (i := 7) (d := 73) (v := ?v42) rfl rfl (by kernel_rfl) (by kernel_rfl) (by kernel_rfl) (fun _ _ _ h => h) (by rfl) ?y42 (by assumption) ?r42
    case y42 => (intro w hSw; (try dsimp only at hSw); go_simp <;> with_reducible rfl)
    simp only [Act.put, List.setIfInBounds_toArray, List.set_cons_zero, List.set_cons_succ]
    refine take_yes (i := 8) (d := 74) (v := ?v43) rfl rfl (by kernel_rfl) (by kernel_rfl) (by kernel_rfl) (fun _ _ _ h => h) (by rfl) ?y43 (by assumption) ?r43
    case y43 => (intro w hSw; (try dsimp only at hSw); go_simp <;> with_reducible rfl)
    simp only [Act.put, List.setIfInBounds_toArray, List.set_cons_zero, List.set_cons_succ]
    refine take_no (i := 9) (d := 75) rfl rfl (by kernel_rfl) (by kernel_rfl) (by kernel_rfl) (fun _ _ _ h => h) (by rfl) (by assumption) ?_
    simp only [Act.put, List.setIfInBounds_toArray, List.set_cons_zero, List.set_cons_succ]
    refine take_no (i := 10) (d := 76) rfl rfl (by kernel_rfl) (by kernel_rfl) (by kernel_rfl) (fun _ _ _ h => h) (by rfl) (by assumption) ?_
    simp only [Act.put, List.setIfInBounds_toArray, List.set_cons_zero, List.set_cons_succ]
    refine take_no (i := 11) (d := 77) rfl rfl (by kernel_rfl) (by kernel_rfl) (by kernel_rfl) (fun _ _ _ h => h) (by rfl) (by assumption) ?_
    simp only [Act.put, List.setIfInBounds_toArray, List.set_cons_zero, List.set_cons_succ]
    refine take_no (i := 12) (d := 78) rfl rfl (by kernel_rfl) (by kernel_rfl) (by kernel_rfl) (fun _ _ _ h => h) (by rfl) (by assumption) ?_
    simp only [Act.put, List.setIfInBounds_toArray, List.set_cons_zero, List.set_cons_succ]
    refine take_no (i := 13) (d := 79) rfl rfl (by kernel_rfl) (by kernel_rfl) (by kernel_rfl) (fun _ _ _ h => h) (by rfl) (by assumption) ?_
    simp only [Act.put, List.setIfInBounds_toArray, List.set_cons_zero, List.set_cons_succ]
    refine take_no (i := 14) (d := 80) rfl rfl (by kernel_rfl) (by kernel_rfl) (by kernel_rfl) (fun _ _ _ h => h) (by rfl) (by assumption) ?_
    simp only [Act.put, List.setIfInBounds_toArray, List.set_cons_zero, List.set_cons_succ]
    refine take_no (i := 15) (d := 81) rfl rfl (by kernel_rfl) (by kernel_rfl) (by kernel_rfl) (fun _ _ _ h => h) (by rfl) (by assumption) ?_
    simp only [Act.put, List.setIfInBounds_toArray, List.set_cons_zero, List.set_cons_succ]
    refine take_no (i := 16) (d := 82) rfl rfl (by kernel_rfl) (by kernel_rfl) (by kernel_rfl) (fun _ _ _ h => h) (by rfl) (by assumption) ?_
    simp only [Act.put, List.setIfInBounds_toArray, List.set_cons_zero, List.set_cons_succ]
    refine take_yes (i := 17) (d := 83) (v := ?v44) rfl rfl (by kernel_rfl) (by kernel_rfl) (by kernel_rfl) (fun _ _ _ h => h) (by rfl) ?y44 (by assumption) ?r44
    case y44 => (intro w hSw; (try dsimp only at hSw); go_simp <;> with_reducible rfl)
    simp only [Act.put, List.setIfInBounds_toArray, List.set_cons_zero, List.set_cons_succ]
    refine take_yes (i := 18) (d := 8) (v := ?v45) rfl rfl (by kernel_rfl) (by kernel_rfl) (by kernel_rfl) (fun _ _ _ h => h) (by rfl) ?y45 (by assumption) ?r45
    case y45 => (intro w hSw; (try dsimp only at hSw); go_simp <;> with_reducible rfl)
    simp only [Act.put, List.setIfInBounds_toArray, List.set_cons_zero, List.set_cons_succ]
    refine wpAnyH_done (by kernel_rfl) ?_ _
    clear e0 e1
    replace HB := Lib.hid (HB.out.keep hz1)
    replace HK := Lib.hid (HK.out.keep hz1)
    replace HL := Lib.hid (HL.out.keep hz1)
    replace HC := Lib.hid (HC.out.keep hz1)
    clear hb1 hz1 HSC HZ0 HS1 KR1
    have e0 := HC.out.c0
    have e1 := HC.out.c1
    go_wp2
    go_ret
    exact ⟨ret_bool (Hn.out.trans Hn2.out).symm, HB.out.below⟩
  have Hi := Lib.hid hi
  have hset : setB sz m x v = true := by
    unfold indG at hi
    cases hq : setB sz m x v
    · rw [hq] at hi; cases hi
    · rfl
  obtain ⟨ho, es, s, rfl, hs⟩ := setB_parts hset
  subst es
  obtain ⟨r, _, vg, _⟩ := okB_ok' ho
  have hn7 := vg.n7
  have h128 := two_pow_le hn7
  have E := i64_andNot_nat (2 ^ m - 1) s (by omega) (by omega)
  rw [full_and hs] at E
  obtain ⟨t, ht⟩ : ∃ t, t = (2 ^ m - 1) ^^^ s := ⟨_, rfl⟩
  obtain ⟨F, hF⟩ : ∃ F, F = 2 ^ m - 1 := ⟨_, rfl⟩
  have KA : Hid (∀ z : World, Calls Try.prog 30 #[.agg #[.int .i64 m, .slice A m c]] z fun e w' => e = .returned (.int .i64 (F : Nat)) ∧ Below z.heap.size z w') := by rw [hF]; exact fun z => all_any m A c z hn7
  rw [← ht, ← hF] at E
  have Hn2 : Hid (bpB (m : Int) m x (s : Int) = indG (m : Int) m x (t : Int)) := by show _ = _; unfold bpB; rw [hi, ht, Int.toNat_natCast]; rfl
  have KT : Hid (∀ z : World, Below W.heap.size W z → Calls Try.prog 29 #[.agg #[.int .i64 m, .slice A m c], .int .i64 (s : Int)] z fun e w' => e = .returned (.bool true) ∧ Below z.heap.size z w') := fun z hz => by
    have := IsIndependent_ig (m : Int) A m c x (s : Int) z (HK.out.keep hz) hm
    rw [Hi.out] at this
    exact this
  have KU : Hid (∀ z : World, Below W.heap.size W z → Calls Try.prog 29 #[.agg #[.int .i64 m, .slice A m c], .int .i64 (t : Int)] z fun e w' => e = .returned (.bool (indG (m : Int) m x (t : Int))) ∧ Below z.heap.size z w') := fun z hz => by
    have := IsIndependent_ig (m : Int) A m c x (t : Int) z (HK.out.keep hz) hm
    exact this
  clear hi hset ho vg ht hF hs
  go_enter Try.func8, Try.ntmps8
  have e0 := HC.out.c0
  have e1 := HC.out.c1
  go_wp2
  rw [← HW.out]
  clear HW
  have HSC : Hid (∀ z : World, Below W.heap.size W z → (Below W.heap.size W z ∧ z.cell? ⟨w.heap.size, 0, none⟩ = some (.int .i64 m) ∧ z.cell? ⟨w.heap.size, 1, none⟩ = some (.slice A m c) ∧ z.cell? ⟨bl, ol, none⟩ = some (.int .i64 (s : Int)))) := fun z hz => ⟨hz, up_ hz e0, up_ hz e1, up_ hz p0⟩
  have HZ0 : Hid (Below W.heap.size W W.drew) := (Below.refl _ _).drew
  have HS1 := Lib.hid (HSC.out _ HZ0.out)
  have KR1 : Hid (∀ z : World, Below W.heap.size W z → _) := fun z hz => KT.out _ hz
  have KR2 : Hid (∀ z : World, Below W.heap.size W z → _) := fun z hz => KA.out z
  have KR3 : Hid (∀ z : World, Below W.heap.size W z → _) := fun z hz => KU.out _ hz
  refine wp_region_held_drew (S := fun z => Below W.heap.size W z ∧ z.cell? ⟨w.heap.size, 0, none⟩ = some (.int .i64 m) ∧ z.cell? ⟨w.heap.size, 1, none⟩ = some (.slice A m c) ∧ z.cell? ⟨bl, ol, none⟩ = some (.int .i64 (s : Int))) (by kernel_rfl) HS1.out (fun hHeld => ?_)
  refine take_yes (i := 0) (d := 66) (v := ?v46) rfl rfl (by kernel_rfl) (by kernel_rfl) (by kernel_rfl) (fun _ _ _ h => h) (by rfl) ?y46 (by assumption) ?r46
  case y46 => (intro w hSw; (try dsimp only at hSw); go_simp <;> with_reducible rfl)
  simp only [Act.put, List.setIfInBounds_toArray, List.set_cons_zero, List.set_cons_succ]
  refine take_yes (i := 1) (d := 67) (v := ?v47) rfl rfl (by kernel_rfl) (by kernel_rfl) (by kernel_rfl) (fun _ _ _ h => h) (by rfl) ?y47 (by assumption) ?r47
  case y47 => (intro w hSw; (try dsimp only at hSw); go_simp <;> with_reducible rfl)
  simp only [Act.put, List.setIfInBounds_toArray, List.set_cons_zero, List.set_cons_succ]
  refine take_yes (i := 2) (d := 68) (v := ?v48) rfl rfl (by kernel_rfl) (by kernel_rfl) (by kernel_rfl) (fun _ _ _ h => h) (by rfl) ?y48 (by assumption) ?r48
  case y48 => (intro w hSw; (try dsimp only at hSw); go_simp <;> with_reducible rfl)
  simp only [Act.put, List.setIfInBounds_toArray, List.set_cons_zero, List.set_cons_succ]
  refine take_yes (i := 3) (d := 69) (v := ?v49) rfl rfl (by kernel_rfl) (by kernel_rfl) (by kernel_rfl) (fun _ _ _ h => h) (by rfl) ?y49 (by assumption) ?r49
  case y49 => (intro w hSw; (try dsimp only at hSw); go_simp <;> with_reducible rfl)
  simp only [Act.put, List.setIfInBounds_toArray, List.set_cons_zero, List.set_cons_succ]
  refine take_yes (i := 4) (d := 70) (v := ?v50) rfl rfl (by kernel_rfl) (by kernel_rfl) (by kernel_rfl) (fun _ _ _ h => h) (by rfl) ?y50 (by assumption) ?r50
  case y50 => (intro w hSw; (try dsimp only at hSw); go_simp <;> with_reducible rfl)
  simp only [Act.put, List.setIfInBounds_toArray, List.set_cons_zero, List.set_cons_succ]
  refine take_yes (i := 5) (d := 71) (v := ?v51) rfl rfl (by kernel_rfl) (by kernel_rfl) (by kernel_rfl) (fun _ _ _ h => h) (by rfl) ?y51 (by assumption) ?r51
  case y51 => (intro w hSw; (try dsimp only at hSw); go_simp <;> with_reducible rfl)
  simp only [Act.put, List.setIfInBounds_toArray, List.set_cons_zero, List.set_cons_succ]
  refine wpAnyH_ready (rs := [6]) (by kernel_rfl) (by simp) ?_
  refine AllReadyH.cons rfl (fun K hK => ?_) AllReadyH.nil
  go_simp
  go_at_call 29; refine (KR1.out _ HZ0.out).mono ?_
  rintro e w2 ⟨rfl, hb2⟩
  have hz2 := bl_trans HZ0.out hb2
  refine hK.out _ _ (HSC.out _ hz2) (fun hHeld => ?_)
  clear hK K
  try simp only [Act.put, List.setIfInBounds_toArray, List.set_cons_zero, List.set_cons_succ]
  refine take_yes (i := 7) (d := 73) (v := ?v52) rfl rfl (by kernel_rfl) (by kernel_rfl) (by kernel_rfl) (fun _ _ _ h => h) (by rfl) ?y52 (by assumption) ?r52
  case y52 => (intro w hSw; (try dsimp only at hSw); go_simp <;> with_reducible rfl)
  simp only [Act.put, List.setIfInBounds_toArray, List.set_cons_zero, List.set_cons_succ]
  refine take_yes (i := 8) (d := 74) (v := ?v53) rfl rfl (by kernel_rfl) (by kernel_rfl) (by kernel_rfl) (fun _ _ _ h => h) (by rfl) ?y53 (by assumption) ?r53
  case y53 => (intro w hSw; (try dsimp only at hSw); go_simp <;> with_reducible rfl)
  simp only [Act.put, List.setIfInBounds_toArray, List.set_cons_zero, List.set_cons_succ]
  refine take_yes (i := 9) (d := 75) (v := ?v54) rfl rfl (by kernel_rfl) (by kernel_rfl) (by kernel_rfl) (fun _ _ _ h => h) (by rfl) ?y54 (by assumption) ?r54
  case y54 => (intro w hSw; (try dsimp only at hSw); go_simp <;> with_reducible rfl)
  simp only [Act.put, List.setIfInBounds_toArray, List.set_cons_zero, List.set_cons_succ]
  refine take_yes (i := 10) (d := 76) (v := ?v55) rfl rfl (by kernel_rfl) (by kernel_rfl) (by kernel_rfl) (fun _ _ _ h => h) (by rfl) ?y55 (by assumption) ?r55
  case y55 => (intro w hSw; (try dsimp only at hSw); go_simp <;> with_reducible rfl)
  simp only [Act.put, List.setIfInBounds_toArray, List.set_cons_zero, List.set_cons_succ]
  refine take_yes (i := 12) (d := 78) (v := ?v56) rfl rfl (by kernel_rfl) (by kernel_rfl) (by kernel_rfl) (fun _ _ _ h => h) (by rfl) ?y56 (by assumption) ?r56
  case y56 => (intro w hSw; (try dsimp only at hSw); go_simp <;> with_reducible rfl)
  simp only [Act.put, List.setIfInBounds_toArray, List.set_cons_zero, List.set_cons_succ]
  refine take_yes (i := 13) (d := 79) (v := ?v57) rfl rfl (by kernel_rfl) (by kernel_rfl) (by kernel_rfl) (fun _ _ _ h => h) (by rfl) ?y57 (by assumption) ?r57
  case y57 => (intro w hSw; (try dsimp only at hSw); go_simp <;> with_reducible rfl)
  simp only [Act.put, List.setIfInBounds_toArray, List.set_cons_zero, List.set_cons_succ]
  refine take_yes (i := 14) (d := 80) (v := ?v58) rfl rfl (by kernel_rfl) (by kernel_rfl) (by kernel_rfl) (fun _ _ _ h => h) (by rfl) ?y58 (by assumption) ?r58
  case y58 => (intro w hSw; (try dsimp only at hSw); go_simp <;> with_reducible rfl)
  simp only [Act.put, List.setIfInBounds_toArray, List.set_cons_zero, List.set_cons_succ]
  refine wpAnyH_ready (rs := [11]) (by kernel_rfl) (by simp) ?_
  refine AllReadyH.cons rfl (fun K hK => ?_) AllReadyH.nil
  go_simp
  go_at_call 30; refine (KR2.out _ hz2).mono ?_
  rintro e w3 ⟨rfl, hb3⟩
  have hz3 := bl_trans hz2 hb3
  refine hK.out _ _ (HSC.out _ hz3) (fun hHeld => ?_)
  clear hK K
  try simp only [Act.put, List.setIfInBounds_toArray, List.set_cons_zero, List.set_cons_succ]
  refine take_yes (i := 15) (d := 81) (v := ?v59) rfl rfl (by kernel_rfl) (by kernel_rfl) (by kernel_rfl) (fun _ _ _ h => h) (by rfl) ?y59 (by assumption) ?r59
  case y59 => (intro w hSw; (try dsimp only at hSw); go_simp <;> with_reducible rfl)
  simp only [Act.put, List.setIfInBounds_toArray, List.set_cons_zero, List.set_cons_succ]
  refine wpAnyH_ready (rs := [16]) (by kernel_rfl) (by simp) ?_
  refine AllReadyH.cons rfl (fun K hK => ?_) AllReadyH.nil
  go_simp
  go_at_call 29; refine (KR3.out _ hz3).mono ?_
  rintro e w4 ⟨rfl, hb4⟩
  have hz4 := bl_trans hz3 hb4
  refine hK.out _ _ (HSC.out _ hz4) (fun hHeld => ?_)
  clear hK K
  try simp only [Act.put, List.setIfInBounds_toArray, List.set_cons_zero, List.set_cons_succ]
  refine take_yes (i := 17) (d := 83) (v := ?v60) rfl rfl (by kernel_rfl) (by kernel_rfl) (by kernel_rfl) (fun _ _ _ h => h) (by rfl) ?y60 (by assumption) ?r60
  case y60 => (intro w hSw; (try dsimp only at hSw); go_simp <;> with_reducible rfl)
  simp only [Act.put, List.setIfInBounds_toArray, List.set_cons_zero, List.set_cons_succ]
  refine take_yes (i := 18) (d := 8) (v := ?v61) rfl rfl (by kernel_rfl) (by kernel_rfl) (by kernel_rfl) (fun _ _ _ h => h) (by rfl) ?y61 (by assumption) ?r61
  case y61 => (intro w hSw; (try dsimp only at hSw); go_simp <;> with_reducible rfl)
  simp only [Act.put, List.setIfInBounds_toArray, List.set_cons_zero, List.set_cons_succ]
  refine wpAnyH_done (by kernel_rfl) ?_ _
  clear e0 e1
  replace HB := Lib.hid (HB.out.keep hz4)
  replace HK := Lib.hid (HK.out.keep hz4)
  replace HL := Lib.hid (HL.out.keep hz4)
  replace HC := Lib.hid (HC.out.keep hz4)
  clear hb2 hz2 hb3 hz3 hb4 hz4 HSC HZ0 HS1 KR1 KR2 KR3
  have e0 := HC.out.c0
  have e1 := HC.out.c1
  go_wp2
  go_ret
  exact ⟨ret_bool (Hn.out.trans Hn2.out).symm, HB.out.below⟩
theorem IsModelFor_i (h : GA w A m c x) (hl : LI w Al n cl l) (ho : LI w Ao k co ol) (hm : m ≤ 1048576) (hn : n ≤ 1048576) (hk : k ≤ 1048576) :
    Calls Try.prog 8 #[.agg #[.int .i64 sz, .slice A m c], .string str, .slice Al n cl, .slice Ao k co] w fun e w' => e = .returned (.bool (mfB sz m x str.toList l ol)) ∧ Below w.heap.size w w' := by
  unfold mfB
  by_cases hs0 : str.toList = [105, 110, 116, 101, 114, 118, 97, 108]
  · rw [if_pos hs0]
    exact mf_i_interval sz A m c x str Al n cl l Ao k co ol w h hl hm hn ho hk hs0
  by_cases hs1 : str.toList = [116, 104, 114, 101, 115, 104, 111, 108, 100]
  · rw [if_neg hs0, if_pos hs1]
    exact mf_i_threshold sz A m c x str Al n cl l Ao k co ol w h hl hm hn ho hk hs1
  by_cases hz : k = 0
  rotate_left
  · rw [if_neg hs0, if_neg hs1, if_pos (by have := ho.len; omega)]
    exact mf_i_more sz A m c x str Al n cl l Ao k co w h hl hm hn (by omega) hs0 hs1
  have hz2 : ¬ ol.length ≠ 0 := by have := ho.len; omega
  subst hz
  by_cases hs2 : str.toList = [99, 104, 111, 114, 100, 97, 108]
  · rw [if_neg hs0, if_neg hs1, if_neg hz2, if_pos hs2]
    exact mf_i_chordal sz A m c x str Al n cl l Ao co w h hl hm hn hs2
  by_cases hs3 : str.toList = [112, 114, 111, 112, 101, 114]
  · rw [if_neg hs0, if_neg hs1, if_neg hz2, if_neg hs2, if_pos hs3]
    exact mf_i_proper sz A m c x str Al n cl l Ao co w h hl hm hn hs3
  by_cases hs4 : str.toList = [99, 111, 103, 114, 97, 112, 104]
  · rw [if_neg hs0, if_neg hs1, if_neg hz2, if_neg hs2, if_neg hs3, if_pos hs4]
    exact mf_i_cograph sz A m c x str Al n cl l Ao co w h hl hm hn hs4
  by_cases hs5 : str.toList = [115, 112, 108, 105, 116]
  · rw [if_neg hs0, if_neg hs1, if_neg hz2, if_neg hs2, if_neg hs3, if_neg hs4, if_pos hs5]
    exact mf_i_split sz A m c x str Al n cl l Ao co w h hl hm hn hs5
  by_cases hs6 : str.toList = [98, 105, 112, 97, 114, 116, 105, 116, 101]
  · rw [if_neg hs0, if_neg hs1, if_neg hz2, if_neg hs2, if_neg hs3, if_neg hs4, if_neg hs5, if_pos hs6]
    exact mf_i_bipartite sz A m c x str Al n cl l Ao co w h hl hm hn hs6
  by_cases hs7 : str.toList = [115, 116, 114, 111, 110, 103]
  · rw [if_neg hs0, if_neg hs1, if_neg hz2, if_neg hs2, if_neg hs3, if_neg hs4, if_neg hs5, if_neg hs6, if_pos hs7]
    exact mf_i_strong sz A m c x str Al n cl l Ao co w h hl hm hn hs7
  rw [if_neg hs0, if_neg hs1, if_neg hz2, if_neg hs2, if_neg hs3, if_neg hs4, if_neg hs5, if_neg hs6, if_neg hs7]
  exact mf_i_none sz A m c x str Al n cl l Ao co w h hl hm hn hs0 hs1 hs2 hs3 hs4 hs5 hs6 hs7
end
end Go.Proofs.Ytmkahbephidmbaa
