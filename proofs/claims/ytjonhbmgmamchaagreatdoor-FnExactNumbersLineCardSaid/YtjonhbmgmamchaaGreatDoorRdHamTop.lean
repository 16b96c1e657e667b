/-
  Contracts: the program's ways and cycles through all vertices.
-/
import Derived.Test.YtjonhbmgmamchaaGreatDoorRdGC
import Derived.Test.YtjonhbmgmamchaaGreatDoorRdHamPath
import Derived.Test.YtjonhbmgmamchaaGreatDoorRdHamCycle
import Derived.Laws.EntriesVeiled
namespace Go.Proofs.YtjonhbmgmamchaaGreatDoor
open Go.RowKit

set_option maxRecDepth 100000 in
set_option maxHeartbeats 1600000 in
theorem hamP.firstList_i (sz : Int) (A : Option Addr) (m c : Nat) (x : Nat → Int) (hg : Nat) (w : World) (B : Nat) (h : Rd w B A m c x) (hB : B ≤ w.heap.size) (hm : m ≤ 1048576) (o0 : w.cell? ⟨hg, 0, none⟩ = some (.int .i64 sz)) (o1 : w.cell? ⟨hg, 1, none⟩ = some (.slice A m c)) :
    Calls Tryz.prog 74 #[.agg #[.int .i64 sz, .slice A m c], .int .i64 sz, .func (.func 75) #[] #[.pointer (some ⟨hg, 0, none⟩)], .func (.func 77) #[] #[]] w (hamP w (hamR sz m x false)) := by
  obtain ⟨W4, hW4⟩ : ∃ W : World, W = ((((w.alloc (Obj.cells #[Value.int IntKind.i64 sz, Value.slice A m c] 27)).alloc (Obj.cells #[Value.int IntKind.i64 sz] 3)).alloc (Obj.cells #[.func (.func 75) #[] #[.pointer (some ⟨hg, 0, none⟩)]] 66)).alloc (Obj.cells #[.func (.func 77) #[] #[]] 66)) := ⟨_, rfl⟩
  have HB4 : Hid (Below w.heap.size w W4) := by rw [hW4]; exact (((((Below.refl _ _).alloc (Nat.le_refl _) _).alloc (by simp) _).alloc (by simp; omega) _).alloc (by simp; omega) _)
  have hz4 : w.heap.size + 1 + 1 + 1 + 1 = W4.heap.size := by rw [hW4]; simp
  have a0 : W4.cell? ⟨w.heap.size, 0, none⟩ = some (.int .i64 sz) := by rw [hW4]; simp [go_sem]
  have a1 : W4.cell? ⟨w.heap.size, 1, none⟩ = some (.slice A m c) := by rw [hW4]; simp [go_sem]
  have a2 : W4.cell? ⟨w.heap.size + 1, 0, none⟩ = some (.int .i64 sz) := by rw [hW4]; simp [go_sem]
  have a3 : W4.cell? ⟨w.heap.size + 2, 0, none⟩ = some (.func (.func 75) #[] #[.pointer (some ⟨hg, 0, none⟩)]) := by rw [hW4]; simp [go_sem]
  have a4 : W4.cell? ⟨w.heap.size + 3, 0, none⟩ = some (.func (.func 77) #[] #[]) := by rw [hW4]; simp [go_sem]
  obtain ⟨W, hW⟩ : ∃ W : World, W = W4.alloc (Obj.cells #[.func (.func 106) #[] #[.pointer (some ⟨w.heap.size + 1, 0, none⟩), .pointer (some ⟨w.heap.size + 1 + 1 + 1, 0, none⟩), .pointer (some ⟨w.heap.size, 0, none⟩), .pointer (some ⟨w.heap.size + 1 + 1, 0, none⟩), .pointer (some ⟨W4.heap.size, 0, none⟩)]] 42) := ⟨_, rfl⟩
  have hbW : Below W4.heap.size W4 W := by rw [hW]; exact (Below.refl _ _).alloc (Nat.le_refl _) _
  have HB : Hid (Below w.heap.size w W) := HB4.out.trans (hbW.mono (by omega))
  have e0 := up hbW a0 (by omega)
  have e1 := up hbW a1 (by omega)
  have e4 : W.cell? ⟨W4.heap.size, 0, none⟩ = some (.func (.func 106) #[] #[.pointer (some ⟨w.heap.size + 1, 0, none⟩), .pointer (some ⟨w.heap.size + 1 + 1 + 1, 0, none⟩), .pointer (some ⟨w.heap.size, 0, none⟩), .pointer (some ⟨w.heap.size + 1 + 1, 0, none⟩), .pointer (some ⟨W4.heap.size, 0, none⟩)]) := by rw [hW]; simp [go_sem]
  have hzz : W4.heap.size = w.heap.size + 4 := by omega
  have HE : Hid (sz = (m : Int) → hamP.Env w.heap.size hg B m c A x W) := by
    intro es
    have k : ∀ {b o : Nat} {v : Value}, w.cell? ⟨b, o, none⟩ = some v → W.cell? ⟨b, o, none⟩ = some v := fun e => up HB.out e (World.block_lt_of_cell? _ _ e)
    have b2 := up hbW a2 (by omega)
    have e4' := e4
    rw [hzz] at e4'
    have e0' := e0
    rw [es] at e0' b2 o0
    exact ⟨b2, e0', e1, up hbW a3 (by omega), up hbW a4 (by omega), e4', k o0, k o1, h.keep (HB.out.mono hB) (Nat.le_refl _), Nat.le_trans hB HB.out.size⟩
  have hsz : W4.heap.size < W.heap.size := by rw [hW]; simp
  have HK := Lib.hid (h.keep (HB.out.mono hB) (Nat.le_refl _))
  have HW := Lib.hid hW
  have HW4 := Lib.hid hW4
  have HZ4 := Lib.hid hz4
  have HZZ := Lib.hid hzz
  have c0 : w.heap.size ≤ W.heap.size := by omega
  have hBW : B ≤ W.heap.size := by omega
  have c1 : w.heap.size < W4.heap.size := by omega
  clear hW hW4 h o0 o1 a2 a3 a4 hz4 hbW hzz
  go_enter Tryz.func74, Tryz.ntmps74
  go_upto_region 2 with (fail)
  rw [← HW4.out, HZ4.out]
  clear HW4
  go_wp2_with fail
  rw [← HW.out]
  clear HW
  refine (IsGraph_any sz A m c x W B HK.out hBW hm).mono ?_
  rintro e w1 ⟨rfl, hb1⟩
  have z1 := hb1.size
  have f4 := up hb1 e4 hsz
  have HB1 : Hid (Below w.heap.size w w1) := HB.out.trans (hb1.mono c0)
  have HE1 : Hid (sz = (m : Int) → hamP.Env w.heap.size hg B m c A x w1) := fun es => (HE.out es).keep hb1
  clear hb1 e0 e1 e4 HK HE HB a0 a1
  cases ho : okB sz m x
  · have hn : Hid (hamR sz m x false = none) := hamR_bad ho
    clear ho f4
    go_wp2
    go_ret2
    rw [hn.out]
    unfold hamP
    exact ⟨none, 0, rfl, Own.nil _ _ _ _ _ _, HB1.out⟩
  · obtain ⟨_, es, vg, _⟩ : OkG sz m x := by
      refine Classical.byContradiction fun h2 => ?_
      rw [okB_no h2] at ho; cases ho
    subst es
    have hn7 := vg.n7
    have hR : Hid (hamR (m : Int) m x false = sea (rw_ x) m false m []) := hamR_ok ho
    have KS := Lib.hid (hamP.search_i m c A x w.heap.size hg B ho m [] none 0 w1 (by simp) (Way.nil _ _ _) (HE1.out rfl) (Rd.nil _ _ _ _ _) (fun _ => rfl))
    rw [List.length_nil, ← HZZ.out] at KS
    clear ho vg HE1
    go_wp2_with fail
    refine KS.out.mono ?_
    intro e w2 hp
    cases hs : sea (rw_ x) m false m [] with
    | none =>
      rw [hs] at hp
      obtain ⟨rfl, hb2⟩ := hp
      have hn : Hid (hamR (m : Int) m x false = none) := hR.out.trans hs
      have HB2 : Hid (Below w.heap.size w w2) := HB1.out.trans (hb2.mono HB1.out.size)
      clear hs hb2 KS f4
      go_wp2
      go_ret2
      rw [hn.out]
      unfold hamP
      exact ⟨none, 0, rfl, Own.nil _ _ _ _ _ _, HB2.out⟩
    | some out =>
      rw [hs] at hp
      obtain ⟨g, c', rfl, hO, hb2⟩ := hp
      have hn : Hid (hamR (m : Int) m x false = some out) := hR.out.trans hs
      have HB2 : Hid (Below w.heap.size w w2) := HB1.out.trans (hb2.mono HB1.out.size)
      have HO : Hid (Own w2 w.heap.size w2.heap.size 3 1 (some ⟨g, 0, none⟩) out.length c' (ni out)) := hO.mono HB1.out.size (Nat.le_refl _)
      clear hs hb2 hO KS f4
      go_wp2
      go_ret2
      rw [hn.out]
      unfold hamP
      exact ⟨some ⟨g, 0, none⟩, c', rfl, HO.out, HB2.out⟩

set_option maxRecDepth 100000 in
set_option maxHeartbeats 1600000 in
theorem hamC.firstList_i (sz : Int) (A : Option Addr) (m c : Nat) (x : Nat → Int) (hg : Nat) (w : World) (B : Nat) (h : Rd w B A m c x) (hB : B ≤ w.heap.size) (hm : m ≤ 1048576) (o0 : w.cell? ⟨hg, 0, none⟩ = some (.int .i64 sz)) (o1 : w.cell? ⟨hg, 1, none⟩ = some (.slice A m c)) :
    Calls Tryz.prog 74 #[.agg #[.int .i64 sz, .slice A m c], .int .i64 sz, .func (.func 78) #[] #[.pointer (some ⟨hg, 0, none⟩)], .func (.func 79) #[] #[.pointer (some ⟨hg, 0, none⟩)]] w (hamP w (hamR sz m x true)) := by
  obtain ⟨W4, hW4⟩ : ∃ W : World, W = ((((w.alloc (Obj.cells #[Value.int IntKind.i64 sz, Value.slice A m c] 27)).alloc (Obj.cells #[Value.int IntKind.i64 sz] 3)).alloc (Obj.cells #[.func (.func 78) #[] #[.pointer (some ⟨hg, 0, none⟩)]] 66)).alloc (Obj.cells #[.func (.func 79) #[] #[.pointer (some ⟨hg, 0, none⟩)]] 66)) := ⟨_, rfl⟩
  have HB4 : Hid (Below w.heap.size w W4) := by rw [hW4]; exact (((((Below.refl _ _).alloc (Nat.le_refl _) _).alloc (by simp) _).alloc (by simp; omega) _).alloc (by simp; omega) _)
  have hz4 : w.heap.size + 1 + 1 + 1 + 1 = W4.heap.size := by rw [hW4]; simp
  have a0 : W4.cell? ⟨w.heap.size, 0, none⟩ = some (.int .i64 sz) := by rw [hW4]; simp [go_sem]
  have a1 : W4.cell? ⟨w.heap.size, 1, none⟩ = some (.slice A m c) := by rw [hW4]; simp [go_sem]
  have a2 : W4.cell? ⟨w.heap.size + 1, 0, none⟩ = some (.int .i64 sz) := by rw [hW4]; simp [go_sem]
  have a3 : W4.cell? ⟨w.heap.size + 2, 0, none⟩ = some (.func (.func 78) #[] #[.pointer (some ⟨hg, 0, none⟩)]) := by rw [hW4]; simp [go_sem]
  have a4 : W4.cell? ⟨w.heap.size + 3, 0, none⟩ = some (.func (.func 79) #[] #[.pointer (some ⟨hg, 0, none⟩)]) := by rw [hW4]; simp [go_sem]
  obtain ⟨W, hW⟩ : ∃ W : World, W = W4.alloc (Obj.cells #[.func (.func 106) #[] #[.pointer (some ⟨w.heap.size + 1, 0, none⟩), .pointer (some ⟨w.heap.size + 1 + 1 + 1, 0, none⟩), .pointer (some ⟨w.heap.size, 0, none⟩), .pointer (some ⟨w.heap.size + 1 + 1, 0, none⟩), .pointer (some ⟨W4.heap.size, 0, none⟩)]] 42) := ⟨_, rfl⟩
  have hbW : Below W4.heap.size W4 W := by rw [hW]; exact (Below.refl _ _).alloc (Nat.le_refl _) _
  have HB : Hid (Below w.heap.size w W) := HB4.out.trans (hbW.mono (by omega))
  have e0 := up hbW a0 (by omega)
  have e1 := up hbW a1 (by omega)
  have e4 : W.cell? ⟨W4.heap.size, 0, none⟩ = some (.func (.func 106) #[] #[.pointer (some ⟨w.heap.size + 1, 0, none⟩), .pointer (some ⟨w.heap.size + 1 + 1 + 1, 0, none⟩), .pointer (some ⟨w.heap.size, 0, none⟩), .pointer (some ⟨w.heap.size + 1 + 1, 0, none⟩), .pointer (some ⟨W4.heap.size, 0, none⟩)]) := by rw [hW]; simp [go_sem]
  have hzz : W4.heap.size = w.heap.size + 4 := by omega
  have HE : Hid (sz = (m : Int) → hamC.Env w.heap.size hg B m c A x W) := by
    intro es
    have k : ∀ {b o : Nat} {v : Value}, w.cell? ⟨b, o, none⟩ = some v → W.cell? ⟨b, o, none⟩ = some v := fun e => up HB.out e (World.block_lt_of_cell? _ _ e)
    have b2 := up hbW a2 (by omega)
    have e4' := e4
    rw [hzz] at e4'
    have e0' := e0
    rw [es] at e0' b2 o0
    exact ⟨b2, e0', e1, up hbW a3 (by omega), up hbW a4 (by omega), e4', k o0, k o1, h.keep (HB.out.mono hB) (Nat.le_refl _), Nat.le_trans hB HB.out.size⟩
  have hsz : W4.heap.size < W.heap.size := by rw [hW]; simp
  have HK := Lib.hid (h.keep (HB.out.mono hB) (Nat.le_refl _))
  have HW := Lib.hid hW
  have HW4 := Lib.hid hW4
  have HZ4 := Lib.hid hz4
  have HZZ := Lib.hid hzz
  have c0 : w.heap.size ≤ W.heap.size := by omega
  have hBW : B ≤ W.heap.size := by omega
  have c1 : w.heap.size < W4.heap.size := by omega
  clear hW hW4 h o0 o1 a2 a3 a4 hz4 hbW hzz
  go_enter Tryz.func74, Tryz.ntmps74
  go_upto_region 2 with (fail)
  rw [← HW4.out, HZ4.out]
  clear HW4
  go_wp2_with fail
  rw [← HW.out]
  clear HW
  refine (IsGraph_any sz A m c x W B HK.out hBW hm).mono ?_
  rintro e w1 ⟨rfl, hb1⟩
  have z1 := hb1.size
  have f4 := up hb1 e4 hsz
  have HB1 : Hid (Below w.heap.size w w1) := HB.out.trans (hb1.mono c0)
  have HE1 : Hid (sz = (m : Int) → hamC.Env w.heap.size hg B m c A x w1) := fun es => (HE.out es).keep hb1
  clear hb1 e0 e1 e4 HK HE HB a0 a1
  cases ho : okB sz m x
  · have hn : Hid (hamR sz m x true = none) := hamR_bad ho
    clear ho f4
    go_wp2
    go_ret2
    rw [hn.out]
    unfold hamP
    exact ⟨none, 0, rfl, Own.nil _ _ _ _ _ _, HB1.out⟩
  · obtain ⟨_, es, vg, _⟩ : OkG sz m x := by
      refine Classical.byContradiction fun h2 => ?_
      rw [okB_no h2] at ho; cases ho
    subst es
    have hn7 := vg.n7
    have hR : Hid (hamR (m : Int) m x true = sea (rw_ x) m true m []) := hamR_ok ho
    have KS := Lib.hid (hamC.search_i m c A x w.heap.size hg B ho m [] none 0 w1 (by simp) (Way.nil _ _ _) (HE1.out rfl) (Rd.nil _ _ _ _ _) (fun _ => rfl))
    rw [List.length_nil, ← HZZ.out] at KS
    clear ho vg HE1
    go_wp2_with fail
    refine KS.out.mono ?_
    intro e w2 hp
    cases hs : sea (rw_ x) m true m [] with
    | none =>
      rw [hs] at hp
      obtain ⟨rfl, hb2⟩ := hp
      have hn : Hid (hamR (m : Int) m x true = none) := hR.out.trans hs
      have HB2 : Hid (Below w.heap.size w w2) := HB1.out.trans (hb2.mono HB1.out.size)
      clear hs hb2 KS f4
      go_wp2
      go_ret2
      rw [hn.out]
      unfold hamP
      exact ⟨none, 0, rfl, Own.nil _ _ _ _ _ _, HB2.out⟩
    | some out =>
      rw [hs] at hp
      obtain ⟨g, c', rfl, hO, hb2⟩ := hp
      have hn : Hid (hamR (m : Int) m x true = some out) := hR.out.trans hs
      have HB2 : Hid (Below w.heap.size w w2) := HB1.out.trans (hb2.mono HB1.out.size)
      have HO : Hid (Own w2 w.heap.size w2.heap.size 3 1 (some ⟨g, 0, none⟩) out.length c' (ni out)) := hO.mono HB1.out.size (Nat.le_refl _)
      clear hs hb2 hO KS f4
      go_wp2
      go_ret2
      rw [hn.out]
      unfold hamP
      exact ⟨some ⟨g, 0, none⟩, c', rfl, HO.out, HB2.out⟩

set_option maxRecDepth 100000 in
set_option maxHeartbeats 1600000 in
theorem HamiltonPath_i (sz : Int) (A : Option Addr) (m c : Nat) (x : Nat → Int) (w : World) (B : Nat) (h : Rd w B A m c x) (hB : B ≤ w.heap.size) (hm : m ≤ 1048576) :
    Calls Tryz.prog 38 #[.agg #[.int .i64 sz, .slice A m c]] w fun e w' => ∃ A' c', e = .returned (.tuple #[.slice A' (hamL sz m x false).length c', .bool (hamB sz m x false)]) ∧ Own w' w.heap.size w'.heap.size 3 1 A' (hamL sz m x false).length c' (fun j => .int .i64 ((((hamL sz m x false).getD j 0 : Nat)) : Int)) ∧ Below w.heap.size w w' := by
  refine Calls.mono (R := hamP w (hamQ sz m x false)) ?_ (fun _ _ hp => hamP_law hp)
  obtain ⟨W, hW⟩ : ∃ W : World, W = (w.alloc (Obj.cells #[Value.int IntKind.i64 sz, Value.slice A m c] 27)) := ⟨_, rfl⟩
  have HB : Hid (Below w.heap.size w W) := by rw [hW]; exact ((Below.refl _ _).alloc (Nat.le_refl _) _)
  have a0 : w.heap.size < W.heap.size := by rw [hW]; simp
  have e0 : W.cell? ⟨w.heap.size, 0, none⟩ = some (.int .i64 sz) := by rw [hW]; simp [go_sem]
  have e1 : W.cell? ⟨w.heap.size, 1, none⟩ = some (.slice A m c) := by rw [hW]; simp [go_sem]
  have HK := Lib.hid (h.keep (HB.out.mono hB) (Nat.le_refl _))
  have HW := Lib.hid hW
  have KF := Lib.hid (hamP.firstList_i sz A m c x w.heap.size W B HK.out (by omega) hm e0 e1)
  clear hW h
  go_enter Tryz.func38, Tryz.ntmps38
  go_wp2_with fail
  rw [← HW.out]
  clear HW
  refine KF.out.mono ?_
  intro e w1 hp
  cases hs : hamR sz m x false with
  | none =>
    rw [hs] at hp
    obtain ⟨A', c', rfl, hO, hb⟩ := hp
    have hn : Hid (hamQ sz m x false = none) := hamQ_path.trans hs
    have HO : Hid (Own w1 w.heap.size w1.heap.size 3 1 A' 0 c' (ni [])) := hO.mono (by omega) (Nat.le_refl _)
    have HB1 : Hid (Below w.heap.size w w1) := HB.out.trans (hb.mono (by omega))
    clear hs hO hb KF e0 e1 HK
    go_wp2
    go_ret2
    rw [hn.out]
    unfold hamP
    exact ⟨A', c', rfl, HO.out, HB1.out⟩
  | some out =>
    rw [hs] at hp
    obtain ⟨A', c', rfl, hO, hb⟩ := hp
    have hn : Hid (hamQ sz m x false = some out) := hamQ_path.trans hs
    have HO : Hid (Own w1 w.heap.size w1.heap.size 3 1 A' out.length c' (ni out)) := hO.mono (by omega) (Nat.le_refl _)
    have HB1 : Hid (Below w.heap.size w w1) := HB.out.trans (hb.mono (by omega))
    clear hs hO hb KF e0 e1 HK
    go_wp2
    go_ret2
    rw [hn.out]
    unfold hamP
    exact ⟨A', c', rfl, HO.out, HB1.out⟩

set_option maxRecDepth 100000 in
set_option maxHeartbeats 1600000 in
theorem HamiltonCycle_i (sz : Int) (A : Option Addr) (m c : Nat) (x : Nat → Int) (w : World) (B : Nat) (h : Rd w B A m c x) (hB : B ≤ w.heap.size) (hm : m ≤ 1048576) :
    Calls Tryz.prog 39 #[.agg #[.int .i64 sz, .slice A m c]] w fun e w' => ∃ A' c', e = .returned (.tuple #[.slice A' (hamL sz m x true).length c', .bool (hamB sz m x true)]) ∧ Own w' w.heap.size w'.heap.size 3 1 A' (hamL sz m x true).length c' (fun j => .int .i64 ((((hamL sz m x true).getD j 0 : Nat)) : Int)) ∧ Below w.heap.size w w' := by
  refine Calls.mono (R := hamP w (hamQ sz m x true)) ?_ (fun _ _ hp => hamP_law hp)
  obtain ⟨W, hW⟩ : ∃ W : World, W = (w.alloc (Obj.cells #[Value.int IntKind.i64 sz, Value.slice A m c] 27)) := ⟨_, rfl⟩
  have HB : Hid (Below w.heap.size w W) := by rw [hW]; exact ((Below.refl _ _).alloc (Nat.le_refl _) _)
  have a0 : w.heap.size < W.heap.size := by rw [hW]; simp
  have e0 : W.cell? ⟨w.heap.size, 0, none⟩ = some (.int .i64 sz) := by rw [hW]; simp [go_sem]
  have e1 : W.cell? ⟨w.heap.size, 1, none⟩ = some (.slice A m c) := by rw [hW]; simp [go_sem]
  have HK := Lib.hid (h.keep (HB.out.mono hB) (Nat.le_refl _))
  have HW := Lib.hid hW
  have KF := Lib.hid (hamC.firstList_i sz A m c x w.heap.size W B HK.out (by omega) hm e0 e1)
  clear hW h
  by_cases hbig : 3 ≤ sz
  · go_enter Tryz.func39, Tryz.ntmps39
    go_wp2_with fail
    rw [← HW.out]
    clear HW
    refine KF.out.mono ?_
    intro e w1 hp
    cases hs : hamR sz m x true with
    | none =>
      rw [hs] at hp
      obtain ⟨A', c', rfl, hO, hb⟩ := hp
      have hn : Hid (hamQ sz m x true = none) := (hamQ_big hbig).trans hs
      have HO : Hid (Own w1 w.heap.size w1.heap.size 3 1 A' 0 c' (ni [])) := hO.mono (by omega) (Nat.le_refl _)
      have HB1 : Hid (Below w.heap.size w w1) := HB.out.trans (hb.mono (by omega))
      clear hs hO hb KF e0 e1 HK
      go_wp2
      go_ret2
      rw [hn.out]
      unfold hamP
      exact ⟨A', c', rfl, HO.out, HB1.out⟩
    | some out =>
      rw [hs] at hp
      obtain ⟨A', c', rfl, hO, hb⟩ := hp
      have hn : Hid (hamQ sz m x true = some out) := (hamQ_big hbig).trans hs
      have HO : Hid (Own w1 w.heap.size w1.heap.size 3 1 A' out.length c' (ni out)) := hO.mono (by omega) (Nat.le_refl _)
      have HB1 : Hid (Below w.heap.size w w1) := HB.out.trans (hb.mono (by omega))
      clear hs hO hb KF e0 e1 HK
      go_wp2
      go_ret2
      rw [hn.out]
      unfold hamP
      exact ⟨A', c', rfl, HO.out, HB1.out⟩
  · have hn : Hid (hamQ sz m x true = none) := hamQ_small (by omega)
    have hlt : sz < 3 := by omega
    clear hbig KF
    go_enter Tryz.func39, Tryz.ntmps39
    go_wp2_with fail
    try rw [← HW.out]
    go_wp2
    go_ret2
    rw [hn.out]
    unfold hamP
    exact ⟨none, 0, rfl, Own.nil _ _ _ _ _ _, by first | exact HB.out | (rw [← HW.out]; exact HB.out)⟩
end Go.Proofs.YtjonhbmgmamchaaGreatDoor
