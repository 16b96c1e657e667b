/-
  Contracts: the reference's ways and cycles through all vertices.
-/
import Derived.Test.YtjonhbmgmamchaaGreatDoorRdHamT
import Derived.Test.YtjonhbmgmamchaaGreatDoorRdGA
namespace Go.Proofs.YtjonhbmgmamchaaGreatDoor
open Go.RowKit

theorem empty_own (w : World) (lo : Nat) (h : lo ≤ w.heap.size) : Own (w.alloc (Obj.cells #[] 3)) lo (w.alloc (Obj.cells #[] 3)).heap.size 3 1 (some ⟨w.heap.size, 0, none⟩) 0 0 (ni []) :=
  .inr ⟨w.heap.size, #[], rfl, h, by simp, heap_alloc_new w _, Nat.le_refl _, by unfold maxLen; omega, rfl, fun j hj => absurd hj (by omega)⟩
theorem zero_own (w : World) (lo : Nat) (h : lo ≤ w.heap.size) : Own (w.alloc (Obj.cells #[.int .i64 0] 3)) lo (w.alloc (Obj.cells #[.int .i64 0] 3)).heap.size 3 1 (some ⟨w.heap.size, 0, none⟩) 1 1 (ni [0]) :=
  .inr ⟨w.heap.size, #[.int .i64 0], rfl, h, by simp, heap_alloc_new w _, Nat.le_refl _, by unfold maxLen; omega, rfl, fun j hj => (by have hj0 : j = 0 := (by omega); subst hj0; rfl)⟩
theorem Way.zero {r : Nat → Nat} {m : Nat} (hm : 0 < m) : Way r m true [0] := ⟨fun v h => by rw [List.mem_singleton] at h; omega, by simp, fun i h => by simp at h, fun _ _ => rfl⟩

set_option maxRecDepth 100000 in
set_option maxHeartbeats 1600000 in
theorem HamiltonPath_s (sz : Int) (A : Option Addr) (m c : Nat) (x : Nat → Int) (w : World) (B : Nat) (h : Rd w B A m c x) (hB : B ≤ w.heap.size) (hm : m ≤ 1048576) :
    Calls Tryz.prog 22 #[.agg #[.int .i64 sz, .slice A m c]] w fun e w' => ∃ A' c', e = .returned (.tuple #[.slice A' (hamL sz m x false).length c', .bool (hamB sz m x false)]) ∧ Own w' w.heap.size w'.heap.size 3 1 A' (hamL sz m x false).length c' (fun j => .int .i64 ((((hamL sz m x false).getD j 0 : Nat)) : Int)) ∧ Below w.heap.size w w' := by
  refine Calls.mono (R := hamP w (hamQ sz m x false)) ?_ (fun _ _ hp => hamP_law hp)
  obtain ⟨W, hW⟩ : ∃ W : World, W = (w.alloc (Obj.cells #[Value.int IntKind.i64 sz, Value.slice A m c] 27)) := ⟨_, rfl⟩
  have HB : Hid (Below w.heap.size w W) := by rw [hW]; exact ((Below.refl _ _).alloc (Nat.le_refl _) _)
  have a0 : w.heap.size < W.heap.size := by rw [hW]; simp
  have e0 : W.cell? ⟨w.heap.size, 0, none⟩ = some (.int .i64 sz) := by rw [hW]; simp [go_sem]
  have e1 : W.cell? ⟨w.heap.size, 1, none⟩ = some (.slice A m c) := by rw [hW]; simp [go_sem]
  have HK := Lib.hid (h.keep (HB.out.mono hB) (Nat.le_refl _))
  have HW := Lib.hid hW
  clear hW h
  go_enter Tryz.func22, Tryz.ntmps22
  go_wp2_with fail
  rw [← HW.out]
  clear HW
  refine (IsGraph_sany sz A m c x W B HK.out (by omega) hm).mono ?_
  rintro e w1 ⟨rfl, hb1⟩
  have z1 := hb1.size
  have f0 := up hb1 e0 a0
  have f1 := up hb1 e1 a0
  have HB1 : Hid (Below w.heap.size w w1) := HB.out.trans (hb1.mono (by omega))
  have HK1 : Hid (Rd w1 B A m c x) := HK.out.keep (hb1.mono (by omega)) (Nat.le_refl _)
  have HN : Hid (Own (w1.alloc (Obj.cells #[] 3)) w.heap.size (w1.alloc (Obj.cells #[] 3)).heap.size 3 1 (some ⟨w1.heap.size, 0, none⟩) 0 0 (ni [])) := empty_own w1 _ (by omega)
  have HBa : Hid (Below w.heap.size w (w1.alloc (Obj.cells #[] 3))) := HB1.out.alloc (by omega) _
  clear hb1 e0 e1 HK HB
  cases ho : okB sz m x
  · have hn : Hid (hamQ sz m x false = none) := hamQ_path.trans (hamR_bad ho)
    clear ho
    go_wp2
    go_ret2
    rw [hn.out]
    unfold hamP
    exact ⟨_, 0, rfl, HN.out, HBa.out⟩
  · obtain ⟨_, es, vg, _⟩ : OkG sz m x := by
      refine Classical.byContradiction fun h2 => ?_
      rw [okB_no h2] at ho; cases ho
    subst es
    have hn1 := vg.n1
    have hn7 := vg.n7
    have hR : Hid (hamQ (m : Int) m x false = sea (rw_ x) m false m []) := hamQ_path.trans (hamR_ok ho)
    have b1 : w.heap.size < w1.heap.size := by omega
    have KS := Lib.hid (search_s m c A x B w.heap.size false ho m [] w1.heap.size 0 (w1.alloc (Obj.cells #[] 3)) (by simp) (Way.nil _ _ _) (fun h => by cases h) (HK1.out.keep ((Below.refl _ _).alloc (by omega) _) (Nat.le_refl _)) (by simp; omega) (by simp; omega) HN.out)
    rw [List.length_nil] at KS
    have hm0 : m ≠ 0 := by omega
    clear ho vg
    go_wp2_with fail
    refine KS.out.mono ?_
    intro e w2 hp
    cases hs : sea (rw_ x) m false m [] with
    | none =>
      rw [hs] at hp
      obtain ⟨A', n', c', rfl, hz, hb2⟩ := hp
      obtain ⟨rfl, hO⟩ := hz hm0
      have hn : Hid (hamQ (m : Int) m x false = none) := hR.out.trans hs
      have HO := Lib.hid hO
      have HB2 : Hid (Below w.heap.size w w2) := HBa.out.trans (hb2.mono HBa.out.size)
      clear hs hz hb2 hO KS f0 f1
      go_wp2
      go_ret2
      rw [hn.out]
      unfold hamP
      exact ⟨A', c', rfl, HO.out, HB2.out⟩
    | some out =>
      rw [hs] at hp
      obtain ⟨A', c', rfl, hO, hb2⟩ := hp
      have hn : Hid (hamQ (m : Int) m x false = some out) := hR.out.trans hs
      have HO := Lib.hid hO
      have HB2 : Hid (Below w.heap.size w w2) := HBa.out.trans (hb2.mono HBa.out.size)
      clear hs hb2 hO KS f0 f1
      go_wp2
      go_ret2
      rw [hn.out]
      unfold hamP
      exact ⟨A', c', rfl, HO.out, HB2.out⟩

set_option maxRecDepth 100000 in
set_option maxHeartbeats 1600000 in
theorem HamiltonCycle_s (sz : Int) (A : Option Addr) (m c : Nat) (x : Nat → Int) (w : World) (B : Nat) (h : Rd w B A m c x) (hB : B ≤ w.heap.size) (hm : m ≤ 1048576) :
    Calls Tryz.prog 23 #[.agg #[.int .i64 sz, .slice A m c]] w fun e w' => ∃ A' c', e = .returned (.tuple #[.slice A' (hamL sz m x true).length c', .bool (hamB sz m x true)]) ∧ Own w' w.heap.size w'.heap.size 3 1 A' (hamL sz m x true).length c' (fun j => .int .i64 ((((hamL sz m x true).getD j 0 : Nat)) : Int)) ∧ Below w.heap.size w w' := by
  refine Calls.mono (R := hamP w (hamQ sz m x true)) ?_ (fun _ _ hp => hamP_law hp)
  obtain ⟨W, hW⟩ : ∃ W : World, W = (w.alloc (Obj.cells #[Value.int IntKind.i64 sz, Value.slice A m c] 27)) := ⟨_, rfl⟩
  have HB : Hid (Below w.heap.size w W) := by rw [hW]; exact ((Below.refl _ _).alloc (Nat.le_refl _) _)
  have a0 : w.heap.size < W.heap.size := by rw [hW]; simp
  have e0 : W.cell? ⟨w.heap.size, 0, none⟩ = some (.int .i64 sz) := by rw [hW]; simp [go_sem]
  have e1 : W.cell? ⟨w.heap.size, 1, none⟩ = some (.slice A m c) := by rw [hW]; simp [go_sem]
  have HK := Lib.hid (h.keep (HB.out.mono hB) (Nat.le_refl _))
  have HW := Lib.hid hW
  clear hW h
  go_enter Tryz.func23, Tryz.ntmps23
  go_wp2_with fail
  rw [← HW.out]
  clear HW
  refine (IsGraph_sany sz A m c x W B HK.out (by omega) hm).mono ?_
  rintro e w1 ⟨rfl, hb1⟩
  have z1 := hb1.size
  have f0 := up hb1 e0 a0
  have f1 := up hb1 e1 a0
  have HB1 : Hid (Below w.heap.size w w1) := HB.out.trans (hb1.mono (by omega))
  have HK1 : Hid (Rd w1 B A m c x) := HK.out.keep (hb1.mono (by omega)) (Nat.le_refl _)
  have HN : Hid (Own (w1.alloc (Obj.cells #[] 3)) w.heap.size (w1.alloc (Obj.cells #[] 3)).heap.size 3 1 (some ⟨w1.heap.size, 0, none⟩) 0 0 (ni [])) := empty_own w1 _ (by omega)
  have HBa : Hid (Below w.heap.size w (w1.alloc (Obj.cells #[] 3))) := HB1.out.alloc (by omega) _
  have HN2 : Hid (Own (w1.alloc (Obj.cells #[.int .i64 0] 3)) w.heap.size (w1.alloc (Obj.cells #[.int .i64 0] 3)).heap.size 3 1 (some ⟨w1.heap.size, 0, none⟩) 1 1 (ni [0])) := zero_own w1 _ (by omega)
  have HBb : Hid (Below w.heap.size w (w1.alloc (Obj.cells #[.int .i64 0] 3))) := HB1.out.alloc (by omega) _
  clear hb1 e0 e1 HK HB
  cases ho : okB sz m x
  · have hn : Hid (hamQ sz m x true = none) := by
      show _ = _
      by_cases hsz : sz < 3
      · exact hamQ_small hsz
      · exact (hamQ_big (by omega)).trans (hamR_bad ho)
    clear ho
    go_wp2
    go_ret2
    rw [hn.out]
    unfold hamP
    exact ⟨_, 0, rfl, HN.out, HBa.out⟩
  · obtain ⟨_, es, vg, _⟩ : OkG sz m x := by
      refine Classical.byContradiction fun h2 => ?_
      rw [okB_no h2] at ho; cases ho
    subst es
    have hn1 := vg.n1
    have hn7 := vg.n7
    have b1 : w.heap.size < w1.heap.size := by omega
    by_cases hbig : 3 ≤ m
    · have hR : Hid (hamQ (m : Int) m x true = sea (rw_ x) m true (m - 1) [0]) := by
        show _ = _
        rw [hamQ_big (by omega), hamR_ok ho]
        obtain ⟨k, rfl⟩ : ∃ k, m = k + 1 := ⟨m - 1, by omega⟩
        exact cycle_first (by omega) k
      have i1 : (3 : Int) ≤ (m : Int) := by omega
      have KS := Lib.hid (search_s m c A x B w.heap.size true ho (m - 1) [0] w1.heap.size 1 (w1.alloc (Obj.cells #[.int .i64 0] 3)) (by simp; omega) (Way.zero (by omega)) (fun _ => by simp) (HK1.out.keep ((Below.refl _ _).alloc (by omega) _) (Nat.le_refl _)) (by simp; omega) (by simp; omega) HN2.out)
      rw [show ([0] : List Nat).length = 1 from rfl] at KS
      have hm0 : m - 1 ≠ 0 := by omega
      clear ho vg
      go_wp2_with fail
      refine KS.out.mono ?_
      intro e w2 hp
      cases hs : sea (rw_ x) m true (m - 1) [0] with
      | none =>
        rw [hs] at hp
        obtain ⟨A', n', c', rfl, hz, hb2⟩ := hp
        obtain ⟨rfl, hO⟩ := hz hm0
        have hn : Hid (hamQ (m : Int) m x true = none) := hR.out.trans hs
        have HO := Lib.hid hO
        have HB2 : Hid (Below w.heap.size w w2) := HBb.out.trans (hb2.mono HBb.out.size)
        clear hs hz hb2 hO KS f0 f1
        go_wp2
        go_ret2
        rw [hn.out]
        unfold hamP
        exact ⟨A', c', rfl, HO.out, HB2.out⟩
      | some out =>
        rw [hs] at hp
        obtain ⟨A', c', rfl, hO, hb2⟩ := hp
        have hn : Hid (hamQ (m : Int) m x true = some out) := hR.out.trans hs
        have HO := Lib.hid hO
        have HB2 : Hid (Below w.heap.size w w2) := HBb.out.trans (hb2.mono HBb.out.size)
        clear hs hb2 hO KS f0 f1
        go_wp2
        go_ret2
        rw [hn.out]
        unfold hamP
        exact ⟨A', c', rfl, HO.out, HB2.out⟩
    · have hn : Hid (hamQ (m : Int) m x true = none) := hamQ_small (by omega)
      have i1 : (m : Int) < 3 := by omega
      clear ho vg
      go_wp2
      go_ret2
      rw [hn.out]
      unfold hamP
      exact ⟨_, 0, rfl, HN.out, HBa.out⟩
end Go.Proofs.YtjonhbmgmamchaaGreatDoor
