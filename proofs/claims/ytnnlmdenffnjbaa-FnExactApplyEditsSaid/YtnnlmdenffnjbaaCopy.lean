/-
  Contracts: a copy of a graph in new memory, of both programs; two bits turned.
-/
import Derived.Test.YtnnlmdenffnjbaaAppI
import Derived.Test.YtnnlmdenffnjbaaAddP
import Derived.Test.YtnnlmdenffnjbaaLawGraph
import Derived.Test.YtnnlmdenffnjbaaBits
import Derived.Deep.RegionHeld3
namespace Go.Proofs.Ytnnlmdenffnjbaa
open Go.RowKit

set_option maxHeartbeats 1000000 in
theorem l2Copy_any (sz : Int) (A : Option Addr) (m c : Nat) (x : Nat → Int) (w : World) (B : Nat) (h : Rd w B A m c x) (hB : B ≤ w.heap.size) (hm : m ≤ 1048576) :
    Calls Try.prog 51 #[.agg #[.int .i64 sz, .slice A m c]] w fun e w' => ∃ A' c', e = .returned (.agg #[.int .i64 sz, .slice A' m c']) ∧ Own w' (w.heap.size + 2) w'.heap.size 3 1 A' m c' (fun j => .int .i64 (x j)) ∧ Below w.heap.size w w' := by
  obtain ⟨W, hW⟩ : ∃ W : World, W = ((w.alloc (Obj.cells #[Value.int IntKind.i64 sz, Value.slice A m c] 28)).alloc (Obj.cells #[Value.int IntKind.i64 0, Value.slice none 0 0] 28)) := ⟨_, rfl⟩
  have HB : Hid (Below w.heap.size w W) := by rw [hW]; exact ((Below.refl _ _).alloc (Nat.le_refl _) _).alloc (by simp) _
  have HZ : Hid (w.heap.size + 2 = W.heap.size) := by rw [hW]; simp [Hid]
  have e0 : W.cell? ⟨w.heap.size, 0, none⟩ = some (.int .i64 sz) := by rw [hW]; simp [go_sem]
  have e1 : W.cell? ⟨w.heap.size, 1, none⟩ = some (.slice A m c) := by rw [hW]; simp [go_sem]
  have e2 : W.cell? ⟨w.heap.size + 1, 0, none⟩ = some (.int .i64 0) := by rw [hW]; simp [go_sem]
  have e3 : W.cell? ⟨w.heap.size + 1, 1, none⟩ = some (.slice none 0 0) := by rw [hW]; simp [go_sem]
  have e4 : W.frozen? ⟨w.heap.size + 1, 0, none⟩ = false := by rw [hW]; simp [go_sem]
  have e5 : W.frozen? ⟨w.heap.size + 1, 1, none⟩ = false := by rw [hW]; simp [go_sem]
  have k1 := h.keep (HB.out.mono hB) (Nat.le_refl _)
  have HK := Lib.hid k1
  have HW := Lib.hid hW
  clear hW h k1
  go_enter Try.func51, Try.ntmps51
  go_wp2_with fail
  rw [← HW.out]
  have HO : Hid (Own ((W.alloc (Obj.cells #[] 3)).drew) W.heap.size (W.heap.size + 1) 3 1 (some ⟨W.heap.size, 0, none⟩) 0 0 (fun _ => .int .i64 0)) :=
    .inr ⟨W.heap.size, #[], rfl, Nat.le_refl _, Nat.lt_succ_self _, heap_alloc_new W _, Nat.le_refl _, by unfold maxLen; omega, rfl, fun j hj => absurd hj (by omega)⟩
  have d2 : ((W.alloc (Obj.cells #[] 3)).drew).cell? ⟨w.heap.size + 1, 0, none⟩ = some (.int .i64 0) := (World.cell?_alloc_lt W _ ⟨w.heap.size + 1, 0, none⟩ (by have := HZ.out; show w.heap.size + 1 < _; omega)).trans e2
  have d3 : ((W.alloc (Obj.cells #[] 3)).drew).cell? ⟨w.heap.size + 1, 1, none⟩ = some (.slice none 0 0) := (World.cell?_alloc_lt W _ ⟨w.heap.size + 1, 1, none⟩ (by have := HZ.out; show w.heap.size + 1 < _; omega)).trans e3
  have d4 : ((W.alloc (Obj.cells #[] 3)).drew).frozen? ⟨w.heap.size + 1, 0, none⟩ = false := (World.frozen?_of_block (Below.heap_alloc W _ (w.heap.size + 1) (by have := HZ.out; omega))).trans e4
  have d5 : ((W.alloc (Obj.cells #[] 3)).drew).frozen? ⟨w.heap.size + 1, 1, none⟩ = false := (World.frozen?_of_block (Below.heap_alloc W _ (w.heap.size + 1) (by have := HZ.out; omega))).trans e5
  have HR : Hid (Rd ((W.alloc (Obj.cells #[] 3)).drew) B A m c x) := HK.out.keep (((Below.refl B W).alloc (by have := HZ.out; omega) _).drew) (Nat.le_refl _)
  go_region_held3 (fun z => z.cell? ⟨w.heap.size, 0, none⟩ = some (.int .i64 sz) ∧ z.cell? ⟨w.heap.size, 1, none⟩ = some (.slice A m c))
    (first | (refine ⟨?_, ?_⟩ <;> assumption) | go_keep | (refine ⟨?_, ?_⟩ <;> (refine (hb.cell (by have := HZ.out; show w.heap.size < _; omega)).trans ?_; go_keep)))
    ((refine step_appendI _ (by rfl) _ _ (by rfl) (by rfl) HO.out (by rfl) HR.out (by simp) (by omega) (by omega) ?_; intro A' c' w1 hO hb; have r2 := up hb d2 (by have := HZ.out; omega); have r3 := up hb d3 (by have := HZ.out; omega); have r4 := upf hb d4 (by have := HZ.out; omega); have r5 := upf hb d5 (by have := HZ.out; omega)))
  have hz2 := hb.size
  simp at hz2
  rw [Nat.zero_add] at hO
  have HO2 := Lib.hid hO
  have HB2 : Hid (Below w.heap.size w w1) := HB.out.trans (((((Below.refl W.heap.size W).alloc (Nat.le_refl _) _).drew).trans hb).mono (by have := HZ.out; omega))
  clear hO hb d2 d3 d4 d5 e0 e1 e2 e3 e4 e5 HO HR HK HW
  go_wp2
  have F : Fr (w.heap.size + 1) (w.heap.size + 2) w1 _ := ((Fr.refl _ _ _).setCell (p := ⟨w.heap.size + 1, 0, none⟩) (by show w.heap.size + 1 ≤ w.heap.size + 1; omega) (by show w.heap.size + 1 < _; omega) (Value.int IntKind.i64 sz)).setCell (p := ⟨w.heap.size + 1, 1, none⟩) (by show w.heap.size + 1 ≤ w.heap.size + 1; omega) (by show w.heap.size + 1 < _; omega) (Value.slice A' m c')
  have O1 := ((HO2.out.keep F (.inr (by have := HZ.out; omega))).mono (lo' := w.heap.size + 2) (by have := HZ.out; omega) F.size)
  exact bodyPost_ret (v := .agg #[.int .i64 sz, .slice A' m c']) (by simp [results, Try.results51, go_sem, *]) rfl ⟨A', c', rfl, O1.congr (fun j hj => by unfold thenI; simp), HB2.out.trans (F.below (by omega) (by have := HZ.out; omega))⟩

set_option maxHeartbeats 1000000 in
theorem copyGraph_any (sz : Int) (A : Option Addr) (m c : Nat) (x : Nat → Int) (w : World) (B : Nat) (h : Rd w B A m c x) (hB : B ≤ w.heap.size) (hm : m ≤ 1048576) :
    Calls Try.prog 55 #[.agg #[.int .i64 sz, .slice A m c]] w fun e w' => ∃ A' c', e = .returned (.agg #[.int .i64 sz, .slice A' m c']) ∧ Own w' (w.heap.size + 2) w'.heap.size 3 1 A' m c' (fun j => .int .i64 (x j)) ∧ Below w.heap.size w w' := by
  obtain ⟨W, hW⟩ : ∃ W : World, W = ((w.alloc (Obj.cells #[Value.int IntKind.i64 sz, Value.slice A m c] 28)).alloc (Obj.cells #[Value.int IntKind.i64 0, Value.slice none 0 0] 28)) := ⟨_, rfl⟩
  have HB : Hid (Below w.heap.size w W) := by rw [hW]; exact ((Below.refl _ _).alloc (Nat.le_refl _) _).alloc (by simp) _
  have HZ : Hid (w.heap.size + 2 = W.heap.size) := by rw [hW]; simp [Hid]
  have e0 : W.cell? ⟨w.heap.size, 0, none⟩ = some (.int .i64 sz) := by rw [hW]; simp [go_sem]
  have e1 : W.cell? ⟨w.heap.size, 1, none⟩ = some (.slice A m c) := by rw [hW]; simp [go_sem]
  have e2 : W.cell? ⟨w.heap.size + 1, 0, none⟩ = some (.int .i64 0) := by rw [hW]; simp [go_sem]
  have e3 : W.cell? ⟨w.heap.size + 1, 1, none⟩ = some (.slice none 0 0) := by rw [hW]; simp [go_sem]
  have e4 : W.frozen? ⟨w.heap.size + 1, 0, none⟩ = false := by rw [hW]; simp [go_sem]
  have e5 : W.frozen? ⟨w.heap.size + 1, 1, none⟩ = false := by rw [hW]; simp [go_sem]
  have k1 := h.keep (HB.out.mono hB) (Nat.le_refl _)
  have HK := Lib.hid k1
  have HW := Lib.hid hW
  clear hW h k1
  go_enter Try.func55, Try.ntmps55
  go_wp2_with fail
  rw [← HW.out]
  have HO : Hid (Own ((W.alloc (Obj.cells #[] 3)).drew) W.heap.size (W.heap.size + 1) 3 1 (some ⟨W.heap.size, 0, none⟩) 0 0 (fun _ => .int .i64 0)) :=
    .inr ⟨W.heap.size, #[], rfl, Nat.le_refl _, Nat.lt_succ_self _, heap_alloc_new W _, Nat.le_refl _, by unfold maxLen; omega, rfl, fun j hj => absurd hj (by omega)⟩
  have d2 : ((W.alloc (Obj.cells #[] 3)).drew).cell? ⟨w.heap.size + 1, 0, none⟩ = some (.int .i64 0) := (World.cell?_alloc_lt W _ ⟨w.heap.size + 1, 0, none⟩ (by have := HZ.out; show w.heap.size + 1 < _; omega)).trans e2
  have d3 : ((W.alloc (Obj.cells #[] 3)).drew).cell? ⟨w.heap.size + 1, 1, none⟩ = some (.slice none 0 0) := (World.cell?_alloc_lt W _ ⟨w.heap.size + 1, 1, none⟩ (by have := HZ.out; show w.heap.size + 1 < _; omega)).trans e3
  have d4 : ((W.alloc (Obj.cells #[] 3)).drew).frozen? ⟨w.heap.size + 1, 0, none⟩ = false := (World.frozen?_of_block (Below.heap_alloc W _ (w.heap.size + 1) (by have := HZ.out; omega))).trans e4
  have d5 : ((W.alloc (Obj.cells #[] 3)).drew).frozen? ⟨w.heap.size + 1, 1, none⟩ = false := (World.frozen?_of_block (Below.heap_alloc W _ (w.heap.size + 1) (by have := HZ.out; omega))).trans e5
  have HR : Hid (Rd ((W.alloc (Obj.cells #[] 3)).drew) B A m c x) := HK.out.keep (((Below.refl B W).alloc (by have := HZ.out; omega) _).drew) (Nat.le_refl _)
  go_region_held3 (fun z => z.cell? ⟨w.heap.size, 0, none⟩ = some (.int .i64 sz) ∧ z.cell? ⟨w.heap.size, 1, none⟩ = some (.slice A m c))
    (first | (refine ⟨?_, ?_⟩ <;> assumption) | go_keep | (refine ⟨?_, ?_⟩ <;> (refine (hb.cell (by have := HZ.out; show w.heap.size < _; omega)).trans ?_; go_keep)))
    ((refine step_appendI _ (by rfl) _ _ (by rfl) (by rfl) HO.out (by rfl) HR.out (by simp) (by omega) (by omega) ?_; intro A' c' w1 hO hb; have r2 := up hb d2 (by have := HZ.out; omega); have r3 := up hb d3 (by have := HZ.out; omega); have r4 := upf hb d4 (by have := HZ.out; omega); have r5 := upf hb d5 (by have := HZ.out; omega)))
  have hz2 := hb.size
  simp at hz2
  rw [Nat.zero_add] at hO
  have HO2 := Lib.hid hO
  have HB2 : Hid (Below w.heap.size w w1) := HB.out.trans (((((Below.refl W.heap.size W).alloc (Nat.le_refl _) _).drew).trans hb).mono (by have := HZ.out; omega))
  clear hO hb d2 d3 d4 d5 e0 e1 e2 e3 e4 e5 HO HR HK HW
  go_wp2
  have F : Fr (w.heap.size + 1) (w.heap.size + 2) w1 _ := ((Fr.refl _ _ _).setCell (p := ⟨w.heap.size + 1, 0, none⟩) (by show w.heap.size + 1 ≤ w.heap.size + 1; omega) (by show w.heap.size + 1 < _; omega) (Value.int IntKind.i64 sz)).setCell (p := ⟨w.heap.size + 1, 1, none⟩) (by show w.heap.size + 1 ≤ w.heap.size + 1; omega) (by show w.heap.size + 1 < _; omega) (Value.slice A' m c')
  have O1 := ((HO2.out.keep F (.inr (by have := HZ.out; omega))).mono (lo' := w.heap.size + 2) (by have := HZ.out; omega) F.size)
  exact bodyPost_ret (v := .agg #[.int .i64 sz, .slice A' m c']) (by simp [results, Try.results55, go_sem, *]) rfl ⟨A', c', rfl, O1.congr (fun j hj => by unfold thenI; simp), HB2.out.trans (F.below (by omega) (by have := HZ.out; omega))⟩
end Go.Proofs.Ytnnlmdenffnjbaa
