/-
  Contracts: the graph of intervals; are intervals a model of a graph? The program's.
-/
import Derived.Test.YtmkahbephidmbaaQcGivI
namespace Go.Proofs.Ytmkahbephidmbaa
open Go.RowKit

/-- The rows of the graph of intervals. -/
def ivR (L R : List Int) (j : Nat) : Nat := grS (jnB L R) L.length L.length 0 j
noncomputable def moB (sz : Int) (m : Nat) (x : Nat → Int) (L R : List Int) : Bool := imB L R && gsl (L.length : Int) L.length (fun j => ((ivR L R j : Nat) : Int)) sz m x
set_option maxRecDepth 100000 in
set_option maxHeartbeats 3200000 in
theorem GraphOfIntervals_i (Al : Option Addr) (n cl : Nat) (L : List Int) (Ar : Option Addr) (k cr : Nat) (R : List Int) (w : World) (hl : LI w Al n cl L) (hr : LI w Ar k cr R) :
    Calls Try.prog 44 #[.agg #[.slice Al n cl, .slice Ar k cr]] w fun e w' => ∃ sz' A' m' c', e = .returned (.tuple #[.agg #[.int .i64 sz', .slice A' m' c'], .bool (imB L R)]) ∧ (imB L R = true → sz' = (n : Int) ∧ m' = n ∧ Own w' w.heap.size w'.heap.size 3 1 A' n c' (fun j => .int .i64 (ivR L R j : Nat))) ∧ Below w.heap.size w w' := by
  obtain ⟨W, hW⟩ : ∃ W : World, W = ((w.alloc (Obj.cells #[Value.slice Al n cl, Value.slice Ar k cr] 37)).alloc (Obj.cells #[Value.int IntKind.i64 0, Value.slice none 0 0] 27)) := ⟨_, rfl⟩
  have HB : Hid (From w W) := by rw [hW]; exact (From.alloc _ _).alloc_ _
  have HL := Lib.hid (hl.keep HB.out.below)
  have HR := Lib.hid (hr.keep HB.out.below)
  have HI : Hid (IB W w.heap.size Al n cl Ar k cr) := by rw [hW]; constructor <;> simp [go_sem]
  have HD : Hid (GC W (w.heap.size + 1) 0 none 0 0) := by rw [hW]; constructor <;> simp [go_sem]
  have HW := Lib.hid hW
  have HN := Lib.hid hl.len
  have HK := Lib.hid hr.len
  clear hW hl hr
  go_enter Try.func44, Try.ntmps44
  have e0 := HI.out.c0
  have e1 := HI.out.c1
  have d0 := HD.out.c0
  have d1 := HD.out.c1
  have d2 := HD.out.f0
  have d3 := HD.out.f1
  go_wp2_with fail
  rw [← HW.out]
  refine (IsModel_i Al n cl L Ar k cr R W HL.out HR.out).mono ?_
  rintro e w1 ⟨rfl, hb1⟩
  clear HW
  clear e0 e1 d0 d1 d2 d3
  replace HB := Lib.hid (HB.out.keep hb1)
  replace HI := Lib.hid (HI.out.keep hb1)
  replace HD := Lib.hid (HD.out.keep hb1)
  replace HL := Lib.hid (HL.out.keep hb1)
  replace HR := Lib.hid (HR.out.keep hb1)
  clear hb1
  have e0 := HI.out.c0
  have e1 := HI.out.c1
  have d0 := HD.out.c0
  have d1 := HD.out.c1
  have d2 := HD.out.f0
  have d3 := HD.out.f1
  cases ho : imB L R
  · have Ho := Lib.hid ho
    clear ho
    go_wp2
    have HE := (HB.out.set (q := w.heap.size + 1) (by omega) (.int .i64 0) (.slice none 0 0)).below
    exact bodyPost_ret (v := .tuple #[.agg #[.int .i64 0, .slice none 0 0], .bool false]) (by simp [results, Try.results44, go_sem, *]) rfl ⟨0, none, 0, 0, by rw [Ho.out], (fun h => by rw [Ho.out] at h; cases h), HE⟩
  · obtain ⟨h7, hk, _⟩ := im_parts ho
    have Ho := Lib.hid ho
    have hkn : k = n := by rw [HN.out, HK.out, hk]
    subst hkn
    have hn7 : k ≤ 7 := by rw [HN.out]; exact h7.2
    have HI0 := HI
    have HL0 := HL
    have HR0 := HR
    have KG := Lib.hid (graphOf_g (p := jnB L R) (caps := #[.pointer (some ⟨w.heap.size, 0, none⟩)]) (ent_of Try.func66 (by kernel_rfl) rfl) hn7 w1 (fun a b z ha hb hz => givF (HI0.out.keep hz) (HL0.out.keep hz) (HR0.out.keep hz) (by omega) hb))
    have Hrow : Hid (∀ j, grS (jnB L R) k k 0 j = ivR L R j) := fun j => by unfold ivR; rw [← HN.out]
    have hz1 : w.heap.size + 1 < w1.heap.size := HD.out.lt
    clear ho h7 hk
    go_wp2_with fail
    refine KG.out.mono ?_
    rintro e w2 ⟨A2, c2, rfl, hO2, hb2⟩
    have HO2 := Lib.hid hO2
    clear e0 e1 d0 d1 d2 d3
    replace HB := Lib.hid (HB.out.keep hb2)
    replace HI := Lib.hid (HI.out.keep hb2)
    replace HD := Lib.hid (HD.out.keep hb2)
    replace HL := Lib.hid (HL.out.keep hb2)
    replace HR := Lib.hid (HR.out.keep hb2)
    clear hb2 hO2
    have e0 := HI.out.c0
    have e1 := HI.out.c1
    have d0 := HD.out.c0
    have d1 := HD.out.c1
    have d2 := HD.out.f0
    have d3 := HD.out.f1
    go_wp2
    have F := fr2 w2 (w.heap.size + 1) (.int .i64 (k : Int)) (.slice A2 k c2)
    have HE := (HB.out.set (q := w.heap.size + 1) (by omega) (.int .i64 (k : Int)) (.slice A2 k c2)).below
    have HOE := ((HO2.out.keep F (.inr (by omega))).mono (show w.heap.size ≤ w1.heap.size by omega) F.size).congr (y := fun j => .int .i64 (ivR L R j : Nat)) (fun j _ => by rw [Hrow.out])
    exact bodyPost_ret (v := .tuple #[.agg #[.int .i64 (k : Int), .slice A2 k c2], .bool true]) (by simp [results, Try.results44, go_sem, *]) rfl ⟨k, A2, k, c2, by rw [Ho.out], (fun _ => ⟨rfl, rfl, HOE⟩), HE⟩

set_option maxRecDepth 100000 in
set_option maxHeartbeats 3200000 in
theorem IsModelOf_i (sz : Int) (A : Option Addr) (m c : Nat) (x : Nat → Int) (Al : Option Addr) (n cl : Nat) (L : List Int) (Ar : Option Addr) (k cr : Nat) (R : List Int) (w : World) (h : GA w A m c x) (hl : LI w Al n cl L) (hr : LI w Ar k cr R) (hm : m ≤ 1048576) :
    Calls Try.prog 21 #[.agg #[.int .i64 sz, .slice A m c], .agg #[.slice Al n cl, .slice Ar k cr]] w fun e w' => e = .returned (.bool (moB sz m x L R)) ∧ Below w.heap.size w w' := by
  obtain ⟨W, hW⟩ : ∃ W : World, W = ((w.alloc (Obj.cells #[Value.int IntKind.i64 sz, Value.slice A m c] 27)).alloc (Obj.cells #[Value.slice Al n cl, Value.slice Ar k cr] 37)) := ⟨_, rfl⟩
  have HB : Hid (From w W) := by rw [hW]; exact (From.alloc _ _).alloc_ _
  have HA := Lib.hid (h.keep HB.out.below)
  have HL := Lib.hid (hl.keep HB.out.below)
  have HR := Lib.hid (hr.keep HB.out.below)
  have HC : Hid (GC W w.heap.size sz A m c) := by rw [hW]; exact (GC.new _ _ _ _ _).keep ((Below.refl _ _).alloc (Nat.le_refl _) _)
  have HI : Hid (IB W (w.heap.size + 1) Al n cl Ar k cr) := by rw [hW]; constructor <;> simp [go_sem]
  have HW := Lib.hid hW
  have HN := Lib.hid hl.len
  clear hW h hl hr
  go_enter Try.func21, Try.ntmps21
  have e0 := HC.out.c0
  have e1 := HC.out.c1
  have i0 := HI.out.c0
  have i1 := HI.out.c1
  go_wp2_with fail
  rw [← HW.out]
  refine (GraphOfIntervals_i Al n cl L Ar k cr R W HL.out HR.out).mono ?_
  rintro e w1 ⟨sz2, A2, m2, c2, rfl, hG2, hb1⟩
  clear HW
  clear e0 e1 i0 i1
  replace HB := Lib.hid (HB.out.keep hb1)
  replace HA := Lib.hid (HA.out.keep hb1)
  replace HC := Lib.hid (HC.out.keep hb1)
  replace HI := Lib.hid (HI.out.keep hb1)
  replace HL := Lib.hid (HL.out.keep hb1)
  replace HR := Lib.hid (HR.out.keep hb1)
  clear hb1
  have e0 := HC.out.c0
  have e1 := HC.out.c1
  have i0 := HI.out.c0
  have i1 := HI.out.c1
  obtain ⟨W2, hW2⟩ : ∃ W2 : World, W2 = (w1.alloc (Obj.cells #[Value.int IntKind.i64 sz2, Value.slice A2 m2 c2] 27)) := ⟨_, rfl⟩
  have hb2 : Below w1.heap.size w1 W2 := by rw [hW2]; exact (Below.refl _ _).alloc (Nat.le_refl _) _
  have HQ : Hid (GC W2 w1.heap.size sz2 A2 m2 c2) := by rw [hW2]; exact GC.new _ _ _ _ _
  have HW2 := Lib.hid hW2
  cases ho : imB L R
  · have Hn : Hid (moB sz m x L R = false) := by show _ = _; unfold moB; rw [ho]; rfl
    have HB2 : Hid (From w W2) := HB.out.keep hb2
    clear ho hG2 hW2 hb2
    go_wp2
    rw [← HW2.out]
    go_ret
    exact ⟨ret_bool Hn.out.symm, HB2.out.below⟩
  · obtain ⟨rfl, rfl, hO⟩ := hG2 ho
    have Hy : Hid (moB sz m x L R = gsl (m2 : Int) m2 (fun j => ((ivR L R j : Nat) : Int)) sz m x) := by show _ = _; unfold moB; rw [ho, HN.out]; rfl
    have HRd : Hid (Rd W2 W2.heap.size A2 m2 c2 (fun j => ((ivR L R j : Nat) : Int))) := (hO.rd).keep (hb2.mono (Nat.le_refl _)) hb2.size
    obtain ⟨h7, _, _⟩ := im_parts ho
    have hm7 : m2 ≤ 7 := by rw [HN.out]; exact h7.2
    have HA2 := Lib.hid (HA.out.keep hb2)
    have HB2 : Hid (From w W2) := HB.out.keep hb2
    have hlt := HC.out.lt
    have hlq := HI.out.lt
    clear ho hG2 hW2 hb2 hO h7
    go_wp2_with fail
    rw [← HW2.out]
    clear HW2
    refine (EqualGraphs_i (m2 : Int) sz A2 A m2 m c2 c _ x W2 W2.heap.size HRd.out HA2.out.rd (Nat.le_refl _) (by omega) (by omega)).mono ?_
    rintro e w5 ⟨rfl, hb5⟩
    have HB5 := Lib.hid (HB2.out.keep hb5)
    clear hb5
    go_wp2
    go_ret
    exact ⟨ret_bool Hy.out.symm, HB5.out.below⟩
end Go.Proofs.Ytmkahbephidmbaa
