/-
  Contracts: does a list of edges make a graph chordal? is none of them too much? The program's tests.
-/
import Derived.Test.YtnnlmdenffnjbaaConcat
import Derived.Test.YtnnlmdenffnjbaaGC
namespace Go.Proofs.Ytnnlmdenffnjbaa
open Go.RowKit

/-- Is the graph with these edges chordal? -/
noncomputable def fiB (sz : Int) (m : Nat) (x : Nat → Int) (L : List (List Int)) : Bool := chB (aaZ sz m x L) (aaN sz m x L) (aaX sz m x L)
theorem fiB_no {sz : Int} {m : Nat} {x : Nat → Int} {L : List (List Int)} (h : aaB sz m x L = false) : fiB sz m x L = false := by
  have h2 : aaZ sz m x L = 0 := by unfold aaZ; rw [h]; rfl
  unfold fiB
  exact chB_no (by rw [h2]; exact okB_far (.inl (by omega)))
/-- No edge too much. -/
noncomputable def imB (sz : Int) (m : Nat) (x : Nat → Int) (L : List (List Int)) : Bool := fiB sz m x L && (List.range L.length).all fun i => !fiB sz m x (L.eraseIdx i)
theorem imB_bad {sz : Int} {m : Nat} {x : Nat → Int} {L : List (List Int)} (h : fiB sz m x L = false) : imB sz m x L = false := by unfold imB; rw [h]; rfl
theorem imB_no {sz : Int} {m : Nat} {x : Nat → Int} {L : List (List Int)} {i : Nat} (hi : i < L.length) (h : fiB sz m x (L.eraseIdx i) = true) : imB sz m x L = false := by
  unfold imB
  have : ((List.range L.length).all fun i => !fiB sz m x (L.eraseIdx i)) = false := by
    rw [List.all_eq_false]
    exact ⟨i, List.mem_range.2 hi, by simp [h]⟩
  rw [this, Bool.and_false]
theorem imB_yes {sz : Int} {m : Nat} {x : Nat → Int} {L : List (List Int)} (h0 : fiB sz m x L = true) (h : ∀ i, i < L.length → fiB sz m x (L.eraseIdx i) = false) : imB sz m x L = true := by
  unfold imB
  rw [h0, Bool.true_and, List.all_eq_true]
  intro i hi
  simp [h i (List.mem_range.1 hi)]
theorem tot_erase (D : List Dsc) (i : Nat) : tot (D.eraseIdx i) ≤ tot D := by
  unfold tot
  induction D generalizing i with
  | nil => simp
  | cons d D ih =>
    cases i with
    | zero => simp
    | succ i => have := ih i; simp only [List.eraseIdx_cons_succ, List.map_cons, List.sum_cons]; omega

set_option maxHeartbeats 1000000 in
theorem fills_i (s1 : Int) (A1 : Option Addr) (m1 c1 : Nat) (x1 : Nat → Int) (A2 : Option Addr) (c2 : Nat) (D : List Dsc) (w : World) (h1 : Rd w w.heap.size A1 m1 c1 x1) (h2 : LD w A2 c2 D) (hm1 : m1 ≤ 1048576) (hd : D.length ≤ 1048576) (ht : tot D ≤ 1048576) :
    Calls Try.prog 62 #[.agg #[.int .i64 s1, .slice A1 m1 c1], .slice A2 D.length c2] w fun e w' => e = .returned (.bool (fiB s1 m1 x1 (lists D))) ∧ Below w.heap.size w w' := by
  obtain ⟨W, hW⟩ : ∃ W : World, W = (w.alloc (Obj.cells #[Value.int IntKind.i64 s1, Value.slice A1 m1 c1] 28)) := ⟨_, rfl⟩
  have HB : Hid (From w W) := by rw [hW]; exact From.alloc _ _
  have HK : Hid (Rd W W.heap.size A1 m1 c1 x1) := h1.keep HB.out.below HB.out.below.size
  have HD := Lib.hid (h2.keep HB.out.below)
  have HW := Lib.hid hW
  clear hW h1 h2
  go_enter Try.func62, Try.ntmps62
  go_wp2_with fail
  rw [← HW.out]
  clear HW
  refine (AddAll_i s1 A1 m1 c1 x1 A2 c2 D W W.heap.size HK.out HD.out.rd (Nat.le_refl _) hm1 hd ht _ rfl).mono ?_
  rintro e w1 ⟨A', c', rfl, hO, hb1⟩
  have HB1 := Lib.hid (HB.out.keep hb1)
  have HO := Lib.hid hO
  have hN : aaN s1 m1 x1 (lists D) ≤ m1 := aaN_le
  clear hO hb1 HB HK HD
  cases hb : aaB s1 m1 x1 (lists D)
  · have hno : Hid (fiB s1 m1 x1 (lists D) = false) := fiB_no hb
    clear hb
    go_wp2
    go_ret
    exact ⟨ret_bool hno.out.symm, (HB1.out.alloc_ _).below⟩
  · obtain ⟨W2, hW2⟩ : ∃ W2 : World, W2 = w1.alloc (Obj.cells #[.int .i64 (aaZ s1 m1 x1 (lists D)), .slice A' (aaN s1 m1 x1 (lists D)) c'] 28) := ⟨_, rfl⟩
    have HB2 : Hid (From w W2) := by rw [hW2]; exact HB1.out.alloc_ _
    have HR2 : Hid (Rd W2 W2.heap.size A' (aaN s1 m1 x1 (lists D)) c' (aaX s1 m1 x1 (lists D))) := by
      rw [hW2]
      exact HO.out.rd.keep ((Below.refl _ _).alloc (Nat.le_refl _) _) (by simp)
    have HW2 := Lib.hid hW2
    clear hW2 hb
    go_wp2_with fail
    rw [← HW2.out]
    clear HW2
    refine (IsChordal_i _ A' _ c' _ W2 W2.heap.size HR2.out (Nat.le_refl _) (by omega)).mono ?_
    rintro e w3 ⟨rfl, hb3⟩
    have HB3 := Lib.hid (HB2.out.keep hb3)
    clear hb3
    go_wp2
    go_ret
    exact ⟨rfl, HB3.out.below⟩

set_option maxRecDepth 100000 in
set_option maxHeartbeats 1600000 in
theorem IsMinimalFill_i (s1 : Int) (A1 : Option Addr) (m1 c1 : Nat) (x1 : Nat → Int) (A2 : Option Addr) (c2 : Nat) (D : List Dsc) (w : World) (B : Nat) (h1 : Rd w B A1 m1 c1 x1) (h2 : RdD w B A2 c2 D) (hB : B ≤ w.heap.size) (hm1 : m1 ≤ 1048576) (hd : D.length ≤ 1048576) (ht : tot D ≤ 1048576) (L : List (List Int)) (hL : lists D = L) :
    Calls Try.prog 26 #[.agg #[.int .i64 s1, .slice A1 m1 c1], .slice A2 D.length c2] w fun e w' => e = .returned (.bool (imB s1 m1 x1 L)) ∧ Below w.heap.size w w' := by
  subst hL
  obtain ⟨W, hW⟩ : ∃ W : World, W = (w.alloc (Obj.cells #[Value.int IntKind.i64 s1, Value.slice A1 m1 c1] 28)) := ⟨_, rfl⟩
  have HB : Hid (From w W) := by rw [hW]; exact From.alloc _ _
  have HK : Hid (Rd W W.heap.size A1 m1 c1 x1) := h1.keep (HB.out.below.mono hB) (by have := HB.out.below.size; omega)
  have HD : Hid (LD W A2 c2 D) := ⟨h2.keep (HB.out.below.mono hB) (by have := HB.out.below.size; omega)⟩
  have HC : Hid (GC W w.heap.size s1 A1 m1 c1) := by rw [hW]; exact GC.new _ _ _ _ _
  have HW := Lib.hid hW
  clear hW h1 h2
  go_enter Try.func26, Try.ntmps26
  go_wp2_with fail
  rw [← HW.out]
  clear HW
  refine (fills_i s1 A1 m1 c1 x1 A2 c2 D W HK.out HD.out hm1 (by omega) ht).mono ?_
  rintro e w1 ⟨rfl, hb1⟩
  have HK1 : Hid (Rd w1 w1.heap.size A1 m1 c1 x1) := HK.out.keep hb1 hb1.size
  replace HB := Lib.hid (HB.out.keep hb1)
  replace HD := Lib.hid (HD.out.keep hb1)
  replace HC := Lib.hid (HC.out.keep hb1)
  clear hb1 HK
  cases hf : fiB s1 m1 x1 (lists D)
  · have hno : Hid (imB s1 m1 x1 (lists D) = false) := imB_bad hf
    clear hf
    go_wp2
    go_ret
    exact ⟨ret_bool hno.out.symm, HB.out.below⟩
  have Hf := Lib.hid hf
  have hll : (lists D).length = D.length := by simp [lists]
  have Hll := Lib.hid hll
  clear hf hll
  go_wp2
  go_loopw [12] (fun i wr => ∃ k : Nat, k ≤ D.length ∧ i = .int .i64 k ∧ Hid (∀ j, j < k → fiB s1 m1 x1 ((lists D).eraseIdx j) = false) ∧ Hid (From w1 wr)) (fun i _ => D.length - (intOf i).toNat)
  case atStart => exact ⟨0, Nat.zero_le _, rfl, (fun j hj => absurd hj (by omega)), From.refl _⟩
  case round =>
    obtain ⟨k, hk, rfl, hall, HR⟩ := hrel
    have HBr := Lib.hid (HB.out.keep HR.out.below)
    by_cases hlt : k < D.length
    · have HCr := Lib.hid (HC.out.keep HR.out.below)
      have HDr := Lib.hid (HD.out.keep HR.out.below)
      have HKr : Hid (Rd wr wr.heap.size A1 m1 c1 x1) := HK1.out.keep HR.out.below HR.out.below.size
      have i1 : (k : Int) < (D.length : Int) := by omega
      have q0 := HCr.out.c0
      have q1 := HCr.out.c1
      have HSC : Hid (∀ z : World, Below wr.heap.size wr z → (Below wr.heap.size wr z ∧ z.cell? ⟨w.heap.size, 0, none⟩ = some (.int .i64 s1) ∧ z.cell? ⟨w.heap.size, 1, none⟩ = some (.slice A1 m1 c1))) := fun z hz => ⟨hz, up_ hz q0, up_ hz q1⟩
      have HZ1 : Hid (Below wr.heap.size wr wr.drew) := (Below.refl _ _).drew
      have HS1 := Lib.hid (HSC.out _ HZ1.out)
      have K1 := Lib.hid (withoutEdge_i A2 c2 D k wr.drew (HDr.out.keep HZ1.out) hlt hd)
      have hte := tot_erase D k
      have hle : (D.eraseIdx k).length ≤ D.length := List.length_eraseIdx_le ..
      have K2 : Hid (∀ (z : World) (A' : Option Addr) (c' : Nat), Below wr.heap.size wr z → LD z A' c' (D.eraseIdx k) → _) := fun z A' c' hz hl => fills_i s1 A1 m1 c1 x1 A' c' (D.eraseIdx k) z (HKr.out.keep hz hz.size) hl hm1 (by omega) (by omega)
      have He : Hid (lists (D.eraseIdx k) = (lists D).eraseIdx k) := lists_erase D k
      obtain ⟨t, ht2⟩ : ∃ t, t = fiB s1 m1 x1 ((lists D).eraseIdx k) := ⟨_, rfl⟩
      rw [He.out, ← ht2] at K2
      have Ht := Lib.hid ht2
      clear ht2 q0 q1 hte hle
      go_wp2
      go_region_held3 (fun z => Below wr.heap.size wr z ∧ z.cell? ⟨w.heap.size, 0, none⟩ = some (.int .i64 s1) ∧ z.cell? ⟨w.heap.size, 1, none⟩ = some (.slice A1 m1 c1))
        (first | exact HS1.out | assumption | exact HSC.out _ (by assumption) | exact HSC.out _ (bl_trans HZ1.out hb2) | fail)
        (first | (go_at_call 63; ((with_reducible refine K1.out.mono ?_); rintro e w2 ⟨A', c', rfl, hL2, hb2⟩)) | (go_at_call 62; ((with_reducible refine (K2.out _ _ _ (bl_trans HZ1.out hb2) hL2).mono ?_); rintro e w3 ⟨rfl, hb3⟩; have hz3 := bl_trans (bl_trans HZ1.out hb2) hb3)))
      have HR3 := Lib.hid (HR.out.keep hz3)
      have HB3 := Lib.hid (HBr.out.keep hz3)
      clear hb2 hb3 hz3 hL2 HSC HZ1 HS1 K1 K2 HR HBr HCr HDr HKr
      cases t
      · go_wp2
        go_roundw
        case rel =>
          refine ⟨k + 1, by omega, by go_num, fun j hj => ?_, HR3⟩
          by_cases hjk : j < k
          · exact hall.out j hjk
          · obtain rfl : j = k := by omega
            exact Ht.out.symm
        case measure => simp [intOf]; omega
      · have hno : Hid (imB s1 m1 x1 (lists D) = false) := imB_no (by rw [Hll.out]; exact hlt) Ht.out.symm
        go_wp2
        go_ret
        exact ⟨ret_bool hno.out.symm, HB3.out.below⟩
    · have hyes : Hid (imB s1 m1 x1 (lists D) = true) := imB_yes Hf.out fun i hi => hall.out i (by rw [Hll.out] at hi; omega)
      have i1 : (D.length : Int) ≤ (k : Int) := by omega
      go_wp2
      go_ret
      exact ⟨ret_bool hyes.out.symm, HBr.out.below⟩
end Go.Proofs.Ytnnlmdenffnjbaa
