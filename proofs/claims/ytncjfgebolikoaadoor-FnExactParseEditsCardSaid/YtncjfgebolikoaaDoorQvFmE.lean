/-
  Contracts: may a list of edits be written? The program's way (slices.ContainsFunc with the closure of FormatEdits).
-/
import Derived.Test.YtncjfgebolikoaaDoorQvFmS
import Derived.Test.YtncjfgebolikoaaDoorQvV
import Derived.Test.YtncjfgebolikoaaDoorQvGA
import Derived.Test.YtncjfgebolikoaaDoorQvGC
namespace Go.Proofs.YtncjfgebolikoaaDoor
open Go.RowKit

/-- A vertex that may be written. -/
def vxB (v : Int) : Bool := decide (0 ≤ v) && decide (v ≤ 6)
theorem vxB_yes {v : Int} (h : vxB v = true) : 0 ≤ v ∧ v ≤ 6 := by
  unfold vxB at h; simpa using h
theorem vxB_no {v : Int} (h : vxB v = false) : v < 0 ∨ 6 < v := by
  unfold vxB at h; simp only [Bool.and_eq_false_iff, decide_eq_false_iff_not] at h; omega

theorem within_v (v : Int) (w : World) : Calls Tryd.prog 25 #[.int .i64 v, .int .i64 0, .int .i64 6] w fun e w' => e = .returned (.bool (vxB v)) ∧ Below w.heap.size w w' :=
  (within_any v 0 6 w).mono fun _ _ ⟨h1, h2⟩ => ⟨h1, h2 ▸ Below.refl _ _⟩
theorem l1In_v (v : Int) (w : World) : Calls Tryd.prog 20 #[.int .i64 v, .int .i64 0, .int .i64 6] w fun e w' => e = .returned (.bool (vxB v)) ∧ Below w.heap.size w w' := by
  cases hv : vxB v
  · exact (l1In_no v 0 6 w (vxB_no hv)).mono fun _ _ ⟨h1, h2⟩ => ⟨h1, h2 ▸ Below.refl _ _⟩
  · exact (l1In_yes v 0 6 w (vxB_yes hv).1 (vxB_yes hv).2).mono fun _ _ ⟨h1, h2⟩ => ⟨h1, h2 ▸ Below.refl _ _⟩

/-- An edit that may be written. -/
def exB (v u : Int) : Bool := vxB v && vxB u

set_option maxHeartbeats 1000000 in
theorem FormatEditsF (a : Bool) (v u : Int) (w : World) : Calls Tryd.prog 24 #[.agg #[.bool a, .int .i64 v, .int .i64 u]] w fun e w' => e = .returned (.bool (!exB v u)) ∧ Below w.heap.size w w' := by
  obtain ⟨W, hW⟩ : ∃ W : World, W = w.alloc (Obj.cells #[.bool a, .int .i64 v, .int .i64 u] 49) := ⟨_, rfl⟩
  have HB : Hid (Below w.heap.size w W) := by rw [hW]; exact (Below.refl _ _).alloc (Nat.le_refl _) _
  have hz : w.heap.size < W.heap.size := by rw [hW]; simp
  have e1 : W.cell? ⟨w.heap.size, 1, none⟩ = some (.int .i64 v) := by rw [hW]; simp [go_sem]
  have e2 : W.cell? ⟨w.heap.size, 2, none⟩ = some (.int .i64 u) := by rw [hW]; simp [go_sem]
  have HW := Lib.hid hW
  clear hW
  have K1 := Lib.hid (within_v v W)
  cases h1 : vxB v
  · rw [h1] at K1
    have HE : Hid (exB v u = false) := by show _ = _; unfold exB; rw [h1]; rfl
    clear h1
    go_enter Tryd.func24, Tryd.ntmps24
    go_wp2_with fail
    rw [← HW.out]
    clear HW
    refine K1.out.mono ?_
    rintro e w1 ⟨rfl, hb1⟩
    have HB1 := Lib.hid (HB.out.trans (hb1.mono (by omega)))
    clear hb1
    go_wp2
    go_ret
    exact ⟨by rw [HE.out]; rfl, HB1.out⟩
  · rw [h1] at K1
    have HE : Hid (exB v u = vxB u) := by show _ = _; unfold exB; rw [h1]; rfl
    clear h1
    go_enter Tryd.func24, Tryd.ntmps24
    go_wp2_with fail
    rw [← HW.out]
    clear HW
    refine K1.out.mono ?_
    rintro e w1 ⟨rfl, hb1⟩
    have HB1 := Lib.hid (HB.out.trans (hb1.mono (by omega)))
    have f2 : w1.cell? ⟨w.heap.size, 2, none⟩ = some (.int .i64 u) := (hb1.cell (p := ⟨w.heap.size, 2, none⟩) hz).trans e2
    have hz1 := hb1.size
    clear hb1 e1 e2
    go_wp2_with fail
    refine (within_v u w1).mono ?_
    rintro e w2 ⟨rfl, hb2⟩
    have HB2 := Lib.hid (HB1.out.trans (hb2.mono (by omega)))
    clear hb2
    go_wp2
    go_ret
    exact ⟨by rw [HE.out]; rfl, HB2.out⟩

/-- The first edit that may not be written. -/
def exP (v u : Nat → Int) (n : Nat) : Int := fIdx (fun j => !exB (v j) (u j)) n
set_option maxHeartbeats 1000000 in
theorem IndexFunc_e (A : Option Addr) (n c : Nat) (a : Nat → Bool) (v u : Nat → Int) (w : World) (h : RdE w w.heap.size A n c a v u) (hn : n ≤ 1048577) :
    Calls Tryd.prog 49 #[.slice A n c, .func (.func 24) #[] #[]] w fun e w' => e = .returned (.int .i64 (exP v u n)) ∧ Below w.heap.size w w' := by
  have HL := Lib.hid h
  clear h
  go_enter Tryd.func49, Tryd.ntmps49
  go_wp2
  go_loopw [8] (fun i wr => ∃ k : Nat, k ≤ n ∧ i = .int .i64 k ∧ Hid (∀ j, j < k → (!exB (v j) (u j)) = false) ∧ Hid (Below w.heap.size w wr)) (fun i _ => n - (intOf i).toNat)
  case atStart => exact ⟨0, Nat.zero_le _, rfl, (fun j hj => absurd hj (by omega)), Below.refl _ _⟩
  case round =>
    obtain ⟨k, hk, rfl, hall, hbr⟩ := hrel
    have zr := hbr.out.size
    by_cases hlt : k < n
    · obtain ⟨b, o, rfl, hb, hc⟩ := (HL.out.keep hbr.out (Nat.le_refl _)).2 (by omega)
      obtain ⟨q0, q1, q2⟩ := hc k hlt
      have K1 := Lib.hid (FormatEditsF (a k) (v k) (u k) wr)
      have i1 : (k : Int) < (n : Int) := by omega
      clear hc
      cases hp : exB (v k) (u k)
      · rw [hp] at K1
        have Hi : Hid (exP v u n = k) := fIdx_yes hlt (by rw [hp]; rfl) hall.out
        clear hp
        go_wp2_with fail
        refine K1.out.mono ?_
        rintro e w3 ⟨rfl, hb3⟩
        have HB3 : Hid (Below w.heap.size w w3) := hbr.out.trans (hb3.mono zr)
        clear hb3 hbr q0 q1 q2
        go_wp2
        go_ret
        exact ⟨ret_int Hi.out.symm, HB3.out⟩
      · rw [hp] at K1
        have Hp : Hid ((!exB (v k) (u k)) = false) := by show _ = _; rw [hp]; rfl
        clear hp
        go_wp2_with fail
        refine K1.out.mono ?_
        rintro e w3 ⟨rfl, hb3⟩
        have HB3 : Hid (Below w.heap.size w w3) := hbr.out.trans (hb3.mono zr)
        clear hb3 hbr q0 q1 q2
        go_wp2
        go_roundw
        case rel =>
          refine ⟨k + 1, by omega, by go_num, fun j hj => ?_, HB3⟩
          by_cases hjk : j < k
          · exact hall.out j hjk
          · obtain rfl : j = k := by omega
            exact Hp.out
        case measure => simp [intOf]; omega
    · have Hi : Hid (exP v u n = -1) := fIdx_no fun j hj => hall.out j (by omega)
      have i1 : (n : Int) ≤ (k : Int) := by omega
      go_wp2
      go_ret
      exact ⟨ret_int Hi.out.symm, hbr.out⟩
theorem ContainsFunc_e (A : Option Addr) (n c : Nat) (a : Nat → Bool) (v u : Nat → Int) (w : World) (h : RdE w w.heap.size A n c a v u) (hn : n ≤ 1048577) :
    Calls Tryd.prog 23 #[.slice A n c, .func (.func 24) #[] #[]] w fun e w' => e = .returned (.bool (decide (0 ≤ exP v u n))) ∧ Below w.heap.size w w' := by
  have K := Lib.hid (IndexFunc_e A n c a v u w h hn)
  clear h
  obtain ⟨t, ht⟩ : ∃ t, t = exP v u n := ⟨_, rfl⟩
  rw [← ht] at K ⊢
  clear ht
  go_enter Tryd.func23, Tryd.ntmps23
  go_wp2_with fail
  refine K.out.mono ?_
  rintro e w1 ⟨rfl, hb1⟩
  have HB := Lib.hid hb1
  clear hb1
  go_wp2
  go_ret
  exact ⟨rfl, HB.out⟩
end Go.Proofs.YtncjfgebolikoaaDoor
