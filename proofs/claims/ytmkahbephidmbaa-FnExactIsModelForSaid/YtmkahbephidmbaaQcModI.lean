/-
  Contract: are two lists those of intervals? The program's test.
-/
import Derived.Test.YtmkahbephidmbaaQcModP
namespace Go.Proofs.Ytmkahbephidmbaa
open Go.RowKit

set_option maxRecDepth 100000 in
set_option maxHeartbeats 3200000 in
theorem IsModel_i (Al : Option Addr) (n cl : Nat) (L : List Int) (Ar : Option Addr) (k cr : Nat) (R : List Int) (w : World) (hl : LI w Al n cl L) (hr : LI w Ar k cr R) :
    Calls Try.prog 64 #[.agg #[.slice Al n cl, .slice Ar k cr]] w fun e w' => e = .returned (.bool (imB L R)) ∧ Below w.heap.size w w' := by
  obtain ⟨W, hW⟩ : ∃ W : World, W = (w.alloc (Obj.cells #[Value.slice Al n cl, Value.slice Ar k cr] 37)) := ⟨_, rfl⟩
  have HB : Hid (From w W) := by rw [hW]; exact From.alloc _ _
  have HL := Lib.hid (hl.keep HB.out.below)
  have HR := Lib.hid (hr.keep HB.out.below)
  have HI : Hid (IB W w.heap.size Al n cl Ar k cr) := by rw [hW]; constructor <;> simp [go_sem]
  have HW := Lib.hid hW
  have HN := Lib.hid hl.len
  have HK := Lib.hid hr.len
  clear hW hl hr
  by_cases hn : 1 ≤ n ∧ n ≤ 7
  rotate_left
  · have Hn : Hid (imB L R = false) := im_len (by rw [← HN.out]; exact hn)
    have KW : Hid (decide ((1 : Int) ≤ (n : Int) ∧ (n : Int) ≤ 7) = false) := by show _ = _; exact decide_eq_false (by omega)
    clear hn
    go_enter Try.func64, Try.ntmps64
    have e0 := HI.out.c0
    have e1 := HI.out.c1
    go_wp2_with fail
    rw [← HW.out]
    refine (within_b (n := (n : Int)) (lo := 1) (hi := 7) W KW.out).mono ?_
    rintro e w1 ⟨rfl, hb1⟩
    clear HW
    clear e0 e1
    replace HB := Lib.hid (HB.out.keep hb1)
    replace HI := Lib.hid (HI.out.keep hb1)
    clear hb1
    have e0 := HI.out.c0
    have e1 := HI.out.c1
    go_wp2
    go_ret
    exact ⟨ret_bool Hn.out.symm, HB.out.below⟩
  have KW : Hid (decide ((1 : Int) ≤ (n : Int) ∧ (n : Int) ≤ 7) = true) := by show _ = _; exact decide_eq_true (by omega)
  by_cases hnk : k = n
  rotate_left
  · have Hn : Hid (imB L R = false) := im_same (by rw [← HN.out, ← HK.out]; exact hnk)
    have d1 : ((k : Int) != (n : Int)) = true := by simp; omega
    clear hn hnk
    go_enter Try.func64, Try.ntmps64
    have e0 := HI.out.c0
    have e1 := HI.out.c1
    go_wp2_with fail
    rw [← HW.out]
    refine (within_b (n := (n : Int)) (lo := 1) (hi := 7) W KW.out).mono ?_
    rintro e w2 ⟨rfl, hb2⟩
    clear HW
    clear e0 e1
    replace HB := Lib.hid (HB.out.keep hb2)
    replace HI := Lib.hid (HI.out.keep hb2)
    clear hb2
    have e0 := HI.out.c0
    have e1 := HI.out.c1
    go_wp2
    go_ret
    exact ⟨ret_bool Hn.out.symm, HB.out.below⟩
  subst hnk
  have d1 : ((k : Int) != (k : Int)) = false := by simp
  go_enter Try.func64, Try.ntmps64
  have e0 := HI.out.c0
  have e1 := HI.out.c1
  go_wp2_with fail
  rw [← HW.out]
  refine (within_b (n := (k : Int)) (lo := 1) (hi := 7) W KW.out).mono ?_
  rintro e w3 ⟨rfl, hb3⟩
  clear HW
  clear e0 e1
  replace HB := Lib.hid (HB.out.keep hb3)
  replace HI := Lib.hid (HI.out.keep hb3)
  replace HL := Lib.hid (HL.out.keep hb3)
  replace HR := Lib.hid (HR.out.keep hb3)
  clear hb3
  have e0 := HI.out.c0
  have e1 := HI.out.c1
  clear KW
  go_wp2
  go_loop [22] (fun iv => ∃ i : Nat, i ≤ k ∧ iv = .int .i64 i ∧ Hid (Im1 L R i)) (fun iv => k - (intOf iv).toNat)
  case atStart => exact ⟨0, Nat.zero_le _, rfl, Im1.zero⟩
  case round =>
    obtain ⟨i, hi, rfl, H1⟩ := hrel
    by_cases hik : i < k
    · have i1 : (i : Int) < (k : Int) := by omega
      obtain ⟨bl, ol, rfl⟩ := HL.out.addr (by omega)
      obtain ⟨br, or_, rfl⟩ := HR.out.addr (by omega)
      have p0 := HL.out.at hik
      have p1 := HR.out.at hik
      have hno := fun h => im_no (L := L) (R := R) (k := i) (by rw [← HN.out]; exact hik) h
      have hst := fun h => H1.out.step (L := L) (R := R) (k := i) h
      obtain ⟨a, ha⟩ : ∃ a : Int, a = L.getD i 0 := ⟨_, rfl⟩
      obtain ⟨b, hb⟩ : ∃ b : Int, b = R.getD i 0 := ⟨_, rfl⟩
      rw [← ha] at p0 hno hst
      rw [← hb] at p1 hno hst
      clear ha hb
      by_cases h0 : a < 0
      · have Hn : Hid (imB L R = false) := hno (by omega)
        clear hno hst
        go_wp2
        go_ret
        exact ⟨ret_bool Hn.out.symm, HB.out.below⟩
      have j0 : 0 ≤ a := by omega
      by_cases h1 : b < a
      · have Hn : Hid (imB L R = false) := hno (by omega)
        clear hno hst h0
        go_wp2
        go_ret
        exact ⟨ret_bool Hn.out.symm, HB.out.below⟩
      have j1 : a ≤ b := by omega
      by_cases h2 : 99 < b
      · have Hn : Hid (imB L R = false) := hno (by omega)
        clear hno hst h0 h1
        go_wp2
        go_ret
        exact ⟨ret_bool Hn.out.symm, HB.out.below⟩
      have j2 : b ≤ 99 := by omega
      have H1' : Hid (Im1 L R (i + 1)) := hst ⟨j0, j1, j2⟩
      clear hno hst h0 h1 h2
      go_wp2
      go_round
      case rel => exact ⟨i + 1, by omega, by go_num, H1'⟩
      case measure => (simp [intOf] <;> omega)
    · have Hy : Hid (imB L R = true) := im_yes (by rw [← HN.out]; exact hn) (by rw [← HN.out, ← HK.out]) (by rw [← HN.out]; have e : i = k := by omega
                                                                                                             rw [← e]; exact H1.out)
      have i1 : (k : Int) ≤ (i : Int) := by omega
      go_wp2
      go_ret
      exact ⟨ret_bool Hy.out.symm, HB.out.below⟩
end Go.Proofs.Ytmkahbephidmbaa
