/-
  Contracts: GraphLine of both programs.
-/
import Derived.Test.YtppkokgiojcgbaaDoorQzSetT
import Derived.Test.YtppkokgiojcgbaaDoorQzDgI
import Derived.Test.YtppkokgiojcgbaaDoorQzPrtL
import Derived.Test.YtppkokgiojcgbaaDoorQzCutG
import Derived.Test.YtppkokgiojcgbaaDoorQzCloS
namespace Go.Proofs.YtppkokgiojcgbaaDoor
open Go.RowKit

theorem append_none (x : ByteArray) : x ++ (⟨#[]⟩ : ByteArray) = x := by
  apply ByteArray.ext
  simp
/-- The text of a list of sets. -/
def stT (L : List Nat) : ByteArray := cmJ (fun j => fsT (L.getD j 0)) L.length
theorem stT_size {L : List Nat} {n : Nat} (h : L.length = n) : (stT L).size ≤ 148 * n := by
  rw [← h]; exact cmJ_size (T := fun j => fsT (L.getD j 0)) (M := 147) L.length fun j _ => fsT_size _
theorem getD_all {L : List Nat} {b j : Nat} (h : ∀ p ∈ L, p < b) (hb : 0 < b) : L.getD j 0 < b := by
  by_cases hj : j < L.length
  · rw [getD_mem2 hj]; exact h _ (List.getElem_mem _)
  · simp only [List.getD, List.getElem?_eq_none (Nat.le_of_not_lt hj), Option.getD_none]; exact hb
theorem npL_some {r : Nat → Nat} {s : Nat} (hs : s < 128) (h : s ≠ 0) : (npL r s).length ≠ 0 := by rw [npL_succ hs h]; simp
def dgT (r : Nat → Nat) (m : Nat) : ByteArray := nuB (fun j => (((dgL r m).getD j 0 : Nat) : Int)) m
noncomputable def glY (m : Nat) (x : Nat → Int) : ByteArray :=
  ⟨#[103, 114, 97, 112, 104, 32]⟩ ++ fgB m m x ++ ⟨#[32, 100, 101, 103, 114, 101, 101, 115, 32]⟩ ++ dgT (rw_ x) m ++ ⟨#[32, 112, 97, 114, 116, 115, 32]⟩ ++ stT (npL (rw_ x) (2 ^ m - 1)) ++ ⟨#[32, 99, 108, 105, 113, 117, 101, 115, 32]⟩ ++ stT (mqL (rw_ x) m)
/-- What GraphLine answers. -/
noncomputable def glB (s : Int) (m : Nat) (x : Nat → Int) : ByteArray := if okB s m x = true then glY m x ++ (if cnB m m x = true then ⟨#[32, 99, 111, 110, 110, 101, 99, 116, 101, 100]⟩ else ⟨#[]⟩) else ⟨#[]⟩
theorem glB_no {s : Int} {m : Nat} {x : Nat → Int} (h : okB s m x = false) : glB s m x = ⟨#[]⟩ := by unfold glB; rw [h]; rfl
theorem glB_yes {s : Int} {m : Nat} {x : Nat → Int} (h : okB s m x = true) : glB s m x = glY m x ++ (if cnB m m x = true then ⟨#[32, 99, 111, 110, 110, 101, 99, 116, 101, 100]⟩ else ⟨#[]⟩) := by unfold glB; rw [if_pos h]
set_option maxRecDepth 100000 in
theorem l34Yes_s (b : Bool) (t : ByteArray) (w : World) :
    Calls Tryd.prog 17 #[.bool b, .string t] w fun e w' => e = .returned (.string (if b = true then t else ⟨#[]⟩)) ∧ Below w.heap.size w w' := by
  cases b
  · go_enter Tryd.func17, Tryd.ntmps17
    go_wp2
    go_ret
    exact ⟨rfl, Below.refl _ _⟩
  · go_enter Tryd.func17, Tryd.ntmps17
    go_wp2
    go_ret
    exact ⟨rfl, Below.refl _ _⟩
set_option maxRecDepth 100000 in
set_option maxHeartbeats 3200000 in
theorem IsConnected_v {A : Option Addr} {m c : Nat} {x : Nat → Int} {w : World} (h : GA w A m c x) (ho : okB m m x = true) :
    Calls Tryd.prog 28 #[.agg #[.int .i64 m, .slice A m c]] w fun e w' => e = .returned (.bool (cnB m m x)) ∧ Below w.heap.size w w' := by
  have hV := h.gv ho
  have HY : Hid (cnB m m x = decide (np (rw_ x) (2 ^ m - 1) = 1)) := by show _ = _; unfold cnB; rw [ho]; rfl
  have hn7 := hV.vg.n7
  have hpos := Nat.two_pow_pos m
  obtain ⟨W, hW⟩ : ∃ W : World, W = (w.alloc (Obj.cells #[Value.int IntKind.i64 m, Value.slice A m c] 27)) := ⟨_, rfl⟩
  have HB : Hid (From w W) := by rw [hW]; exact From.alloc _ _
  have HK : Hid (GV W A m c (rw_ x)) := hV.keep HB.out.below
  have HC : Hid (GC W w.heap.size m A m c) := by rw [hW]; exact GC.new _ _ _ _ _
  have HW := Lib.hid hW
  have e0 := HC.out.c0
  have e1 := HC.out.c1
  have HR0 : Hid (From W W) := From.refl _
  obtain ⟨F, hF⟩ : ∃ F, F = 2 ^ m - 1 := ⟨_, rfl⟩
  obtain ⟨k1, hk1⟩ : ∃ k, k = np (rw_ x) F := ⟨_, rfl⟩
  rw [← hF, ← hk1] at HY
  have KG : Hid (∀ z : World, Below W.heap.size W z → Calls Tryd.prog 20 #[.agg #[.int .i64 m, .slice A m c]] z fun e w' => e = .returned (.bool true) ∧ Below z.heap.size z w') := fun z hz => IsGraph_v (HK.out.keep hz)
  have KA : Hid (∀ z : World, Below W.heap.size W z → Calls Tryd.prog 26 #[.agg #[.int .i64 m, .slice A m c]] z fun e w' => e = .returned (.int .i64 (F : Int)) ∧ Below z.heap.size z w') := fun z hz => by rw [hF]; exact all_v (HK.out.keep hz)
  have KP : Hid (∀ z : World, Below W.heap.size W z → Calls Tryd.prog 25 #[.agg #[.int .i64 m, .slice A m c], .int .i64 F] z fun e w' => ∃ A' c', e = .returned (.slice A' k1 c') ∧ Below z.heap.size z w') := fun z hz => by rw [hk1]; exact parts_v (HK.out.keep hz) (by rw [hF]; omega)
  clear ho hV hk1 hF hW h HK
  go_enter Tryd.func28, Tryd.ntmps28
  go_wp2_with fail
  rw [← HW.out]
  clear HW
  have HSC : Hid (∀ z : World, Below W.heap.size W z → (Below W.heap.size W z ∧ z.cell? ⟨w.heap.size, 0, none⟩ = some (.int .i64 (m : Nat)) ∧ z.cell? ⟨w.heap.size, 1, none⟩ = some (.slice A m c))) := fun z hz => ⟨hz, up_ hz e0, up_ hz e1⟩
  have HZ0 : Hid (Below W.heap.size W W.drew) := (Below.refl _ _).drew
  have HS1 := Lib.hid (HSC.out _ HZ0.out)
  have KR1 : Hid (∀ z : World, Below W.heap.size W z → _) := fun z hz => KG.out z hz
  have KR2 : Hid (∀ z : World, Below W.heap.size W z → _) := fun z hz => KA.out z hz
  have KR3 : Hid (∀ z : World, Below W.heap.size W z → _) := fun z hz => KP.out z hz
  refine wp_region_held_drew (S := fun z => Below W.heap.size W z ∧ z.cell? ⟨w.heap.size, 0, none⟩ = some (.int .i64 (m : Nat)) ∧ z.cell? ⟨w.heap.size, 1, none⟩ = some (.slice A m c)) (by kernel_rfl) HS1.out (fun hHeld => ?_)
  refine take_yes (i := 0) (d := 3) (v := ?v1) rfl rfl (by kernel_rfl) (by kernel_rfl) (by kernel_rfl) (fun _ _ _ h => h) (by rfl) ?y1 (by assumption) ?r1
  case y1 => (intro w hSw; (try dsimp only at hSw); go_simp <;> with_reducible rfl)
  simp only [Act.put, List.setIfInBounds_toArray, List.set_cons_zero, List.set_cons_succ]
  refine wpAnyH_ready (rs := [1]) (by kernel_rfl) (by simp) ?_
  refine AllReadyH.cons rfl (fun K hK => ?_) AllReadyH.nil
  go_simp
  go_at_call 20; refine (KR1.out _ HZ0.out).mono ?_
  rintro e w1 ⟨rfl, hb1⟩
  have hz1 := bl_trans HZ0.out hb1
  refine hK.out _ _ (HSC.out _ hz1) (fun hHeld => ?_)
  clear hK K
  try simp only [Act.put, List.setIfInBounds_toArray, List.set_cons_zero, List.set_cons_succ]
  refine take_yes (i := 2) (d := 5) (v := ?v2) rfl rfl (by kernel_rfl) (by kernel_rfl) (by kernel_rfl) (fun _ _ _ h => h) (by rfl) ?y2 (by assumption) ?r2
  case y2 => (intro w hSw; (try dsimp only at hSw); go_simp <;> with_reducible rfl)
  simp only [Act.put, List.setIfInBounds_toArray, List.set_cons_zero, List.set_cons_succ]
  refine take_yes (i := 3) (d := 6) (v := ?v3) rfl rfl (by kernel_rfl) (by kernel_rfl) (by kernel_rfl) (fun _ _ _ h => h) (by rfl) ?y3 (by assumption) ?r3
  case y3 => (intro w hSw; (try dsimp only at hSw); go_simp <;> with_reducible rfl)
  simp only [Act.put, List.setIfInBounds_toArray, List.set_cons_zero, List.set_cons_succ]
  refine take_yes (i := 4) (d := 7) (v := ?v4) rfl rfl (by kernel_rfl) (by kernel_rfl) (by kernel_rfl) (fun _ _ _ h => h) (by rfl) ?y4 (by assumption) ?r4
  case y4 => (intro w hSw; (try dsimp only at hSw); go_simp <;> with_reducible rfl)
  simp only [Act.put, List.setIfInBounds_toArray, List.set_cons_zero, List.set_cons_succ]
  refine wpAnyH_ready (rs := [5]) (by kernel_rfl) (by simp) ?_
  refine AllReadyH.cons rfl (fun K hK => ?_) AllReadyH.nil
  go_simp
  go_at_call 26; refine (KR2.out _ hz1).mono ?_
  rintro e w2 ⟨rfl, hb2⟩
  have hz2 := bl_trans hz1 hb2
  refine hK.out _ _ (HSC.out _ hz2) (fun hHeld => ?_)
  clear hK K
  try simp only [Act.put, List.setIfInBounds_toArray, List.set_cons_zero, List.set_cons_succ]
  refine wpAnyH_ready (rs := [6]) (by kernel_rfl) (by simp) ?_
  refine AllReadyH.cons rfl (fun K hK => ?_) AllReadyH.nil
  go_simp
  go_at_call 25; refine (KR3.out _ hz2).mono ?_
  rintro e w3 ⟨A1, d1, rfl, hb3⟩
  have hz3 := bl_trans hz2 hb3
  refine hK.out _ _ (HSC.out _ hz3) (fun hHeld => ?_)
  clear hK K
  try simp only [Act.put, List.setIfInBounds_toArray, List.set_cons_zero, List.set_cons_succ]
  refine take_yes (i := 7) (d := 10) (v := ?v5) rfl rfl (by kernel_rfl) (by kernel_rfl) (by kernel_rfl) (fun _ _ _ h => h) (by rfl) ?y5 (by assumption) ?r5
  case y5 => (intro w hSw; (try dsimp only at hSw); go_simp <;> with_reducible rfl)
  simp only [Act.put, List.setIfInBounds_toArray, List.set_cons_zero, List.set_cons_succ]
  refine take_yes (i := 8) (d := 11) (v := ?v6) rfl rfl (by kernel_rfl) (by kernel_rfl) (by kernel_rfl) (fun _ _ _ h => h) (by rfl) ?y6 (by assumption) ?r6
  case y6 => (intro w hSw; (try dsimp only at hSw); go_simp <;> with_reducible rfl)
  simp only [Act.put, List.setIfInBounds_toArray, List.set_cons_zero, List.set_cons_succ]
  refine take_yes (i := 9) (d := 12) (v := ?v7) rfl rfl (by kernel_rfl) (by kernel_rfl) (by kernel_rfl) (fun _ _ _ h => h) (by rfl) ?y7 (by assumption) ?r7
  case y7 => (intro w hSw; (try dsimp only at hSw); go_simp <;> with_reducible rfl)
  simp only [Act.put, List.setIfInBounds_toArray, List.set_cons_zero, List.set_cons_succ]
  refine take_yes (i := 10) (d := 2) (v := ?v8) rfl rfl (by kernel_rfl) (by kernel_rfl) (by kernel_rfl) (fun _ _ _ h => h) (by rfl) ?y8 (by assumption) ?r8
  case y8 => (intro w hSw; (try dsimp only at hSw); go_simp <;> with_reducible rfl)
  simp only [Act.put, List.setIfInBounds_toArray, List.set_cons_zero, List.set_cons_succ]
  refine wpAnyH_done (by kernel_rfl) ?_ _
  replace HR0 := Lib.hid (HR0.out.keep hz3)
  clear hb1 hz1 hb2 hz2 hb3 hz3 HSC HZ0 HS1 KR1 KR2 KR3
  go_wp2
  go_ret
  refine ⟨ret_bool ?_, (HB.out.up HR0.out).below⟩
  rw [HY.out]
  by_cases hk : k1 = 1
  · subst hk; simp
  · rw [decide_eq_false hk]; simp; omega

set_option maxRecDepth 100000 in
set_option maxHeartbeats 3200000 in
theorem GraphLine_i (sz : Int) (A : Option Addr) (m c : Nat) (x : Nat → Int) (w : World) (h : Rd w w.heap.size A m c x) (hm : m ≤ 1048576) (hT : Tb w) :
    Calls Tryd.prog 7 #[.agg #[.int .i64 sz, .slice A m c]] w fun e w' => e = .returned (.string (glB sz m x)) ∧ Below w.heap.size w w' := by
  obtain ⟨W, hW⟩ : ∃ W : World, W = (w.alloc (Obj.cells #[Value.int IntKind.i64 sz, Value.slice A m c] 27)) := ⟨_, rfl⟩
  have HB : Hid (From w W) := by rw [hW]; exact From.alloc _ _
  have HC : Hid (GC W w.heap.size sz A m c) := by rw [hW]; exact GC.new _ _ _ _ _
  have HK : Hid (∀ z, Below w.heap.size w z → GA z A m c x) := fun z hz => ⟨h.keep hz hz.size⟩
  have HW := Lib.hid hW
  have HT := Lib.hid hT
  clear hT
  clear hW h
  have KF : Hid (∀ z, Below w.heap.size w z → _) := fun z hz => IsGraph_any sz A m c x z z.heap.size (HK.out z hz).rd (Nat.le_refl _) hm
  cases ho : okB sz m x
  · have HO := Lib.hid (glB_no ho)
    rw [ho] at KF
    clear ho HK
    go_enter Tryd.func7, Tryd.ntmps7
    have e0 := HC.out.c0
    have e1 := HC.out.c1
    go_wp2_with fail
    rw [← HW.out]
    refine (KF.out W HB.out.below).mono ?_
    rintro e w1 ⟨rfl, hb1⟩
    clear HW
    clear e0 e1
    replace HB := Lib.hid (HB.out.keep hb1)
    replace HC := Lib.hid (HC.out.keep hb1)
    clear hb1
    have e0 := HC.out.c0
    have e1 := HC.out.c1
    go_wp2
    go_ret
    exact ⟨by rw [HO.out]; rfl, HB.out.below⟩
  obtain ⟨_, es, vg, _⟩ := okB_ok' ho
  subst es
  have hn7 := vg.n7
  have h128 := two_pow_le hn7
  have hpos := Nat.two_pow_pos m
  have hO := glB_yes ho
  rw [ho] at KF
  have HV : Hid (∀ z, Below w.heap.size w z → GV z A m c (rw_ x)) := fun z hz => (HK.out z hz).gv ho
  unfold glY at hO
  have HO := Lib.hid hO
  clear hO
  obtain ⟨F, hF⟩ : ∃ F, F = 2 ^ m - 1 := ⟨_, rfl⟩
  have hm1 := vg.n1
  have hF0 : F ≠ 0 := by
    have : 2 ^ 1 ≤ 2 ^ m := Nat.pow_le_pow_right (by omega) hm1
    omega
  rw [← hF] at HO
  have hPl := npL_lt (r := rw_ x) (b := m) (F + 1) F (by omega) (by omega) h128
  have hPn := npL_len (r := rw_ x) (F + 1) F (by omega)
  have hP0 := npL_some (r := rw_ x) (by omega : F < 128) hF0
  have hCn := mqK_len (rw_ x) m (2 ^ m)
  have hCl : ∀ p ∈ mqL (rw_ x) m, p < 2 ^ m := fun p hp => (mem_mqL.1 hp).1
  have hC0 : (mqL (rw_ x) m).length ≠ 0 := fun h => mqL_ne (okB_vg ho).1 (List.length_eq_zero_iff.1 h)
  have hCn : (mqL (rw_ x) m).length ≤ 2 ^ m := hCn
  have KG : Hid (∀ z, Below w.heap.size w z → _) := fun z hz => FormatGraph_i m A m c x z (HK.out z hz).rd hm
  have KD : Hid (∀ z, Below w.heap.size w z → _) := fun z hz => DegreesOf_v (HV.out z hz)
  have KN : Hid (∀ (z : World) (lo : Nat) (A' : Option Addr) (c' : Nat), Below w.heap.size w z → ON lo z A' c' (dgL (rw_ x) m) → Calls Tryd.prog 22 #[.slice A' m c'] z fun e w' => e = .returned (.string (dgT (rw_ x) m)) ∧ Below z.heap.size z w') := fun z lo A' c' hz hO => by
    have hr := hO.ln.rd
    rw [dgL_len] at hr
    exact numbersText_i A' m c' _ z hr (fun j _ => by have := dgL_lt (rw_ x) m j; exact ⟨by omega, by omega⟩) hm (HT.out.keep hz)
  have KP : Hid (∀ z, Below w.heap.size w z → _) := fun z hz => parts_l m A c x F z z.heap.size (HK.out z hz).rd (Nat.le_refl _) ho (by omega)
  have KS1 : Hid (∀ (z : World) (lo : Nat) (A' : Option Addr) (c' : Nat), Below w.heap.size w z → ON lo z A' c' (npL (rw_ x) F) → Calls Tryd.prog 24 #[.slice A' (npL (rw_ x) F).length c'] z fun e w' => e = .returned (.string (stT (npL (rw_ x) F))) ∧ Below z.heap.size z w') := fun z lo A' c' hz hO =>
    setsText_i A' _ c' (fun j => (npL (rw_ x) F).getD j 0) z hO.ln.rd (fun j _ => Nat.lt_of_lt_of_le (getD_all hPl hpos) h128) (by omega) (HT.out.keep hz)
  have KM : Hid (∀ z, Below w.heap.size w z → _) := fun z hz => MaximalCliques_v (HV.out z hz)
  have KS2 : Hid (∀ (z : World) (lo : Nat) (A' : Option Addr) (c' : Nat), Below w.heap.size w z → ON lo z A' c' (mqL (rw_ x) m) → Calls Tryd.prog 24 #[.slice A' (mqL (rw_ x) m).length c'] z fun e w' => e = .returned (.string (stT (mqL (rw_ x) m))) ∧ Below z.heap.size z w') := fun z lo A' c' hz hO =>
    setsText_i A' _ c' (fun j => (mqL (rw_ x) m).getD j 0) z hO.ln.rd (fun j _ => Nat.lt_of_lt_of_le (getD_all hCl hpos) h128) (by omega) (HT.out.keep hz)
  have KA : Hid (∀ z, Below w.heap.size w z → Calls Tryd.prog 26 #[.agg #[.int .i64 m, .slice A m c]] z fun e w' => e = .returned (.int .i64 (F : Int)) ∧ Below z.heap.size z w') := fun z hz => by rw [hF]; exact all_v (HV.out z hz)
  have KC : Hid (∀ z, Below w.heap.size w z → _) := fun z hz => IsConnected_v (HK.out z hz) ho
  have z1 := fgB_size (s := m) (m := m) (x := x)
  have z2 : (dgT (rw_ x) m).size ≤ 22 * m + 4 := nuB_size fun j _ => by have := dgL_lt (rw_ x) m j; exact ⟨by omega, by omega⟩
  have z3 := stT_size (L := npL (rw_ x) F) rfl
  have z4 := stT_size (L := mqL (rw_ x) m) rfl
  obtain ⟨S1, hS1⟩ : ∃ X, X = fgB m m x := ⟨_, rfl⟩
  obtain ⟨S2, hS2⟩ : ∃ X, X = dgT (rw_ x) m := ⟨_, rfl⟩
  obtain ⟨S3, hS3⟩ : ∃ X, X = stT (npL (rw_ x) F) := ⟨_, rfl⟩
  obtain ⟨S4, hS4⟩ : ∃ X, X = stT (mqL (rw_ x) m) := ⟨_, rfl⟩
  rw [← hS1] at KG HO z1
  rw [← hS2] at KN HO z2
  rw [← hS3] at KS1 HO z3
  rw [← hS4] at KS2 HO z4
  obtain ⟨LD, hLD⟩ : ∃ X, X = dgL (rw_ x) m := ⟨_, rfl⟩
  obtain ⟨LP, hLP⟩ : ∃ X, X = npL (rw_ x) F := ⟨_, rfl⟩
  obtain ⟨LC, hLC⟩ : ∃ X, X = mqL (rw_ x) m := ⟨_, rfl⟩
  rw [← hLD] at KD KN
  rw [← hLP] at KP KS1 hPn z3
  rw [← hLC] at KM KS2 hCn z4
  obtain ⟨nP, hnP⟩ : ∃ n, n = LP.length := ⟨_, rfl⟩
  obtain ⟨nC, hnC⟩ : ∃ n, n = LC.length := ⟨_, rfl⟩
  rw [← hnP] at KP KS1 hPn z3
  rw [← hnC] at KM KS2 hCn z4
  obtain ⟨b, hb⟩ : ∃ b, b = cnB m m x := ⟨_, rfl⟩
  rw [← hb] at KC HO
  have gd0 : ¬ 9223372036854775807 < 6 + S1.size := by omega
  have gd1 : ¬ 9223372036854775807 < 6 + S1.size + 9 := by omega
  have gd2 : ¬ 9223372036854775807 < 6 + S1.size + 9 + S2.size := by omega
  have gd3 : ¬ 9223372036854775807 < 6 + S1.size + 9 + S2.size + 7 := by omega
  have gd4 : ¬ 9223372036854775807 < 6 + S1.size + 9 + S2.size + 7 + S3.size := by omega
  have gd5 : ¬ 9223372036854775807 < 6 + S1.size + 9 + S2.size + 7 + S3.size + 9 := by omega
  have gd6 : ¬ 9223372036854775807 < 6 + S1.size + 9 + S2.size + 7 + S3.size + 9 + S4.size := by omega
  have gd7 : ¬ 9223372036854775807 < 6 + S1.size + 9 + S2.size + 7 + S3.size + 9 + S4.size + 10 := by omega
  clear hS1 hS2 hS3 hS4 hLD hLP hLC hnP hnC hb ho vg HK HV z1 z2 z3 z4 hPl hPn hP0 hCn hCl hC0 hF hF0
  go_enter Tryd.func7, Tryd.ntmps7
  have e0 := HC.out.c0
  have e1 := HC.out.c1
  go_wp2_with fail
  rw [← HW.out]
  refine (KF.out W HB.out.below).mono ?_
  rintro e w2 ⟨rfl, hb2⟩
  clear HW
  clear e0 e1
  replace HB := Lib.hid (HB.out.keep hb2)
  replace HC := Lib.hid (HC.out.keep hb2)
  clear hb2
  have e0 := HC.out.c0
  have e1 := HC.out.c1
  clear KF
  go_wp2
  have HSC : Hid (∀ z : World, Below w2.heap.size w2 z → (Below w2.heap.size w2 z ∧ z.cell? ⟨w.heap.size, 0, none⟩ = some (.int .i64 (m : Nat)) ∧ z.cell? ⟨w.heap.size, 1, none⟩ = some (.slice A m c))) := fun z hz => ⟨hz, up_ hz e0, up_ hz e1⟩
  have HZ0 : Hid (Below w2.heap.size w2 w2.drew) := (Below.refl _ _).drew
  have HS1 := Lib.hid (HSC.out _ HZ0.out)
  have KR1 : Hid (∀ z : World, Below w2.heap.size w2 z → _) := fun z hz => KG.out z (HB.out.below.trans (hz.mono HB.out.below.size))
  have KR2 : Hid (∀ z : World, Below w2.heap.size w2 z → _) := fun z hz => KD.out z (HB.out.below.trans (hz.mono HB.out.below.size))
  have KR4 : Hid (∀ z : World, Below w2.heap.size w2 z → _) := fun z hz => KA.out z (HB.out.below.trans (hz.mono HB.out.below.size))
  have KR5 : Hid (∀ z : World, Below w2.heap.size w2 z → _) := fun z hz => KP.out z (HB.out.below.trans (hz.mono HB.out.below.size))
  have KR7 : Hid (∀ z : World, Below w2.heap.size w2 z → _) := fun z hz => KM.out z (HB.out.below.trans (hz.mono HB.out.below.size))
  go_region_held3 (fun z => Below w2.heap.size w2 z ∧ z.cell? ⟨w.heap.size, 0, none⟩ = some (.int .i64 (m : Nat)) ∧ z.cell? ⟨w.heap.size, 1, none⟩ = some (.slice A m c))
    (first | exact HS1.out | assumption | exact HSC.out _ hz10 | exact HSC.out _ hz9 | exact HSC.out _ hz8 | exact HSC.out _ hz7 | exact HSC.out _ hz6 | exact HSC.out _ hz5 | exact HSC.out _ hz4 | exact HSC.out _ hz3 | fail)
    (first | (go_at_call 21; ((with_reducible refine (KR1.out _ HZ0.out).mono ?_); rintro e w3 ⟨rfl, hb3⟩; have hz3 := bl_trans HZ0.out hb3)) | (go_at_call 23; ((with_reducible refine (KR2.out _ hz3).mono ?_); rintro e w4 ⟨A4, c4, rfl, hO4, hb4⟩; have hz4 := bl_trans hz3 hb4)) | (go_at_call 22; ((with_reducible refine (KN.out _ _ _ _ (HB.out.below.trans (hz4.mono HB.out.below.size)) hO4).mono ?_); rintro e w5 ⟨rfl, hb5⟩; have hz5 := bl_trans hz4 hb5)) | (go_at_call 26; ((with_reducible refine (KR4.out _ hz5).mono ?_); rintro e w6 ⟨rfl, hb6⟩; have hz6 := bl_trans hz5 hb6)) | (go_at_call 25; ((with_reducible refine (KR5.out _ hz6).mono ?_); rintro e w7 ⟨A7, c7, rfl, hO7, hb7⟩; have hz7 := bl_trans hz6 hb7)) | (go_at_call 24; ((with_reducible refine (KS1.out _ _ _ _ (HB.out.below.trans (hz7.mono HB.out.below.size)) hO7).mono ?_); rintro e w8 ⟨rfl, hb8⟩; have hz8 := bl_trans hz7 hb8)) | (go_at_call 27; ((with_reducible refine (KR7.out _ hz8).mono ?_); rintro e w9 ⟨A9, c9, rfl, hO9, hb9⟩; have hz9 := bl_trans hz8 hb9)) | (go_at_call 24; ((with_reducible refine (KS2.out _ _ _ _ (HB.out.below.trans (hz9.mono HB.out.below.size)) hO9).mono ?_); rintro e w10 ⟨rfl, hb10⟩; have hz10 := bl_trans hz9 hb10)))
  clear e0 e1
  replace HB := Lib.hid (HB.out.keep hz10)
  replace HC := Lib.hid (HC.out.keep hz10)
  clear hb3 hz3 hb4 hz4 hb5 hz5 hb6 hz6 hb7 hz7 hb8 hz8 hb9 hz9 hb10 hz10 HSC HZ0 HS1 KR1 KR2 KR4 KR5 KR7
  have e0 := HC.out.c0
  have e1 := HC.out.c1
  clear gd0 gd1 gd2 gd3 gd4 gd5 gd6
  go_wp2_with fail
  refine (KC.out w10 HB.out.below).mono ?_
  rintro e w11 ⟨rfl, hb11⟩
  clear e0 e1
  replace HB := Lib.hid (HB.out.keep hb11)
  replace HC := Lib.hid (HC.out.keep hb11)
  clear hb11
  have e0 := HC.out.c0
  have e1 := HC.out.c1
  have gd8 : ¬ 9223372036854775807 < (⟨#[103, 114, 97, 112, 104, 32]⟩ ++ S1 ++ ⟨#[32, 100, 101, 103, 114, 101, 101, 115, 32]⟩ ++ S2 ++ ⟨#[32, 112, 97, 114, 116, 115, 32]⟩ ++ S3 ++ ⟨#[32, 99, 108, 105, 113, 117, 101, 115, 32]⟩ ++ S4).size + 10 := by
    simp only [ByteArray.size_append]
    exact gd7
  cases b
  · go_wp2
    go_ret
    exact ⟨by rw [HO.out]; exact congrArg (fun s => Ending.returned (Value.string s)) (append_none _).symm, HB.out.below⟩
  · go_wp2
    go_ret
    exact ⟨by rw [HO.out]; rfl, HB.out.below⟩

set_option maxRecDepth 100000 in
set_option maxHeartbeats 3200000 in
theorem GraphLine_s (sz : Int) (A : Option Addr) (m c : Nat) (x : Nat → Int) (w : World) (h : Rd w w.heap.size A m c x) (hm : m ≤ 1048576) :
    Calls Tryd.prog 5 #[.agg #[.int .i64 sz, .slice A m c]] w fun e w' => e = .returned (.string (glB sz m x)) ∧ Below w.heap.size w w' := by
  obtain ⟨W, hW⟩ : ∃ W : World, W = (w.alloc (Obj.cells #[Value.int IntKind.i64 sz, Value.slice A m c] 27)) := ⟨_, rfl⟩
  have HB : Hid (From w W) := by rw [hW]; exact From.alloc _ _
  have HC : Hid (GC W w.heap.size sz A m c) := by rw [hW]; exact GC.new _ _ _ _ _
  have HK : Hid (∀ z, Below w.heap.size w z → GA z A m c x) := fun z hz => ⟨h.keep hz hz.size⟩
  have HW := Lib.hid hW
  clear hW h
  have KF : Hid (∀ z, Below w.heap.size w z → _) := fun z hz => IsGraph_sany sz A m c x z z.heap.size (HK.out z hz).rd (Nat.le_refl _) hm
  cases ho : okB sz m x
  · have HO := Lib.hid (glB_no ho)
    rw [ho] at KF
    clear ho HK
    go_enter Tryd.func5, Tryd.ntmps5
    have e0 := HC.out.c0
    have e1 := HC.out.c1
    go_wp2_with fail
    rw [← HW.out]
    refine (KF.out W HB.out.below).mono ?_
    rintro e w1 ⟨rfl, hb1⟩
    clear HW
    clear e0 e1
    replace HB := Lib.hid (HB.out.keep hb1)
    replace HC := Lib.hid (HC.out.keep hb1)
    clear hb1
    have e0 := HC.out.c0
    have e1 := HC.out.c1
    go_wp2
    go_ret
    exact ⟨by rw [HO.out]; rfl, HB.out.below⟩
  obtain ⟨_, es, vg, _⟩ := okB_ok' ho
  subst es
  have hn7 := vg.n7
  have h128 := two_pow_le hn7
  have hpos := Nat.two_pow_pos m
  have hO := glB_yes ho
  rw [ho] at KF
  have HV : Hid (∀ z, Below w.heap.size w z → GV z A m c (rw_ x)) := fun z hz => (HK.out z hz).gv ho
  unfold glY at hO
  have HO := Lib.hid hO
  clear hO
  obtain ⟨F, hF⟩ : ∃ F, F = 2 ^ m - 1 := ⟨_, rfl⟩
  have hm1 := vg.n1
  have hF0 : F ≠ 0 := by
    have : 2 ^ 1 ≤ 2 ^ m := Nat.pow_le_pow_right (by omega) hm1
    omega
  rw [← hF] at HO
  have hPl := npL_lt (r := rw_ x) (b := m) (F + 1) F (by omega) (by omega) h128
  have hPn := npL_len (r := rw_ x) (F + 1) F (by omega)
  have hP0 := npL_some (r := rw_ x) (by omega : F < 128) hF0
  have hCn := mqK_len (rw_ x) m (2 ^ m)
  have hCl : ∀ p ∈ mqL (rw_ x) m, p < 2 ^ m := fun p hp => (mem_mqL.1 hp).1
  have hC0 : (mqL (rw_ x) m).length ≠ 0 := fun h => mqL_ne (okB_vg ho).1 (List.length_eq_zero_iff.1 h)
  have hCn : (mqL (rw_ x) m).length ≤ 2 ^ m := hCn
  have KG : Hid (∀ z, Below w.heap.size w z → _) := fun z hz => FormatGraph_s m A m c x z (HK.out z hz).rd hm
  have KD : Hid (∀ z, Below w.heap.size w z → _) := fun z hz => DegreesOf_sv (HV.out z hz)
  have KN : Hid (∀ (z : World) (lo : Nat) (A' : Option Addr) (c' : Nat), Below w.heap.size w z → ON lo z A' c' (dgL (rw_ x) m) → Calls Tryd.prog 12 #[.slice A' m c'] z fun e w' => e = .returned (.string (dgT (rw_ x) m)) ∧ Below z.heap.size z w') := fun z lo A' c' hz hO => by
    have hr := hO.ln.rd
    rw [dgL_len] at hr
    exact l33Numbers_s A' m c' _ z hr (fun j _ => by have := dgL_lt (rw_ x) m j; exact ⟨by omega, by omega⟩) hm
  have KP : Hid (∀ z, Below w.heap.size w z → _) := fun z hz => PartsOf_l m A c x F z z.heap.size (HK.out z hz).rd (Nat.le_refl _) ho (by omega)
  have KS1 : Hid (∀ (z : World) (lo : Nat) (A' : Option Addr) (c' : Nat), Below w.heap.size w z → ON lo z A' c' (npL (rw_ x) F) → Calls Tryd.prog 14 #[.slice A' (npL (rw_ x) F).length c'] z fun e w' => e = .returned (.string (stT (npL (rw_ x) F))) ∧ Below z.heap.size z w') := fun z lo A' c' hz hO =>
    l34Sets_s A' _ c' (fun j => (npL (rw_ x) F).getD j 0) z hO.ln.rd (fun j _ => Nat.lt_of_lt_of_le (getD_all hPl hpos) h128) (by omega) hP0
  have KM : Hid (∀ z, Below w.heap.size w z → _) := fun z hz => MaximalCliques_sv (HV.out z hz)
  have KS2 : Hid (∀ (z : World) (lo : Nat) (A' : Option Addr) (c' : Nat), Below w.heap.size w z → ON lo z A' c' (mqL (rw_ x) m) → Calls Tryd.prog 14 #[.slice A' (mqL (rw_ x) m).length c'] z fun e w' => e = .returned (.string (stT (mqL (rw_ x) m))) ∧ Below z.heap.size z w') := fun z lo A' c' hz hO =>
    l34Sets_s A' _ c' (fun j => (mqL (rw_ x) m).getD j 0) z hO.ln.rd (fun j _ => Nat.lt_of_lt_of_le (getD_all hCl hpos) h128) (by omega) hC0
  have KC : Hid (∀ z, Below w.heap.size w z → _) := fun z hz => IsConnected_s (m : Int) A m c x z (HK.out z hz) hm
  have p2 := pow_shl m hn7
  have s1 : IntKind.i64.wrap ((2 : Int) ^ m - 1) = (F : Int) := by
    have pc : (2 : Int) ^ m = ((2 ^ m : Nat) : Int) := by simp
    have : (2 : Int) ^ m - 1 = (F : Int) := by rw [pc, hF]; omega
    rw [this]; exact Go.IntWalk.i64_in (F : Int) (by rw [hF]; omega)
  have z1 := fgB_size (s := m) (m := m) (x := x)
  have z2 : (dgT (rw_ x) m).size ≤ 22 * m + 4 := nuB_size fun j _ => by have := dgL_lt (rw_ x) m j; exact ⟨by omega, by omega⟩
  have z3 := stT_size (L := npL (rw_ x) F) rfl
  have z4 := stT_size (L := mqL (rw_ x) m) rfl
  obtain ⟨S1, hS1⟩ : ∃ X, X = fgB m m x := ⟨_, rfl⟩
  obtain ⟨S2, hS2⟩ : ∃ X, X = dgT (rw_ x) m := ⟨_, rfl⟩
  obtain ⟨S3, hS3⟩ : ∃ X, X = stT (npL (rw_ x) F) := ⟨_, rfl⟩
  obtain ⟨S4, hS4⟩ : ∃ X, X = stT (mqL (rw_ x) m) := ⟨_, rfl⟩
  rw [← hS1] at KG HO z1
  rw [← hS2] at KN HO z2
  rw [← hS3] at KS1 HO z3
  rw [← hS4] at KS2 HO z4
  obtain ⟨LD, hLD⟩ : ∃ X, X = dgL (rw_ x) m := ⟨_, rfl⟩
  obtain ⟨LP, hLP⟩ : ∃ X, X = npL (rw_ x) F := ⟨_, rfl⟩
  obtain ⟨LC, hLC⟩ : ∃ X, X = mqL (rw_ x) m := ⟨_, rfl⟩
  rw [← hLD] at KD KN
  rw [← hLP] at KP KS1 hPn z3
  rw [← hLC] at KM KS2 hCn z4
  obtain ⟨nP, hnP⟩ : ∃ n, n = LP.length := ⟨_, rfl⟩
  obtain ⟨nC, hnC⟩ : ∃ n, n = LC.length := ⟨_, rfl⟩
  rw [← hnP] at KP KS1 hPn z3
  rw [← hnC] at KM KS2 hCn z4
  obtain ⟨b, hb⟩ : ∃ b, b = cnB m m x := ⟨_, rfl⟩
  rw [← hb] at KC HO
  have gd0 : ¬ 9223372036854775807 < 6 + S1.size := by omega
  have gd1 : ¬ 9223372036854775807 < 6 + S1.size + 9 := by omega
  have gd2 : ¬ 9223372036854775807 < 6 + S1.size + 9 + S2.size := by omega
  have gd3 : ¬ 9223372036854775807 < 6 + S1.size + 9 + S2.size + 7 := by omega
  have gd4 : ¬ 9223372036854775807 < 6 + S1.size + 9 + S2.size + 7 + S3.size := by omega
  have gd5 : ¬ 9223372036854775807 < 6 + S1.size + 9 + S2.size + 7 + S3.size + 9 := by omega
  have gd6 : ¬ 9223372036854775807 < 6 + S1.size + 9 + S2.size + 7 + S3.size + 9 + S4.size := by omega
  obtain ⟨Y, hY⟩ : ∃ Y : ByteArray, Y = if b = true then ⟨#[32, 99, 111, 110, 110, 101, 99, 116, 101, 100]⟩ else ⟨#[]⟩ := ⟨_, rfl⟩
  have zY : Y.size ≤ 10 := by rw [hY]; cases b <;> decide
  have KY : Hid (∀ z : World, Calls Tryd.prog 17 #[.bool b, .string ⟨#[32, 99, 111, 110, 110, 101, 99, 116, 101, 100]⟩] z fun e w' => e = .returned (.string Y) ∧ Below z.heap.size z w') := fun z => by rw [hY]; exact l34Yes_s b _ z
  rw [← hY] at HO
  have gd7 : ¬ 9223372036854775807 < 6 + S1.size + 9 + S2.size + 7 + S3.size + 9 + S4.size + Y.size := by omega
  clear hY zY
  clear hS1 hS2 hS3 hS4 hLD hLP hLC hnP hnC hb ho vg HK HV z1 z2 z3 z4 hPl hPn hP0 hCn hCl hC0 hF hF0
  go_enter Tryd.func5, Tryd.ntmps5
  have e0 := HC.out.c0
  have e1 := HC.out.c1
  go_wp2_with fail
  rw [← HW.out]
  refine (KF.out W HB.out.below).mono ?_
  rintro e w2 ⟨rfl, hb2⟩
  clear HW
  clear e0 e1
  replace HB := Lib.hid (HB.out.keep hb2)
  replace HC := Lib.hid (HC.out.keep hb2)
  clear hb2
  have e0 := HC.out.c0
  have e1 := HC.out.c1
  clear KF
  go_wp2
  have HSC : Hid (∀ z : World, Below w2.heap.size w2 z → (Below w2.heap.size w2 z ∧ z.cell? ⟨w.heap.size, 0, none⟩ = some (.int .i64 (m : Nat)) ∧ z.cell? ⟨w.heap.size, 1, none⟩ = some (.slice A m c))) := fun z hz => ⟨hz, up_ hz e0, up_ hz e1⟩
  have HZ0 : Hid (Below w2.heap.size w2 w2.drew) := (Below.refl _ _).drew
  have HS1 := Lib.hid (HSC.out _ HZ0.out)
  have KR1 : Hid (∀ z : World, Below w2.heap.size w2 z → _) := fun z hz => KG.out z (HB.out.below.trans (hz.mono HB.out.below.size))
  have KR2 : Hid (∀ z : World, Below w2.heap.size w2 z → _) := fun z hz => KD.out z (HB.out.below.trans (hz.mono HB.out.below.size))
  have KR4 : Hid (∀ z : World, Below w2.heap.size w2 z → _) := fun z hz => KP.out z (HB.out.below.trans (hz.mono HB.out.below.size))
  have KR6 : Hid (∀ z : World, Below w2.heap.size w2 z → _) := fun z hz => KM.out z (HB.out.below.trans (hz.mono HB.out.below.size))
  have KR8 : Hid (∀ z : World, Below w2.heap.size w2 z → _) := fun z hz => KC.out z (HB.out.below.trans (hz.mono HB.out.below.size))
  have KR9 : Hid (∀ z : World, Below w2.heap.size w2 z → _) := fun z hz => KY.out z
  go_region_held3 (fun z => Below w2.heap.size w2 z ∧ z.cell? ⟨w.heap.size, 0, none⟩ = some (.int .i64 (m : Nat)) ∧ z.cell? ⟨w.heap.size, 1, none⟩ = some (.slice A m c))
    (first | exact HS1.out | assumption | exact HSC.out _ hz11 | exact HSC.out _ hz10 | exact HSC.out _ hz9 | exact HSC.out _ hz8 | exact HSC.out _ hz7 | exact HSC.out _ hz6 | exact HSC.out _ hz5 | exact HSC.out _ hz4 | exact HSC.out _ hz3 | fail)
    (first | (go_at_call 11; ((with_reducible refine (KR1.out _ HZ0.out).mono ?_); rintro e w3 ⟨rfl, hb3⟩; have hz3 := bl_trans HZ0.out hb3)) | (go_at_call 13; ((with_reducible refine (KR2.out _ hz3).mono ?_); rintro e w4 ⟨A4, c4, rfl, hO4, hb4⟩; have hz4 := bl_trans hz3 hb4)) | (go_at_call 12; ((with_reducible refine (KN.out _ _ _ _ (HB.out.below.trans (hz4.mono HB.out.below.size)) hO4).mono ?_); rintro e w5 ⟨rfl, hb5⟩; have hz5 := bl_trans hz4 hb5)) | (go_at_call 15; ((with_reducible refine (KR4.out _ hz5).mono ?_); rintro e w6 ⟨A7, c7, rfl, hO7, hb6⟩; have hz6 := bl_trans hz5 hb6)) | (go_at_call 14; ((with_reducible refine (KS1.out _ _ _ _ (HB.out.below.trans (hz6.mono HB.out.below.size)) hO7).mono ?_); rintro e w7 ⟨rfl, hb7⟩; have hz7 := bl_trans hz6 hb7)) | (go_at_call 16; ((with_reducible refine (KR6.out _ hz7).mono ?_); rintro e w8 ⟨A9, c9, rfl, hO9, hb8⟩; have hz8 := bl_trans hz7 hb8)) | (go_at_call 14; ((with_reducible refine (KS2.out _ _ _ _ (HB.out.below.trans (hz8.mono HB.out.below.size)) hO9).mono ?_); rintro e w9 ⟨rfl, hb9⟩; have hz9 := bl_trans hz8 hb9)) | (go_at_call 18; ((with_reducible refine (KR8.out _ hz9).mono ?_); rintro e w10 ⟨rfl, hb10⟩; have hz10 := bl_trans hz9 hb10)) | (go_at_call 17; ((with_reducible refine (KR9.out _ hz10).mono ?_); rintro e w11 ⟨rfl, hb11⟩; have hz11 := bl_trans hz10 hb11)))
  clear e0 e1
  replace HB := Lib.hid (HB.out.keep hz11)
  replace HC := Lib.hid (HC.out.keep hz11)
  clear hb3 hz3 hb4 hz4 hb5 hz5 hb6 hz6 hb7 hz7 hb8 hz8 hb9 hz9 hb10 hz10 hb11 hz11 HSC HZ0 HS1 KR1 KR2 KR4 KR6 KR8 KR9
  have e0 := HC.out.c0
  have e1 := HC.out.c1
  go_wp2
  go_ret
  exact ⟨by rw [HO.out]; rfl, HB.out.below⟩
section
variable (s1 : Int) (A1 : Option Addr) (m1 c1 : Nat) (x1 : Nat → Int) (w : World) (B : Nat)
theorem GraphLine_iL (h1 : Rd w B A1 m1 c1 x1) (hB : B ≤ w.heap.size) (hm1 : m1 ≤ 1048576) (hT : Tb w) :
    Calls Tryd.prog 7 #[.agg #[.int .i64 s1, .slice A1 m1 c1]] w fun e w' => e = .returned (.string (glB s1 m1 x1)) ∧ Below w.heap.size w w' :=
  GraphLine_i s1 A1 m1 c1 x1 w (h1.keep (Below.refl _ _) hB) hm1 hT
theorem GraphLine_sL (h1 : Rd w B A1 m1 c1 x1) (hB : B ≤ w.heap.size) (hm1 : m1 ≤ 1048576) :
    Calls Tryd.prog 5 #[.agg #[.int .i64 s1, .slice A1 m1 c1]] w fun e w' => e = .returned (.string (glB s1 m1 x1)) ∧ Below w.heap.size w w' :=
  GraphLine_s s1 A1 m1 c1 x1 w (h1.keep (Below.refl _ _) hB) hm1
end
end Go.Proofs.YtppkokgiojcgbaaDoor
