/-
-/
import Derived.Test.YtfabbohijhjpcaaGreatDoorRcLexI
import Derived.Test.YtfabbohijhjpcaaGreatDoorRcHolS
import Derived.Test.YtfabbohijhjpcaaGreatDoorRcObsS
import Derived.Test.YtfabbohijhjpcaaGreatDoorRcJoinT
import Derived.Test.YtfabbohijhjpcaaGreatDoorRcJoinU
import Derived.Test.YtfabbohijhjpcaaGreatDoorRcTake
import Derived.BigRegion
namespace Go.Proofs.YtfabbohijhjpcaaGreatDoor
open Go.RowKit
theorem ON.four (w : World) (a b c d : Nat) : ON w.heap.size (w.alloc (Obj.cells #[.int .i64 (a : Int), .int .i64 (b : Int), .int .i64 (c : Int), .int .i64 (d : Int)] 3)) (some ⟨w.heap.size, 0, none⟩) 4 [a, b, c, d] :=
 ⟨.inr ⟨w.heap.size, _, rfl, Nat.le_refl _, by simp, heap_alloc_new w _, Nat.le_refl _, by unfold maxLen; omega, rfl, fun j hj => by
   have hj4 : j < 4 := hj
   have hc : j = 0 ∨ j = 1 ∨ j = 2 ∨ j = 3 := by omega
   rcases hc with rfl | rfl | rfl | rfl <;> rfl⟩⟩
theorem fou_some {m q : Nat} {hol : List Nat → Bool} (hq : q < m * m * m * m) (h : hol (dig4 m q) = true) (hmin : ∀ u, u < q → atF m hol u = none) : fouO m hol = some (dig4 m q) := range_some hq (atF_yes h) hmin
theorem fou_none {m : Nat} {hol : List Nat → Bool} (h : ∀ u, u < m * m * m * m → atF m hol u = none) : fouO m hol = none := range_none h
theorem IsTwoEdges_sv {A : Option Addr} {m c : Nat} {r : Nat → Nat} {w : World} (h : GV w A m c r) {Al : Option Addr} {cl : Nat} {l : List Nat} (hl : LN w Al cl l) (hlen : l.length ≤ 7) :
 Calls Tryz.prog 275 #[.agg #[.int .i64 m, .slice A m c], .slice Al l.length cl] w fun e w' => e = .returned (.bool (teR r m l)) ∧ Below w.heap.size w w' :=
 IsTwoEdges_s m A m c _ Al l.length cl _ w h.ga hl.li (by have := h.vg.n7; omega) (by omega)
theorem IsClaw_sv {A : Option Addr} {m c : Nat} {r : Nat → Nat} {w : World} (h : GV w A m c r) {Al : Option Addr} {cl : Nat} {l : List Nat} (hl : LN w Al cl l) (hlen : l.length ≤ 7) :
 Calls Tryz.prog 329 #[.agg #[.int .i64 m, .slice A m c], .slice Al l.length cl] w fun e w' => e = .returned (.bool (cwR r m l)) ∧ Below w.heap.size w w' :=
 IsClaw_s m A m c _ Al l.length cl _ w h.ga hl.li (by have := h.vg.n7; omega) (by omega)
theorem IsThresholdObstacle_sv {A : Option Addr} {m c : Nat} {r : Nat → Nat} {w : World} (h : GV w A m c r) {Al : Option Addr} {cl : Nat} {l : List Nat} (hl : LN w Al cl l) (hlen : l.length ≤ 7) :
 Calls Tryz.prog 192 #[.agg #[.int .i64 m, .slice A m c], .slice Al l.length cl] w fun e w' => e = .returned (.bool (thR r m l)) ∧ Below w.heap.size w w' := by
 have := IsThresholdObstacle_s m A m c _ Al l.length cl _ w h.ga hl.li (by have := h.vg.n7; omega) (by omega)
 rwa [thR_of] at this
set_option maxRecDepth 100000 in
set_option maxHeartbeats 6400000 in
theorem l4Four0_v {A : Option Addr} {m c : Nat} {r : Nat → Nat} {w : World} (h : GV w A m c r) : Calls Tryz.prog 274 #[.agg #[.int .i64 m, .slice A m c], .int .i64 0] w (lsQ w (fouO m (teR r m))) := by
 have hm7 := h.vg.n7
 have hm1 := h.vg.n1
 have hM3 : m * m * m ≤ 343 := by
  have h1 : m * m ≤ 7 * 7 := Nat.mul_le_mul hm7 hm7
  exact Nat.mul_le_mul h1 hm7
 have hM2 : m * m ≤ 49 := Nat.mul_le_mul hm7 hm7
 have hM4 : m * m * m * m ≤ 2401 := Nat.mul_le_mul hM3 hm7
 have hp2 : 0 < m * m := Nat.mul_pos hm1 hm1
 have hp3 : 0 < m * m * m := Nat.mul_pos hp2 hm1
 obtain ⟨W, hW⟩ : ∃ W : World, W = (w.alloc (Obj.cells #[Value.int IntKind.i64 m, Value.slice A m c] 26)) := ⟨_, rfl⟩
 have HB : Hid (From w W) := by rw [hW]; exact From.alloc _ _
 have HG : Hid (GBox W w.heap.size A m c r) := by rw [hW]; exact h.box
 have HW := Lib.hid hW
 clear hW h
 have e0 := HG.out.c0
 have e1 := HG.out.c1
 have HR0 : Hid (From W W) := From.refl W
 go_enter Tryz.func274, Tryz.ntmps274
 go_wp2_with fail
 rw [← HW.out]
 clear HW
 go_wp2
 go_loopw [6] (fun i wr => ∃ q : Nat, q ≤ m * m * m * m ∧ i = .int .i64 q ∧ Hid (∀ u, u < q → atF m (teR r m) u = none) ∧ Hid (From W wr)) (fun i _ => 3000 - (intOf i).toNat)
 case atStart => exact ⟨0, Nat.zero_le _, rfl, (fun u hu => absurd hu (by omega)), HR0⟩
 case round =>
  clear HR0 e0 e1
  obtain ⟨q, hq, rfl, hall, HR⟩ := hrel
  have HB1 := Lib.hid (HB.out.up HR.out)
  have HG1 := Lib.hid (HG.out.keep HR.out.below)
  obtain ⟨M2, hM2e⟩ : ∃ M2, M2 = m * m := ⟨_, rfl⟩
  obtain ⟨M3, hM3e⟩ : ∃ M3, M3 = m * m * m := ⟨_, rfl⟩
  obtain ⟨M4, hM4e⟩ : ∃ M4, M4 = m * m * m * m := ⟨_, rfl⟩
  have HD4 : Hid (dig4 m q = [q / M3, q / M2 % m, q / m % m, q % m]) := by show _ = _; rw [hM3e, hM2e]; rfl
  have E2 : IntKind.i64.wrap ((m : Int) * (m : Int)) = (M2 : Int) := by rw [IntWalk.i64_in _ (by rw [← Int.natCast_mul]; omega), ← Int.natCast_mul, hM2e]
  have E2w : wrap64 ((m : Int) * (m : Int)) = (M2 : Int) := by rw [IntWalk.wrap64_in _ (by rw [← Int.natCast_mul]; omega), ← Int.natCast_mul, hM2e]
  have E3 : IntKind.i64.wrap ((M2 : Int) * (m : Int)) = (M3 : Int) := by rw [hM2e, IntWalk.i64_in _ (by rw [← Int.natCast_mul]; omega), ← Int.natCast_mul, hM3e]
  have E3w : wrap64 ((M2 : Int) * (m : Int)) = (M3 : Int) := by rw [hM2e, IntWalk.wrap64_in _ (by rw [← Int.natCast_mul]; omega), ← Int.natCast_mul, hM3e]
  have E4w : wrap64 ((M3 : Int) * (m : Int)) = (M4 : Int) := by rw [hM3e, IntWalk.wrap64_in _ (by rw [← Int.natCast_mul]; omega), ← Int.natCast_mul, hM4e]
  have e0 := HG1.out.c0
  have e1 := HG1.out.c1
  rw [← hM4e] at hq hM4
  rw [← hM3e] at hM3 hp3
  rw [← hM2e] at hM2 hp2
  have HE4 := Lib.hid hM4e
  clear hM2e hM3e hM4e
  by_cases hqm : q < M4
  ·have i1 : (q : Int) < (M4 : Int) := by omega
   go_wp2_with fail
   refine (IsGraph_sv HG1.out.gv).mono ?_
   rintro e w1 ⟨rfl, hb1⟩
   clear e0 e1
   replace HB1 := Lib.hid (HB1.out.keep hb1)
   replace HG1 := Lib.hid (HG1.out.keep hb1)
   replace HR := Lib.hid (HR.out.keep hb1)
   clear hb1
   have e0 := HG1.out.c0
   have e1 := HG1.out.c1
   obtain ⟨Q3, hQ3⟩ : ∃ Q, Q = q / M3 := ⟨_, rfl⟩
   obtain ⟨Q2, hQ2⟩ : ∃ Q, Q = q / M2 := ⟨_, rfl⟩
   obtain ⟨Q1, hQ1⟩ : ∃ Q, Q = q / m := ⟨_, rfl⟩
   obtain ⟨P2, hP2⟩ : ∃ Q, Q = Q2 % m := ⟨_, rfl⟩
   obtain ⟨P1, hP1⟩ : ∃ Q, Q = Q1 % m := ⟨_, rfl⟩
   obtain ⟨P0, hP0⟩ : ∃ Q, Q = q % m := ⟨_, rfl⟩
   have b3 : Q3 ≤ 2401 := by rw [hQ3]; exact Nat.le_trans (Nat.div_le_self _ _) (by omega)
   have b2 : Q2 ≤ 2401 := by rw [hQ2]; exact Nat.le_trans (Nat.div_le_self _ _) (by omega)
   have b1 : Q1 ≤ 2401 := by rw [hQ1]; exact Nat.le_trans (Nat.div_le_self _ _) (by omega)
   have l2 : P2 < m := by rw [hP2]; exact Nat.mod_lt _ hm1
   have l1 : P1 < m := by rw [hP1]; exact Nat.mod_lt _ hm1
   have l0 : P0 < m := by rw [hP0]; exact Nat.mod_lt _ hm1
   have t3 : (q : Int).tdiv (M3 : Int) = (Q3 : Int) := by rw [Int.tdiv_eq_ediv_of_nonneg (by omega), hQ3]; exact (Int.natCast_ediv _ _).symm
   have t2 : (q : Int).tdiv (M2 : Int) = (Q2 : Int) := by rw [Int.tdiv_eq_ediv_of_nonneg (by omega), hQ2]; exact (Int.natCast_ediv _ _).symm
   have t1 : (q : Int).tdiv (m : Int) = (Q1 : Int) := by rw [Int.tdiv_eq_ediv_of_nonneg (by omega), hQ1]; exact (Int.natCast_ediv _ _).symm
   have a3 : (q : Int) / (M3 : Int) = (Q3 : Int) := by rw [hQ3]; exact (Int.natCast_ediv _ _).symm
   have a2 : (q : Int) / (M2 : Int) = (Q2 : Int) := by rw [hQ2]; exact (Int.natCast_ediv _ _).symm
   have a1 : (q : Int) / (m : Int) = (Q1 : Int) := by rw [hQ1]; exact (Int.natCast_ediv _ _).symm
   have r2 : (Q2 : Int).tmod (m : Int) = (P2 : Int) := by rw [Int.tmod_eq_emod_of_nonneg (by omega), hP2]; exact (Int.natCast_emod _ _).symm
   have r1 : (Q1 : Int).tmod (m : Int) = (P1 : Int) := by rw [Int.tmod_eq_emod_of_nonneg (by omega), hP1]; exact (Int.natCast_emod _ _).symm
   have r0 : (q : Int).tmod (m : Int) = (P0 : Int) := by rw [Int.tmod_eq_emod_of_nonneg (by omega), hP0]; exact (Int.natCast_emod _ _).symm
   have s2 : (Q2 : Int) % (m : Int) = (P2 : Int) := by rw [hP2]; exact (Int.natCast_emod _ _).symm
   have s1 : (Q1 : Int) % (m : Int) = (P1 : Int) := by rw [hP1]; exact (Int.natCast_emod _ _).symm
   have s0 : (q : Int) % (m : Int) = (P0 : Int) := by rw [hP0]; exact (Int.natCast_emod _ _).symm
   have HD : Hid (dig4 m q = [Q3, P2, P1, P0]) := by show _ = _; rw [HD4.out, hP2, hP1, hP0, hQ3, hQ2, hQ1]
   have z3 : ((M3 : Int) = 0) = False := by simp; omega
   have z2 : ((M2 : Int) = 0) = False := by simp; omega
   have z1 : ((m : Int) = 0) = False := by simp; omega
   have y3 : (M3 = 0) = False := by simp; omega
   have y2 : (M2 = 0) = False := by simp; omega
   have y1 : (m = 0) = False := by simp; omega
   have c3 : IntKind.i64.wrap (Q3 : Int) = (Q3 : Int) := IntWalk.i64_in _ (by omega)
   have c2 : IntKind.i64.wrap (Q2 : Int) = (Q2 : Int) := IntWalk.i64_in _ (by omega)
   have c1 : IntKind.i64.wrap (Q1 : Int) = (Q1 : Int) := IntWalk.i64_in _ (by omega)
   have d2 : IntKind.i64.wrap (P2 : Int) = (P2 : Int) := IntWalk.i64_in _ (by omega)
   have d1 : IntKind.i64.wrap (P1 : Int) = (P1 : Int) := IntWalk.i64_in _ (by omega)
   have d0 : IntKind.i64.wrap (P0 : Int) = (P0 : Int) := IntWalk.i64_in _ (by omega)
   clear hQ3 hQ2 hQ1 hP2 hP1 hP0
   have e0f := e0
   go_wp2
   refine wp_region_held_drew (S := fun z => z.cell? ⟨w.heap.size, 0, none⟩ = some (.int .i64 m)) (by kernel_rfl) e0f (fun hHeld => ?_)
   refine pcY 0 rfl rfl (by kernel_rfl) (by rfl) (by intro w u; (try dsimp only at u); go_simp <;> with_reducible rfl) ‹_› (fun _ _ _ h => h) ?_; simp only [Act.put, sl0, sl1, sl2]
   iterate 21 (refine ptY rfl rfl (by kernel_rfl) (by rfl) (by intro w u; (try dsimp only at u); go_simp <;> with_reducible rfl) ‹_› (fun _ _ _ h => h) ?_; simp only [Act.put, sl0, sl1, sl2])
   refine wpAnyH_ready (rs := [22]) (by kernel_rfl) (by simp) ?_
   refine AllReadyH.cons rfl (fun K hK => ?_) AllReadyH.nil
   go_simp
   refine hK.out _ _ (up_ (bl_alloc (bl_drew (Below.refl _ _))) e0f) (fun hHeld => ?_)
   clear hK K
   try simp only [Act.put, sl0, sl1, sl2]
   refine ptY rfl rfl (by kernel_rfl) (by rfl) (by intro w u; (try dsimp only at u); go_simp <;> with_reducible rfl) ‹_› (fun _ _ _ h => h) ?_; simp only [Act.put, sl0, sl1, sl2]
   refine wpAnyH_done (by kernel_rfl) ?_ _
   clear t3 t2 t1 a3 a2 a1 r2 r1 r0 s2 s1 s0 z3 z2 z1 y3 y2 y1 c3 c2 c1 d2 d1 d0 E2 E2w E3 E3w E4w hHeld e0f
   obtain ⟨W5, hW5⟩ : ∃ W5 : World, W5 = (w1.alloc (Obj.cells #[.int .i64 (Q3 : Int), .int .i64 (P2 : Int), .int .i64 (P1 : Int), .int .i64 (P0 : Int)] 3)).drew := ⟨_, rfl⟩
   rw [← hW5]
   have hb5 : Below w1.heap.size w1 W5 := by rw [hW5]; exact bl_drew (bl_alloc (Below.refl _ _))
   have HO5 : Hid (ON w1.heap.size W5 (some ⟨w1.heap.size, 0, none⟩) 4 [Q3, P2, P1, P0]) := by rw [hW5]; exact ⟨(ON.four w1 Q3 P2 P1 P0).own.drew⟩
   clear hW5
   have HZ1 : Hid (w.heap.size ≤ w1.heap.size) := HB1.out.below.size
   clear e0 e1
   replace HB1 := Lib.hid (HB1.out.keep hb5)
   replace HG1 := Lib.hid (HG1.out.keep hb5)
   replace HR := Lib.hid (HR.out.keep hb5)
   clear hb5
   have e0 := HG1.out.c0
   have e1 := HG1.out.c1
   obtain ⟨t, ht⟩ : ∃ t, t = teR r m [Q3, P2, P1, P0] := ⟨_, rfl⟩
   have KT : Hid (Calls Tryz.prog 275 #[.agg #[.int .i64 m, .slice A m c], .slice (some ⟨w1.heap.size, 0, none⟩) 4 4] W5 fun e w' => e = .returned (.bool t) ∧ Below W5.heap.size W5 w') := by rw [ht]; exact IsTwoEdges_sv HG1.out.gv HO5.out.ln (by simp)
   cases t
   ·have Hn : Hid (atF m (teR r m) q = none) := atF_no (by rw [HD.out]; exact ht.symm)
    clear ht
    go_wp2_with fail
    refine (KT.out).mono ?_
    rintro e w1 ⟨rfl, hb1⟩
    clear e0 e1
    replace HB1 := Lib.hid (HB1.out.keep hb1)
    replace HG1 := Lib.hid (HG1.out.keep hb1)
    replace HR := Lib.hid (HR.out.keep hb1)
    clear hb1
    have e0 := HG1.out.c0
    have e1 := HG1.out.c1
    clear HO5 KT
    go_wp2
    go_roundw
    case rel =>
     refine ⟨q + 1, by rw [← HE4.out]; omega, by go_num, fun u hu => ?_, HR⟩
     by_cases huv : u < q
     ·exact hall.out u huv
     ·obtain rfl : u = q := by omega
      exact Hn.out
    case measure => (simp [intOf] <;> omega)
   ·have Hs : Hid (fouO m (teR r m) = some [Q3, P2, P1, P0]) := by show _ = _; rw [← HD.out]; exact fou_some (by rw [← HE4.out]; exact hqm) (by rw [HD.out]; exact ht.symm) hall.out
    clear ht
    go_wp2_with fail
    refine (KT.out).mono ?_
    rintro e w2 ⟨rfl, hb2⟩
    clear e0 e1
    replace HB1 := Lib.hid (HB1.out.keep hb2)
    replace HO5 := Lib.hid (HO5.out.keep hb2)
    replace HG1 := Lib.hid (HG1.out.keep hb2)
    replace HR := Lib.hid (HR.out.keep hb2)
    clear hb2
    have e0 := HG1.out.c0
    have e1 := HG1.out.c1
    clear KT
    go_wp2
    go_ret2
    rw [Hs.out]
    exact lsQ.yes (HO5.out.mono HZ1.out) HB1.out.below
  ·have Hs : Hid (fouO m (teR r m) = none) := fou_none fun u hu => hall.out u (by rw [← HE4.out] at hu; omega)
   have i1 : (M4 : Int) ≤ (q : Int) := by omega
   go_wp2_with fail
   refine (IsGraph_sv HG1.out.gv).mono ?_
   rintro e w1 ⟨rfl, hb1⟩
   clear e0 e1
   replace HB1 := Lib.hid (HB1.out.keep hb1)
   replace HG1 := Lib.hid (HG1.out.keep hb1)
   replace HR := Lib.hid (HR.out.keep hb1)
   clear hb1
   have e0 := HG1.out.c0
   have e1 := HG1.out.c1
   have HON : Hid (ON w1.heap.size (w1.alloc (Obj.cells #[] 3)) (some ⟨w1.heap.size, 0, none⟩) 0 []) := ON.nil w1
   have HBz := Lib.hid (HB1.out.alloc_ (Obj.cells #[] 3))
   go_wp2
   go_ret2
   rw [Hs.out]
   exact ⟨_, _, rfl, HON.out.mono HB1.out.below.size, HBz.out.below⟩
set_option maxRecDepth 100000 in
set_option maxHeartbeats 3200000 in
theorem l4Four0_no (sz : Int) (A : Option Addr) (m c : Nat) (x : Nat → Int) (w : World) (h : GA w A m c x) (hm : m ≤ 1048576) (hok : okB sz m x = false) :
 Calls Tryz.prog 274 #[.agg #[.int .i64 sz, .slice A m c], .int .i64 0] w (lsQ w none) := by
 obtain ⟨W, hW⟩ : ∃ W : World, W = (w.alloc (Obj.cells #[Value.int IntKind.i64 sz, Value.slice A m c] 26)) := ⟨_, rfl⟩
 have HB : Hid (From w W) := by rw [hW]; exact From.alloc _ _
 have HK := Lib.hid (h.keep HB.out.below)
 have HC : Hid (GC W w.heap.size sz A m c) := by rw [hW]; exact GC.new _ _ _ _ _
 have HW := Lib.hid hW
 have Ho := Lib.hid hok
 clear hW h hok
 go_enter Tryz.func274, Tryz.ntmps274
 have e0 := HC.out.c0
 have e1 := HC.out.c1
 go_wp2_with fail
 rw [← HW.out]
 clear HW
 go_wp2
 go_loopw [6] (fun i wr => i = .int .i64 0 ∧ wr = W) (fun _ _ => 0)
 case atStart => exact ⟨rfl, by first | rfl | trivial⟩
 case round =>
  obtain ⟨rfl, rfl⟩ := hrel
  go_wp2_with fail
  refine (IsGraph_sany sz A m c x wr wr.heap.size HK.out.rd (Nat.le_refl _) hm).mono ?_
  rintro e w5 ⟨rfl, hb1⟩
  rw [Ho.out]
  have HB1 := Lib.hid (HB.out.keep hb1)
  clear hb1 e0 e1
  have HON : Hid (ON w5.heap.size (w5.alloc (Obj.cells #[] 3)) (some ⟨w5.heap.size, 0, none⟩) 0 []) := ON.nil w5
  have HBz := Lib.hid (HB1.out.alloc_ (Obj.cells #[] 3))
  go_wp2
  go_ret2
  exact ⟨_, _, rfl, HON.out.mono HB1.out.below.size, HBz.out.below⟩
set_option maxRecDepth 100000 in
set_option maxHeartbeats 6400000 in
theorem l4Four1_v {A : Option Addr} {m c : Nat} {r : Nat → Nat} {w : World} (h : GV w A m c r) : Calls Tryz.prog 274 #[.agg #[.int .i64 m, .slice A m c], .int .i64 1] w (lsQ w (fouO m (cwR r m))) := by
 have hm7 := h.vg.n7
 have hm1 := h.vg.n1
 have hM3 : m * m * m ≤ 343 := by
  have h1 : m * m ≤ 7 * 7 := Nat.mul_le_mul hm7 hm7
  exact Nat.mul_le_mul h1 hm7
 have hM2 : m * m ≤ 49 := Nat.mul_le_mul hm7 hm7
 have hM4 : m * m * m * m ≤ 2401 := Nat.mul_le_mul hM3 hm7
 have hp2 : 0 < m * m := Nat.mul_pos hm1 hm1
 have hp3 : 0 < m * m * m := Nat.mul_pos hp2 hm1
 obtain ⟨W, hW⟩ : ∃ W : World, W = (w.alloc (Obj.cells #[Value.int IntKind.i64 m, Value.slice A m c] 26)) := ⟨_, rfl⟩
 have HB : Hid (From w W) := by rw [hW]; exact From.alloc _ _
 have HG : Hid (GBox W w.heap.size A m c r) := by rw [hW]; exact h.box
 have HW := Lib.hid hW
 clear hW h
 have e0 := HG.out.c0
 have e1 := HG.out.c1
 have HR0 : Hid (From W W) := From.refl W
 go_enter Tryz.func274, Tryz.ntmps274
 go_wp2_with fail
 rw [← HW.out]
 clear HW
 go_wp2
 go_loopw [6] (fun i wr => ∃ q : Nat, q ≤ m * m * m * m ∧ i = .int .i64 q ∧ Hid (∀ u, u < q → atF m (cwR r m) u = none) ∧ Hid (From W wr)) (fun i _ => 3000 - (intOf i).toNat)
 case atStart => exact ⟨0, Nat.zero_le _, rfl, (fun u hu => absurd hu (by omega)), HR0⟩
 case round =>
  clear HR0 e0 e1
  obtain ⟨q, hq, rfl, hall, HR⟩ := hrel
  have HB1 := Lib.hid (HB.out.up HR.out)
  have HG1 := Lib.hid (HG.out.keep HR.out.below)
  obtain ⟨M2, hM2e⟩ : ∃ M2, M2 = m * m := ⟨_, rfl⟩
  obtain ⟨M3, hM3e⟩ : ∃ M3, M3 = m * m * m := ⟨_, rfl⟩
  obtain ⟨M4, hM4e⟩ : ∃ M4, M4 = m * m * m * m := ⟨_, rfl⟩
  have HD4 : Hid (dig4 m q = [q / M3, q / M2 % m, q / m % m, q % m]) := by show _ = _; rw [hM3e, hM2e]; rfl
  have E2 : IntKind.i64.wrap ((m : Int) * (m : Int)) = (M2 : Int) := by rw [IntWalk.i64_in _ (by rw [← Int.natCast_mul]; omega), ← Int.natCast_mul, hM2e]
  have E2w : wrap64 ((m : Int) * (m : Int)) = (M2 : Int) := by rw [IntWalk.wrap64_in _ (by rw [← Int.natCast_mul]; omega), ← Int.natCast_mul, hM2e]
  have E3 : IntKind.i64.wrap ((M2 : Int) * (m : Int)) = (M3 : Int) := by rw [hM2e, IntWalk.i64_in _ (by rw [← Int.natCast_mul]; omega), ← Int.natCast_mul, hM3e]
  have E3w : wrap64 ((M2 : Int) * (m : Int)) = (M3 : Int) := by rw [hM2e, IntWalk.wrap64_in _ (by rw [← Int.natCast_mul]; omega), ← Int.natCast_mul, hM3e]
  have E4w : wrap64 ((M3 : Int) * (m : Int)) = (M4 : Int) := by rw [hM3e, IntWalk.wrap64_in _ (by rw [← Int.natCast_mul]; omega), ← Int.natCast_mul, hM4e]
  have e0 := HG1.out.c0
  have e1 := HG1.out.c1
  rw [← hM4e] at hq hM4
  rw [← hM3e] at hM3 hp3
  rw [← hM2e] at hM2 hp2
  have HE4 := Lib.hid hM4e
  clear hM2e hM3e hM4e
  by_cases hqm : q < M4
  ·have i1 : (q : Int) < (M4 : Int) := by omega
   go_wp2_with fail
   refine (IsGraph_sv HG1.out.gv).mono ?_
   rintro e w1 ⟨rfl, hb1⟩
   clear e0 e1
   replace HB1 := Lib.hid (HB1.out.keep hb1)
   replace HG1 := Lib.hid (HG1.out.keep hb1)
   replace HR := Lib.hid (HR.out.keep hb1)
   clear hb1
   have e0 := HG1.out.c0
   have e1 := HG1.out.c1
   obtain ⟨Q3, hQ3⟩ : ∃ Q, Q = q / M3 := ⟨_, rfl⟩
   obtain ⟨Q2, hQ2⟩ : ∃ Q, Q = q / M2 := ⟨_, rfl⟩
   obtain ⟨Q1, hQ1⟩ : ∃ Q, Q = q / m := ⟨_, rfl⟩
   obtain ⟨P2, hP2⟩ : ∃ Q, Q = Q2 % m := ⟨_, rfl⟩
   obtain ⟨P1, hP1⟩ : ∃ Q, Q = Q1 % m := ⟨_, rfl⟩
   obtain ⟨P0, hP0⟩ : ∃ Q, Q = q % m := ⟨_, rfl⟩
   have b3 : Q3 ≤ 2401 := by rw [hQ3]; exact Nat.le_trans (Nat.div_le_self _ _) (by omega)
   have b2 : Q2 ≤ 2401 := by rw [hQ2]; exact Nat.le_trans (Nat.div_le_self _ _) (by omega)
   have b1 : Q1 ≤ 2401 := by rw [hQ1]; exact Nat.le_trans (Nat.div_le_self _ _) (by omega)
   have l2 : P2 < m := by rw [hP2]; exact Nat.mod_lt _ hm1
   have l1 : P1 < m := by rw [hP1]; exact Nat.mod_lt _ hm1
   have l0 : P0 < m := by rw [hP0]; exact Nat.mod_lt _ hm1
   have t3 : (q : Int).tdiv (M3 : Int) = (Q3 : Int) := by rw [Int.tdiv_eq_ediv_of_nonneg (by omega), hQ3]; exact (Int.natCast_ediv _ _).symm
   have t2 : (q : Int).tdiv (M2 : Int) = (Q2 : Int) := by rw [Int.tdiv_eq_ediv_of_nonneg (by omega), hQ2]; exact (Int.natCast_ediv _ _).symm
   have t1 : (q : Int).tdiv (m : Int) = (Q1 : Int) := by rw [Int.tdiv_eq_ediv_of_nonneg (by omega), hQ1]; exact (Int.natCast_ediv _ _).symm
   have a3 : (q : Int) / (M3 : Int) = (Q3 : Int) := by rw [hQ3]; exact (Int.natCast_ediv _ _).symm
   have a2 : (q : Int) / (M2 : Int) = (Q2 : Int) := by rw [hQ2]; exact (Int.natCast_ediv _ _).symm
   have a1 : (q : Int) / (m : Int) = (Q1 : Int) := by rw [hQ1]; exact (Int.natCast_ediv _ _).symm
   have r2 : (Q2 : Int).tmod (m : Int) = (P2 : Int) := by rw [Int.tmod_eq_emod_of_nonneg (by omega), hP2]; exact (Int.natCast_emod _ _).symm
   have r1 : (Q1 : Int).tmod (m : Int) = (P1 : Int) := by rw [Int.tmod_eq_emod_of_nonneg (by omega), hP1]; exact (Int.natCast_emod _ _).symm
   have r0 : (q : Int).tmod (m : Int) = (P0 : Int) := by rw [Int.tmod_eq_emod_of_nonneg (by omega), hP0]; exact (Int.natCast_emod _ _).symm
   have s2 : (Q2 : Int) % (m : Int) = (P2 : Int) := by rw [hP2]; exact (Int.natCast_emod _ _).symm
   have s1 : (Q1 : Int) % (m : Int) = (P1 : Int) := by rw [hP1]; exact (Int.natCast_emod _ _).symm
   have s0 : (q : Int) % (m : Int) = (P0 : Int) := by rw [hP0]; exact (Int.natCast_emod _ _).symm
   have HD : Hid (dig4 m q = [Q3, P2, P1, P0]) := by show _ = _; rw [HD4.out, hP2, hP1, hP0, hQ3, hQ2, hQ1]
   have z3 : ((M3 : Int) = 0) = False := by simp; omega
   have z2 : ((M2 : Int) = 0) = False := by simp; omega
   have z1 : ((m : Int) = 0) = False := by simp; omega
   have y3 : (M3 = 0) = False := by simp; omega
   have y2 : (M2 = 0) = False := by simp; omega
   have y1 : (m = 0) = False := by simp; omega
   have c3 : IntKind.i64.wrap (Q3 : Int) = (Q3 : Int) := IntWalk.i64_in _ (by omega)
   have c2 : IntKind.i64.wrap (Q2 : Int) = (Q2 : Int) := IntWalk.i64_in _ (by omega)
   have c1 : IntKind.i64.wrap (Q1 : Int) = (Q1 : Int) := IntWalk.i64_in _ (by omega)
   have d2 : IntKind.i64.wrap (P2 : Int) = (P2 : Int) := IntWalk.i64_in _ (by omega)
   have d1 : IntKind.i64.wrap (P1 : Int) = (P1 : Int) := IntWalk.i64_in _ (by omega)
   have d0 : IntKind.i64.wrap (P0 : Int) = (P0 : Int) := IntWalk.i64_in _ (by omega)
   clear hQ3 hQ2 hQ1 hP2 hP1 hP0
   have e0f := e0
   go_wp2
   refine wp_region_held_drew (S := fun z => z.cell? ⟨w.heap.size, 0, none⟩ = some (.int .i64 m)) (by kernel_rfl) e0f (fun hHeld => ?_)
   refine pcY 0 rfl rfl (by kernel_rfl) (by rfl) (by intro w u; (try dsimp only at u); go_simp <;> with_reducible rfl) ‹_› (fun _ _ _ h => h) ?_; simp only [Act.put, sl0, sl1, sl2]
   iterate 21 (refine ptY rfl rfl (by kernel_rfl) (by rfl) (by intro w u; (try dsimp only at u); go_simp <;> with_reducible rfl) ‹_› (fun _ _ _ h => h) ?_; simp only [Act.put, sl0, sl1, sl2])
   refine wpAnyH_ready (rs := [22]) (by kernel_rfl) (by simp) ?_
   refine AllReadyH.cons rfl (fun K hK => ?_) AllReadyH.nil
   go_simp
   refine hK.out _ _ (up_ (bl_alloc (bl_drew (Below.refl _ _))) e0f) (fun hHeld => ?_)
   clear hK K
   try simp only [Act.put, sl0, sl1, sl2]
   refine ptY rfl rfl (by kernel_rfl) (by rfl) (by intro w u; (try dsimp only at u); go_simp <;> with_reducible rfl) ‹_› (fun _ _ _ h => h) ?_; simp only [Act.put, sl0, sl1, sl2]
   refine wpAnyH_done (by kernel_rfl) ?_ _
   clear t3 t2 t1 a3 a2 a1 r2 r1 r0 s2 s1 s0 z3 z2 z1 y3 y2 y1 c3 c2 c1 d2 d1 d0 E2 E2w E3 E3w E4w hHeld e0f
   obtain ⟨W5, hW5⟩ : ∃ W5 : World, W5 = (w1.alloc (Obj.cells #[.int .i64 (Q3 : Int), .int .i64 (P2 : Int), .int .i64 (P1 : Int), .int .i64 (P0 : Int)] 3)).drew := ⟨_, rfl⟩
   rw [← hW5]
   have hb5 : Below w1.heap.size w1 W5 := by rw [hW5]; exact bl_drew (bl_alloc (Below.refl _ _))
   have HO5 : Hid (ON w1.heap.size W5 (some ⟨w1.heap.size, 0, none⟩) 4 [Q3, P2, P1, P0]) := by rw [hW5]; exact ⟨(ON.four w1 Q3 P2 P1 P0).own.drew⟩
   clear hW5
   have HZ1 : Hid (w.heap.size ≤ w1.heap.size) := HB1.out.below.size
   clear e0 e1
   replace HB1 := Lib.hid (HB1.out.keep hb5)
   replace HG1 := Lib.hid (HG1.out.keep hb5)
   replace HR := Lib.hid (HR.out.keep hb5)
   clear hb5
   have e0 := HG1.out.c0
   have e1 := HG1.out.c1
   obtain ⟨t, ht⟩ : ∃ t, t = cwR r m [Q3, P2, P1, P0] := ⟨_, rfl⟩
   have KT : Hid (Calls Tryz.prog 329 #[.agg #[.int .i64 m, .slice A m c], .slice (some ⟨w1.heap.size, 0, none⟩) 4 4] W5 fun e w' => e = .returned (.bool t) ∧ Below W5.heap.size W5 w') := by rw [ht]; exact IsClaw_sv HG1.out.gv HO5.out.ln (by simp)
   cases t
   ·have Hn : Hid (atF m (cwR r m) q = none) := atF_no (by rw [HD.out]; exact ht.symm)
    clear ht
    go_wp2_with fail
    refine (KT.out).mono ?_
    rintro e w1 ⟨rfl, hb1⟩
    clear e0 e1
    replace HB1 := Lib.hid (HB1.out.keep hb1)
    replace HG1 := Lib.hid (HG1.out.keep hb1)
    replace HR := Lib.hid (HR.out.keep hb1)
    clear hb1
    have e0 := HG1.out.c0
    have e1 := HG1.out.c1
    clear HO5 KT
    go_wp2
    go_roundw
    case rel =>
     refine ⟨q + 1, by rw [← HE4.out]; omega, by go_num, fun u hu => ?_, HR⟩
     by_cases huv : u < q
     ·exact hall.out u huv
     ·obtain rfl : u = q := by omega
      exact Hn.out
    case measure => (simp [intOf] <;> omega)
   ·have Hs : Hid (fouO m (cwR r m) = some [Q3, P2, P1, P0]) := by show _ = _; rw [← HD.out]; exact fou_some (by rw [← HE4.out]; exact hqm) (by rw [HD.out]; exact ht.symm) hall.out
    clear ht
    go_wp2_with fail
    refine (KT.out).mono ?_
    rintro e w2 ⟨rfl, hb2⟩
    clear e0 e1
    replace HB1 := Lib.hid (HB1.out.keep hb2)
    replace HO5 := Lib.hid (HO5.out.keep hb2)
    replace HG1 := Lib.hid (HG1.out.keep hb2)
    replace HR := Lib.hid (HR.out.keep hb2)
    clear hb2
    have e0 := HG1.out.c0
    have e1 := HG1.out.c1
    clear KT
    go_wp2
    go_ret2
    rw [Hs.out]
    exact lsQ.yes (HO5.out.mono HZ1.out) HB1.out.below
  ·have Hs : Hid (fouO m (cwR r m) = none) := fou_none fun u hu => hall.out u (by rw [← HE4.out] at hu; omega)
   have i1 : (M4 : Int) ≤ (q : Int) := by omega
   go_wp2_with fail
   refine (IsGraph_sv HG1.out.gv).mono ?_
   rintro e w1 ⟨rfl, hb1⟩
   clear e0 e1
   replace HB1 := Lib.hid (HB1.out.keep hb1)
   replace HG1 := Lib.hid (HG1.out.keep hb1)
   replace HR := Lib.hid (HR.out.keep hb1)
   clear hb1
   have e0 := HG1.out.c0
   have e1 := HG1.out.c1
   have HON : Hid (ON w1.heap.size (w1.alloc (Obj.cells #[] 3)) (some ⟨w1.heap.size, 0, none⟩) 0 []) := ON.nil w1
   have HBz := Lib.hid (HB1.out.alloc_ (Obj.cells #[] 3))
   go_wp2
   go_ret2
   rw [Hs.out]
   exact ⟨_, _, rfl, HON.out.mono HB1.out.below.size, HBz.out.below⟩
set_option maxRecDepth 100000 in
set_option maxHeartbeats 3200000 in
theorem l4Four1_no (sz : Int) (A : Option Addr) (m c : Nat) (x : Nat → Int) (w : World) (h : GA w A m c x) (hm : m ≤ 1048576) (hok : okB sz m x = false) :
 Calls Tryz.prog 274 #[.agg #[.int .i64 sz, .slice A m c], .int .i64 1] w (lsQ w none) := by
 obtain ⟨W, hW⟩ : ∃ W : World, W = (w.alloc (Obj.cells #[Value.int IntKind.i64 sz, Value.slice A m c] 26)) := ⟨_, rfl⟩
 have HB : Hid (From w W) := by rw [hW]; exact From.alloc _ _
 have HK := Lib.hid (h.keep HB.out.below)
 have HC : Hid (GC W w.heap.size sz A m c) := by rw [hW]; exact GC.new _ _ _ _ _
 have HW := Lib.hid hW
 have Ho := Lib.hid hok
 clear hW h hok
 go_enter Tryz.func274, Tryz.ntmps274
 have e0 := HC.out.c0
 have e1 := HC.out.c1
 go_wp2_with fail
 rw [← HW.out]
 clear HW
 go_wp2
 go_loopw [6] (fun i wr => i = .int .i64 0 ∧ wr = W) (fun _ _ => 0)
 case atStart => exact ⟨rfl, by first | rfl | trivial⟩
 case round =>
  obtain ⟨rfl, rfl⟩ := hrel
  go_wp2_with fail
  refine (IsGraph_sany sz A m c x wr wr.heap.size HK.out.rd (Nat.le_refl _) hm).mono ?_
  rintro e w5 ⟨rfl, hb1⟩
  rw [Ho.out]
  have HB1 := Lib.hid (HB.out.keep hb1)
  clear hb1 e0 e1
  have HON : Hid (ON w5.heap.size (w5.alloc (Obj.cells #[] 3)) (some ⟨w5.heap.size, 0, none⟩) 0 []) := ON.nil w5
  have HBz := Lib.hid (HB1.out.alloc_ (Obj.cells #[] 3))
  go_wp2
  go_ret2
  exact ⟨_, _, rfl, HON.out.mono HB1.out.below.size, HBz.out.below⟩
set_option maxRecDepth 100000 in
set_option maxHeartbeats 6400000 in
theorem FouT_v {A : Option Addr} {m c : Nat} {r : Nat → Nat} {w : World} (h : GV w A m c r) : Calls Tryz.prog 128 #[.agg #[.int .i64 m, .slice A m c]] w (lsQ w (fouO m (thR r m))) := by
 have hm7 := h.vg.n7
 have hm1 := h.vg.n1
 have hM3 : m * m * m ≤ 343 := by
  have h1 : m * m ≤ 7 * 7 := Nat.mul_le_mul hm7 hm7
  exact Nat.mul_le_mul h1 hm7
 have hM2 : m * m ≤ 49 := Nat.mul_le_mul hm7 hm7
 have hM4 : m * m * m * m ≤ 2401 := Nat.mul_le_mul hM3 hm7
 have hp2 : 0 < m * m := Nat.mul_pos hm1 hm1
 have hp3 : 0 < m * m * m := Nat.mul_pos hp2 hm1
 obtain ⟨W, hW⟩ : ∃ W : World, W = (w.alloc (Obj.cells #[Value.int IntKind.i64 m, Value.slice A m c] 26)) := ⟨_, rfl⟩
 have HB : Hid (From w W) := by rw [hW]; exact From.alloc _ _
 have HG : Hid (GBox W w.heap.size A m c r) := by rw [hW]; exact h.box
 have HW := Lib.hid hW
 clear hW h
 have e0 := HG.out.c0
 have e1 := HG.out.c1
 have HR0 : Hid (From W W) := From.refl W
 go_enter Tryz.func128, Tryz.ntmps128
 go_wp2_with fail
 rw [← HW.out]
 clear HW
 go_wp2
 go_loopw [4] (fun i wr => ∃ q : Nat, q ≤ m * m * m * m ∧ i = .int .i64 q ∧ Hid (∀ u, u < q → atF m (thR r m) u = none) ∧ Hid (From W wr)) (fun i _ => 3000 - (intOf i).toNat)
 case atStart => exact ⟨0, Nat.zero_le _, rfl, (fun u hu => absurd hu (by omega)), HR0⟩
 case round =>
  clear HR0 e0 e1
  obtain ⟨q, hq, rfl, hall, HR⟩ := hrel
  have HB1 := Lib.hid (HB.out.up HR.out)
  have HG1 := Lib.hid (HG.out.keep HR.out.below)
  obtain ⟨M2, hM2e⟩ : ∃ M2, M2 = m * m := ⟨_, rfl⟩
  obtain ⟨M3, hM3e⟩ : ∃ M3, M3 = m * m * m := ⟨_, rfl⟩
  obtain ⟨M4, hM4e⟩ : ∃ M4, M4 = m * m * m * m := ⟨_, rfl⟩
  have HD4 : Hid (dig4 m q = [q / M3, q / M2 % m, q / m % m, q % m]) := by show _ = _; rw [hM3e, hM2e]; rfl
  have E2 : IntKind.i64.wrap ((m : Int) * (m : Int)) = (M2 : Int) := by rw [IntWalk.i64_in _ (by rw [← Int.natCast_mul]; omega), ← Int.natCast_mul, hM2e]
  have E2w : wrap64 ((m : Int) * (m : Int)) = (M2 : Int) := by rw [IntWalk.wrap64_in _ (by rw [← Int.natCast_mul]; omega), ← Int.natCast_mul, hM2e]
  have E3 : IntKind.i64.wrap ((M2 : Int) * (m : Int)) = (M3 : Int) := by rw [hM2e, IntWalk.i64_in _ (by rw [← Int.natCast_mul]; omega), ← Int.natCast_mul, hM3e]
  have E3w : wrap64 ((M2 : Int) * (m : Int)) = (M3 : Int) := by rw [hM2e, IntWalk.wrap64_in _ (by rw [← Int.natCast_mul]; omega), ← Int.natCast_mul, hM3e]
  have E4w : wrap64 ((M3 : Int) * (m : Int)) = (M4 : Int) := by rw [hM3e, IntWalk.wrap64_in _ (by rw [← Int.natCast_mul]; omega), ← Int.natCast_mul, hM4e]
  have e0 := HG1.out.c0
  have e1 := HG1.out.c1
  rw [← hM4e] at hq hM4
  rw [← hM3e] at hM3 hp3
  rw [← hM2e] at hM2 hp2
  have HE4 := Lib.hid hM4e
  clear hM2e hM3e hM4e
  by_cases hqm : q < M4
  ·have i1 : (q : Int) < (M4 : Int) := by omega
   go_wp2_with fail
   refine (IsGraph_sv HG1.out.gv).mono ?_
   rintro e w1 ⟨rfl, hb1⟩
   clear e0 e1
   replace HB1 := Lib.hid (HB1.out.keep hb1)
   replace HG1 := Lib.hid (HG1.out.keep hb1)
   replace HR := Lib.hid (HR.out.keep hb1)
   clear hb1
   have e0 := HG1.out.c0
   have e1 := HG1.out.c1
   obtain ⟨Q3, hQ3⟩ : ∃ Q, Q = q / M3 := ⟨_, rfl⟩
   obtain ⟨Q2, hQ2⟩ : ∃ Q, Q = q / M2 := ⟨_, rfl⟩
   obtain ⟨Q1, hQ1⟩ : ∃ Q, Q = q / m := ⟨_, rfl⟩
   obtain ⟨P2, hP2⟩ : ∃ Q, Q = Q2 % m := ⟨_, rfl⟩
   obtain ⟨P1, hP1⟩ : ∃ Q, Q = Q1 % m := ⟨_, rfl⟩
   obtain ⟨P0, hP0⟩ : ∃ Q, Q = q % m := ⟨_, rfl⟩
   have b3 : Q3 ≤ 2401 := by rw [hQ3]; exact Nat.le_trans (Nat.div_le_self _ _) (by omega)
   have b2 : Q2 ≤ 2401 := by rw [hQ2]; exact Nat.le_trans (Nat.div_le_self _ _) (by omega)
   have b1 : Q1 ≤ 2401 := by rw [hQ1]; exact Nat.le_trans (Nat.div_le_self _ _) (by omega)
   have l2 : P2 < m := by rw [hP2]; exact Nat.mod_lt _ hm1
   have l1 : P1 < m := by rw [hP1]; exact Nat.mod_lt _ hm1
   have l0 : P0 < m := by rw [hP0]; exact Nat.mod_lt _ hm1
   have t3 : (q : Int).tdiv (M3 : Int) = (Q3 : Int) := by rw [Int.tdiv_eq_ediv_of_nonneg (by omega), hQ3]; exact (Int.natCast_ediv _ _).symm
   have t2 : (q : Int).tdiv (M2 : Int) = (Q2 : Int) := by rw [Int.tdiv_eq_ediv_of_nonneg (by omega), hQ2]; exact (Int.natCast_ediv _ _).symm
   have t1 : (q : Int).tdiv (m : Int) = (Q1 : Int) := by rw [Int.tdiv_eq_ediv_of_nonneg (by omega), hQ1]; exact (Int.natCast_ediv _ _).symm
   have a3 : (q : Int) / (M3 : Int) = (Q3 : Int) := by rw [hQ3]; exact (Int.natCast_ediv _ _).symm
   have a2 : (q : Int) / (M2 : Int) = (Q2 : Int) := by rw [hQ2]; exact (Int.natCast_ediv _ _).symm
   have a1 : (q : Int) / (m : Int) = (Q1 : Int) := by rw [hQ1]; exact (Int.natCast_ediv _ _).symm
   have r2 : (Q2 : Int).tmod (m : Int) = (P2 : Int) := by rw [Int.tmod_eq_emod_of_nonneg (by omega), hP2]; exact (Int.natCast_emod _ _).symm
   have r1 : (Q1 : Int).tmod (m : Int) = (P1 : Int) := by rw [Int.tmod_eq_emod_of_nonneg (by omega), hP1]; exact (Int.natCast_emod _ _).symm
   have r0 : (q : Int).tmod (m : Int) = (P0 : Int) := by rw [Int.tmod_eq_emod_of_nonneg (by omega), hP0]; exact (Int.natCast_emod _ _).symm
   have s2 : (Q2 : Int) % (m : Int) = (P2 : Int) := by rw [hP2]; exact (Int.natCast_emod _ _).symm
   have s1 : (Q1 : Int) % (m : Int) = (P1 : Int) := by rw [hP1]; exact (Int.natCast_emod _ _).symm
   have s0 : (q : Int) % (m : Int) = (P0 : Int) := by rw [hP0]; exact (Int.natCast_emod _ _).symm
   have HD : Hid (dig4 m q = [Q3, P2, P1, P0]) := by show _ = _; rw [HD4.out, hP2, hP1, hP0, hQ3, hQ2, hQ1]
   have z3 : ((M3 : Int) = 0) = False := by simp; omega
   have z2 : ((M2 : Int) = 0) = False := by simp; omega
   have z1 : ((m : Int) = 0) = False := by simp; omega
   have y3 : (M3 = 0) = False := by simp; omega
   have y2 : (M2 = 0) = False := by simp; omega
   have y1 : (m = 0) = False := by simp; omega
   have c3 : IntKind.i64.wrap (Q3 : Int) = (Q3 : Int) := IntWalk.i64_in _ (by omega)
   have c2 : IntKind.i64.wrap (Q2 : Int) = (Q2 : Int) := IntWalk.i64_in _ (by omega)
   have c1 : IntKind.i64.wrap (Q1 : Int) = (Q1 : Int) := IntWalk.i64_in _ (by omega)
   have d2 : IntKind.i64.wrap (P2 : Int) = (P2 : Int) := IntWalk.i64_in _ (by omega)
   have d1 : IntKind.i64.wrap (P1 : Int) = (P1 : Int) := IntWalk.i64_in _ (by omega)
   have d0 : IntKind.i64.wrap (P0 : Int) = (P0 : Int) := IntWalk.i64_in _ (by omega)
   clear hQ3 hQ2 hQ1 hP2 hP1 hP0
   have e0f := e0
   go_wp2
   refine wp_region_held_drew (S := fun z => z.cell? ⟨w.heap.size, 0, none⟩ = some (.int .i64 m)) (by kernel_rfl) e0f (fun hHeld => ?_)
   refine pcY 0 rfl rfl (by kernel_rfl) (by rfl) (by intro w u; (try dsimp only at u); go_simp <;> with_reducible rfl) ‹_› (fun _ _ _ h => h) ?_; simp only [Act.put, sl0, sl1, sl2]
   iterate 21 (refine ptY rfl rfl (by kernel_rfl) (by rfl) (by intro w u; (try dsimp only at u); go_simp <;> with_reducible rfl) ‹_› (fun _ _ _ h => h) ?_; simp only [Act.put, sl0, sl1, sl2])
   refine wpAnyH_ready (rs := [22]) (by kernel_rfl) (by simp) ?_
   refine AllReadyH.cons rfl (fun K hK => ?_) AllReadyH.nil
   go_simp
   refine hK.out _ _ (up_ (bl_alloc (bl_drew (Below.refl _ _))) e0f) (fun hHeld => ?_)
   clear hK K
   try simp only [Act.put, sl0, sl1, sl2]
   refine ptY rfl rfl (by kernel_rfl) (by rfl) (by intro w u; (try dsimp only at u); go_simp <;> with_reducible rfl) ‹_› (fun _ _ _ h => h) ?_; simp only [Act.put, sl0, sl1, sl2]
   refine wpAnyH_done (by kernel_rfl) ?_ _
   clear t3 t2 t1 a3 a2 a1 r2 r1 r0 s2 s1 s0 z3 z2 z1 y3 y2 y1 c3 c2 c1 d2 d1 d0 E2 E2w E3 E3w E4w hHeld e0f
   obtain ⟨W5, hW5⟩ : ∃ W5 : World, W5 = (w1.alloc (Obj.cells #[.int .i64 (Q3 : Int), .int .i64 (P2 : Int), .int .i64 (P1 : Int), .int .i64 (P0 : Int)] 3)).drew := ⟨_, rfl⟩
   rw [← hW5]
   have hb5 : Below w1.heap.size w1 W5 := by rw [hW5]; exact bl_drew (bl_alloc (Below.refl _ _))
   have HO5 : Hid (ON w1.heap.size W5 (some ⟨w1.heap.size, 0, none⟩) 4 [Q3, P2, P1, P0]) := by rw [hW5]; exact ⟨(ON.four w1 Q3 P2 P1 P0).own.drew⟩
   clear hW5
   have HZ1 : Hid (w.heap.size ≤ w1.heap.size) := HB1.out.below.size
   clear e0 e1
   replace HB1 := Lib.hid (HB1.out.keep hb5)
   replace HG1 := Lib.hid (HG1.out.keep hb5)
   replace HR := Lib.hid (HR.out.keep hb5)
   clear hb5
   have e0 := HG1.out.c0
   have e1 := HG1.out.c1
   obtain ⟨t, ht⟩ : ∃ t, t = thR r m [Q3, P2, P1, P0] := ⟨_, rfl⟩
   have KT : Hid (Calls Tryz.prog 192 #[.agg #[.int .i64 m, .slice A m c], .slice (some ⟨w1.heap.size, 0, none⟩) 4 4] W5 fun e w' => e = .returned (.bool t) ∧ Below W5.heap.size W5 w') := by rw [ht]; exact IsThresholdObstacle_sv HG1.out.gv HO5.out.ln (by simp)
   cases t
   ·have Hn : Hid (atF m (thR r m) q = none) := atF_no (by rw [HD.out]; exact ht.symm)
    clear ht
    go_wp2_with fail
    refine (KT.out).mono ?_
    rintro e w1 ⟨rfl, hb1⟩
    clear e0 e1
    replace HB1 := Lib.hid (HB1.out.keep hb1)
    replace HG1 := Lib.hid (HG1.out.keep hb1)
    replace HR := Lib.hid (HR.out.keep hb1)
    clear hb1
    have e0 := HG1.out.c0
    have e1 := HG1.out.c1
    clear HO5 KT
    go_wp2
    go_roundw
    case rel =>
     refine ⟨q + 1, by rw [← HE4.out]; omega, by go_num, fun u hu => ?_, HR⟩
     by_cases huv : u < q
     ·exact hall.out u huv
     ·obtain rfl : u = q := by omega
      exact Hn.out
    case measure => (simp [intOf] <;> omega)
   ·have Hs : Hid (fouO m (thR r m) = some [Q3, P2, P1, P0]) := by show _ = _; rw [← HD.out]; exact fou_some (by rw [← HE4.out]; exact hqm) (by rw [HD.out]; exact ht.symm) hall.out
    clear ht
    go_wp2_with fail
    refine (KT.out).mono ?_
    rintro e w2 ⟨rfl, hb2⟩
    clear e0 e1
    replace HB1 := Lib.hid (HB1.out.keep hb2)
    replace HO5 := Lib.hid (HO5.out.keep hb2)
    replace HG1 := Lib.hid (HG1.out.keep hb2)
    replace HR := Lib.hid (HR.out.keep hb2)
    clear hb2
    have e0 := HG1.out.c0
    have e1 := HG1.out.c1
    clear KT
    go_wp2
    go_ret2
    rw [Hs.out]
    exact lsQ.yes (HO5.out.mono HZ1.out) HB1.out.below
  ·have Hs : Hid (fouO m (thR r m) = none) := fou_none fun u hu => hall.out u (by rw [← HE4.out] at hu; omega)
   have i1 : (M4 : Int) ≤ (q : Int) := by omega
   go_wp2_with fail
   refine (IsGraph_sv HG1.out.gv).mono ?_
   rintro e w1 ⟨rfl, hb1⟩
   clear e0 e1
   replace HB1 := Lib.hid (HB1.out.keep hb1)
   replace HG1 := Lib.hid (HG1.out.keep hb1)
   replace HR := Lib.hid (HR.out.keep hb1)
   clear hb1
   have e0 := HG1.out.c0
   have e1 := HG1.out.c1
   have HON : Hid (ON w1.heap.size (w1.alloc (Obj.cells #[] 3)) (some ⟨w1.heap.size, 0, none⟩) 0 []) := ON.nil w1
   have HBz := Lib.hid (HB1.out.alloc_ (Obj.cells #[] 3))
   go_wp2
   go_ret2
   rw [Hs.out]
   exact ⟨_, _, rfl, HON.out.mono HB1.out.below.size, HBz.out.below⟩
set_option maxRecDepth 100000 in
set_option maxHeartbeats 3200000 in
theorem FouT_no (sz : Int) (A : Option Addr) (m c : Nat) (x : Nat → Int) (w : World) (h : GA w A m c x) (hm : m ≤ 1048576) (hok : okB sz m x = false) :
 Calls Tryz.prog 128 #[.agg #[.int .i64 sz, .slice A m c]] w (lsQ w none) := by
 obtain ⟨W, hW⟩ : ∃ W : World, W = (w.alloc (Obj.cells #[Value.int IntKind.i64 sz, Value.slice A m c] 26)) := ⟨_, rfl⟩
 have HB : Hid (From w W) := by rw [hW]; exact From.alloc _ _
 have HK := Lib.hid (h.keep HB.out.below)
 have HC : Hid (GC W w.heap.size sz A m c) := by rw [hW]; exact GC.new _ _ _ _ _
 have HW := Lib.hid hW
 have Ho := Lib.hid hok
 clear hW h hok
 go_enter Tryz.func128, Tryz.ntmps128
 have e0 := HC.out.c0
 have e1 := HC.out.c1
 go_wp2_with fail
 rw [← HW.out]
 clear HW
 go_wp2
 go_loopw [4] (fun i wr => i = .int .i64 0 ∧ wr = W) (fun _ _ => 0)
 case atStart => exact ⟨rfl, by first | rfl | trivial⟩
 case round =>
  obtain ⟨rfl, rfl⟩ := hrel
  go_wp2_with fail
  refine (IsGraph_sany sz A m c x wr wr.heap.size HK.out.rd (Nat.le_refl _) hm).mono ?_
  rintro e w5 ⟨rfl, hb1⟩
  rw [Ho.out]
  have HB1 := Lib.hid (HB.out.keep hb1)
  clear hb1 e0 e1
  have HON : Hid (ON w5.heap.size (w5.alloc (Obj.cells #[] 3)) (some ⟨w5.heap.size, 0, none⟩) 0 []) := ON.nil w5
  have HBz := Lib.hid (HB1.out.alloc_ (Obj.cells #[] 3))
  go_wp2
  go_ret2
  exact ⟨_, _, rfl, HON.out.mono HB1.out.below.size, HBz.out.below⟩
set_option maxHeartbeats 1600000 in
theorem FindTwoEdges_sv {A : Option Addr} {m c : Nat} {r : Nat → Nat} {w : World} (h : GV w A m c r) : Calls Tryz.prog 191 #[.agg #[.int .i64 m, .slice A m c]] w (lsQ w (teO r m)) := by
 have HE := Lib.hid (teO_s (r := r) (m := m))
 obtain ⟨W, hW⟩ : ∃ W : World, W = (w.alloc (Obj.cells #[Value.int IntKind.i64 m, Value.slice A m c] 26)) := ⟨_, rfl⟩
 have HB : Hid (From w W) := by rw [hW]; exact From.alloc _ _
 have HG : Hid (GBox W w.heap.size A m c r) := by rw [hW]; exact h.box
 have HW := Lib.hid hW
 clear hW h
 have e0 := HG.out.c0
 have e1 := HG.out.c1
 have KF := Lib.hid (l4Four0_v HG.out.gv)
 rw [HE.out] at KF
 have HZ : Hid (w.heap.size ≤ W.heap.size) := HB.out.below.size
 go_enter Tryz.func191, Tryz.ntmps191
 go_wp2_with fail
 rw [← HW.out]
 refine (KF.out).mono ?_
 rintro e w1 ⟨A', c', rfl, ho, hb1⟩
 clear HW
 clear e0 e1
 replace HB := Lib.hid (HB.out.keep hb1)
 replace HG := Lib.hid (HG.out.keep hb1)
 clear hb1
 have e0 := HG.out.c0
 have e1 := HG.out.c1
 have HO := Lib.hid (ho.mono HZ.out)
 clear ho
 go_wp2
 go_ret2
 exact ⟨_, _, rfl, HO.out, HB.out.below⟩
set_option maxHeartbeats 1600000 in
theorem FindTwoEdges_sno (sz : Int) (A : Option Addr) (m c : Nat) (x : Nat → Int) (w : World) (h : GA w A m c x) (hm : m ≤ 1048576) (hok : okB sz m x = false) :
 Calls Tryz.prog 191 #[.agg #[.int .i64 sz, .slice A m c]] w (lsQ w none) := by
 obtain ⟨W, hW⟩ : ∃ W : World, W = (w.alloc (Obj.cells #[Value.int IntKind.i64 sz, Value.slice A m c] 26)) := ⟨_, rfl⟩
 have HB : Hid (From w W) := by rw [hW]; exact From.alloc _ _
 have HK := Lib.hid (h.keep HB.out.below)
 have HC : Hid (GC W w.heap.size sz A m c) := by rw [hW]; exact GC.new _ _ _ _ _
 have HW := Lib.hid hW
 have KF := Lib.hid (l4Four0_no sz A m c x W HK.out hm hok)
 clear hW h hok
 have HZ : Hid (w.heap.size ≤ W.heap.size) := HB.out.below.size
 go_enter Tryz.func191, Tryz.ntmps191
 have e0 := HC.out.c0
 have e1 := HC.out.c1
 go_wp2_with fail
 rw [← HW.out]
 refine (KF.out).mono ?_
 rintro e w1 ⟨A', c', rfl, ho, hb1⟩
 clear HW
 clear e0 e1
 replace HB := Lib.hid (HB.out.keep hb1)
 replace HK := Lib.hid (HK.out.keep hb1)
 replace HC := Lib.hid (HC.out.keep hb1)
 clear hb1
 have e0 := HC.out.c0
 have e1 := HC.out.c1
 have HO := Lib.hid (ho.mono HZ.out)
 clear ho
 go_wp2
 go_ret2
 exact ⟨_, _, rfl, HO.out, HB.out.below⟩
set_option maxHeartbeats 1600000 in
theorem FindClaw_sv {A : Option Addr} {m c : Nat} {r : Nat → Nat} {w : World} (h : GV w A m c r) : Calls Tryz.prog 190 #[.agg #[.int .i64 m, .slice A m c]] w (lsQ w (cwO r m)) := by
 have HE := Lib.hid (cwO_s (r := r) (m := m))
 obtain ⟨W, hW⟩ : ∃ W : World, W = (w.alloc (Obj.cells #[Value.int IntKind.i64 m, Value.slice A m c] 26)) := ⟨_, rfl⟩
 have HB : Hid (From w W) := by rw [hW]; exact From.alloc _ _
 have HG : Hid (GBox W w.heap.size A m c r) := by rw [hW]; exact h.box
 have HW := Lib.hid hW
 clear hW h
 have e0 := HG.out.c0
 have e1 := HG.out.c1
 have KF := Lib.hid (l4Four1_v HG.out.gv)
 rw [HE.out] at KF
 have HZ : Hid (w.heap.size ≤ W.heap.size) := HB.out.below.size
 go_enter Tryz.func190, Tryz.ntmps190
 go_wp2_with fail
 rw [← HW.out]
 refine (KF.out).mono ?_
 rintro e w1 ⟨A', c', rfl, ho, hb1⟩
 clear HW
 clear e0 e1
 replace HB := Lib.hid (HB.out.keep hb1)
 replace HG := Lib.hid (HG.out.keep hb1)
 clear hb1
 have e0 := HG.out.c0
 have e1 := HG.out.c1
 have HO := Lib.hid (ho.mono HZ.out)
 clear ho
 go_wp2
 go_ret2
 exact ⟨_, _, rfl, HO.out, HB.out.below⟩
set_option maxHeartbeats 1600000 in
theorem FindClaw_sno (sz : Int) (A : Option Addr) (m c : Nat) (x : Nat → Int) (w : World) (h : GA w A m c x) (hm : m ≤ 1048576) (hok : okB sz m x = false) :
 Calls Tryz.prog 190 #[.agg #[.int .i64 sz, .slice A m c]] w (lsQ w none) := by
 obtain ⟨W, hW⟩ : ∃ W : World, W = (w.alloc (Obj.cells #[Value.int IntKind.i64 sz, Value.slice A m c] 26)) := ⟨_, rfl⟩
 have HB : Hid (From w W) := by rw [hW]; exact From.alloc _ _
 have HK := Lib.hid (h.keep HB.out.below)
 have HC : Hid (GC W w.heap.size sz A m c) := by rw [hW]; exact GC.new _ _ _ _ _
 have HW := Lib.hid hW
 have KF := Lib.hid (l4Four1_no sz A m c x W HK.out hm hok)
 clear hW h hok
 have HZ : Hid (w.heap.size ≤ W.heap.size) := HB.out.below.size
 go_enter Tryz.func190, Tryz.ntmps190
 have e0 := HC.out.c0
 have e1 := HC.out.c1
 go_wp2_with fail
 rw [← HW.out]
 refine (KF.out).mono ?_
 rintro e w1 ⟨A', c', rfl, ho, hb1⟩
 clear HW
 clear e0 e1
 replace HB := Lib.hid (HB.out.keep hb1)
 replace HK := Lib.hid (HK.out.keep hb1)
 replace HC := Lib.hid (HC.out.keep hb1)
 clear hb1
 have e0 := HC.out.c0
 have e1 := HC.out.c1
 have HO := Lib.hid (ho.mono HZ.out)
 clear ho
 go_wp2
 go_ret2
 exact ⟨_, _, rfl, HO.out, HB.out.below⟩
theorem ThresholdObstacle_sv {A : Option Addr} {m c : Nat} {r : Nat → Nat} {w : World} (h : GV w A m c r) : Calls Tryz.prog 128 #[.agg #[.int .i64 m, .slice A m c]] w (lsQ w (fhO r m)) := by
 have := FouT_v h
 rwa [fhO_s] at this
theorem ThresholdObstacle_sno (sz : Int) (A : Option Addr) (m c : Nat) (x : Nat → Int) (w : World) (h : GA w A m c x) (hm : m ≤ 1048576) (hok : okB sz m x = false) :
 Calls Tryz.prog 128 #[.agg #[.int .i64 sz, .slice A m c]] w (lsQ w none) := FouT_no sz A m c x w h hm hok
end Go.Proofs.YtfabbohijhjpcaaGreatDoor
