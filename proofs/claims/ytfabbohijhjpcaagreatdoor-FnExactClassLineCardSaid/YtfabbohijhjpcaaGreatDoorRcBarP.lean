/-
  Several texts in one.
-/
import Derived.Test.YtfabbohijhjpcaaGreatDoorRcTake
import Derived.Deep.QuietTactic
import Derived.BigQuiet
/-
-/
namespace Go.Proofs.YtfabbohijhjpcaaGreatDoor
open Go.RowKit
def edZ (x : Nat → Int) (a b : Int) : Bool := (rw_ x a.toNat).testBit b.toNat
noncomputable def ajB (sz : Int) (m : Nat) (x : Nat → Int) (l : List Int) (J : Nat → Nat → Bool) : Bool :=
 vrB sz m x l && (List.range l.length).all fun k => (List.range k).all fun i => edZ x (l.getD i 0) (l.getD k 0) == J i k
section
variable {sz : Int} {m : Nat} {x : Nat → Int} {l : List Int} {J : Nat → Nat → Bool}
theorem ajB_bad (h : vrB sz m x l = false) : ajB sz m x l J = false := by unfold ajB; rw [h]; rfl
theorem ajB_no {i k : Nat} (hi : i < k) (hk : k < l.length) (h : edZ x (l.getD i 0) (l.getD k 0) ≠ J i k) : ajB sz m x l J = false := by
 unfold ajB
 have : ((List.range l.length).all fun k => (List.range k).all fun i => edZ x (l.getD i 0) (l.getD k 0) == J i k) = false := by
  rw [List.all_eq_false]
  refine ⟨k, List.mem_range.2 hk, ?_⟩
  rw [Bool.not_eq_true, List.all_eq_false]
  exact ⟨i, List.mem_range.2 hi, by simpa using h⟩
 rw [this, Bool.and_false]
theorem ajB_yes (h : vrB sz m x l = true) (hall : ∀ k, k < l.length → ∀ i, i < k → edZ x (l.getD i 0) (l.getD k 0) = J i k) : ajB sz m x l J = true := by
 unfold ajB
 rw [h, Bool.true_and, List.all_eq_true]
 intro k hk
 rw [List.all_eq_true]
 intro i hi
 simpa using hall k (List.mem_range.1 hk) i (List.mem_range.1 hi)
theorem vrB_parts (h : vrB sz m x l = true) : okB sz m x = true ∧ VZ m l := by
 unfold vrB at h
 rw [Bool.and_eq_true] at h
 exact ⟨h.1, vzB_iff.1 h.2⟩
end
def pathJ (i k : Nat) : Bool := k == i + 1
def holeJ (n i k : Nat) : Bool := (k == i + 1) || (i == 0 && k + 1 == n)
def twoJ (i k : Nat) : Bool := (i == 0 && k == 1) || (i == 2 && k == 3)
def clawJ (i _k : Nat) : Bool := i == 0
def sunJ (i k : Nat) : Bool := decide (k < 3) || (decide (i < 3) && ((k == 3 && i != 2) || (k == 4 && i != 0) || (k == 5 && i != 1)))
noncomputable def ipB (sz : Int) (m : Nat) (x : Nat → Int) (l : List Int) : Bool := decide (0 < l.length) && ajB sz m x l pathJ
noncomputable def hoB (sz : Int) (m : Nat) (x : Nat → Int) (l : List Int) : Bool := decide (4 ≤ l.length) && ajB sz m x l (holeJ l.length)
noncomputable def teB (sz : Int) (m : Nat) (x : Nat → Int) (l : List Int) : Bool := decide (l.length = 4) && ajB sz m x l twoJ
noncomputable def clB (sz : Int) (m : Nat) (x : Nat → Int) (l : List Int) : Bool := decide (l.length = 4) && ajB sz m x l clawJ
noncomputable def snB (sz : Int) (m : Nat) (x : Nat → Int) (l : List Int) : Bool := decide (l.length = 6) && ajB sz m x l sunJ
set_option maxRecDepth 100000 in
set_option maxHeartbeats 3200000 in
theorem areJoined_g {fn : FuncId} {caps : Array Value} {J : Nat → Nat → Bool} (hef : Ent fn) (sz : Int) (A : Option Addr) (m c : Nat) (x : Nat → Int) (Al : Option Addr) (n cl : Nat) (l : List Int) (w : World) (h : GA w A m c x) (hl : LI w Al n cl l) (hm : m ≤ 1048576) (hn : n ≤ 1048576)
 (HF : ∀ (i k : Nat) (z : World), i < k → k < n → Below w.heap.size w z → Calls Tryz.prog fn (#[.int .i64 i, .int .i64 k] ++ caps) z (fun e z' => e = .returned (.bool (J i k)) ∧ Below z.heap.size z z')) :
 Calls Tryz.prog 280 #[.agg #[.int .i64 sz, .slice A m c], .slice Al n cl, .func (.func fn) #[] caps] w fun e w' => e = .returned (.bool (ajB sz m x l J)) ∧ Below w.heap.size w w' := by
 unfold Ent at hef
 obtain ⟨W, hW⟩ : ∃ W : World, W = (w.alloc (Obj.cells #[Value.int IntKind.i64 sz, Value.slice A m c] 26)) := ⟨_, rfl⟩
 have HB : Hid (From w W) := by rw [hW]; exact From.alloc _ _
 have HK := Lib.hid (h.keep HB.out.below)
 have HL := Lib.hid (hl.keep HB.out.below)
 have HC : Hid (GC W w.heap.size sz A m c) := by rw [hW]; exact GC.new _ _ _ _ _
 have HW := Lib.hid hW
 have HN := Lib.hid hl.len
 have HF := Lib.hid HF
 clear hW h hl
 go_enter Tryz.func280, Tryz.ntmps280
 have e0 := HC.out.c0
 have e1 := HC.out.c1
 go_wp2_with fail
 rw [← HW.out]
 refine (areVertices_z sz A m c x Al n cl l W HK.out HL.out hm hn).mono ?_
 rintro e w1 ⟨rfl, hb1⟩
 clear HW
 clear e0 e1
 replace HB := Lib.hid (HB.out.keep hb1)
 replace HK := Lib.hid (HK.out.keep hb1)
 replace HL := Lib.hid (HL.out.keep hb1)
 replace HC := Lib.hid (HC.out.keep hb1)
 clear hb1
 have e0 := HC.out.c0
 have e1 := HC.out.c1
 cases hv : vrB sz m x l
 ·have hno : Hid (ajB sz m x l J = false) := ajB_bad hv
  clear hv
  go_wp2
  go_ret
  exact ⟨ret_bool hno.out.symm, HB.out.below⟩
 ·obtain ⟨ho, hV⟩ := vrB_parts hv
  obtain ⟨_, es, vg0, _⟩ := okB_ok' ho
  subst es
  have hn7 := vg0.n7
  have HG : Hid (GV w1 A m c (rw_ x)) := HK.out.gv ho
  have HV := Lib.hid hV
  have Hv := Lib.hid hv
  have hn7' : n ≤ 7 := by rw [HN.out]; have := hV.len; omega
  obtain ⟨b, o, rfl⟩ := HG.out.addr
  clear hv ho hV vg0 e0
  go_wp2
  go_loopw [15] (fun k wr => ∃ K : Nat, K ≤ n ∧ k = .int .i64 K ∧ Hid (∀ k, k < K → ∀ i, i < k → edZ x (l.getD i 0) (l.getD k 0) = J i k) ∧ Hid (From w1 wr)) (fun k _ => n - (intOf k).toNat)
  case atStart => exact ⟨0, Nat.zero_le _, rfl, fun k hk => absurd hk (by omega), From.refl _⟩
  case round =>
   obtain ⟨K, hK, rfl, hall, HR⟩ := hrel
   by_cases hlt : K < n
   ·have i1 : (K : Int) < (n : Int) := by omega
    have HRo := HR
    have Hlt := Lib.hid hlt
    go_wp2
    go_loopw [19] (fun i wz => ∃ j : Nat, j ≤ K ∧ i = .int .i64 j ∧ Hid (∀ i, i < j → edZ x (l.getD i 0) (l.getD K 0) = J i K) ∧ Hid (From w1 wz)) (fun i _ => K - (intOf i).toNat)
    case atStart => exact ⟨0, Nat.zero_le _, rfl, fun i hi => absurd hi (by omega), HRo⟩
    case round =>
     clear HR HRo
     obtain ⟨j, hj, rfl, hin, HR⟩ := hrel
     by_cases hjK : j < K
     ·have i2 : (j : Int) < (K : Int) := by omega
      have HLr := Lib.hid (HL.out.keep HR.out.below)
      have HGr := Lib.hid (HG.out.keep HR.out.below)
      have HCr := Lib.hid (HC.out.keep HR.out.below)
      have HBr := Lib.hid (HB.out.keep HR.out.below)
      have e1 := HCr.out.c1
      obtain ⟨b2, o2, rfl⟩ := HLr.out.addr (by omega)
      have p0 := HLr.out.at (j := j) (by omega)
      have p1 := HLr.out.at (j := K) (by omega)
      have hmj := getD_mem (l := l) (k := j) (by rw [← HN.out]; omega)
      have hmk := getD_mem (l := l) (k := K) (by rw [← HN.out]; omega)
      obtain ⟨a0, a1⟩ := HV.out.2 _ hmj
      obtain ⟨d0, d1⟩ := HV.out.2 _ hmk
      obtain ⟨u, hu⟩ := Int.eq_ofNat_of_zero_le a0
      obtain ⟨v, hvv⟩ := Int.eq_ofNat_of_zero_le d0
      have Hed : Hid (edZ x (l.getD j 0) (l.getD K 0) = (rw_ x u).testBit v) := by show _ = _; unfold edZ; rw [hu, hvv, Int.toNat_natCast, Int.toNat_natCast]
      rw [hu] at p0 a1
      rw [hvv] at p1 d1
      have q0 := HGr.out.row (v := u) (by omega)
      have hr := HGr.out.vg.lt128 (v := u) (by omega)
      obtain ⟨y, hy⟩ : ∃ y, y = rw_ x u := ⟨_, rfl⟩
      rw [← hy] at q0 hr Hed
      have K1 : Hid (∀ z : World, Calls Tryz.prog 44 #[.int .i64 (y : Int), .int .i64 v] z fun e w' => e = .returned (.bool (y.testBit v)) ∧ Below z.heap.size z w') := fun z => (has_v z (by omega) (by omega)).mono fun _ _ ⟨h1, h2⟩ => ⟨h1, h2 ▸ Below.refl _ _⟩
      have K2 : Hid (∀ z : World, Below wr.heap.size wr z → Calls Tryz.prog fn (#[.int .i64 j, .int .i64 K] ++ caps) z fun e z' => e = .returned (.bool (J j K)) ∧ Below z.heap.size z z') := fun z hz => HF.out j K z hjK Hlt.out (HBr.out.keep hz).below
      obtain ⟨t, ht⟩ : ∃ t, t = y.testBit v := ⟨_, rfl⟩
      rw [← ht] at K1 Hed
      obtain ⟨t2, ht2⟩ : ∃ t2, t2 = J j K := ⟨_, rfl⟩
      rw [← ht2] at K2
      have Ht2 := Lib.hid ht2
      have i3 : (j : Int) < (n : Int) := by omega
      clear hmj hmk hu hvv hy ht ht2 a0 d0 e1
      have e1 := HCr.out.c1
      go_wp2
      have HSC : Hid (∀ z : World, Below wr.heap.size wr z → (Below wr.heap.size wr z ∧ z.cell? ⟨w.heap.size, 1, none⟩ = some (.slice (some ⟨b, o, none⟩) m c) ∧ z.cell? ⟨b2, o2 + j, none⟩ = some (.int .i64 u) ∧ z.cell? ⟨b2, o2 + K, none⟩ = some (.int .i64 v) ∧ z.cell? ⟨b, o + u, none⟩ = some (.int .i64 (y : Int)))) := fun z hz => ⟨hz, up_ hz e1, up_ hz p0, up_ hz p1, up_ hz q0⟩
      have HZ0 : Hid (Below wr.heap.size wr wr.drew) := (Below.refl _ _).drew
      have HS1 := Lib.hid (HSC.out _ HZ0.out)
      have KR1 : Hid (∀ z : World, Below wr.heap.size wr z → _) := fun z hz => K1.out z
      have KR2 : Hid (∀ z : World, Below wr.heap.size wr z → _) := fun z hz => K2.out z hz
      go_region_held3 (fun z => Below wr.heap.size wr z ∧ z.cell? ⟨w.heap.size, 1, none⟩ = some (.slice (some ⟨b, o, none⟩) m c) ∧ z.cell? ⟨b2, o2 + j, none⟩ = some (.int .i64 u) ∧ z.cell? ⟨b2, o2 + K, none⟩ = some (.int .i64 v) ∧ z.cell? ⟨b, o + u, none⟩ = some (.int .i64 (y : Int)))
       (first | exact HS1.out | assumption | exact HSC.out _ hz3 | exact HSC.out _ hz2 | fail)
       (first | (go_at_call 44; ((with_reducible refine (KR1.out _ HZ0.out).mono ?_); rintro e w2 ⟨rfl, hb2⟩; have hz2 := bl_trans HZ0.out hb2)) | (((with_reducible refine (KR2.out _ hz2).mono ?_); rintro e w3 ⟨rfl, hb3⟩; have hz3 := bl_trans hz2 hb3)))
      clear e1
      replace HCr := Lib.hid (HCr.out.keep hz3)
      replace HR := Lib.hid (HR.out.keep hz3)
      replace HBr := Lib.hid (HBr.out.keep hz3)
      clear hb2 hz2 hb3 hz3 HSC HZ0 HS1 KR1 KR2
      have e1 := HCr.out.c1
      cases t
      ·cases t2
       ·go_wp2
        go_roundw
        case rel =>
         refine ⟨j + 1, by omega, by go_num, fun i hi => ?_, HR⟩
         by_cases hij : i < j
         ·exact hin.out i hij
         ·obtain rfl : i = j := by omega
          rw [Hed.out, ← Ht2.out]
        case measure => (simp [intOf] <;> omega)
       ·have hno : Hid (ajB (m : Int) m x l J = false) := ajB_no (i := j) (k := K) hjK (by rw [← HN.out]; exact Hlt.out) (by rw [Hed.out, ← Ht2.out]; decide)
        go_wp2
        go_ret
        exact ⟨ret_bool hno.out.symm, HBr.out.below⟩
      ·cases t2
       ·have hno : Hid (ajB (m : Int) m x l J = false) := ajB_no (i := j) (k := K) hjK (by rw [← HN.out]; exact Hlt.out) (by rw [Hed.out, ← Ht2.out]; decide)
        go_wp2
        go_ret
        exact ⟨ret_bool hno.out.symm, HBr.out.below⟩
       ·go_wp2
        go_roundw
        case rel =>
         refine ⟨j + 1, by omega, by go_num, fun i hi => ?_, HR⟩
         by_cases hij : i < j
         ·exact hin.out i hij
         ·obtain rfl : i = j := by omega
          rw [Hed.out, ← Ht2.out]
        case measure => (simp [intOf] <;> omega)
     ·obtain rfl : j = K := by omega
      go_wp2
      go_roundw
      case rel =>
       refine ⟨j + 1, by omega, by go_num, fun k hk i hi => ?_, HR⟩
       by_cases hkj : k < j
       ·exact hall.out k hkj i hi
       ·obtain rfl : k = j := by omega
        exact hin.out i hi
      case measure => simp [intOf]; omega
   ·have hyes : Hid (ajB (m : Int) m x l J = true) := ajB_yes Hv.out fun k hk i hi => hall.out k (by rw [← HN.out] at hk; omega) i hi
    have i1 : (n : Int) ≤ (K : Int) := by omega
    have HBr := Lib.hid (HB.out.keep HR.out.below)
    go_wp2
    go_ret
    exact ⟨ret_bool hyes.out.symm, HBr.out.below⟩
theorem pathJ_c (i k : Nat) (z : World) (hi : i ≤ 1048576) : Calls Tryz.prog 281 (#[.int .i64 i, .int .i64 k] ++ #[]) z (fun e z' => e = .returned (.bool (pathJ i k)) ∧ Below z.heap.size z z') := by
 have hd : Hid (((k : Int) == (i : Int) + 1) = pathJ i k) := by
  show _ = _; unfold pathJ; rw [Bool.eq_iff_iff]; simp only [beq_iff_eq]; omega
 show Calls Tryz.prog 281 #[.int .i64 i, .int .i64 k] z _
 go_enter Tryz.func281, Tryz.ntmps281
 go_wp2
 go_ret
 exact ⟨ret_bool hd.out, Below.refl _ _⟩
set_option maxHeartbeats 1000000 in
theorem holeJ_c (i k n c q : Nat) (A : Option Addr) (z : World) (hi : i ≤ 1048576) (hn : n ≤ 1048576) (q0 : z.cell? ⟨q, 0, none⟩ = some (.slice A n c)) : Calls Tryz.prog 284 (#[.int .i64 i, .int .i64 k] ++ #[.pointer (some ⟨q, 0, none⟩)]) z (fun e z' => e = .returned (.bool (holeJ n i k)) ∧ Below z.heap.size z z') := by
 show Calls Tryz.prog 284 #[.int .i64 i, .int .i64 k, .pointer (some ⟨q, 0, none⟩)] z _
 by_cases h1 : k = i + 1
 ·have hy : Hid (holeJ n i k = true) := by show _ = _; unfold holeJ; rw [h1]; simp
  have e1 : ((k : Int) == (i : Int) + 1) = true := by simp; omega
  clear h1
  go_enter Tryz.func284, Tryz.ntmps284
  go_wp2
  go_ret
  exact ⟨ret_bool hy.out.symm, Below.refl _ _⟩
 ·have e1 : ((k : Int) == (i : Int) + 1) = false := by simp; omega
  by_cases h2 : i = 0
  ·subst h2
   have hd : Hid (((k : Int) == (n : Int) - 1) = holeJ n 0 k) := by
    have h3 : (k == 0 + 1) = false := by simpa using h1
    show _ = _; unfold holeJ; rw [h3, Bool.false_or, beq_self_eq_true, Bool.true_and, Bool.eq_iff_iff]; simp only [beq_iff_eq]; omega
   have e3 : ((k : Int) == 1) = false := by simp; omega
   clear h1 e1
   go_enter Tryz.func284, Tryz.ntmps284
   go_wp2
   go_ret
   exact ⟨ret_bool hd.out, Below.refl _ _⟩
  ·have hy : Hid (holeJ n i k = false) := by
    show _ = _; unfold holeJ
    rw [Bool.or_eq_false_iff]
    exact ⟨by simpa using h1, by rw [Bool.and_eq_false_iff]; exact .inl (by simpa using h2)⟩
   have e2 : ((i : Int) == 0) = false := by simp; omega
   clear h1 h2
   go_enter Tryz.func284, Tryz.ntmps284
   go_wp2
   go_ret
   exact ⟨ret_bool hy.out.symm, Below.refl _ _⟩
theorem clawJ_c (i k : Nat) (z : World) : Calls Tryz.prog 333 (#[.int .i64 i, .int .i64 k] ++ #[]) z (fun e z' => e = .returned (.bool (clawJ i k)) ∧ Below z.heap.size z z') := by
 have hd : Hid (((i : Int) == 0) = clawJ i k) := by
  show _ = _; unfold clawJ; rw [Bool.eq_iff_iff]; simp
 show Calls Tryz.prog 333 #[.int .i64 i, .int .i64 k] z _
 go_enter Tryz.func333, Tryz.ntmps333
 go_wp2
 go_ret
 exact ⟨ret_bool hd.out, Below.refl _ _⟩
set_option maxHeartbeats 4000000 in
theorem twoJ_c (i k : Nat) (z : World) (hk : k < 4) (hik : i < k) : Calls Tryz.prog 334 (#[.int .i64 i, .int .i64 k] ++ #[]) z (fun e z' => e = .returned (.bool (twoJ i k)) ∧ Below z.heap.size z z') := by
 show Calls Tryz.prog 334 #[.int .i64 i, .int .i64 k] z _
 have h : (i = 0 ∧ k = 1) ∨ (i = 0 ∧ k = 2) ∨ (i = 1 ∧ k = 2) ∨ (i = 0 ∧ k = 3) ∨ (i = 1 ∧ k = 3) ∨ (i = 2 ∧ k = 3) := by omega
 clear hk hik
 rcases h with ⟨rfl, rfl⟩ | ⟨rfl, rfl⟩ | ⟨rfl, rfl⟩ | ⟨rfl, rfl⟩ | ⟨rfl, rfl⟩ | ⟨rfl, rfl⟩
 all_goals
  go_enter Tryz.func334, Tryz.ntmps334
  go_wp2
  go_ret
  exact ⟨rfl, Below.refl _ _⟩
set_option maxHeartbeats 8000000 in
theorem sunJ_c (i k : Nat) (z : World) (hk : k < 6) (hik : i < k) : Calls Tryz.prog 293 (#[.int .i64 i, .int .i64 k] ++ #[]) z (fun e z' => e = .returned (.bool (sunJ i k)) ∧ Below z.heap.size z z') := by
 show Calls Tryz.prog 293 #[.int .i64 i, .int .i64 k] z _
 have h : (i = 0 ∧ k = 1) ∨ (i = 0 ∧ k = 2) ∨ (i = 1 ∧ k = 2) ∨ (i = 0 ∧ k = 3) ∨ (i = 1 ∧ k = 3) ∨ (i = 2 ∧ k = 3) ∨ (i = 0 ∧ k = 4) ∨ (i = 1 ∧ k = 4) ∨ (i = 2 ∧ k = 4) ∨ (i = 3 ∧ k = 4) ∨ (i = 0 ∧ k = 5) ∨ (i = 1 ∧ k = 5) ∨ (i = 2 ∧ k = 5) ∨ (i = 3 ∧ k = 5) ∨ (i = 4 ∧ k = 5) := by omega
 clear hk hik
 rcases h with ⟨rfl, rfl⟩ | ⟨rfl, rfl⟩ | ⟨rfl, rfl⟩ | ⟨rfl, rfl⟩ | ⟨rfl, rfl⟩ | ⟨rfl, rfl⟩ | ⟨rfl, rfl⟩ | ⟨rfl, rfl⟩ | ⟨rfl, rfl⟩ | ⟨rfl, rfl⟩ | ⟨rfl, rfl⟩ | ⟨rfl, rfl⟩ | ⟨rfl, rfl⟩ | ⟨rfl, rfl⟩ | ⟨rfl, rfl⟩
 all_goals
  go_enter Tryz.func293, Tryz.ntmps293
  go_wp2
  go_ret
  exact ⟨rfl, Below.refl _ _⟩
section
variable (sz : Int) (A : Option Addr) (m c : Nat) (x : Nat → Int) (Al : Option Addr) (n cl : Nat) (l : List Int) (w : World)
set_option maxHeartbeats 1000000 in
theorem IsInducedPath_i (h : GA w A m c x) (hl : LI w Al n cl l) (hm : m ≤ 1048576) (hn : n ≤ 1048576) :
 Calls Tryz.prog 202 #[.agg #[.int .i64 sz, .slice A m c], .slice Al n cl] w fun e w' => e = .returned (.bool (ipB sz m x l)) ∧ Below w.heap.size w w' := by
 obtain ⟨W, hW⟩ : ∃ W : World, W = (w.alloc (Obj.cells #[Value.int IntKind.i64 sz, Value.slice A m c] 26)) := ⟨_, rfl⟩
 have HB : Hid (From w W) := by rw [hW]; exact From.alloc _ _
 have HC : Hid (GC W w.heap.size sz A m c) := by rw [hW]; exact GC.new _ _ _ _ _
 have K := Lib.hid (areJoined_g (J := pathJ) (fn := 281) (caps := #[]) (ent_of Tryz.func281 (by kernel_rfl) rfl) sz A m c x Al n cl l W (h.keep HB.out.below) (hl.keep HB.out.below) hm hn (fun i k z h1 h2 _ => pathJ_c i k z (by omega)))
 have HN := Lib.hid hl.len
 have HW := Lib.hid hW
 have e0 := HC.out.c0
 have e1 := HC.out.c1
 clear hW h hl
 by_cases h0 : 0 < n
 ·have hd : Hid (ipB sz m x l = ajB sz m x l pathJ) := by show _ = _; unfold ipB; rw [decide_eq_true (by rw [← HN.out]; exact h0)]; rfl
  have i1 : (0 : Int) < (n : Int) := by omega
  go_enter Tryz.func202, Tryz.ntmps202
  go_wp2_with fail
  rw [← HW.out]
  clear HW
  refine K.out.mono ?_
  rintro e w1 ⟨rfl, hb1⟩
  have HB1 := Lib.hid (HB.out.keep hb1)
  clear hb1
  go_wp2
  go_ret
  exact ⟨ret_bool hd.out.symm, HB1.out.below⟩
 ·obtain rfl : n = 0 := by omega
  have hd : Hid (ipB sz m x l = false) := by show _ = _; unfold ipB; rw [decide_eq_false (by rw [← HN.out]; omega)]; rfl
  go_enter Tryz.func202, Tryz.ntmps202
  go_wp2
  rw [← HW.out]
  go_ret
  exact ⟨ret_bool hd.out.symm, HB.out.below⟩
set_option maxHeartbeats 1000000 in
theorem IsTwoEdges_i (h : GA w A m c x) (hl : LI w Al n cl l) (hm : m ≤ 1048576) (hn : n ≤ 1048576) :
 Calls Tryz.prog 290 #[.agg #[.int .i64 sz, .slice A m c], .slice Al n cl] w fun e w' => e = .returned (.bool (teB sz m x l)) ∧ Below w.heap.size w w' := by
 obtain ⟨W, hW⟩ : ∃ W : World, W = (w.alloc (Obj.cells #[Value.int IntKind.i64 sz, Value.slice A m c] 26)) := ⟨_, rfl⟩
 have HB : Hid (From w W) := by rw [hW]; exact From.alloc _ _
 have HC : Hid (GC W w.heap.size sz A m c) := by rw [hW]; exact GC.new _ _ _ _ _
 have HK := Lib.hid (h.keep HB.out.below)
 have HL := Lib.hid (hl.keep HB.out.below)
 have HN := Lib.hid hl.len
 have HW := Lib.hid hW
 have e0 := HC.out.c0
 have e1 := HC.out.c1
 clear hW h hl
 by_cases h0 : n = 4
 ·subst h0
  have K := Lib.hid (areJoined_g (J := twoJ) (fn := 334) (caps := #[]) (ent_of Tryz.func334 (by kernel_rfl) rfl) sz A m c x Al 4 cl l W HK.out HL.out hm hn (fun i k z h1 h2 _ => twoJ_c i k z h2 h1))
  have hd : Hid (teB sz m x l = ajB sz m x l twoJ) := by show _ = _; unfold teB; rw [decide_eq_true HN.out.symm]; rfl
  go_enter Tryz.func290, Tryz.ntmps290
  go_wp2_with fail
  rw [← HW.out]
  clear HW
  refine K.out.mono ?_
  rintro e w1 ⟨rfl, hb1⟩
  have HB1 := Lib.hid (HB.out.keep hb1)
  clear hb1
  go_wp2
  go_ret
  exact ⟨ret_bool hd.out.symm, HB1.out.below⟩
 ·have hd : Hid (teB sz m x l = false) := by show _ = _; unfold teB; rw [decide_eq_false (by rw [← HN.out]; exact h0)]; rfl
  have i1 : ((n : Int) == 4) = false := by simp; omega
  clear h0
  go_enter Tryz.func290, Tryz.ntmps290
  go_wp2
  rw [← HW.out]
  go_ret
  exact ⟨ret_bool hd.out.symm, HB.out.below⟩
set_option maxHeartbeats 1000000 in
theorem IsClaw_i (h : GA w A m c x) (hl : LI w Al n cl l) (hm : m ≤ 1048576) (hn : n ≤ 1048576) :
 Calls Tryz.prog 287 #[.agg #[.int .i64 sz, .slice A m c], .slice Al n cl] w fun e w' => e = .returned (.bool (clB sz m x l)) ∧ Below w.heap.size w w' := by
 obtain ⟨W, hW⟩ : ∃ W : World, W = (w.alloc (Obj.cells #[Value.int IntKind.i64 sz, Value.slice A m c] 26)) := ⟨_, rfl⟩
 have HB : Hid (From w W) := by rw [hW]; exact From.alloc _ _
 have HC : Hid (GC W w.heap.size sz A m c) := by rw [hW]; exact GC.new _ _ _ _ _
 have HK := Lib.hid (h.keep HB.out.below)
 have HL := Lib.hid (hl.keep HB.out.below)
 have HN := Lib.hid hl.len
 have HW := Lib.hid hW
 have e0 := HC.out.c0
 have e1 := HC.out.c1
 clear hW h hl
 by_cases h0 : n = 4
 ·subst h0
  have K := Lib.hid (areJoined_g (J := clawJ) (fn := 333) (caps := #[]) (ent_of Tryz.func333 (by kernel_rfl) rfl) sz A m c x Al 4 cl l W HK.out HL.out hm hn (fun i k z h1 h2 _ => clawJ_c i k z))
  have hd : Hid (clB sz m x l = ajB sz m x l clawJ) := by show _ = _; unfold clB; rw [decide_eq_true HN.out.symm]; rfl
  go_enter Tryz.func287, Tryz.ntmps287
  go_wp2_with fail
  rw [← HW.out]
  clear HW
  refine K.out.mono ?_
  rintro e w1 ⟨rfl, hb1⟩
  have HB1 := Lib.hid (HB.out.keep hb1)
  clear hb1
  go_wp2
  go_ret
  exact ⟨ret_bool hd.out.symm, HB1.out.below⟩
 ·have hd : Hid (clB sz m x l = false) := by show _ = _; unfold clB; rw [decide_eq_false (by rw [← HN.out]; exact h0)]; rfl
  have i1 : ((n : Int) == 4) = false := by simp; omega
  clear h0
  go_enter Tryz.func287, Tryz.ntmps287
  go_wp2
  rw [← HW.out]
  go_ret
  exact ⟨ret_bool hd.out.symm, HB.out.below⟩
set_option maxHeartbeats 1000000 in
theorem IsHole_i (h : GA w A m c x) (hl : LI w Al n cl l) (hm : m ≤ 1048576) (hn : n ≤ 1048576) :
 Calls Tryz.prog 205 #[.agg #[.int .i64 sz, .slice A m c], .slice Al n cl] w fun e w' => e = .returned (.bool (hoB sz m x l)) ∧ Below w.heap.size w w' := by
 obtain ⟨W, hW⟩ : ∃ W : World, W = ((w.alloc (Obj.cells #[Value.int IntKind.i64 sz, Value.slice A m c] 26)).alloc (Obj.cells #[.slice Al n cl] 24)) := ⟨_, rfl⟩
 have HB : Hid (From w W) := by rw [hW]; exact (From.alloc _ _).alloc_ _
 have HC : Hid (GC W w.heap.size sz A m c) := by rw [hW]; exact (GC.new _ _ _ _ _).keep ((Below.refl _ _).alloc (Nat.le_refl _) _)
 have HQ : Hid (CL W (w.heap.size + 1) 0 (.slice Al n cl)) := ⟨by rw [hW]; simp [go_sem]⟩
 have HK := Lib.hid (h.keep HB.out.below)
 have HL := Lib.hid (hl.keep HB.out.below)
 have HN := Lib.hid hl.len
 have HW := Lib.hid hW
 have e0 := HC.out.c0
 have e1 := HC.out.c1
 have q0 := HQ.out.c
 clear hW h hl
 by_cases h0 : 4 ≤ n
 ·have K := Lib.hid (areJoined_g (J := holeJ n) (fn := 284) (caps := #[.pointer (some ⟨w.heap.size + 1, 0, none⟩)]) (ent_of Tryz.func284 (by kernel_rfl) rfl) sz A m c x Al n cl l W HK.out HL.out hm hn (fun i k z h1 h2 hb => holeJ_c i k n cl (w.heap.size + 1) Al z (by omega) hn (up_ hb HQ.out.c)))
  have hd : Hid (hoB sz m x l = ajB sz m x l (holeJ n)) := by show _ = _; unfold hoB; rw [decide_eq_true (by rw [← HN.out]; exact h0), ← HN.out]; rfl
  have i1 : (4 : Int) ≤ (n : Int) := by omega
  go_enter Tryz.func205, Tryz.ntmps205
  go_wp2_with fail
  rw [← HW.out]
  clear HW
  refine K.out.mono ?_
  rintro e w1 ⟨rfl, hb1⟩
  have HB1 := Lib.hid (HB.out.keep hb1)
  clear hb1
  go_wp2
  go_ret
  exact ⟨ret_bool hd.out.symm, HB1.out.below⟩
 ·have hd : Hid (hoB sz m x l = false) := by show _ = _; unfold hoB; rw [decide_eq_false (by rw [← HN.out]; exact h0)]; rfl
  have i1 : (n : Int) < 4 := by omega
  clear h0
  go_enter Tryz.func205, Tryz.ntmps205
  go_wp2
  rw [← HW.out]
  go_ret
  exact ⟨ret_bool hd.out.symm, HB.out.below⟩
end
end Go.Proofs.YtfabbohijhjpcaaGreatDoor

/-
-/
namespace Go.Proofs.YtfabbohijhjpcaaGreatDoor
open Go.RowKit
def coR (r : Nat → Nat) (m v : Nat) : Nat := (2 ^ m - 1) ^^^ (r v ||| 2 ^ v)
section
variable {m : Nat} {r : Nat → Nat}
theorem or_pow_lt (vg : VG m r) {v : Nat} (hv : v < m) : r v ||| 2 ^ v < 2 ^ m := Nat.or_lt_two_pow (vg.lt v hv) (Nat.pow_lt_pow_right (by omega) hv)
theorem coR_sub (vg : VG m r) {v : Nat} (hv : v < m) : coR r m v = 2 ^ m - 1 - r v - 2 ^ v ∧ r v + 2 ^ v ≤ 2 ^ m - 1 := by
 have h1 := or_pow_lt vg hv
 have h2 : r v + 2 ^ v = r v ||| 2 ^ v := or_of_add (vg.irr v hv)
 unfold coR
 rw [full_sub vg.n7 h1, ← h2]
 rw [← h2] at h1
 omega
theorem coR_bit {v u : Nat} (hu : u < m) : (coR r m v).testBit u = (!((r v).testBit u || decide (v = u))) := by
 unfold coR
 rw [Nat.testBit_xor, Nat.testBit_two_pow_sub_one, Nat.testBit_or, Nat.testBit_two_pow, decide_eq_true hu]
 simp
theorem coR_vg (vg : VG m r) : VG m (coR r m) where
 n1 := vg.n1
 n7 := vg.n7
 lt := fun v hv => by unfold coR; exact full_lt vg.n7 (or_pow_lt vg hv)
 irr := fun v hv => by rw [coR_bit hv]; simp
 sym := fun v w hv hw => by
  rw [coR_bit hw, coR_bit hv, vg.sym v w hv hw]
  by_cases h : v = w
  ·subst h; rfl
  ·rw [decide_eq_false h, decide_eq_false (fun e => h e.symm)]
theorem coR_and {v : Nat} : ((2 ^ m - 1) ^^^ ((2 ^ m - 1) &&& r v)) ^^^ (((2 ^ m - 1) ^^^ ((2 ^ m - 1) &&& r v)) &&& 2 ^ v) = (2 ^ m - 1) ^^^ ((2 ^ m - 1) &&& (r v ||| 2 ^ v)) := by
 apply Nat.eq_of_testBit_eq
 intro i
 simp only [Nat.testBit_xor, Nat.testBit_and, Nat.testBit_or]
 cases (2 ^ m - 1).testBit i <;> cases (r v).testBit i <;> cases (2 ^ v).testBit i <;> rfl
end
end Go.Proofs.YtfabbohijhjpcaaGreatDoor
