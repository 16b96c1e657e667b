/-
-/
import Derived.Test.YtppkokgiojcgbaaGreatDoorQxDelI
import Derived.Test.YtppkokgiojcgbaaGreatDoorQxGC
import Derived.Test.YtppkokgiojcgbaaGreatDoorQxJoinI
namespace Go.Proofs.YtppkokgiojcgbaaGreatDoor
open Go.RowKit
section
variable {A : Option Addr} {m c : Nat} {r : Nat → Nat} {w : World} {str : ByteArray}
set_option maxRecDepth 100000 in
set_option maxHeartbeats 6400000 in
theorem FewestDeletions_sv (h : GV w A m c r) :
 Calls Tryz.prog 46 #[.agg #[.int .i64 m, .slice A m c], .string str] w fun e w' => e = .returned (lsV (dlO r m str.toList)) ∧ Below w.heap.size w w' := by
 have hn7 := h.vg.n7
 have h128 := two_pow_le hn7
 have hpos := Nat.two_pow_pos m
 have HV := Lib.hid h.vg
 have hfull := dlP_full r m str.toList
 have Hfound : Hid (∀ n k, k < 2 ^ m - 1 → cn k = n → dlP r m str.toList k = true → (∀ s, s < 2 ^ m - 1 → cn s < n → dlP r m str.toList s = false) → (∀ s, s < k → cn s = n → dlP r m str.toList s = false) → dlO r m str.toList = some k) := fun n k h1 h2 h3 h4 h5 => fw_found h1 h2 h3 h4 h5 hfull
 have Hnever : Hid ((∀ s, s < 2 ^ m - 1 → cn s < m → dlP r m str.toList s = false) → dlO r m str.toList = none) := fun h => fw_never hn7 h hfull
 have Hdef : Hid (∀ k, k < 2 ^ m - 1 → (2 ^ m - 1) ^^^ k = 2 ^ m - 1 - k ∧ (2 ^ m - 1) ^^^ k < 2 ^ m ∧ (2 ^ m - 1) ^^^ k ≠ 0 ∧ dlP r m str.toList k = isV (inR r ((2 ^ m - 1) ^^^ k)) (cn ((2 ^ m - 1) ^^^ k)) str.toList) := fun k hk => by
  have h1 := full_sub hn7 (show k < 2 ^ m by omega)
  have h0 : (2 ^ m - 1) ^^^ k ≠ 0 := by rw [h1]; omega
  refine ⟨h1, by rw [h1]; omega, h0, ?_⟩
  unfold dlP dlT
  have : ((2 ^ m - 1) ^^^ k == 0) = false := by simpa using h0
  rw [this]
  rfl
 have Hvg : Hid (∀ {t : Nat}, t < 2 ^ m → t ≠ 0 → ∀ {z : World} {A' : Option Addr} {c' lo hi : Nat}, Own z lo hi 3 1 A' (cn t) c' (fun j => .int .i64 (inR r t j : Nat)) → hi ≤ z.heap.size → GV z A' (cn t) c' (inR r t)) := fun hcl h0 => fun h1 h2 => ind_gv HV.out hcl h0 h1 h2
 obtain ⟨P, hP⟩ : ∃ P, P = dlP r m str.toList := ⟨_, rfl⟩
 obtain ⟨O, hO⟩ : ∃ O, O = dlO r m str.toList := ⟨_, rfl⟩
 rw [← hP] at Hfound Hnever Hdef
 rw [← hO] at Hfound Hnever ⊢
 obtain ⟨F, hF⟩ : ∃ F, F = 2 ^ m := ⟨_, rfl⟩
 have pm : IntKind.i64.wrap ((2 : Int) ^ m) = (F : Int) := by rw [pow_shl m hn7, hF]; simp
 have sm : IntKind.i64.wrap ((F : Int) - 1) = ((F - 1 : Nat) : Int) := by rw [Go.IntWalk.i64_in _ (by omega)]; omega
 have HF := Lib.hid hF
 have hFl : 1 ≤ F ∧ F ≤ 128 := by rw [hF]; exact ⟨hpos, h128⟩
 rw [← hF] at Hfound Hnever Hdef
 clear hP hO hF hfull hpos h128
 obtain ⟨W, hW⟩ : ∃ W : World, W = (w.alloc (Obj.cells #[Value.int IntKind.i64 m, Value.slice A m c] 29)) := ⟨_, rfl⟩
 have HB : Hid (From w W) := by rw [hW]; exact From.alloc _ _
 have HG : Hid (GBox W w.heap.size A m c r) := by rw [hW]; exact h.box
 have HW := Lib.hid hW
 clear hW h
 have e0 := HG.out.c0
 have e1 := HG.out.c1
 have HGw := HG
 have HBw := HB
 go_enter Tryz.func46, Tryz.ntmps46
 go_wp2
 rw [← HW.out]
 clear HW e0 e1
 go_loopw [6] (fun i wr => ∃ n : Nat, n ≤ m ∧ i = .int .i64 n ∧ Hid (∀ s, s < F - 1 → cn s < n → P s = false) ∧ Hid (From W wr)) (fun i _ => m - (intOf i).toNat)
 case atStart => exact ⟨0, Nat.zero_le _, rfl, (fun s _ h => absurd h (by omega)), From.refl _⟩
 case round =>
  clear HG HB
  obtain ⟨n, hn, rfl, hall, HR⟩ := hrel
  have HB := Lib.hid (HBw.out.up HR.out)
  have HG := Lib.hid (HGw.out.keep HR.out.below)
  have e0 := HG.out.c0
  have e1 := HG.out.c1
  by_cases hnm : n < m
  ·have i1 : (n : Int) < (m : Int) := by omega
   go_wp2_with fail
   refine (IsGraph_sv HG.out.gv).mono ?_
   rintro e w1 ⟨rfl, hb1⟩
   clear e0 e1
   replace HR := Lib.hid (HR.out.keep hb1)
   replace HB := Lib.hid (HB.out.keep hb1)
   replace HG := Lib.hid (HG.out.keep hb1)
   clear hb1
   have e0 := HG.out.c0
   have e1 := HG.out.c1
   go_wp2
   go_loopw [7] (fun i wz => ∃ k : Nat, k ≤ F - 1 ∧ i = .int .i64 k ∧ Hid (∀ s, s < k → cn s = n → P s = false) ∧ Hid (From w1 wz)) (fun i _ => F - (intOf i).toNat)
   case atStart => exact ⟨0, Nat.zero_le _, rfl, (fun s h => absurd h (by omega)), From.refl _⟩
   case round =>
    obtain ⟨k, hk, rfl, hin, HZ⟩ := hrel
    clear e0 e1
    replace HR := Lib.hid (HR.out.keep HZ.out.below)
    replace HB := Lib.hid (HB.out.keep HZ.out.below)
    replace HG := Lib.hid (HG.out.keep HZ.out.below)
    have e0 := HG.out.c0
    have e1 := HG.out.c1
    by_cases hkf : k < F - 1
    ·have i2 : (k : Int) < ((F - 1 : Nat) : Int) := by omega
     obtain ⟨hx1, hx2, hx3, hx4⟩ := Hdef.out k hkf
     have KC : Hid (∀ z : World, Calls Tryz.prog 95 #[.int .i64 k] z fun e w' => e = .returned (.int .i64 (cn k : Int)) ∧ Below z.heap.size z w') := fun z => CountSet_sv k (by omega) z
     have hck := cn_le k
     obtain ⟨q, hq⟩ : ∃ q, q = cn k := ⟨_, rfl⟩
     rw [← hq] at KC hck
     go_wp2_with fail
     refine (KC.out _).mono ?_
     rintro e w2 ⟨rfl, hb2⟩
     clear e0 e1
     replace HR := Lib.hid (HR.out.keep hb2)
     replace HZ := Lib.hid (HZ.out.keep hb2)
     replace HB := Lib.hid (HB.out.keep hb2)
     replace HG := Lib.hid (HG.out.keep hb2)
     clear hb2
     have e0 := HG.out.c0
     have e1 := HG.out.c1
     by_cases hqn : q = n
     ·have d1 : ((q : Int) != (n : Int)) = false := by simp; omega
      have Hf : Hid (P k = true → O = some k) := fun h => Hfound.out n k hkf (by rw [← hq]; exact hqn) h hall.out hin.out
      have Hg : Hid (P k = false → ∀ s, s < k + 1 → cn s = n → P s = false) := fun h s hs h2 => by
       by_cases hsk : s < k
       ·exact hin.out s hsk h2
       ·obtain rfl : s = k := by omega
        exact h
      obtain ⟨b, hb⟩ : ∃ b, b = P k := ⟨_, rfl⟩
      rw [← hb] at Hf Hg hx4
      obtain ⟨t, ht⟩ : ∃ t, t = (F - 1) ^^^ k := ⟨_, rfl⟩
      rw [← ht] at hx1 hx2 hx3 hx4
      have s3 : IntKind.i64.wrap (((F - 1 : Nat) : Int) - (k : Int)) = (t : Int) := by rw [Go.IntWalk.i64_in _ (by omega)]; omega
      rw [HF.out] at hx2
      have Hvt : Hid (∀ {z : World} {A' : Option Addr} {c' lo hi : Nat}, Own z lo hi 3 1 A' (cn t) c' (fun j => .int .i64 (inR r t j : Nat)) → hi ≤ z.heap.size → GV z A' (cn t) c' (inR r t)) := fun h1 h2 => Hvg.out hx2 hx3 h1 h2
      obtain ⟨p, hp⟩ : ∃ p, p = cn t := ⟨_, rfl⟩
      obtain ⟨R, hR⟩ : ∃ R, R = inR r t := ⟨_, rfl⟩
      have KN : Hid (∀ {z : World}, GV z A m c r → Calls Tryz.prog 96 #[.agg #[.int .i64 m, .slice A m c], .int .i64 t] z fun e w' => ∃ A' c', e = .returned (.tuple #[.agg #[.int .i64 (p : Nat), .slice A' p c'], .bool true]) ∧ Own w' z.heap.size w'.heap.size 3 1 A' p c' (fun j => .int .i64 (R j : Nat)) ∧ Below z.heap.size z w') := by rw [hp, hR]; exact fun h => InducedOn_sv h hx2 hx3
      rw [← hp, ← hR] at hx4 Hvt
      have KI : Hid (∀ {z : World} {A' : Option Addr} {c' : Nat}, GV z A' p c' R → Calls Tryz.prog 28 #[.agg #[.int .i64 p, .slice A' p c'], .string str] z fun e w' => e = .returned (.bool b) ∧ Below z.heap.size z w') := by rw [hx4]; exact fun h => IsIn_sv h str
      have HGq := HG
      clear hp hR ht hb hx1 hx2 hx3 hx4 hq hqn KC
      have HSC : Hid (∀ z : World, Below w2.heap.size w2 z → (Below w2.heap.size w2 z ∧ z.cell? ⟨w.heap.size, 0, none⟩ = some (.int .i64 m) ∧ z.cell? ⟨w.heap.size, 1, none⟩ = some (.slice A m c))) := fun z hz => ⟨hz, up_ hz e0, up_ hz e1⟩
      have HZ1 : Hid (Below w2.heap.size w2 w2.drew) := (Below.refl _ _).drew
      have HZ2 : Hid (Below w2.heap.size w2 ((w2.alloc (Obj.cells #[Value.int IntKind.i64 0, Value.slice none 0 0] 29)).drew)) := ((Below.refl _ _).alloc (Nat.le_refl _) _).drew
      have HN2 : Hid (GC ((w2.alloc (Obj.cells #[Value.int IntKind.i64 0, Value.slice none 0 0] 29)).drew) w2.heap.size 0 none 0 0) := (GC.new _ _ _ _ _).drew
      have KR : Hid (∀ z : World, Below w2.heap.size w2 z → _) := fun z hz => KN.out (HGq.out.gv.keep hz)
      have HS1 := Lib.hid (HSC.out _ HZ1.out)
      have HS2 := Lib.hid (HSC.out _ HZ2.out)
      go_wp2
      go_region_held3 (fun z => Below w2.heap.size w2 z ∧ z.cell? ⟨w.heap.size, 0, none⟩ = some (.int .i64 m) ∧ z.cell? ⟨w.heap.size, 1, none⟩ = some (.slice A m c))
       (first | exact HS1.out | exact HS2.out | assumption | (refine HSC.out _ ?_; first | assumption | exact bl_trans HZ1.out hb5 | exact bl_trans HZ2.out hb5 | exact bl_alloc (bl_trans HZ1.out hb5) | exact bl_set (bl_trans HZ2.out hb5) (Nat.le_refl _) | exact bl_set (bl_set (bl_trans HZ2.out hb5) (Nat.le_refl _)) (Nat.le_refl _) | exact bl_alloc HZ1.out) | fail)
       (first | (go_at_call 96; ((with_reducible refine (KR.out _ HZ1.out).mono ?_); rintro e w5 ⟨A5, c5, rfl, hO5, hb5⟩)) | (go_at_call 96; ((with_reducible refine (KR.out _ HZ2.out).mono ?_); rintro e w5 ⟨A5, c5, rfl, hO5, hb5⟩; have hn5 := HN2.out.keep hb5; have n0 := hn5.c0; have n1 := hn5.c1; have n2 := hn5.f0; have n3 := hn5.f1)))
      all_goals
       first
        | (obtain ⟨W5, hW5⟩ : ∃ W5 : World, W5 = ((w5.setCell ⟨w2.heap.size, 0, none⟩ (.int .i64 p)).setCell ⟨w2.heap.size, 1, none⟩ (.slice A5 p c5)) := ⟨_, rfl⟩
           rw [← hW5]
           have HQ5 : Hid (GC W5 w2.heap.size p A5 p c5) := by rw [hW5]; exact hn5.set
           have HZ5 : Hid (Below w2.heap.size w2 W5) := by rw [hW5]; exact bl_set (bl_set (bl_trans HZ2.out hb5) (Nat.le_refl _)) (Nat.le_refl _)
           have HO5 : Hid (Own W5 w2.heap.size W5.heap.size 3 1 A5 p c5 (fun j => .int .i64 (R j : Nat))) := by
            rw [hW5]
            exact (hO5.keep (fr2 _ w2.heap.size _ _) (.inr (by show w2.heap.size + 1 ≤ (w2.alloc _).heap.size; simp))).mono (Nat.le_of_lt (by show w2.heap.size < (w2.alloc _).heap.size; simp)) (by simp [World.setCell])
           clear hW5 hn5 n0 n1 n2 n3 hO5 hb5)
        | (obtain ⟨W5, hW5⟩ : ∃ W5 : World, W5 = (w5.alloc (Obj.cells #[.int .i64 p, .slice A5 p c5] 29)) := ⟨_, rfl⟩
           rw [← hW5]
           have HQ5 : Hid (GC W5 w5.heap.size p A5 p c5) := by rw [hW5]; exact GC.new _ _ _ _ _
           have HZ5 : Hid (Below w2.heap.size w2 W5) := by rw [hW5]; exact bl_alloc (bl_trans HZ1.out hb5)
           have HO5 : Hid (Own W5 w2.heap.size W5.heap.size 3 1 A5 p c5 (fun j => .int .i64 (R j : Nat))) := by rw [hW5]; exact (hO5.alloc _).mono (Nat.le_refl _) (by simp)
           clear hW5 hO5 hb5)
        | fail
      all_goals clear HSC HZ1 HZ2 HN2 KR HS1 HS2
      all_goals
       have HG5 := Lib.hid (Hvt.out HO5.out (Nat.le_refl _))
       have m0 := HQ5.out.c0
       have m1 := HQ5.out.c1
       clear HGq HO5 Hvt KN
       clear e0 e1
       replace HR := Lib.hid (HR.out.keep HZ5.out)
       replace HZ := Lib.hid (HZ.out.keep HZ5.out)
       replace HB := Lib.hid (HB.out.keep HZ5.out)
       replace HG := Lib.hid (HG.out.keep HZ5.out)
       have e0 := HG.out.c0
       have e1 := HG.out.c1
       go_wp2_with fail
       refine (KI.out HG5.out).mono ?_
       rintro e w7 ⟨rfl, hb7⟩
       clear m0 m1 HG5 HQ5 KI HZ5
       clear e0 e1
       replace HR := Lib.hid (HR.out.keep hb7)
       replace HZ := Lib.hid (HZ.out.keep hb7)
       replace HB := Lib.hid (HB.out.keep hb7)
       replace HG := Lib.hid (HG.out.keep hb7)
       clear hb7
       have e0 := HG.out.c0
       have e1 := HG.out.c1
       cases b
       ·have Hn := Lib.hid (Hg.out rfl)
        go_wp2
        go_roundw
        case rel => exact ⟨k + 1, by omega, by go_num, Hn, HZ⟩
        case measure => (simp [intOf] <;> omega)
       ·have Hn := Lib.hid (Hf.out rfl)
        go_wp2
        go_ret2
        exact ⟨by rw [Hn.out]; rfl, HB.out.below⟩
     ·have d1 : ((q : Int) != (n : Int)) = true := by simp; omega
      have Hg : Hid (∀ s, s < k + 1 → cn s = n → P s = false) := fun s hs h2 => by
       by_cases hsk : s < k
       ·exact hin.out s hsk h2
       ·obtain rfl : s = k := by omega
        exact absurd (hq.trans h2) hqn
      clear hq hqn KC hx1 hx2 hx3 hx4
      go_wp2
      go_roundw
      case rel => exact ⟨k + 1, by omega, by go_num, Hg, HZ⟩
      case measure => (simp [intOf] <;> omega)
    ·have i2 : ((F - 1 : Nat) : Int) ≤ (k : Int) := by omega
     have Hn : Hid (∀ s, s < F - 1 → cn s < n + 1 → P s = false) := fun s hs h2 => by
      by_cases hsn : cn s < n
      ·exact hall.out s hs hsn
      ·exact hin.out s (by omega) (by omega)
     go_wp2
     go_roundw
     case rel => exact ⟨n + 1, by omega, by go_num, Hn, HR⟩
     case measure => (simp [intOf] <;> omega)
  ·have i1 : (m : Int) ≤ (n : Int) := by omega
   have Hn : Hid (O = none) := Hnever.out fun s hs h2 => hall.out s hs (by omega)
   go_wp2
   go_ret2
   exact ⟨by rw [Hn.out]; rfl, HB.out.below⟩
set_option maxRecDepth 100000 in
set_option maxHeartbeats 3200000 in
theorem LargestInside_sv (h : GV w A m c r) :
 Calls Tryz.prog 50 #[.agg #[.int .i64 m, .slice A m c], .string str] w fun e w' => e = .returned (.int .i64 (laI m (dlO r m str.toList))) ∧ Below w.heap.size w w' := by
 have hn7 := h.vg.n7
 have h128 := two_pow_le hn7
 have Hlt : Hid (∀ k, dlO r m str.toList = some k → k < 2 ^ m) := fun k hk => dlO_lt hk
 obtain ⟨W, hW⟩ : ∃ W : World, W = (w.alloc (Obj.cells #[Value.int IntKind.i64 m, Value.slice A m c] 29)) := ⟨_, rfl⟩
 have HB : Hid (From w W) := by rw [hW]; exact From.alloc _ _
 have HG : Hid (GBox W w.heap.size A m c r) := by rw [hW]; exact h.box
 have HW := Lib.hid hW
 clear hW h
 have e0 := HG.out.c0
 have e1 := HG.out.c1
 have KF := Lib.hid (FewestDeletions_sv (str := str) HG.out.gv)
 obtain ⟨o, ho⟩ : ∃ o, o = dlO r m str.toList := ⟨_, rfl⟩
 rw [← ho] at KF Hlt ⊢
 clear ho
 go_enter Tryz.func50, Tryz.ntmps50
 go_wp2_with fail
 rw [← HW.out]
 refine (KF.out).mono ?_
 rintro e w1 ⟨rfl, hb1⟩
 clear HW
 clear e0 e1
 replace HB := Lib.hid (HB.out.keep hb1)
 replace HG := Lib.hid (HG.out.keep hb1)
 clear hb1
 have e0 := HG.out.c0
 have e1 := HG.out.c1
 clear KF
 cases o with
 | none =>
   have Hn : Hid (laI m none = -1) := rfl
   rw [lsV_none]
   go_wp2
   go_ret
   exact ⟨ret_int Hn.out.symm, HB.out.below⟩
 | some k =>
   have Hn : Hid (laI m (some k) = (m : Int) - (cn k : Int)) := rfl
   have hk := Hlt.out k rfl
   have hck := cn_le k
   have KC : Hid (∀ z : World, Calls Tryz.prog 95 #[.int .i64 k] z fun e w' => e = .returned (.int .i64 (cn k : Int)) ∧ Below z.heap.size z w') := fun z => CountSet_sv k (by omega) z
   obtain ⟨n, hn⟩ : ∃ n, n = cn k := ⟨_, rfl⟩
   rw [← hn] at Hn KC hck
   have s1 : IntKind.i64.wrap ((m : Int) - (n : Int)) = (m : Int) - (n : Int) := Go.IntWalk.i64_in _ (by omega)
   rw [lsV_some]
   clear hn
   go_wp2
   have HSC : Hid (∀ z : World, Below w1.heap.size w1 z → (Below w1.heap.size w1 z ∧ z.cell? ⟨w.heap.size, 0, none⟩ = some (.int .i64 m) ∧ z.cell? ⟨w.heap.size, 1, none⟩ = some (.slice A m c))) := fun z hz => ⟨hz, up_ hz e0, up_ hz e1⟩
   have HZ0 : Hid (Below w1.heap.size w1 w1.drew) := (Below.refl _ _).drew
   have HS1 := Lib.hid (HSC.out _ HZ0.out)
   have KR1 : Hid (∀ z : World, Below w1.heap.size w1 z → _) := fun z hz => KC.out z
   go_region_held3 (fun z => Below w1.heap.size w1 z ∧ z.cell? ⟨w.heap.size, 0, none⟩ = some (.int .i64 m) ∧ z.cell? ⟨w.heap.size, 1, none⟩ = some (.slice A m c))
    (first | exact HS1.out | assumption | exact HSC.out _ hz2 | fail)
    (first | (go_at_call 95; ((with_reducible refine (KR1.out _ HZ0.out).mono ?_); rintro e w2 ⟨rfl, hb2⟩; have hz2 := bl_trans HZ0.out hb2)))
   clear e0 e1
   replace HB := Lib.hid (HB.out.keep hz2)
   replace HG := Lib.hid (HG.out.keep hz2)
   clear hb2 hz2 HSC HZ0 HS1 KR1
   have e0 := HG.out.c0
   have e1 := HG.out.c1
   go_wp2
   go_ret
   exact ⟨ret_int Hn.out.symm, HB.out.below⟩
end
section
variable (sz : Int) (A : Option Addr) (m c : Nat) (x : Nat → Int) (str : ByteArray) (w : World)
set_option maxRecDepth 100000 in
set_option maxHeartbeats 3200000 in
theorem FewestDeletions_sno (h : GA w A m c x) (hm : m ≤ 1048576) (hok : okB sz m x = false) :
 Calls Tryz.prog 46 #[.agg #[.int .i64 sz, .slice A m c], .string str] w fun e w' => e = .returned (lsV none) ∧ Below w.heap.size w w' := by
 have KG : Hid (∀ z : World, GA z A m c x → Calls Tryz.prog 64 #[.agg #[.int .i64 sz, .slice A m c]] z fun e w' => e = .returned (.bool false) ∧ Below z.heap.size z w') := fun z hz => by
  have := IsGraph_sany sz A m c x z z.heap.size hz.rd (Nat.le_refl _) hm
  rwa [hok] at this
 obtain ⟨W, hW⟩ : ∃ W : World, W = (w.alloc (Obj.cells #[Value.int IntKind.i64 sz, Value.slice A m c] 29)) := ⟨_, rfl⟩
 have HB0 : Hid (From w W) := by rw [hW]; exact From.alloc _ _
 have HK0 := Lib.hid (h.keep HB0.out.below)
 have HC0 : Hid (GC W w.heap.size sz A m c) := by rw [hW]; exact GC.new _ _ _ _ _
 have HW := Lib.hid hW
 clear hW h hok
 go_enter Tryz.func46, Tryz.ntmps46
 go_wp2
 rw [← HW.out]
 clear HW
 go_loopw [6] (fun i wr => i = .int .i64 0 ∧ Hid (From W wr)) (fun _ _ => 1)
 case atStart => exact ⟨rfl, From.refl _⟩
 case round =>
  obtain ⟨rfl, HR⟩ := hrel
  have HB := Lib.hid (HB0.out.up HR.out)
  have HK := Lib.hid (HK0.out.keep HR.out.below)
  have HC := Lib.hid (HC0.out.keep HR.out.below)
  have e0 := HC.out.c0
  have e1 := HC.out.c1
  by_cases h0 : (0 : Int) < sz
  ·go_wp2_with fail
   refine (KG.out _ HK.out).mono ?_
   rintro e w1 ⟨rfl, hb1⟩
   clear e0 e1
   replace HB := Lib.hid (HB.out.keep hb1)
   replace HK := Lib.hid (HK.out.keep hb1)
   replace HC := Lib.hid (HC.out.keep hb1)
   clear hb1
   have e0 := HC.out.c0
   have e1 := HC.out.c1
   go_wp2
   go_ret2
   exact ⟨rfl, HB.out.below⟩
  ·have h2 : sz ≤ 0 := by omega
   clear h0
   go_wp2
   go_ret2
   exact ⟨rfl, HB.out.below⟩
theorem FewestDeletions_s (h : GA w A m c x) (hm : m ≤ 1048576) :
 Calls Tryz.prog 46 #[.agg #[.int .i64 sz, .slice A m c], .string str] w fun e w' => e = .returned (lsV (dlX sz m x str.toList)) ∧ Below w.heap.size w w' := by
 cases ho : okB sz m x
 ·rw [dlX_no ho]
  exact FewestDeletions_sno sz A m c x str w h hm ho
 ·obtain ⟨_, es, _, _⟩ := okB_ok' ho
  subst es
  rw [dlX_yes ho]
  exact FewestDeletions_sv (h.gv ho)
set_option maxRecDepth 100000 in
set_option maxHeartbeats 3200000 in
theorem LargestInside_s (h : GA w A m c x) (hm : m ≤ 1048576) :
 Calls Tryz.prog 50 #[.agg #[.int .i64 sz, .slice A m c], .string str] w fun e w' => e = .returned (.int .i64 (laI m (dlX sz m x str.toList))) ∧ Below w.heap.size w w' := by
 cases ho : okB sz m x
 ·rw [dlX_no ho]
  have Hn : Hid (laI m none = -1) := rfl
  obtain ⟨W, hW⟩ : ∃ W : World, W = (w.alloc (Obj.cells #[Value.int IntKind.i64 sz, Value.slice A m c] 29)) := ⟨_, rfl⟩
  have HB : Hid (From w W) := by rw [hW]; exact From.alloc _ _
  have HK := Lib.hid (h.keep HB.out.below)
  have HC : Hid (GC W w.heap.size sz A m c) := by rw [hW]; exact GC.new _ _ _ _ _
  have HW := Lib.hid hW
  have KF := Lib.hid (FewestDeletions_sno sz A m c x str W HK.out hm ho)
  rw [lsV_none] at KF
  clear hW h ho
  go_enter Tryz.func50, Tryz.ntmps50
  have e0 := HC.out.c0
  have e1 := HC.out.c1
  go_wp2_with fail
  rw [← HW.out]
  refine (KF.out).mono ?_
  rintro e w1 ⟨rfl, hb1⟩
  clear HW
  clear e0 e1
  replace HB := Lib.hid (HB.out.keep hb1)
  replace HK := Lib.hid (HK.out.keep hb1)
  replace HC := Lib.hid (HC.out.keep hb1)
  clear hb1
  have e0 := HC.out.c0
  have e1 := HC.out.c1
  clear KF
  go_wp2
  go_ret
  exact ⟨ret_int Hn.out.symm, HB.out.below⟩
 ·obtain ⟨_, es, _, _⟩ := okB_ok' ho
  subst es
  rw [dlX_yes ho]
  exact LargestInside_sv (h.gv ho)
end
end Go.Proofs.YtppkokgiojcgbaaGreatDoor
