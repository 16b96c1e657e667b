/-
  Contracts: is a graph in a class with all graphs of one vertex less? Both sides.
-/
import Derived.Test.YtmkahbephidmbaaGreatQeClaV
import Derived.Test.YtmkahbephidmbaaGreatQeTake
namespace Go.Proofs.YtmkahbephidmbaaGreat
open Go.RowKit

section
variable {A : Option Addr} {m c : Nat} {r : Nat → Nat} {w : World} {str : ByteArray}
set_option maxRecDepth 100000 in
set_option maxHeartbeats 3200000 in
theorem IsHereditaryOn_v (h : GV w A m c r) :
    Calls Tryz.prog 25 #[.agg #[.int .i64 m, .slice A m c], .string str] w fun e w' => e = .returned (.bool (heV r m str.toList)) ∧ Below w.heap.size w w' := by
  have hn7 := h.vg.n7
  have h128 := two_pow_le hn7
  have HV := Lib.hid h.vg
  obtain ⟨W, hW⟩ : ∃ W : World, W = (w.alloc (Obj.cells #[Value.int IntKind.i64 m, Value.slice A m c] 30)) := ⟨_, rfl⟩
  have HB : Hid (From w W) := by rw [hW]; exact From.alloc _ _
  have HG : Hid (GBox W w.heap.size A m c r) := by rw [hW]; exact h.box
  have HW := Lib.hid hW
  clear hW h
  have e0 := HG.out.c0
  have e1 := HG.out.c1
  obtain ⟨i0, hi0⟩ : ∃ i0, i0 = isV r m str.toList := ⟨_, rfl⟩
  have KI0 : Hid (Calls Tryz.prog 22 #[.agg #[.int .i64 m, .slice A m c], .string str] W fun e w' => e = .returned (.bool i0) ∧ Below W.heap.size W w') := by rw [hi0]; exact IsIn_v HG.out.gv str
  cases i0
  · have Hn : Hid (heV r m str.toList = false) := heV_no hi0.symm
    clear hi0
    go_enter Tryz.func25, Tryz.ntmps25
    go_wp2_with fail
    rw [← HW.out]
    refine (KI0.out).mono ?_
    rintro e w1 ⟨rfl, hb1⟩
    clear HW
    clear e0 e1
    replace HB := Lib.hid (HB.out.keep hb1)
    replace HG := Lib.hid (HG.out.keep hb1)
    clear hb1
    have e0 := HG.out.c0
    have e1 := HG.out.c1
    clear KI0
    go_wp2
    go_ret
    exact ⟨ret_bool Hn.out.symm, HB.out.below⟩
  · have Hy : Hid (isV r m str.toList = true) := hi0.symm
    clear hi0
    go_enter Tryz.func25, Tryz.ntmps25
    go_wp2_with fail
    rw [← HW.out]
    refine (KI0.out).mono ?_
    rintro e w2 ⟨rfl, hb2⟩
    clear HW
    clear e0 e1
    replace HB := Lib.hid (HB.out.keep hb2)
    replace HG := Lib.hid (HG.out.keep hb2)
    clear hb2
    have e0 := HG.out.c0
    have e1 := HG.out.c1
    clear KI0
    go_wp2
    go_loopw [5] (fun i wr => ∃ v : Nat, v ≤ m ∧ i = .int .i64 v ∧ Hid (∀ u, u < v → inV r str.toList (wo1 m u) = true) ∧ Hid (From w2 wr)) (fun i _ => m - (intOf i).toNat)
    case atStart => exact ⟨0, Nat.zero_le _, rfl, (fun u hu => absurd hu (by omega)), From.refl _⟩
    case round =>
      obtain ⟨v, hv, rfl, hall, HR⟩ := hrel
      clear e0 e1
      replace HB := Lib.hid (HB.out.keep HR.out.below)
      replace HG := Lib.hid (HG.out.keep HR.out.below)
      have e0 := HG.out.c0
      have e1 := HG.out.c1
      by_cases hvm : v < m
      · by_cases h1 : 1 < m
        · have i1 : (v : Int) < (m : Int) := by omega
          have i2 : (1 : Int) < (m : Int) := by omega
          obtain ⟨ht1, ht2, htl, hvl, ht0⟩ := wo1_t m (by omega) v hvm
          replace ht0 := ht0 h1
          have Hdef : Hid (inV r str.toList (wo1 m v) = isV (inR r (wo1 m v)) (cn (wo1 m v)) str.toList) := rfl
          have Hout : Hid (inV r str.toList (wo1 m v) = false → heV r m str.toList = false) := fun h => heV_out h1 hvm h
          have Hnx : Hid (inV r str.toList (wo1 m v) = true → ∀ u, u < v + 1 → inV r str.toList (wo1 m u) = true) := fun h u hu => by
            by_cases huv : u < v
            · exact hall.out u huv
            · obtain rfl : u = v := by omega
              exact h
          have hpc := pow_shl v (by omega)
          obtain ⟨t, htt⟩ : ∃ t, t = wo1 m v := ⟨_, rfl⟩
          rw [← htt] at ht1 htl ht0 Hdef Hout Hnx
          obtain ⟨n, hn⟩ : ∃ n, n = cn t := ⟨_, rfl⟩
          obtain ⟨R, hR⟩ : ∃ R, R = inR r t := ⟨_, rfl⟩
          have KN : Hid (∀ {z : World}, GV z A m c r → Calls Tryz.prog 99 #[.agg #[.int .i64 m, .slice A m c], .int .i64 t] z fun e w' => ∃ A' c', e = .returned (.agg #[.int .i64 (n : Nat), .slice A' n c']) ∧ GV w' A' n c' R ∧ Below z.heap.size z w') := by rw [hn, hR]; exact fun h => induced_g h htl ht0
          rw [← hn, ← hR] at Hdef
          obtain ⟨b, hb⟩ : ∃ b, b = inV r str.toList t := ⟨_, rfl⟩
          have KI : Hid (∀ {z : World} {A' : Option Addr} {c' : Nat}, GV z A' n c' R → Calls Tryz.prog 22 #[.agg #[.int .i64 n, .slice A' n c'], .string str] z fun e w' => e = .returned (.bool b) ∧ Below z.heap.size z w') := by rw [hb, Hdef.out]; exact fun h => IsIn_v h str
          obtain ⟨F, hF⟩ : ∃ F, F = 2 ^ m - 1 := ⟨_, rfl⟩
          obtain ⟨y, hy⟩ : ∃ y, y = 2 ^ v := ⟨_, rfl⟩
          have pv : IntKind.i64.wrap ((2 : Int) ^ v) = (y : Int) := by rw [hpc, hy]; simp
          have KA : Hid (∀ {z : World}, GV z A m c r → Calls Tryz.prog 100 #[.agg #[.int .i64 m, .slice A m c]] z fun e w' => e = .returned (.int .i64 (F : Nat)) ∧ Below z.heap.size z w') := by rw [hF]; exact fun h => all_v h
          have hF127 : F ≤ 127 := by omega
          have hy64 : y ≤ 127 := by omega
          rw [← hF, ← hy] at ht1
          have E4 := i64_andNot_nat F y (by omega) (by omega)
          rw [ht1] at E4
          rw [← hb] at Hout Hnx
          have HGq := HG
          have KB : Hid (b = b) := rfl
          clear hn hR hF hy hb htt ht1 ht2 htl ht0 hvl hpc Hdef
          have e0 := HG.out.c0
          have e1 := HG.out.c1
          have HSC : Hid (∀ z : World, Below wr.heap.size wr z → (Below wr.heap.size wr z ∧ z.cell? ⟨w.heap.size, 0, none⟩ = some (.int .i64 m) ∧ z.cell? ⟨w.heap.size, 1, none⟩ = some (.slice A m c))) := fun z hz => ⟨hz, up_ hz e0, up_ hz e1⟩
          have HZ0 : Hid (Below wr.heap.size wr wr.drew) := (Below.refl _ _).drew
          have HS1 := Lib.hid (HSC.out _ HZ0.out)
          have KR1 : Hid (∀ z : World, Below wr.heap.size wr z → _) := fun z hz => KA.out (HGq.out.gv.keep hz)
          have KR2 : Hid (∀ z : World, Below wr.heap.size wr z → _) := fun z hz => KN.out (HGq.out.gv.keep hz)
          go_wp2
          go_region_held3 (fun z => Below wr.heap.size wr z ∧ z.cell? ⟨w.heap.size, 0, none⟩ = some (.int .i64 m) ∧ z.cell? ⟨w.heap.size, 1, none⟩ = some (.slice A m c))
            (first | exact HS1.out | assumption | exact HSC.out _ hz5 | exact HSC.out _ hz4 | exact HSC.out _ hz3 | fail)
            (first | (go_at_call 100; ((with_reducible refine (KR1.out _ HZ0.out).mono ?_); rintro e w3 ⟨rfl, hb3⟩; have hz3 := bl_trans HZ0.out hb3)) | (go_at_call 99; ((with_reducible refine (KR2.out _ hz3).mono ?_); rintro e w4 ⟨A5, c5, rfl, hg5, hb4⟩; have hz4 := bl_trans hz3 hb4)) | (go_at_call 22; ((with_reducible refine (KI.out hg5).mono ?_); rintro e w5 ⟨rfl, hb5⟩; have hz5 := bl_trans hz4 hb5)))
          clear e0 e1
          replace HB := Lib.hid (HB.out.keep hz5)
          replace HG := Lib.hid (HG.out.keep hz5)
          replace HR := Lib.hid (HR.out.keep hz5)
          clear hb3 hz3 hb4 hz4 hb5 hz5 HSC HZ0 HS1 KR1 KR2
          have e0 := HG.out.c0
          have e1 := HG.out.c1
          clear HGq hg5
          cases b
          · have Hn := Lib.hid (Hout.out rfl)
            go_wp2
            go_ret
            exact ⟨ret_bool Hn.out.symm, HB.out.below⟩
          · have Hn := Lib.hid (Hnx.out rfl)
            go_wp2
            go_roundw
            case rel => exact ⟨v + 1, by omega, by go_num, Hn, HR⟩
            case measure => (simp [intOf] <;> omega)
        · have i1 : (v : Int) < (m : Int) := by omega
          have i2 : (m : Int) ≤ 1 := by omega
          have Hn : Hid (heV r m str.toList = true) := (heV_end (.inl (by omega))).trans Hy.out
          have e0 := HG.out.c0
          have e1 := HG.out.c1
          go_wp2
          go_ret
          exact ⟨ret_bool Hn.out.symm, HB.out.below⟩
      · have i1 : (m : Int) ≤ (v : Int) := by omega
        have Hn : Hid (heV r m str.toList = true) := (heV_end (.inr fun u hu => hall.out u (by omega))).trans Hy.out
        have e0 := HG.out.c0
        have e1 := HG.out.c1
        go_wp2
        go_ret
        exact ⟨ret_bool Hn.out.symm, HB.out.below⟩
set_option maxRecDepth 100000 in
set_option maxHeartbeats 3200000 in
theorem IsHereditaryOn_sv (h : GV w A m c r) :
    Calls Tryz.prog 24 #[.agg #[.int .i64 m, .slice A m c], .string str] w fun e w' => e = .returned (.bool (heV r m str.toList)) ∧ Below w.heap.size w w' := by
  have hn7 := h.vg.n7
  have h128 := two_pow_le hn7
  have hpos := Nat.two_pow_pos m
  have HV := Lib.hid h.vg
  obtain ⟨F, hF⟩ : ∃ F, F = 2 ^ m := ⟨_, rfl⟩
  have pm : IntKind.i64.wrap ((2 : Int) ^ m) = (F : Int) := by rw [pow_shl m hn7, hF]; simp
  have sm : IntKind.i64.wrap ((F : Int) - 1) = ((F - 1 : Nat) : Int) := by rw [Go.IntWalk.i64_in _ (by omega)]; omega
  have HF := Lib.hid hF
  clear hF
  have hFl : 1 ≤ F ∧ F ≤ 128 := by rw [HF.out]; exact ⟨hpos, h128⟩
  clear hpos h128
  obtain ⟨W, hW⟩ : ∃ W : World, W = (w.alloc (Obj.cells #[Value.int IntKind.i64 m, Value.slice A m c] 30)) := ⟨_, rfl⟩
  have HB : Hid (From w W) := by rw [hW]; exact From.alloc _ _
  have HG : Hid (GBox W w.heap.size A m c r) := by rw [hW]; exact h.box
  have HW := Lib.hid hW
  clear hW h
  have e0 := HG.out.c0
  have e1 := HG.out.c1
  go_enter Tryz.func24, Tryz.ntmps24
  go_wp2
  rw [← HW.out]
  clear HW e0 e1
  go_loopw [5] (fun i wr => ∃ v : Nat, v ≤ m ∧ i = .int .i64 v ∧ Hid (∀ u, u < v → inV r str.toList (wo1 m u) = true) ∧ Hid (From W wr)) (fun i _ => m - (intOf i).toNat)
  case atStart => exact ⟨0, Nat.zero_le _, rfl, (fun u hu => absurd hu (by omega)), From.refl _⟩
  case round =>
    obtain ⟨v, hv, rfl, hall, HR⟩ := hrel
    have HBr := Lib.hid (HB.out.up HR.out)
    have HGr := Lib.hid (HG.out.keep HR.out.below)
    have e0 := HGr.out.c0
    have e1 := HGr.out.c1
    by_cases hvm : v < m
    · have i1 : (v : Int) < (m : Int) := by omega
      by_cases h1 : 1 < m
      · have i2 : (1 : Int) < (m : Int) := by omega
        go_wp2_with fail
        refine (IsGraph_sv HGr.out.gv).mono ?_
        rintro e w1 ⟨rfl, hb1⟩
        clear e0 e1
        replace HR := Lib.hid (HR.out.keep hb1)
        replace HBr := Lib.hid (HBr.out.keep hb1)
        replace HGr := Lib.hid (HGr.out.keep hb1)
        clear hb1
        have e0 := HGr.out.c0
        have e1 := HGr.out.c1
        obtain ⟨ht1, ht2, htl, hvl, ht0⟩ := wo1_t m (by omega) v hvm
        replace ht0 := ht0 h1
        have Hdef : Hid (inV r str.toList (wo1 m v) = isV (inR r (wo1 m v)) (cn (wo1 m v)) str.toList) := rfl
        have Hout : Hid (inV r str.toList (wo1 m v) = false → heV r m str.toList = false) := fun h => heV_out h1 hvm h
        have Hnx : Hid (inV r str.toList (wo1 m v) = true → ∀ u, u < v + 1 → inV r str.toList (wo1 m u) = true) := fun h u hu => by
          by_cases huv : u < v
          · exact hall.out u huv
          · obtain rfl : u = v := by omega
            exact h
        have hpc := pow_shl v (by omega)
        have Hvg : Hid (∀ {z : World} {A' : Option Addr} {c' lo hi : Nat}, Own z lo hi 3 1 A' (cn (wo1 m v)) c' (fun j => .int .i64 (inR r (wo1 m v) j : Nat)) → hi ≤ z.heap.size → GV z A' (cn (wo1 m v)) c' (inR r (wo1 m v))) := fun h1 h2 => ind_gv HV.out htl ht0 h1 h2
        obtain ⟨t, htt⟩ : ∃ t, t = wo1 m v := ⟨_, rfl⟩
        rw [← htt] at ht2 htl ht0 Hdef Hout Hnx Hvg
        obtain ⟨n, hn⟩ : ∃ n, n = cn t := ⟨_, rfl⟩
        obtain ⟨R, hR⟩ : ∃ R, R = inR r t := ⟨_, rfl⟩
        have KN : Hid (∀ {z : World}, GV z A m c r → Calls Tryz.prog 98 #[.agg #[.int .i64 m, .slice A m c], .int .i64 t] z fun e w' => ∃ A' c', e = .returned (.tuple #[.agg #[.int .i64 (n : Nat), .slice A' n c'], .bool true]) ∧ Own w' z.heap.size w'.heap.size 3 1 A' n c' (fun j => .int .i64 (R j : Nat)) ∧ Below z.heap.size z w') := by rw [hn, hR]; exact fun h => InducedOn_sv h htl ht0
        rw [← hn, ← hR] at Hdef Hvg
        obtain ⟨b, hb⟩ : ∃ b, b = inV r str.toList t := ⟨_, rfl⟩
        have KI : Hid (∀ {z : World} {A' : Option Addr} {c' : Nat}, GV z A' n c' R → Calls Tryz.prog 20 #[.agg #[.int .i64 n, .slice A' n c'], .string str] z fun e w' => e = .returned (.bool b) ∧ Below z.heap.size z w') := by rw [hb, Hdef.out]; exact fun h => IsIn_sv h str
        obtain ⟨y, hy⟩ : ∃ y, y = 2 ^ v := ⟨_, rfl⟩
        have pv : IntKind.i64.wrap ((2 : Int) ^ v) = (y : Int) := by rw [hpc, hy]; simp
        have s3 : IntKind.i64.wrap (((F - 1 : Nat) : Int) - (y : Int)) = (t : Int) := by
          rw [← HF.out, ← hy] at ht2
          rw [← HF.out, ← hy] at hvl
          rw [Go.IntWalk.i64_in _ (by omega)]; omega
        rw [← hb] at Hout Hnx
        have HGq := HGr
        clear hn hR hy hb htt ht1 ht2 htl ht0 hvl hpc Hdef
        have HSC : Hid (∀ z : World, Below w1.heap.size w1 z → (Below w1.heap.size w1 z ∧ z.cell? ⟨w.heap.size, 0, none⟩ = some (.int .i64 m) ∧ z.cell? ⟨w.heap.size, 1, none⟩ = some (.slice A m c))) := fun z hz => ⟨hz, up_ hz e0, up_ hz e1⟩
        have HZ1 : Hid (Below w1.heap.size w1 w1.drew) := (Below.refl _ _).drew
        have HZ2 : Hid (Below w1.heap.size w1 ((w1.alloc (Obj.cells #[Value.int IntKind.i64 0, Value.slice none 0 0] 30)).drew)) := ((Below.refl _ _).alloc (Nat.le_refl _) _).drew
        have HN2 : Hid (GC ((w1.alloc (Obj.cells #[Value.int IntKind.i64 0, Value.slice none 0 0] 30)).drew) w1.heap.size 0 none 0 0) := (GC.new _ _ _ _ _).drew
        have KR : Hid (∀ z : World, Below w1.heap.size w1 z → _) := fun z hz => KN.out (HGq.out.gv.keep hz)
        have HS1 := Lib.hid (HSC.out _ HZ1.out)
        have HS2 := Lib.hid (HSC.out _ HZ2.out)
        go_wp2
        go_region_held3 (fun z => Below w1.heap.size w1 z ∧ z.cell? ⟨w.heap.size, 0, none⟩ = some (.int .i64 m) ∧ z.cell? ⟨w.heap.size, 1, none⟩ = some (.slice A m c))
          (first | exact HS1.out | exact HS2.out | assumption | (refine HSC.out _ ?_; first | assumption | exact bl_trans HZ1.out hb5 | exact bl_trans HZ2.out hb5 | exact bl_alloc (bl_trans HZ1.out hb5) | exact bl_set (bl_trans HZ2.out hb5) (Nat.le_refl _) | exact bl_set (bl_set (bl_trans HZ2.out hb5) (Nat.le_refl _)) (Nat.le_refl _) | exact bl_alloc HZ1.out) | fail)
          (first | (go_at_call 98; ((with_reducible refine (KR.out _ HZ1.out).mono ?_); rintro e w5 ⟨A5, c5, rfl, hO5, hb5⟩)) | (go_at_call 98; ((with_reducible refine (KR.out _ HZ2.out).mono ?_); rintro e w5 ⟨A5, c5, rfl, hO5, hb5⟩; have hn5 := HN2.out.keep hb5; have n0 := hn5.c0; have n1 := hn5.c1; have n2 := hn5.f0; have n3 := hn5.f1)))
        all_goals
          first
            | (obtain ⟨W5, hW5⟩ : ∃ W5 : World, W5 = ((w5.setCell ⟨w1.heap.size, 0, none⟩ (.int .i64 n)).setCell ⟨w1.heap.size, 1, none⟩ (.slice A5 n c5)) := ⟨_, rfl⟩
               rw [← hW5]
               have HQ5 : Hid (GC W5 w1.heap.size n A5 n c5) := by rw [hW5]; exact hn5.set
               have HZ5 : Hid (Below w1.heap.size w1 W5) := by rw [hW5]; exact bl_set (bl_set (bl_trans HZ2.out hb5) (Nat.le_refl _)) (Nat.le_refl _)
               have HO5 : Hid (Own W5 w1.heap.size W5.heap.size 3 1 A5 n c5 (fun j => .int .i64 (R j : Nat))) := by
                 rw [hW5]
                 exact (hO5.keep (fr2 _ w1.heap.size _ _) (.inr (by show w1.heap.size + 1 ≤ (w1.alloc _).heap.size; simp))).mono (Nat.le_of_lt (by show w1.heap.size < (w1.alloc _).heap.size; simp)) (by simp [World.setCell])
               clear hW5 hn5 n0 n1 n2 n3 hO5 hb5)
            | (obtain ⟨W5, hW5⟩ : ∃ W5 : World, W5 = (w5.alloc (Obj.cells #[.int .i64 n, .slice A5 n c5] 30)) := ⟨_, rfl⟩
               rw [← hW5]
               have HQ5 : Hid (GC W5 w5.heap.size n A5 n c5) := by rw [hW5]; exact GC.new _ _ _ _ _
               have HZ5 : Hid (Below w1.heap.size w1 W5) := by rw [hW5]; exact bl_alloc (bl_trans HZ1.out hb5)
               have HO5 : Hid (Own W5 w1.heap.size W5.heap.size 3 1 A5 n c5 (fun j => .int .i64 (R j : Nat))) := by rw [hW5]; exact (hO5.alloc _).mono (Nat.le_refl _) (by simp)
               clear hW5 hO5 hb5)
            | fail
        all_goals clear HSC HZ1 HZ2 HN2 KR HS1 HS2
        all_goals
          have HG5 := Lib.hid (Hvg.out HO5.out (Nat.le_refl _))
          have m0 := HQ5.out.c0
          have m1 := HQ5.out.c1
          clear HGq HO5 Hvg KN
          clear e0 e1
          replace HR := Lib.hid (HR.out.keep HZ5.out)
          replace HBr := Lib.hid (HBr.out.keep HZ5.out)
          replace HGr := Lib.hid (HGr.out.keep HZ5.out)
          have e0 := HGr.out.c0
          have e1 := HGr.out.c1
          go_wp2_with fail
          refine (KI.out HG5.out).mono ?_
          rintro e w7 ⟨rfl, hb7⟩
          clear m0 m1 HG5 HQ5 KI HZ5
          clear e0 e1
          replace HR := Lib.hid (HR.out.keep hb7)
          replace HBr := Lib.hid (HBr.out.keep hb7)
          replace HGr := Lib.hid (HGr.out.keep hb7)
          clear hb7
          have e0 := HGr.out.c0
          have e1 := HGr.out.c1
          cases b
          · have Hn := Lib.hid (Hout.out rfl)
            go_wp2
            go_ret
            exact ⟨ret_bool Hn.out.symm, HBr.out.below⟩
          · have Hn := Lib.hid (Hnx.out rfl)
            go_wp2
            go_roundw
            case rel => exact ⟨v + 1, by omega, by go_num, Hn, HR⟩
            case measure => (simp [intOf] <;> omega)
      · have i2 : (m : Int) ≤ 1 := by omega
        have Hn : Hid (heV r m str.toList = isV r m str.toList) := heV_end (.inl (by omega))
        go_wp2_with fail
        refine (IsIn_sv HGr.out.gv str).mono ?_
        rintro e w2 ⟨rfl, hb2⟩
        clear e0 e1
        replace HR := Lib.hid (HR.out.keep hb2)
        replace HBr := Lib.hid (HBr.out.keep hb2)
        replace HGr := Lib.hid (HGr.out.keep hb2)
        clear hb2
        have e0 := HGr.out.c0
        have e1 := HGr.out.c1
        go_wp2
        go_ret
        exact ⟨ret_bool Hn.out.symm, HBr.out.below⟩
    · have i1 : (m : Int) ≤ (v : Int) := by omega
      have Hn : Hid (heV r m str.toList = isV r m str.toList) := heV_end (.inr fun u hu => hall.out u (by omega))
      go_wp2_with fail
      refine (IsIn_sv HGr.out.gv str).mono ?_
      rintro e w3 ⟨rfl, hb3⟩
      clear e0 e1
      replace HR := Lib.hid (HR.out.keep hb3)
      replace HBr := Lib.hid (HBr.out.keep hb3)
      replace HGr := Lib.hid (HGr.out.keep hb3)
      clear hb3
      have e0 := HGr.out.c0
      have e1 := HGr.out.c1
      go_wp2
      go_ret
      exact ⟨ret_bool Hn.out.symm, HBr.out.below⟩
end
section
variable (sz : Int) (A : Option Addr) (m c : Nat) (x : Nat → Int) (str : ByteArray) (w : World)
set_option maxRecDepth 100000 in
set_option maxHeartbeats 3200000 in
theorem IsHereditaryOn_i (h : GA w A m c x) (hm : m ≤ 1048576) :
    Calls Tryz.prog 25 #[.agg #[.int .i64 sz, .slice A m c], .string str] w fun e w' => e = .returned (.bool (heB sz m x str.toList)) ∧ Below w.heap.size w w' := by
  cases ho : okB sz m x
  · have Hn : Hid (heB sz m x str.toList = false) := heB_no ho
    obtain ⟨W, hW⟩ : ∃ W : World, W = (w.alloc (Obj.cells #[Value.int IntKind.i64 sz, Value.slice A m c] 30)) := ⟨_, rfl⟩
    have HB : Hid (From w W) := by rw [hW]; exact From.alloc _ _
    have HK := Lib.hid (h.keep HB.out.below)
    have HC : Hid (GC W w.heap.size sz A m c) := by rw [hW]; exact GC.new _ _ _ _ _
    have HW := Lib.hid hW
    have KI := IsIn_i sz A m c x str W HK.out hm
    rw [isB_no ho] at KI
    replace KI := Lib.hid KI
    clear hW h ho
    go_enter Tryz.func25, Tryz.ntmps25
    have e0 := HC.out.c0
    have e1 := HC.out.c1
    go_wp2_with fail
    rw [← HW.out]
    refine (KI.out).mono ?_
    rintro e w1 ⟨rfl, hb1⟩
    clear HW
    clear e0 e1
    replace HB := Lib.hid (HB.out.keep hb1)
    replace HK := Lib.hid (HK.out.keep hb1)
    replace HC := Lib.hid (HC.out.keep hb1)
    clear hb1
    have e0 := HC.out.c0
    have e1 := HC.out.c1
    go_wp2
    go_ret
    exact ⟨ret_bool Hn.out.symm, HB.out.below⟩
  · obtain ⟨_, es, _, _⟩ := okB_ok' ho
    subst es
    rw [heB_yes ho]
    exact IsHereditaryOn_v (h.gv ho)
set_option maxRecDepth 100000 in
set_option maxHeartbeats 3200000 in
theorem IsHereditaryOn_s (h : GA w A m c x) (hm : m ≤ 1048576) :
    Calls Tryz.prog 24 #[.agg #[.int .i64 sz, .slice A m c], .string str] w fun e w' => e = .returned (.bool (heB sz m x str.toList)) ∧ Below w.heap.size w w' := by
  cases ho : okB sz m x
  · have Hn : Hid (heB sz m x str.toList = false) := heB_no ho
    have Hi : Hid (isB sz m x str.toList = false) := isB_no ho
    have KG : Hid (∀ z : World, GA z A m c x → Calls Tryz.prog 97 #[.agg #[.int .i64 sz, .slice A m c]] z fun e w' => e = .returned (.bool false) ∧ Below z.heap.size z w') := fun z hz => by
      have := IsGraph_sany sz A m c x z z.heap.size hz.rd (Nat.le_refl _) hm
      rwa [ho] at this
    have KI : Hid (∀ z : World, GA z A m c x → Calls Tryz.prog 20 #[.agg #[.int .i64 sz, .slice A m c], .string str] z fun e w' => e = .returned (.bool false) ∧ Below z.heap.size z w') := fun z hz => by
      have := IsIn_s sz A m c x str z hz hm
      rwa [Hi.out] at this
    obtain ⟨W, hW⟩ : ∃ W : World, W = (w.alloc (Obj.cells #[Value.int IntKind.i64 sz, Value.slice A m c] 30)) := ⟨_, rfl⟩
    have HB0 : Hid (From w W) := by rw [hW]; exact From.alloc _ _
    have HK0 := Lib.hid (h.keep HB0.out.below)
    have HC0 : Hid (GC W w.heap.size sz A m c) := by rw [hW]; exact GC.new _ _ _ _ _
    have HW := Lib.hid hW
    clear hW h ho
    go_enter Tryz.func24, Tryz.ntmps24
    go_wp2
    rw [← HW.out]
    clear HW
    go_loopw [5] (fun i wr => i = .int .i64 0 ∧ Hid (From W wr)) (fun _ _ => 1)
    case atStart => exact ⟨rfl, From.refl _⟩
    case round =>
      obtain ⟨rfl, HR⟩ := hrel
      have HB := Lib.hid (HB0.out.up HR.out)
      have HK := Lib.hid (HK0.out.keep HR.out.below)
      have HC := Lib.hid (HC0.out.keep HR.out.below)
      have e0 := HC.out.c0
      have e1 := HC.out.c1
      by_cases h0 : (0 : Int) < sz
      · by_cases h1 : (1 : Int) < sz
        · go_wp2_with fail
          refine (KG.out _ HK.out).mono ?_
          rintro e w1 ⟨rfl, hb1⟩
          clear e0 e1
          replace HB := Lib.hid (HB.out.keep hb1)
          replace HK := Lib.hid (HK.out.keep hb1)
          replace HC := Lib.hid (HC.out.keep hb1)
          clear hb1
          have e0 := HC.out.c0
          have e1 := HC.out.c1
          go_wp2_with fail
          refine (KI.out _ HK.out).mono ?_
          rintro e w2 ⟨rfl, hb2⟩
          clear e0 e1
          replace HB := Lib.hid (HB.out.keep hb2)
          replace HK := Lib.hid (HK.out.keep hb2)
          replace HC := Lib.hid (HC.out.keep hb2)
          clear hb2
          have e0 := HC.out.c0
          have e1 := HC.out.c1
          go_wp2
          go_ret
          exact ⟨ret_bool Hn.out.symm, HB.out.below⟩
        · have h2 : sz ≤ 1 := by omega
          clear h1
          go_wp2_with fail
          refine (KI.out _ HK.out).mono ?_
          rintro e w3 ⟨rfl, hb3⟩
          clear e0 e1
          replace HB := Lib.hid (HB.out.keep hb3)
          replace HK := Lib.hid (HK.out.keep hb3)
          replace HC := Lib.hid (HC.out.keep hb3)
          clear hb3
          have e0 := HC.out.c0
          have e1 := HC.out.c1
          go_wp2
          go_ret
          exact ⟨ret_bool Hn.out.symm, HB.out.below⟩
      · have h2 : sz ≤ 0 := by omega
        clear h0
        go_wp2_with fail
        refine (KI.out _ HK.out).mono ?_
        rintro e w4 ⟨rfl, hb4⟩
        clear e0 e1
        replace HB := Lib.hid (HB.out.keep hb4)
        replace HK := Lib.hid (HK.out.keep hb4)
        replace HC := Lib.hid (HC.out.keep hb4)
        clear hb4
        have e0 := HC.out.c0
        have e1 := HC.out.c1
        go_wp2
        go_ret
        exact ⟨ret_bool Hn.out.symm, HB.out.below⟩
  · obtain ⟨_, es, _, _⟩ := okB_ok' ho
    subst es
    rw [heB_yes ho]
    exact IsHereditaryOn_sv (h.gv ho)
end
end Go.Proofs.YtmkahbephidmbaaGreat
