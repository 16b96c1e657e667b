/-
-/
import Derived.Test.YtppkokgiojcgbaaGreatDoorQxClaV
import Derived.Test.YtppkokgiojcgbaaGreatDoorQxSet2I
namespace Go.Proofs.YtppkokgiojcgbaaGreatDoor
open Go.RowKit
noncomputable def dlT (r : Nat → Nat) (s : List UInt8) (t : Nat) : Bool := !(t == 0) && inV r s t
noncomputable def dlP (r : Nat → Nat) (m : Nat) (s : List UInt8) (k : Nat) : Bool := dlT r s ((2 ^ m - 1) ^^^ k)
noncomputable def dlO (r : Nat → Nat) (m : Nat) (s : List UInt8) : Option Nat := fwK (dlP r m s) (2 ^ m)
noncomputable def dlX (sz : Int) (m : Nat) (x : Nat → Int) (s : List UInt8) : Option Nat := if okB sz m x = true then dlO (rw_ x) m s else none
theorem dlX_no {sz : Int} {m : Nat} {x : Nat → Int} {s : List UInt8} (h : okB sz m x = false) : dlX sz m x s = none := by unfold dlX; rw [h]; rfl
theorem dlX_yes {sz : Int} {m : Nat} {x : Nat → Int} {s : List UInt8} (h : okB sz m x = true) : dlX sz m x s = dlO (rw_ x) m s := by unfold dlX; rw [h]; rfl
def laI (m : Nat) : Option Nat → Int
 | none => -1
 | some k => (m : Int) - (cn k : Int)
theorem dlO_lt {r : Nat → Nat} {m k : Nat} {s : List UInt8} (h : dlO r m s = some k) : k < 2 ^ m := (fwK_lt _ _ h).1
theorem dlP_full (r : Nat → Nat) (m : Nat) (s : List UInt8) : dlP r m s (2 ^ m - 1) = false := by unfold dlP; rw [Nat.xor_self]; rfl
section
variable {A : Option Addr} {m c : Nat} {r : Nat → Nat} {s : Nat} {w : World} {str : ByteArray}
theorem InducedOn_gv (h : GV w A m c r) (hs : s < 2 ^ m) :
 Calls Tryz.prog 105 #[.agg #[.int .i64 m, .slice A m c], .int .i64 s] w fun e w' => ∃ A' c', e = .returned (.tuple #[.agg #[.int .i64 (cn s : Nat), .slice A' (cn s) c'], .bool (!(s == 0))]) ∧ Own w' w.heap.size w'.heap.size 3 1 A' (cn s) c' (fun j => .int .i64 (inR r s j : Nat)) ∧ Below w.heap.size w w' := by
 by_cases h0 : s = 0
 ·subst h0
  exact (InducedOn_v0 h).mono fun _ _ ⟨h1, h2⟩ => ⟨none, 0, h1, Own.nil _ _ _ _ _ _, h2⟩
 ·have e : (!(s == 0)) = true := by simpa using h0
  rw [e]
  exact InducedOn_v h hs h0
set_option maxRecDepth 100000 in
set_option maxHeartbeats 3200000 in
theorem delF (h : GV w A m c r) (hs : s < 2 ^ m) {nb : Nat} (hn : w.cell? ⟨nb, 0, none⟩ = some (.string str)) :
 Calls Tryz.prog 104 #[.agg #[.int .i64 m, .slice A m c], .int .i64 s, .pointer (some ⟨nb, 0, none⟩)] w fun e w' => e = .returned (.bool (dlP r m str.toList s)) ∧ Below w.heap.size w w' := by
 have hn7 := h.vg.n7
 have h128 := two_pow_le hn7
 have HV := Lib.hid h.vg
 have hfx := full_and hs
 have hcl : (2 ^ m - 1) ^^^ s < 2 ^ m := comp_lt hn7 hs
 have Hdef : Hid (dlP r m str.toList s = dlT r str.toList ((2 ^ m - 1) ^^^ s)) := rfl
 have E4 := i64_andNot_nat (2 ^ m - 1) s (by omega) (by omega)
 rw [hfx] at E4
 obtain ⟨t, ht⟩ : ∃ t, t = (2 ^ m - 1) ^^^ s := ⟨_, rfl⟩
 rw [← ht] at E4 hcl Hdef
 have Hd2 : Hid (dlT r str.toList t = (!(t == 0) && isV (inR r t) (cn t) str.toList)) := rfl
 have Hvg : Hid (t ≠ 0 → ∀ {z : World} {A' : Option Addr} {c' lo hi : Nat}, Own z lo hi 3 1 A' (cn t) c' (fun j => .int .i64 (inR r t j : Nat)) → hi ≤ z.heap.size → GV z A' (cn t) c' (inR r t)) := fun h0 => fun h1 h2 => ind_gv HV.out hcl h0 h1 h2
 obtain ⟨n, hn'⟩ : ∃ n, n = cn t := ⟨_, rfl⟩
 obtain ⟨R, hR⟩ : ∃ R, R = inR r t := ⟨_, rfl⟩
 obtain ⟨ok, hok⟩ : ∃ ok, ok = !(t == 0) := ⟨_, rfl⟩
 have KN : Hid (∀ {z : World}, GV z A m c r → Calls Tryz.prog 105 #[.agg #[.int .i64 m, .slice A m c], .int .i64 t] z fun e w' => ∃ A' c', e = .returned (.tuple #[.agg #[.int .i64 (n : Nat), .slice A' n c'], .bool ok]) ∧ Own w' z.heap.size w'.heap.size 3 1 A' n c' (fun j => .int .i64 (R j : Nat)) ∧ Below z.heap.size z w') := by rw [hn', hR, hok]; exact fun h => InducedOn_gv h hcl
 rw [← hn', ← hR, ← hok] at Hd2
 rw [← hn', ← hR] at Hvg
 have Hok : Hid (ok = true → t ≠ 0) := fun h => by rw [hok] at h; simpa using h
 obtain ⟨F, hF⟩ : ∃ F, F = 2 ^ m - 1 := ⟨_, rfl⟩
 have KA : Hid (∀ {z : World}, GV z A m c r → Calls Tryz.prog 106 #[.agg #[.int .i64 m, .slice A m c]] z fun e w' => e = .returned (.int .i64 (F : Nat)) ∧ Below z.heap.size z w') := by rw [hF]; exact fun h => all_v h
 rw [← hF] at E4
 have HN : Hid (CL w nb 0 (.string str)) := ⟨hn⟩
 obtain ⟨W, hW⟩ : ∃ W : World, W = (w.alloc (Obj.cells #[Value.int IntKind.i64 m, Value.slice A m c] 29)) := ⟨_, rfl⟩
 have HB : Hid (From w W) := by rw [hW]; exact From.alloc _ _
 have HG : Hid (GBox W w.heap.size A m c r) := by rw [hW]; exact h.box
 have HN2 := Lib.hid (HN.out.keep HB.out.below)
 have HW := Lib.hid hW
 have HGq := HG
 clear hW h hn hn' hR hok hF ht hfx hcl HN
 go_enter Tryz.func104, Tryz.ntmps104
 have d0 := HN2.out.c
 have e0 := HG.out.c0
 have e1 := HG.out.c1
 go_wp2
 rw [← HW.out]
 clear HW
 have HSC : Hid (∀ z : World, Below W.heap.size W z → (Below W.heap.size W z ∧ z.cell? ⟨w.heap.size, 0, none⟩ = some (.int .i64 m) ∧ z.cell? ⟨w.heap.size, 1, none⟩ = some (.slice A m c))) := fun z hz => ⟨hz, up_ hz e0, up_ hz e1⟩
 have HZ1 : Hid (Below W.heap.size W W.drew) := (Below.refl _ _).drew
 have HZ2 : Hid (Below W.heap.size W ((W.alloc (Obj.cells #[Value.int IntKind.i64 0, Value.slice none 0 0] 29)).drew)) := ((Below.refl _ _).alloc (Nat.le_refl _) _).drew
 have HN2 : Hid (GC ((W.alloc (Obj.cells #[Value.int IntKind.i64 0, Value.slice none 0 0] 29)).drew) W.heap.size 0 none 0 0) := (GC.new _ _ _ _ _).drew
 have KR1 : Hid (∀ z : World, Below W.heap.size W z → _) := fun z hz => KA.out (HGq.out.gv.keep hz)
 have KR2 : Hid (∀ z : World, Below W.heap.size W z → _) := fun z hz => KN.out (HGq.out.gv.keep hz)
 have HS1 := Lib.hid (HSC.out _ HZ1.out)
 have HS2 := Lib.hid (HSC.out _ HZ2.out)
 go_wp2
 go_region_held3 (fun z => Below W.heap.size W z ∧ z.cell? ⟨w.heap.size, 0, none⟩ = some (.int .i64 m) ∧ z.cell? ⟨w.heap.size, 1, none⟩ = some (.slice A m c))
  (first | exact HS1.out | exact HS2.out | exact HSC.out _ hz1y | exact HSC.out _ (bl_alloc hz1y) | exact HSC.out _ hz5 | exact HSC.out _ (bl_alloc hz5) | exact HSC.out _ (bl_set hz5 hq5) | exact HSC.out _ (bl_set (bl_set hz5 hq5) hq5) | fail)
  (first | (go_at_call 106; ((with_reducible refine (KR1.out _ HZ1.out).mono ?_); rintro e y1 ⟨rfl, hy1⟩; have hz1y := bl_trans HZ1.out hy1)) | (go_at_call 106; ((with_reducible refine (KR1.out _ HZ2.out).mono ?_); rintro e y1 ⟨rfl, hy1⟩; have hz1y := bl_trans HZ2.out hy1; have hn5 := HN2.out.keep hy1; have hq5 : W.heap.size ≤ W.heap.size := Nat.le_refl _; have hl5 : W.heap.size + 1 ≤ (W.alloc (Obj.cells #[Value.int IntKind.i64 0, Value.slice none 0 0] 29)).drew.heap.size := (by show _ ≤ (W.alloc _).heap.size; simp); replace hl5 := Nat.le_trans hl5 hy1.size)) | (go_at_call 105; ((with_reducible refine (KR2.out _ hz1y).mono ?_); rintro e w5 ⟨A5, c5, rfl, hO5, hb5⟩; have hz5 := bl_trans hz1y hb5; replace hn5 := hn5.keep hb5; have n0 := hn5.c0; have n1 := hn5.c1; have n2 := hn5.f0; have n3 := hn5.f1)) | (go_at_call 105; ((with_reducible refine (KR2.out _ hz1y).mono ?_); rintro e w5 ⟨A5, c5, rfl, hO5, hb5⟩; have hz5 := bl_trans hz1y hb5)) | (go_at_call 105; ((with_reducible refine (KR2.out _ (bl_alloc hz1y)).mono ?_); rintro e w5 ⟨A5, c5, rfl, hO5, hb5⟩; have hz5 := bl_trans (bl_alloc hz1y) hb5; have hn5 := (GC.new y1 0 none 0 0).keep hb5; have hq5 : W.heap.size ≤ y1.heap.size := hz1y.size; have hl5 : y1.heap.size + 1 ≤ (y1.alloc (Obj.cells #[Value.int IntKind.i64 0, Value.slice none 0 0] 29)).heap.size := (by simp); have n0 := hn5.c0; have n1 := hn5.c1; have n2 := hn5.f0; have n3 := hn5.f1)))
 all_goals
  first
   | (obtain ⟨W5, hW5⟩ : ∃ W5 : World, W5 = ((w5.setCell ⟨W.heap.size, 0, none⟩ (.int .i64 n)).setCell ⟨W.heap.size, 1, none⟩ (.slice A5 n c5)) := ⟨_, rfl⟩
      rw [← hW5]
      have HQ5 : Hid (GC W5 W.heap.size n A5 n c5) := by rw [hW5]; exact hn5.set
      have HZ5 : Hid (Below W.heap.size W W5) := by rw [hW5]; exact bl_set (bl_set hz5 hq5) hq5
      have HO5 : Hid (Own W5 W.heap.size W5.heap.size 3 1 A5 n c5 (fun j => .int .i64 (R j : Nat))) := by
       rw [hW5]
       exact (hO5.keep (fr2 _ W.heap.size _ _) (.inr hl5)).mono (Nat.le_trans (Nat.le_succ_of_le hq5) hl5) (by simp [World.setCell])
      have HX5 : Hid (W.heap.size ≤ W.heap.size) := hq5
      clear hW5 hn5 n0 n1 n2 n3 hO5 hq5 hl5)
   | (obtain ⟨W5, hW5⟩ : ∃ W5 : World, W5 = ((w5.setCell ⟨y1.heap.size, 0, none⟩ (.int .i64 n)).setCell ⟨y1.heap.size, 1, none⟩ (.slice A5 n c5)) := ⟨_, rfl⟩
      rw [← hW5]
      have HQ5 : Hid (GC W5 y1.heap.size n A5 n c5) := by rw [hW5]; exact hn5.set
      have HZ5 : Hid (Below W.heap.size W W5) := by rw [hW5]; exact bl_set (bl_set hz5 hq5) hq5
      have HO5 : Hid (Own W5 W.heap.size W5.heap.size 3 1 A5 n c5 (fun j => .int .i64 (R j : Nat))) := by
       rw [hW5]
       exact (hO5.keep (fr2 _ y1.heap.size _ _) (.inr hl5)).mono (Nat.le_trans (Nat.le_succ_of_le hq5) hl5) (by simp [World.setCell])
      have HX5 : Hid (W.heap.size ≤ y1.heap.size) := hq5
      clear hW5 hn5 n0 n1 n2 n3 hO5 hq5 hl5)
   | (obtain ⟨W5, hW5⟩ : ∃ W5 : World, W5 = (w5.alloc (Obj.cells #[.int .i64 n, .slice A5 n c5] 29)) := ⟨_, rfl⟩
      rw [← hW5]
      have HQ5 : Hid (GC W5 w5.heap.size n A5 n c5) := by rw [hW5]; exact GC.new _ _ _ _ _
      have HZ5 : Hid (Below W.heap.size W W5) := by rw [hW5]; exact bl_alloc hz5
      have HO5 : Hid (Own W5 W.heap.size W5.heap.size 3 1 A5 n c5 (fun j => .int .i64 (R j : Nat))) := by rw [hW5]; exact (hO5.alloc _).mono (by first | exact Nat.le_refl _ | (have := hz1y.size; omega)) (by simp)
      have HX5 : Hid (W.heap.size ≤ w5.heap.size) := hz5.size
      clear hW5 hO5)
   | fail
 all_goals clear hz5 hb5 HSC HZ1 HZ2 HN2 HS1 HS2 hy1 hz1y KR1 KR2
 all_goals
  have m0 := HQ5.out.c0
  have m1 := HQ5.out.c1
  clear HGq KN KA
  clear d0 e0 e1
  replace HB := Lib.hid (HB.out.keep HZ5.out)
  replace HN2 := Lib.hid (HN2.out.keep HZ5.out)
  replace HG := Lib.hid (HG.out.keep HZ5.out)
  have d0 := HN2.out.c
  have e0 := HG.out.c0
  have e1 := HG.out.c1
  cases ok
  ·have Hn : Hid (dlP r m str.toList s = false) := by show _ = _; rw [Hdef.out, Hd2.out]; rfl
   go_wp2
   go_ret
   exact ⟨ret_bool Hn.out.symm, HB.out.below⟩
  ·have Hn : Hid (dlP r m str.toList s = isV R n str.toList) := by show _ = _; rw [Hdef.out, Hd2.out]; rfl
   have HG5 := Lib.hid (Hvg.out (Hok.out rfl) HO5.out (Nat.le_refl _))
   clear HO5 Hvg Hok
   go_wp2_with fail
   refine (IsIn_v HG5.out str).mono ?_
   rintro e w7 ⟨rfl, hb7⟩
   clear m0 m1 HG5 HQ5 HZ5
   clear d0 e0 e1
   replace HB := Lib.hid (HB.out.keep hb7)
   replace HN2 := Lib.hid (HN2.out.keep hb7)
   replace HG := Lib.hid (HG.out.keep hb7)
   clear hb7
   have d0 := HN2.out.c
   have e0 := HG.out.c0
   have e1 := HG.out.c1
   go_wp2
   go_ret
   exact ⟨ret_bool Hn.out.symm, HB.out.below⟩
set_option maxRecDepth 100000 in
set_option maxHeartbeats 3200000 in
theorem FewestDeletions_v (h : GV w A m c r) :
 Calls Tryz.prog 52 #[.agg #[.int .i64 m, .slice A m c], .string str] w fun e w' => e = .returned (lsV (dlO r m str.toList)) ∧ Below w.heap.size w w' := by
 have Hdef : Hid (dlO r m str.toList = fwK (dlP r m str.toList) (2 ^ m)) := rfl
 obtain ⟨W, hW⟩ : ∃ W : World, W = ((w.alloc (Obj.cells #[Value.int IntKind.i64 m, Value.slice A m c] 29)).alloc (Obj.cells #[.string str] 9)) := ⟨_, rfl⟩
 have HB : Hid (From w W) := by rw [hW]; exact (From.alloc _ _).alloc_ _
 have HG : Hid (GBox W w.heap.size A m c r) := by rw [hW]; exact h.box.keep ((Below.refl _ _).alloc (Nat.le_refl _) _)
 have HN : Hid (CL W (w.heap.size + 1) 0 (.string str)) := by rw [hW]; constructor; simp [go_sem]
 have HW := Lib.hid hW
 have KF := Lib.hid (fewest_g (p := dlP r m str.toList) (caps := #[.pointer (some ⟨w.heap.size + 1, 0, none⟩)]) (ent_of Tryz.func104 (by kernel_rfl) rfl) W HG.out.gv (fun s z hs hb => delF (HG.out.gv.keep hb) hs (HN.out.keep hb).c))
 obtain ⟨o, ho⟩ : ∃ o, o = dlO r m str.toList := ⟨_, rfl⟩
 rw [← Hdef.out, ← ho] at KF
 rw [← ho]
 clear hW h ho Hdef
 go_enter Tryz.func52, Tryz.ntmps52
 have e0 := HG.out.c0
 have e1 := HG.out.c1
 go_wp2_with fail
 rw [← HW.out]
 refine (KF.out).mono ?_
 rintro e w1 ⟨rfl, hb1⟩
 clear HW
 clear e0 e1
 replace HB := Lib.hid (HB.out.keep hb1)
 replace HG := Lib.hid (HG.out.keep hb1)
 clear hb1
 have e0 := HG.out.c0
 have e1 := HG.out.c1
 clear KF
 cases o with
 | none =>
   rw [show fwI none = -1 from rfl]
   go_wp2
   go_ret2
   exact ⟨rfl, HB.out.below⟩
 | some k =>
   rw [show fwI (some k) = (k : Int) from rfl]
   go_wp2
   go_ret2
   exact ⟨rfl, HB.out.below⟩
set_option maxRecDepth 100000 in
set_option maxHeartbeats 3200000 in
theorem LargestInside_v (h : GV w A m c r) :
 Calls Tryz.prog 56 #[.agg #[.int .i64 m, .slice A m c], .string str] w fun e w' => e = .returned (.int .i64 (laI m (dlO r m str.toList))) ∧ Below w.heap.size w w' := by
 have hn7 := h.vg.n7
 have h128 := two_pow_le hn7
 have Hlt : Hid (∀ k, dlO r m str.toList = some k → k < 2 ^ m) := fun k hk => dlO_lt hk
 obtain ⟨W, hW⟩ : ∃ W : World, W = (w.alloc (Obj.cells #[Value.int IntKind.i64 m, Value.slice A m c] 29)) := ⟨_, rfl⟩
 have HB : Hid (From w W) := by rw [hW]; exact From.alloc _ _
 have HG : Hid (GBox W w.heap.size A m c r) := by rw [hW]; exact h.box
 have HW := Lib.hid hW
 clear hW h
 have e0 := HG.out.c0
 have e1 := HG.out.c1
 have KF := Lib.hid (FewestDeletions_v (str := str) HG.out.gv)
 obtain ⟨o, ho⟩ : ∃ o, o = dlO r m str.toList := ⟨_, rfl⟩
 rw [← ho] at KF Hlt ⊢
 clear ho
 go_enter Tryz.func56, Tryz.ntmps56
 go_wp2_with fail
 rw [← HW.out]
 refine (KF.out).mono ?_
 rintro e w1 ⟨rfl, hb1⟩
 clear HW
 clear e0 e1
 replace HB := Lib.hid (HB.out.keep hb1)
 replace HG := Lib.hid (HG.out.keep hb1)
 clear hb1
 have e0 := HG.out.c0
 have e1 := HG.out.c1
 clear KF
 cases o with
 | none =>
   have Hn : Hid (laI m none = -1) := rfl
   rw [lsV_none]
   go_wp2
   go_ret
   exact ⟨ret_int Hn.out.symm, HB.out.below⟩
 | some k =>
   have Hn : Hid (laI m (some k) = (m : Int) - (cn k : Int)) := rfl
   have hk := Hlt.out k rfl
   have hck := cn_le k
   have KC : Hid (∀ z : World, Calls Tryz.prog 115 #[.int .i64 k] z fun e w' => e = .returned (.int .i64 (cn k : Int)) ∧ Below z.heap.size z w') := fun z => CountSet_v k (by omega) z
   obtain ⟨n, hn⟩ : ∃ n, n = cn k := ⟨_, rfl⟩
   rw [← hn] at Hn KC hck
   have s1 : IntKind.i64.wrap ((m : Int) - (n : Int)) = (m : Int) - (n : Int) := Go.IntWalk.i64_in _ (by omega)
   rw [lsV_some]
   clear hn
   go_wp2
   have HSC : Hid (∀ z : World, Below w1.heap.size w1 z → (Below w1.heap.size w1 z ∧ z.cell? ⟨w.heap.size, 0, none⟩ = some (.int .i64 m) ∧ z.cell? ⟨w.heap.size, 1, none⟩ = some (.slice A m c))) := fun z hz => ⟨hz, up_ hz e0, up_ hz e1⟩
   have HZ0 : Hid (Below w1.heap.size w1 w1.drew) := (Below.refl _ _).drew
   have HS1 := Lib.hid (HSC.out _ HZ0.out)
   have KR1 : Hid (∀ z : World, Below w1.heap.size w1 z → _) := fun z hz => KC.out z
   go_region_held3 (fun z => Below w1.heap.size w1 z ∧ z.cell? ⟨w.heap.size, 0, none⟩ = some (.int .i64 m) ∧ z.cell? ⟨w.heap.size, 1, none⟩ = some (.slice A m c))
    (first | exact HS1.out | assumption | exact HSC.out _ hz2 | fail)
    (first | (go_at_call 115; ((with_reducible refine (KR1.out _ HZ0.out).mono ?_); rintro e w2 ⟨rfl, hb2⟩; have hz2 := bl_trans HZ0.out hb2)))
   clear e0 e1
   replace HB := Lib.hid (HB.out.keep hz2)
   replace HG := Lib.hid (HG.out.keep hz2)
   clear hb2 hz2 HSC HZ0 HS1 KR1
   have e0 := HG.out.c0
   have e1 := HG.out.c1
   go_wp2
   go_ret
   exact ⟨ret_int Hn.out.symm, HB.out.below⟩
end
section
variable (sz : Int) (A : Option Addr) (m c : Nat) (x : Nat → Int) (str : ByteArray) (w : World)
set_option maxHeartbeats 1000000 in
theorem fewest_noG {sz : Int} {A : Option Addr} {m c : Nat} {x : Nat → Int} {w : World} {f : Value} (h : GA w A m c x) (hm : m ≤ 1048576) (hok : okB sz m x = false) :
 Calls Tryz.prog 103 #[.agg #[.int .i64 sz, .slice A m c], f] w fun e w' => e = .returned (.int .i64 (-1)) ∧ Below w.heap.size w w' := by
 obtain ⟨W, hW⟩ : ∃ W : World, W = (w.alloc (Obj.cells #[Value.int IntKind.i64 sz, Value.slice A m c] 29)) := ⟨_, rfl⟩
 have HB : Hid (From w W) := by rw [hW]; exact From.alloc _ _
 have HK := Lib.hid (h.keep HB.out.below)
 have HC : Hid (GC W w.heap.size sz A m c) := by rw [hW]; exact GC.new _ _ _ _ _
 have HW := Lib.hid hW
 have KF : Hid (Calls Tryz.prog 61 #[.agg #[.int .i64 sz, .slice A m c]] W fun e w' => e = .returned (.bool false) ∧ Below W.heap.size W w') := by
  have := IsGraph_any sz A m c x W W.heap.size HK.out.rd (Nat.le_refl _) hm
  rwa [hok] at this
 clear hW h hok
 go_enter Tryz.func103, Tryz.ntmps103
 have e0 := HC.out.c0
 have e1 := HC.out.c1
 go_wp2_with fail
 rw [← HW.out]
 refine (KF.out).mono ?_
 rintro e w1 ⟨rfl, hb1⟩
 clear HW
 clear e0 e1
 replace HB := Lib.hid (HB.out.keep hb1)
 replace HK := Lib.hid (HK.out.keep hb1)
 replace HC := Lib.hid (HC.out.keep hb1)
 clear hb1
 have e0 := HC.out.c0
 have e1 := HC.out.c1
 clear KF
 go_wp2
 go_ret
 exact ⟨rfl, HB.out.below⟩
set_option maxRecDepth 100000 in
set_option maxHeartbeats 3200000 in
theorem FewestDeletions_no (h : GA w A m c x) (hm : m ≤ 1048576) (hok : okB sz m x = false) :
 Calls Tryz.prog 52 #[.agg #[.int .i64 sz, .slice A m c], .string str] w fun e w' => e = .returned (lsV none) ∧ Below w.heap.size w w' := by
 obtain ⟨W, hW⟩ : ∃ W : World, W = ((w.alloc (Obj.cells #[Value.int IntKind.i64 sz, Value.slice A m c] 29)).alloc (Obj.cells #[.string str] 9)) := ⟨_, rfl⟩
 have HB : Hid (From w W) := by rw [hW]; exact (From.alloc _ _).alloc_ _
 have HK := Lib.hid (h.keep HB.out.below)
 have HC : Hid (GC W w.heap.size sz A m c) := by rw [hW]; exact (GC.new _ _ _ _ _).keep ((Below.refl _ _).alloc (Nat.le_refl _) _)
 have HW := Lib.hid hW
 have KF := Lib.hid (fewest_noG (f := .func (.func 104) #[] #[.pointer (some ⟨w.heap.size + 1, 0, none⟩)]) HK.out hm hok)
 clear hW h hok
 go_enter Tryz.func52, Tryz.ntmps52
 have e0 := HC.out.c0
 have e1 := HC.out.c1
 go_wp2_with fail
 rw [← HW.out]
 refine (KF.out).mono ?_
 rintro e w1 ⟨rfl, hb1⟩
 clear HW
 clear e0 e1
 replace HB := Lib.hid (HB.out.keep hb1)
 replace HK := Lib.hid (HK.out.keep hb1)
 replace HC := Lib.hid (HC.out.keep hb1)
 clear hb1
 have e0 := HC.out.c0
 have e1 := HC.out.c1
 clear KF
 go_wp2
 go_ret2
 exact ⟨rfl, HB.out.below⟩
theorem FewestDeletions_i (h : GA w A m c x) (hm : m ≤ 1048576) :
 Calls Tryz.prog 52 #[.agg #[.int .i64 sz, .slice A m c], .string str] w fun e w' => e = .returned (lsV (dlX sz m x str.toList)) ∧ Below w.heap.size w w' := by
 cases ho : okB sz m x
 ·rw [dlX_no ho]
  exact FewestDeletions_no sz A m c x str w h hm ho
 ·obtain ⟨_, es, _, _⟩ := okB_ok' ho
  subst es
  rw [dlX_yes ho]
  exact FewestDeletions_v (h.gv ho)
set_option maxRecDepth 100000 in
set_option maxHeartbeats 3200000 in
theorem LargestInside_i (h : GA w A m c x) (hm : m ≤ 1048576) :
 Calls Tryz.prog 56 #[.agg #[.int .i64 sz, .slice A m c], .string str] w fun e w' => e = .returned (.int .i64 (laI m (dlX sz m x str.toList))) ∧ Below w.heap.size w w' := by
 cases ho : okB sz m x
 ·rw [dlX_no ho]
  have Hn : Hid (laI m none = -1) := rfl
  obtain ⟨W, hW⟩ : ∃ W : World, W = (w.alloc (Obj.cells #[Value.int IntKind.i64 sz, Value.slice A m c] 29)) := ⟨_, rfl⟩
  have HB : Hid (From w W) := by rw [hW]; exact From.alloc _ _
  have HK := Lib.hid (h.keep HB.out.below)
  have HC : Hid (GC W w.heap.size sz A m c) := by rw [hW]; exact GC.new _ _ _ _ _
  have HW := Lib.hid hW
  have KF := Lib.hid (FewestDeletions_no sz A m c x str W HK.out hm ho)
  rw [lsV_none] at KF
  clear hW h ho
  go_enter Tryz.func56, Tryz.ntmps56
  have e0 := HC.out.c0
  have e1 := HC.out.c1
  go_wp2_with fail
  rw [← HW.out]
  refine (KF.out).mono ?_
  rintro e w1 ⟨rfl, hb1⟩
  clear HW
  clear e0 e1
  replace HB := Lib.hid (HB.out.keep hb1)
  replace HK := Lib.hid (HK.out.keep hb1)
  replace HC := Lib.hid (HC.out.keep hb1)
  clear hb1
  have e0 := HC.out.c0
  have e1 := HC.out.c1
  clear KF
  go_wp2
  go_ret
  exact ⟨ret_int Hn.out.symm, HB.out.below⟩
 ·obtain ⟨_, es, _, _⟩ := okB_ok' ho
  subst es
  rw [dlX_yes ho]
  exact LargestInside_v (h.gv ho)
end
end Go.Proofs.YtppkokgiojcgbaaGreatDoor
