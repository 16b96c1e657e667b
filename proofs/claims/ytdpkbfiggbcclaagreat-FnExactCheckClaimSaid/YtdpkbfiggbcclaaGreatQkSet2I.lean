/-
-/
import Derived.Test.YtdpkbfiggbcclaaGreatQkBest
namespace Go.Proofs.YtdpkbfiggbcclaaGreat
open Go.RowKit
structure GA (w : World) (A : Option Addr) (m c : Nat) (x : Nat → Int) : Prop where
 rd : Rd w w.heap.size A m c x
theorem GA.keep {w w' : World} {A : Option Addr} {m c : Nat} {x : Nat → Int} (h : GA w A m c x) (hb : Below w.heap.size w w') : GA w' A m c x := ⟨h.rd.keep hb hb.size⟩
theorem GA.gv {w : World} {A : Option Addr} {m c : Nat} {x : Nat → Int} (h : GA w A m c x) (hok : okB m m x = true) : GV w A m c (rw_ x) := GV.of h.rd (Nat.le_refl _) hok
theorem GV.ga {w : World} {A : Option Addr} {m c : Nat} {r : Nat → Nat} (h : GV w A m c r) : GA w A m c (fun v => (r v : Int)) := ⟨h.rd⟩
set_option maxHeartbeats 1000000 in
theorem IsSet_i (sz : Int) (A : Option Addr) (m c : Nat) (x : Nat → Int) (s : Int) (w : World) (h : GA w A m c x) (hm : m ≤ 1048576) :
 Calls Tryz.prog 263 #[.agg #[.int .i64 sz, .slice A m c], .int .i64 s] w fun e w' => e = .returned (.bool (setB sz m x s)) ∧ Below w.heap.size w w' := by
 obtain ⟨W, hW⟩ : ∃ W : World, W = (w.alloc (Obj.cells #[Value.int IntKind.i64 sz, Value.slice A m c] 28)) := ⟨_, rfl⟩
 have HB : Hid (From w W) := by rw [hW]; exact From.alloc _ _
 have HK := Lib.hid (h.keep HB.out.below)
 have HC : Hid (GC W w.heap.size sz A m c) := by rw [hW]; exact GC.new _ _ _ _ _
 have HW := Lib.hid hW
 clear hW h
 go_enter Tryz.func263, Tryz.ntmps263
 have e0 := HC.out.c0
 have e1 := HC.out.c1
 go_wp2_with fail
 rw [← HW.out]
 refine (IsGraph_any sz A m c x W W.heap.size HK.out.rd (Nat.le_refl _) hm).mono ?_
 rintro e w1 ⟨rfl, hb1⟩
 clear HW
 clear e0 e1
 replace HB := Lib.hid (HB.out.keep hb1)
 replace HK := Lib.hid (HK.out.keep hb1)
 replace HC := Lib.hid (HC.out.keep hb1)
 clear hb1
 have e0 := HC.out.c0
 have e1 := HC.out.c1
 cases ho : okB sz m x
 ·have hno : Hid (setB sz m x s = false) := by show _ = _; unfold setB; rw [ho]; rfl
  clear ho
  go_wp2
  go_ret
  exact ⟨ret_bool hno.out.symm, HB.out.below⟩
 ·obtain ⟨_, es, vg0, _⟩ := okB_ok' ho
  subst es
  have hn7 := vg0.n7
  have hp := two_pow_le hn7
  have hpos := Nat.two_pow_pos m
  have hpc := pow_cast m
  have Ho := Lib.hid ho
  clear ho vg0
  go_wp2_with fail
  refine (all_any m A c _ hn7).mono ?_
  rintro e w2 ⟨rfl, hb2⟩
  clear e0 e1
  replace HB := Lib.hid (HB.out.keep hb2)
  replace HK := Lib.hid (HK.out.keep hb2)
  replace HC := Lib.hid (HC.out.keep hb2)
  clear hb2
  have e0 := HC.out.c0
  have e1 := HC.out.c1
  by_cases hs : 0 ≤ s ∧ s < 2 ^ m
  ·have hyes : Hid (setB (m : Int) m x s = true) := by show _ = _; unfold setB; rw [Ho.out, decide_eq_true hs]; rfl
   obtain ⟨s1, s2⟩ := hs
   go_wp2_with (first | (go_at_call 193; refine (within_yes _ _ _ _ s1 (by omega)).mono ?_; rintro e w' ⟨rfl, rfl⟩))
   go_ret
   exact ⟨ret_bool hyes.out.symm, HB.out.below⟩
  ·have hno : Hid (setB (m : Int) m x s = false) := setB_out (by omega)
   have hr : Hid (s < 0 ∨ ((2 ^ m - 1 : Nat) : Int) < s) := by show _ ∨ _; omega
   clear hs
   go_wp2_with (first | (go_at_call 193; refine (within_no _ _ _ _ hr.out).mono ?_; rintro e w' ⟨rfl, rfl⟩))
   go_ret
   exact ⟨ret_bool hno.out.symm, HB.out.below⟩
section
variable {A : Option Addr} {m c : Nat} {r : Nat → Nat}
theorem IsSet_v {w : World} (h : GV w A m c r) {s : Nat} (hs : s < 2 ^ m) :
 Calls Tryz.prog 263 #[.agg #[.int .i64 m, .slice A m c], .int .i64 s] w fun e w' => e = .returned (.bool true) ∧ Below w.heap.size w w' := by
 have := IsSet_i m A m c _ s w h.ga (by have := h.vg.n7; omega)
 rwa [setB_yes h.ok hs] at this
set_option maxHeartbeats 1000000 in
theorem AroundSet_v {w : World} (h : GV w A m c r) {s : Nat} (hs : s < 2 ^ m) :
 Calls Tryz.prog 269 #[.agg #[.int .i64 m, .slice A m c], .int .i64 s] w fun e w' => e = .returned (.int .i64 ((s ||| nb r s : Nat) : Int)) ∧ Below w.heap.size w w' := by
 have hp := two_pow_le h.vg.n7
 have hnb := nb_lt (r := r) h.vg.lt hs 7
 have E := i64_or_nat s (nb r s) (by omega) (by have : nb r s < 2 ^ m := hnb; omega)
 obtain ⟨W, hW⟩ : ∃ W : World, W = (w.alloc (Obj.cells #[Value.int IntKind.i64 m, Value.slice A m c] 28)) := ⟨_, rfl⟩
 have HB : Hid (From w W) := by rw [hW]; exact From.alloc _ _
 have HG : Hid (GBox W w.heap.size A m c r) := by rw [hW]; exact h.box
 have HW := Lib.hid hW
 clear hW h
 have e0 := HG.out.c0
 have e1 := HG.out.c1
 go_enter Tryz.func269, Tryz.ntmps269
 go_wp2_with fail
 rw [← HW.out]
 refine (IsSet_v HG.out.gv hs).mono ?_
 rintro e w1 ⟨rfl, hb1⟩
 clear HW
 clear e0 e1
 replace HB := Lib.hid (HB.out.keep hb1)
 replace HG := Lib.hid (HG.out.keep hb1)
 clear hb1
 have e0 := HG.out.c0
 have e1 := HG.out.c1
 go_wp2_with fail
 refine (neighbors_v HG.out.gv hs).mono ?_
 rintro e w2 ⟨rfl, hb2⟩
 clear e0 e1
 replace HB := Lib.hid (HB.out.keep hb2)
 replace HG := Lib.hid (HG.out.keep hb2)
 clear hb2
 have e0 := HG.out.c0
 have e1 := HG.out.c1
 go_wp2
 go_ret
 exact ⟨rfl, HB.out.below⟩
set_option maxHeartbeats 1000000 in
theorem IsDominating_v {w : World} (h : GV w A m c r) {s : Nat} (hs : s < 2 ^ m) :
 Calls Tryz.prog 136 #[.agg #[.int .i64 m, .slice A m c], .int .i64 s] w fun e w' => e = .returned (.bool (domB r m s)) ∧ Below w.heap.size w w' := by
 have hd : Hid (decide (((s ||| nb r s : Nat) : Int) = ((2 ^ m - 1 : Nat) : Int)) = domB r m s) := by
  show _ = _
  unfold domB
  rw [Bool.eq_iff_iff]
  simp only [decide_eq_true_eq, beq_iff_eq]
  omega
 obtain ⟨W, hW⟩ : ∃ W : World, W = (w.alloc (Obj.cells #[Value.int IntKind.i64 m, Value.slice A m c] 28)) := ⟨_, rfl⟩
 have HB : Hid (From w W) := by rw [hW]; exact From.alloc _ _
 have HG : Hid (GBox W w.heap.size A m c r) := by rw [hW]; exact h.box
 have HW := Lib.hid hW
 clear hW h
 have e0 := HG.out.c0
 have e1 := HG.out.c1
 go_enter Tryz.func136, Tryz.ntmps136
 go_wp2
 rw [← HW.out]
 clear HW
 have HSC : Hid (∀ z : World, Below W.heap.size W z → (Below W.heap.size W z ∧ z.cell? ⟨w.heap.size, 0, none⟩ = some (.int .i64 m) ∧ z.cell? ⟨w.heap.size, 1, none⟩ = some (.slice A m c))) := fun z hz => ⟨hz, up_ hz e0, up_ hz e1⟩
 have HZ0 : Hid (Below W.heap.size W W.drew) := (Below.refl _ _).drew
 have HS1 := Lib.hid (HSC.out _ HZ0.out)
 have KR1 : Hid (∀ z : World, Below W.heap.size W z → _) := fun z hz => IsSet_v (HG.out.keep hz).gv hs
 have KR2 : Hid (∀ z : World, Below W.heap.size W z → _) := fun z hz => AroundSet_v (HG.out.keep hz).gv hs
 have KR3 : Hid (∀ z : World, Below W.heap.size W z → _) := fun z hz => all_v (HG.out.keep hz).gv
 go_region_held3 (fun z => Below W.heap.size W z ∧ z.cell? ⟨w.heap.size, 0, none⟩ = some (.int .i64 m) ∧ z.cell? ⟨w.heap.size, 1, none⟩ = some (.slice A m c))
  (first | exact HS1.out | assumption | exact HSC.out _ hz3 | exact HSC.out _ hz2 | exact HSC.out _ hz1 | fail)
  (first | (go_at_call 263; ((with_reducible refine (KR1.out _ HZ0.out).mono ?_); rintro e w1 ⟨rfl, hb1⟩; have hz1 := bl_trans HZ0.out hb1)) | (go_at_call 269; ((with_reducible refine (KR2.out _ hz1).mono ?_); rintro e w2 ⟨rfl, hb2⟩; have hz2 := bl_trans hz1 hb2)) | (go_at_call 185; ((with_reducible refine (KR3.out _ hz2).mono ?_); rintro e w3 ⟨rfl, hb3⟩; have hz3 := bl_trans hz2 hb3)))
 clear e0 e1
 replace HB := Lib.hid (HB.out.keep hz3)
 replace HG := Lib.hid (HG.out.keep hz3)
 clear hb1 hz1 hb2 hz2 hb3 hz3 HSC HZ0 HS1 KR1 KR2 KR3
 have e0 := HG.out.c0
 have e1 := HG.out.c1
 go_wp2
 go_ret
 exact ⟨ret_bool (by rw [← hd.out, Bool.eq_iff_iff]; simp), HB.out.below⟩
set_option maxHeartbeats 1000000 in
theorem IsClique_v {w : World} (h : GV w A m c r) {s : Nat} (hs : s < 2 ^ m) :
 Calls Tryz.prog 131 #[.agg #[.int .i64 m, .slice A m c], .int .i64 s] w fun e w' => e = .returned (.bool (cliq r s)) ∧ Below w.heap.size w w' := by
 obtain ⟨W, hW⟩ : ∃ W : World, W = (w.alloc (Obj.cells #[Value.int IntKind.i64 m, Value.slice A m c] 28)) := ⟨_, rfl⟩
 have HB : Hid (From w W) := by rw [hW]; exact From.alloc _ _
 have HG : Hid (GBox W w.heap.size A m c r) := by rw [hW]; exact h.box
 have HW := Lib.hid hW
 clear hW h
 have e0 := HG.out.c0
 have e1 := HG.out.c1
 go_enter Tryz.func131, Tryz.ntmps131
 go_wp2_with fail
 rw [← HW.out]
 refine (IsSet_v HG.out.gv hs).mono ?_
 rintro e w1 ⟨rfl, hb1⟩
 clear HW
 clear e0 e1
 replace HB := Lib.hid (HB.out.keep hb1)
 replace HG := Lib.hid (HG.out.keep hb1)
 clear hb1
 have e0 := HG.out.c0
 have e1 := HG.out.c1
 go_wp2_with fail
 refine (isClique_v HG.out.gv hs).mono ?_
 rintro e w2 ⟨rfl, hb2⟩
 clear e0 e1
 replace HB := Lib.hid (HB.out.keep hb2)
 replace HG := Lib.hid (HG.out.keep hb2)
 clear hb2
 have e0 := HG.out.c0
 have e1 := HG.out.c1
 go_wp2
 go_ret
 exact ⟨rfl, HB.out.below⟩
set_option maxHeartbeats 1000000 in
theorem IsIndependent_v {w : World} (h : GV w A m c r) {s : Nat} (hs : s < 2 ^ m) :
 Calls Tryz.prog 135 #[.agg #[.int .i64 m, .slice A m c], .int .i64 s] w fun e w' => e = .returned (.bool (indB r s)) ∧ Below w.heap.size w w' := by
 have hp := two_pow_le h.vg.n7
 have hnb : nb r s < 2 ^ m := nb_lt (r := r) h.vg.lt hs 7
 have E := i64_and_nat (nb r s) s (by omega) (by omega)
 have hd : Hid ((((nb r s &&& s : Nat) : Int) == 0) = indB r s) := by
  show _ = _
  unfold indB
  rw [Bool.eq_iff_iff]
  simp
 obtain ⟨W, hW⟩ : ∃ W : World, W = (w.alloc (Obj.cells #[Value.int IntKind.i64 m, Value.slice A m c] 28)) := ⟨_, rfl⟩
 have HB : Hid (From w W) := by rw [hW]; exact From.alloc _ _
 have HG : Hid (GBox W w.heap.size A m c r) := by rw [hW]; exact h.box
 have HW := Lib.hid hW
 clear hW h
 have e0 := HG.out.c0
 have e1 := HG.out.c1
 go_enter Tryz.func135, Tryz.ntmps135
 go_wp2_with fail
 rw [← HW.out]
 refine (IsSet_v HG.out.gv hs).mono ?_
 rintro e w1 ⟨rfl, hb1⟩
 clear HW
 clear e0 e1
 replace HB := Lib.hid (HB.out.keep hb1)
 replace HG := Lib.hid (HG.out.keep hb1)
 clear hb1
 have e0 := HG.out.c0
 have e1 := HG.out.c1
 go_wp2_with fail
 refine (neighbors_v HG.out.gv hs).mono ?_
 rintro e w2 ⟨rfl, hb2⟩
 clear e0 e1
 replace HB := Lib.hid (HB.out.keep hb2)
 replace HG := Lib.hid (HG.out.keep hb2)
 clear hb2
 have e0 := HG.out.c0
 have e1 := HG.out.c1
 go_wp2
 go_ret
 exact ⟨ret_bool (by rw [← hd.out]), HB.out.below⟩
set_option maxHeartbeats 1000000 in
theorem IsPacking_v {w : World} (h : GV w A m c r) {s : Nat} (hs : s < 2 ^ m) :
 Calls Tryz.prog 137 #[.agg #[.int .i64 m, .slice A m c], .int .i64 s] w fun e w' => e = .returned (.bool (pakB r m s)) ∧ Below w.heap.size w w' := by
 have hn7 := h.vg.n7
 have hp := two_pow_le hn7
 obtain ⟨b, o, rfl⟩ := h.addr
 have HV := Lib.hid h.vg
 obtain ⟨W, hW⟩ : ∃ W : World, W = (w.alloc (Obj.cells #[Value.int IntKind.i64 m, Value.slice (some ⟨b, o, none⟩) m c] 28)) := ⟨_, rfl⟩
 have HB : Hid (From w W) := by rw [hW]; exact From.alloc _ _
 have HG : Hid (GBox W w.heap.size (some ⟨b, o, none⟩) m c r) := by rw [hW]; exact h.box
 have HW := Lib.hid hW
 clear hW h
 have e0 := HG.out.c0
 have e1 := HG.out.c1
 go_enter Tryz.func137, Tryz.ntmps137
 go_wp2_with fail
 rw [← HW.out]
 refine (IsSet_v HG.out.gv hs).mono ?_
 rintro e w1 ⟨rfl, hb1⟩
 clear HW
 clear e0 e1
 replace HB := Lib.hid (HB.out.keep hb1)
 replace HG := Lib.hid (HG.out.keep hb1)
 clear hb1
 have e0 := HG.out.c0
 have e1 := HG.out.c1
 go_wp2
 go_loopw [14] (fun i wr => ∃ k : Nat, k ≤ m ∧ i = .int .i64 k ∧ Hid (∀ v, v < k → ¬ 1 < cn ((r v ||| 2 ^ v) &&& s)) ∧ Hid (From w1 wr)) (fun i _ => m - (intOf i).toNat)
 case atStart => exact ⟨0, Nat.zero_le _, rfl, (fun v hv => absurd hv (by omega)), From.refl _⟩
 case round =>
  obtain ⟨k, hk, rfl, hall, HR⟩ := hrel
  clear e0 e1
  replace HB := Lib.hid (HB.out.keep HR.out.below)
  replace HG := Lib.hid (HG.out.keep HR.out.below)
  have e0 := HG.out.c0
  have e1 := HG.out.c1
  by_cases hlt : k < m
  ·have q0 := HG.out.gv.row hlt
   have hr := HV.out.lt128 hlt
   have h2k := two_pow_le (n := k) (by omega)
   have hk2 : 2 ^ k < 128 := Nat.lt_of_lt_of_le (Nat.pow_lt_pow_right (by omega) hlt) hp
   have p1 := pow_shl k (by omega)
   have E1 := i64_or_nat (r k) (2 ^ k) (by omega) (by omega)
   have hor : r k ||| 2 ^ k < 2 ^ 7 := Nat.or_lt_two_pow (by omega) (by omega)
   have E2 := i64_and_nat (r k ||| 2 ^ k) s (by omega) (by omega)
   have hand : (r k ||| 2 ^ k) &&& s < 128 := Nat.lt_of_le_of_lt Nat.and_le_right (by omega)
   rw [pow_cast] at E1
   have i1 : (k : Int) < (m : Int) := by omega
   obtain ⟨a, ha⟩ : ∃ a, a = (r k ||| 2 ^ k) &&& s := ⟨_, rfl⟩
   rw [← ha] at E2 hand
   have Ha := Lib.hid ha
   clear ha
   go_wp2_with fail
   refine (CountSet_v a hand _).mono ?_
   rintro e w2 ⟨rfl, hb2⟩
   clear e0 e1
   replace HB := Lib.hid (HB.out.keep hb2)
   replace HG := Lib.hid (HG.out.keep hb2)
   replace HR := Lib.hid (HR.out.keep hb2)
   clear hb2
   have e0 := HG.out.c0
   have e1 := HG.out.c1
   by_cases hc : 1 < cn a
   ·have hno : Hid (pakB r m s = false) := pakB_no hlt (by rw [← Ha.out]; exact hc)
    have i2 : (1 : Int) < (cn a : Int) := by omega
    go_wp2
    go_ret
    exact ⟨ret_bool hno.out.symm, HB.out.below⟩
   ·have i2 : (cn a : Int) ≤ 1 := by omega
    have Hc : Hid (¬ 1 < cn a) := hc
    go_wp2
    go_roundw
    case rel =>
     refine ⟨k + 1, by omega, by go_num, fun v hv => ?_, HR⟩
     by_cases hvk : v < k
     ·exact hall.out v hvk
     ·obtain rfl : v = k := by omega
      rw [← Ha.out]; exact Hc.out
    case measure => simp [intOf]; omega
  ·have hyes : Hid (pakB r m s = true) := pakB_yes fun v hv => hall.out v (by omega)
   have i1 : (m : Int) ≤ (k : Int) := by omega
   go_wp2
   go_ret
   exact ⟨ret_bool hyes.out.symm, HB.out.below⟩
end
end Go.Proofs.YtdpkbfiggbcclaaGreat
