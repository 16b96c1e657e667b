/-
  Several texts in one.
-/
import Derived.Test.YticadlkcjhglnaaGreatQnSet2I
import Derived.Test.YticadlkcjhglnaaGreatQnListZ
/-
-/
namespace Go.Proofs.YticadlkcjhglnaaGreat
open Go.RowKit
theorem and255 (x : Int) : ∃ v : Nat, v < 256 ∧ bits .and .i64 x 255 = (v : Int) := by
 refine ⟨(BitVec.ofInt 64 x &&& BitVec.ofInt 64 255).toNat, ?_, ?_⟩
 ·rw [BitVec.toNat_and]
  exact Nat.lt_of_le_of_lt Nat.and_le_right (by decide)
 ·have h : (BitVec.ofInt 64 x &&& BitVec.ofInt 64 255).toNat < 256 := by
   rw [BitVec.toNat_and]
   exact Nat.lt_of_le_of_lt Nat.and_le_right (by decide)
  show IntKind.i64.wrap ((BitVec.ofInt 64 x &&& BitVec.ofInt 64 255).toNat : Int) = _
  rw [IntKind.wrap_i64]
  omega
def By (w : World) (B : Nat) (A : Option Addr) (n c : Nat) : Prop := n ≤ c ∧ (0 < n → ∃ b o, A = some ⟨b, o, none⟩ ∧ b < B ∧ ∀ j, j < n → ∃ u : Nat, u < 256 ∧ w.cell? ⟨b, o + j, none⟩ = some (.int .u8 u))
section
variable {w w' : World} {A : Option Addr} {B n c q : Nat}
theorem By.keep (h : By w B A n c) {B' : Nat} (hb : Below B w w') (hB : B ≤ B') : By w' B' A n c := by
 refine ⟨h.1, fun hn => ?_⟩
 obtain ⟨b, o, rfl, hlt, hc⟩ := h.2 hn
 exact ⟨b, o, rfl, by omega, fun j hj => (hc j hj).imp fun u hu => ⟨hu.1, up hb hu.2 hlt⟩⟩
theorem By.keepF (h : By w B A n c) {a b : Nat} (hf : Fr a b w w') (hB : B ≤ a) (hw : B ≤ w.heap.size) : By w' B A n c := h.keep (hf.below hB hw) (Nat.le_refl _)
structure Cu (w : World) (q : Nat) (A : Option Addr) (n c : Nat) : Prop where
 ex : ∃ (i : Nat) (h : Int), i ≤ n ∧ w.cell? ⟨q, 0, none⟩ = some (.slice A n c) ∧ w.cell? ⟨q, 1, none⟩ = some (.int .i64 i) ∧ w.cell? ⟨q, 2, none⟩ = some (.int .i64 h)
 f1 : w.frozen? ⟨q, 1, none⟩ = false
 f2 : w.frozen? ⟨q, 2, none⟩ = false
 by_ : By w q A n c
 le : n ≤ 1048576
theorem Cu.lt (h : Cu w q A n c) : q < w.heap.size := by
 obtain ⟨_, _, _, h0, _⟩ := h.ex
 exact World.block_lt_of_cell? _ _ h0
theorem Cu.keepB {B : Nat} (h : Cu w q A n c) (hb : Below B w w') (hq : q < B) : Cu w' q A n c := by
 obtain ⟨i, k, hi, h0, h1, h2⟩ := h.ex
 exact ⟨⟨i, k, hi, up hb h0 hq, up hb h1 hq, up hb h2 hq⟩, upf hb h.f1 hq, upf hb h.f2 hq, h.by_.keep (hb.mono (Nat.le_of_lt hq)) (Nat.le_refl _), h.le⟩
theorem Cu.keep (h : Cu w q A n c) (hb : Below w.heap.size w w') : Cu w' q A n c := h.keepB hb h.lt
structure Dr (w : World) (q : Nat) (A : Option Addr) (n c : Nat) (w' : World) : Prop where
 cu : Cu w' q A n c
 fr : Fr q (q + 1) w w'
theorem Dr.trans {w2 : World} (h : Dr w q A n c w') (k : Dr w' q A n c w2) : Dr w q A n c w2 := ⟨k.cu, h.fr.trans k.fr⟩
theorem Dr.of (h : Cu w q A n c) (hb : Below w.heap.size w w') : Dr w q A n c w' := ⟨h.keep hb, Fr.of_below hb⟩
theorem Dr.up (h : Dr w q A n c w') {w2 : World} (hb : Below w'.heap.size w' w2) : Dr w q A n c w2 := h.trans (Dr.of h.cu hb)
theorem Cu.mk' {w W : World} {i : Nat} {h : Int} (hi : i ≤ n) (d0 : W.cell? ⟨q, 0, none⟩ = some (.slice A n c)) (d1 : W.cell? ⟨q, 1, none⟩ = some (.int .i64 i)) (d2 : W.cell? ⟨q, 2, none⟩ = some (.int .i64 h)) (d3 : W.frozen? ⟨q, 1, none⟩ = false) (d4 : W.frozen? ⟨q, 2, none⟩ = false) (hb : By w q A n c) (hq : q < w.heap.size) (hf : Fr q (q + 1) w W) (hn : n ≤ 1048576) : Dr w q A n c W :=
 ⟨⟨⟨i, h, hi, d0, d1, d2⟩, d3, d4, hb.keepF hf (Nat.le_refl _) (Nat.le_of_lt hq), hn⟩, hf⟩
set_option maxRecDepth 100000 in
set_option maxHeartbeats 3200000 in
theorem l1Byte_s (hc : Cu w q A n c) :
 Calls Tryz.prog 112 #[.pointer (some ⟨q, 0, none⟩)] w fun e w' => ∃ v : Nat, e = .returned (.int .i64 v) ∧ v < 256 ∧ Dr w q A n c w' := by
 have HC := Lib.hid hc
 obtain ⟨i, h, hi, c0, c1, c2⟩ := hc.ex
 have f1 := hc.f1
 have f2 := hc.f2
 have hn := hc.le
 have HBy := Lib.hid hc.by_
 have hlt := hc.lt
 obtain ⟨h2, hh2⟩ : ∃ h2, h2 = wrap64 (wrap64 (h * 6364136223846793005) + 1442695040888963407) := ⟨_, rfl⟩
 obtain ⟨W1, hW1⟩ : ∃ W1 : World, W1 = w.setCell ⟨q, 2, none⟩ (.int .i64 h2) := ⟨_, rfl⟩
 have d0 : W1.cell? ⟨q, 0, none⟩ = some (.slice A n c) := by rw [hW1]; simp [go_sem, c0]
 have d1 : W1.cell? ⟨q, 1, none⟩ = some (.int .i64 i) := by rw [hW1]; simp [go_sem, c1]
 have d2 : W1.cell? ⟨q, 2, none⟩ = some (.int .i64 h2) := by rw [hW1]; simp [go_sem, c2]
 have d3 : W1.frozen? ⟨q, 1, none⟩ = false := by rw [hW1]; simp [go_sem, f1]
 have d4 : Hid (W1.frozen? ⟨q, 2, none⟩ = false) := by rw [hW1]; simp [go_sem, f2, Hid]
 have F1 : Hid (Fr q (q + 1) w W1) := by rw [hW1]; exact (Fr.refl _ _ w).setCell (p := ⟨q, 2, none⟩) (Nat.le_refl _) (Nat.lt_succ_self _) _
 have Hh := Lib.hid hh2
 have HW := Lib.hid hW1
 clear hh2 hW1
 by_cases hin : i < n
 ·obtain ⟨b, o, rfl, hbq, hcell⟩ := hc.by_.2 (by omega)
  obtain ⟨u, hu, pu⟩ := hcell i hin
  have i1 : (i : Int) < (n : Int) := by omega
  have p1 : W1.cell? ⟨b, o + i, none⟩ = some (.int .u8 u) := (F1.out.cell (p := ⟨b, o + i, none⟩) (by show b < _; omega) (.inl hbq)).trans pu
  clear hc hcell pu
  go_enter Tryz.func112, Tryz.ntmps112
  go_wp2
  rw [← Hh.out, ← HW.out]
  clear c0 c1 c2 f1 f2
  go_quiet (fail)
  go_wp2
  obtain ⟨v, hv, ev⟩ := and255 (bits .xor .i64 (h2 / 8589934592) (h2 / 35184372088832))
  rw [ev]
  clear ev
  go_quiet (fail)
  go_wp2
  go_quiet (fail)
  go_wp2
  obtain ⟨v2, hv2, ev2⟩ := and255 ((v : Int) + (u : Int))
  rw [ev2]
  go_ret
  refine ⟨v2, rfl, hv2, Cu.mk' (i := i + 1) (h := h2) (by omega) ?_ ?_ ?_ ?_ ?_ HBy.out hlt ((F1.out.drewN _).setCell (p := ⟨q, 1, none⟩) (Nat.le_refl _) (Nat.lt_succ_self _) _) hn⟩
  ·simp [go_sem, d0]
  ·simp [go_sem, d1]
  ·simp [go_sem, d2]
  ·simp [go_sem, d3]
  ·simp [go_sem, d4.out]
 ·have i1 : (n : Int) ≤ (i : Int) := by omega
  clear hc
  go_enter Tryz.func112, Tryz.ntmps112
  go_wp2
  rw [← Hh.out, ← HW.out]
  clear c0 c1 c2 f1 f2
  go_quiet (fail)
  go_wp2
  obtain ⟨v, hv, ev⟩ := and255 (bits .xor .i64 (h2 / 8589934592) (h2 / 35184372088832))
  rw [ev]
  clear ev
  go_quiet (fail)
  go_wp2
  go_ret
  exact ⟨v, rfl, hv, Cu.mk' (i := i) (h := h2) hi d0 d1 d2 d3 d4.out HBy.out hlt ((F1.out.drewN _).drewN _) hn⟩
set_option maxRecDepth 100000 in
set_option maxHeartbeats 3200000 in
theorem l1Below_s (hc : Cu w q A n c) {k : Nat} (hk : 0 < k) (hk2 : k ≤ 256) :
 Calls Tryz.prog 68 #[.pointer (some ⟨q, 0, none⟩), .int .i64 k] w fun e w' => ∃ v : Nat, e = .returned (.int .i64 v) ∧ v < k ∧ Dr w q A n c w' := by
 have K := Lib.hid (l1Byte_s hc)
 have i1 : ¬ ((k : Int) ≤ 0) := by omega
 have i2 : (0 : Int) < (k : Int) := by omega
 have i3 : (k : Int) ≤ 256 := by omega
 clear hc
 go_enter Tryz.func68, Tryz.ntmps68
 go_wp2_with fail
 refine K.out.mono ?_
 rintro e w1 ⟨v, rfl, hv, hd⟩
 have HD := Lib.hid hd
 clear hd K
 go_wp2
 go_ret
 exact ⟨v % k, by simp, Nat.mod_lt _ hk, HD.out⟩
set_option maxHeartbeats 1600000 in
theorem l1Once_s (hc : Cu w q A n c) {k : Nat} (hk : 0 < k) (hk2 : k ≤ 256) :
 Calls Tryz.prog 67 #[.pointer (some ⟨q, 0, none⟩), .int .i64 k] w fun e w' => ∃ b : Bool, e = .returned (.bool b) ∧ Dr w q A n c w' := by
 have K := Lib.hid (l1Below_s hc hk hk2)
 clear hc
 go_enter Tryz.func67, Tryz.ntmps67
 go_wp2_with fail
 refine K.out.mono ?_
 rintro e w1 ⟨v, rfl, hv, hd⟩
 have HD := Lib.hid hd
 clear hd K
 by_cases h0 : v = 0
 ·subst h0
  go_wp2
  go_ret
  exact ⟨true, rfl, HD.out⟩
 ·have i1 : ((v : Int) == 0) = false := by simp; omega
  go_wp2
  go_ret
  exact ⟨false, rfl, HD.out⟩
structure LC (w : World) (g m : Nat) : Prop where
 at_ : ∀ j, j < m → ∃ z : Int, w.cell? ⟨g, j, none⟩ = some (.int .i64 z)
theorem LC.keep {g m a b : Nat} (h : LC w g m) (hg : g < w.heap.size) (hf : Fr a b w w') (ho : g < a ∨ b ≤ g) : LC w' g m := ⟨fun j hj => (h.at_ j hj).imp fun _ hz => (hf.cell (p := ⟨g, j, none⟩) hg ho).trans hz⟩
set_option maxRecDepth 100000 in
set_option maxHeartbeats 1600000 in
theorem l1PickInt_s (hc : Cu w q A n c) {g m k : Nat} (hl : LC w g m) (hg : q < g) (hgw : g < w.heap.size) (hm : 0 < m) (hm2 : m ≤ 256) :
 Calls Tryz.prog 114 #[.pointer (some ⟨q, 0, none⟩), .slice (some ⟨g, 0, none⟩) m k] w fun e w' => ∃ z : Int, e = .returned (.int .i64 z) ∧ Dr w q A n c w' := by
 have K := Lib.hid (l1Below_s hc hm hm2)
 have HL := Lib.hid hl
 clear hc hl
 go_enter Tryz.func114, Tryz.ntmps114
 go_wp2_with fail
 refine K.out.mono ?_
 rintro e w1 ⟨v, rfl, hv, hd⟩
 have HD := Lib.hid hd
 obtain ⟨z, hz⟩ := (HL.out.keep hgw hd.fr (.inr (by omega))).at_ v hv
 have i1 : (v : Int) < (m : Int) := by omega
 clear hd K
 go_wp2
 go_ret
 exact ⟨z, rfl, HD.out⟩
structure LT (w : World) (g m : Nat) (P : ByteArray → Prop) : Prop where
 at_ : ∀ j, j < m → ∃ t : ByteArray, P t ∧ w.cell? ⟨g, j, none⟩ = some (.string t)
theorem LT.keep {g m a b : Nat} {P : ByteArray → Prop} (h : LT w g m P) (hg : g < w.heap.size) (hf : Fr a b w w') (ho : g < a ∨ b ≤ g) : LT w' g m P := ⟨fun j hj => (h.at_ j hj).imp fun _ hz => ⟨hz.1, (hf.cell (p := ⟨g, j, none⟩) hg ho).trans hz.2⟩⟩
set_option maxRecDepth 100000 in
set_option maxHeartbeats 1600000 in
theorem l1Pick_s (hc : Cu w q A n c) {g m k : Nat} {P : ByteArray → Prop} (hl : LT w g m P) (hg : q < g) (hgw : g < w.heap.size) (hm : 0 < m) (hm2 : m ≤ 256) :
 Calls Tryz.prog 149 #[.pointer (some ⟨q, 0, none⟩), .slice (some ⟨g, 0, none⟩) m k] w fun e w' => ∃ t : ByteArray, e = .returned (.string t) ∧ P t ∧ Dr w q A n c w' := by
 have K := Lib.hid (l1Below_s hc hm hm2)
 have HL := Lib.hid hl
 clear hc hl
 go_enter Tryz.func149, Tryz.ntmps149
 go_wp2_with fail
 refine K.out.mono ?_
 rintro e w1 ⟨v, rfl, hv, hd⟩
 have HD := Lib.hid hd
 obtain ⟨z, hp, hz⟩ := (HL.out.keep hgw hd.fr (.inr (by omega))).at_ v hv
 have HP := Lib.hid hp
 have i1 : (v : Int) < (m : Int) := by omega
 clear hd K hp
 go_wp2
 go_ret
 exact ⟨z, rfl, HP.out, HD.out⟩
end
end Go.Proofs.YticadlkcjhglnaaGreat

/-
-/
namespace Go.Proofs.YticadlkcjhglnaaGreat
open Go.RowKit
section
variable {A : Option Addr} {m c : Nat} {r : Nat → Nat}
set_option maxHeartbeats 1000000 in
theorem IsIndependent_sv {w : World} (h : GV w A m c r) {s : Nat} (hs : s < 2 ^ m) :
 Calls Tryz.prog 157 #[.agg #[.int .i64 m, .slice A m c], .int .i64 s] w fun e w' => e = .returned (.bool (indB r s)) ∧ Below w.heap.size w w' := by
 have hn7 := h.vg.n7
 have hp := two_pow_le hn7
 obtain ⟨b, o, rfl⟩ := h.addr
 have HV := Lib.hid h.vg
 obtain ⟨W, hW⟩ : ∃ W : World, W = (w.alloc (Obj.cells #[Value.int IntKind.i64 m, Value.slice (some ⟨b, o, none⟩) m c] 26)) := ⟨_, rfl⟩
 have HB : Hid (From w W) := by rw [hW]; exact From.alloc _ _
 have HG : Hid (GBox W w.heap.size (some ⟨b, o, none⟩) m c r) := by rw [hW]; exact h.box
 have HW := Lib.hid hW
 clear hW h
 have e0 := HG.out.c0
 have e1 := HG.out.c1
 go_enter Tryz.func157, Tryz.ntmps157
 go_wp2_with fail
 rw [← HW.out]
 refine (IsSet_sv HG.out.gv hs).mono ?_
 rintro e w1 ⟨rfl, hb1⟩
 clear HW
 clear e0 e1
 replace HB := Lib.hid (HB.out.keep hb1)
 replace HG := Lib.hid (HG.out.keep hb1)
 clear hb1
 have e0 := HG.out.c0
 have e1 := HG.out.c1
 go_wp2
 go_loopw [5] (fun i wr => ∃ k : Nat, k ≤ m ∧ i = .int .i64 k ∧ Hid (∀ v, v < k → s.testBit v = true → r v &&& s = 0) ∧ Hid (From w1 wr)) (fun i _ => m - (intOf i).toNat)
 case atStart => exact ⟨0, Nat.zero_le _, rfl, (fun v hv => absurd hv (by omega)), From.refl _⟩
 case round =>
  obtain ⟨k, hk, rfl, hall, HR⟩ := hrel
  clear e0 e1
  replace HB := Lib.hid (HB.out.keep HR.out.below)
  replace HG := Lib.hid (HG.out.keep HR.out.below)
  have e0 := HG.out.c0
  have e1 := HG.out.c1
  by_cases hlt : k < m
  ·have q0 := HG.out.gv.row hlt
   have hr := HV.out.lt128 hlt
   have E1 := and_one_i64 (s : Int) k (by omega) (by omega)
   rw [Int.toNat_natCast] at E1
   have E2 := i64_and_nat (r k) s (by omega) (by omega)
   have i1 : (k : Int) < (m : Int) := by omega
   cases ht : s.testBit k
   ·rw [ht] at E1
    have Ht := Lib.hid ht
    clear ht E2
    go_wp2
    go_roundw
    case rel =>
     refine ⟨k + 1, by omega, by go_num, fun v hv hb => ?_, HR⟩
     by_cases hvk : v < k
     ·exact hall.out v hvk hb
     ·obtain rfl : v = k := by omega
      rw [Ht.out] at hb; cases hb
    case measure => simp [intOf]; omega
   ·rw [ht] at E1
    by_cases hz : r k &&& s = 0
    ·have hne : (bits BinOp.and .i64 (r k : Int) (s : Int) != 0) = false := by rw [E2, hz]; rfl
     have Hz := Lib.hid hz
     clear ht hz E2
     go_wp2
     go_roundw
     case rel =>
      refine ⟨k + 1, by omega, by go_num, fun v hv hb => ?_, HR⟩
      by_cases hvk : v < k
      ·exact hall.out v hvk hb
      ·obtain rfl : v = k := by omega
       exact Hz.out
     case measure => simp [intOf]; omega
    ·have hne : (bits BinOp.and .i64 (r k : Int) (s : Int) != 0) = true := by rw [E2, bne_iff_ne]; omega
     have hno : Hid (indB r s = false) := indB_no (by omega) ht hz
     clear ht hz E2
     go_wp2
     go_ret
     exact ⟨ret_bool hno.out.symm, HB.out.below⟩
  ·have hyes : Hid (indB r s = true) := indB_yes fun v hv hb => hall.out v (by have := bit_lt hs hb; omega) hb
   have i1 : (m : Int) ≤ (k : Int) := by omega
   go_wp2
   go_ret
   exact ⟨ret_bool hyes.out.symm, HB.out.below⟩
end
end Go.Proofs.YticadlkcjhglnaaGreat

/-
-/
namespace Go.Proofs.YticadlkcjhglnaaGreat
open Go.RowKit
def stN : List Int → Nat
 | [] => 0
 | v :: l => 2 ^ v.toNat ||| stN l
theorem stN_bit {l : List Int} {u : Nat} (h : ∀ v ∈ l, 0 ≤ v) : (stN l).testBit u = true ↔ (u : Int) ∈ l := by
 induction l with
 | nil => simp [stN]
 | cons v l ih =>
   rw [stN, Nat.testBit_or, Nat.testBit_two_pow, Bool.or_eq_true, ih (fun v hv => h v (by simp [hv])), List.mem_cons, decide_eq_true_eq]
   have := h v (by simp)
   constructor
   ·rintro (h1 | h1)
    ·left; omega
    ·exact .inr h1
   ·rintro (h1 | h1)
    ·left; omega
    ·exact .inr h1
theorem stN_lt {l : List Int} {m : Nat} (h : ∀ v ∈ l, 0 ≤ v ∧ v < (m : Int)) : stN l < 2 ^ m := by
 induction l with
 | nil => exact Nat.two_pow_pos m
 | cons v l ih =>
   have := h v (by simp)
   exact Nat.or_lt_two_pow (Nat.pow_lt_pow_right (by omega) (by omega)) (ih (fun v hv => h v (by simp [hv])))
theorem stN_append (l k : List Int) : stN (l ++ k) = stN l ||| stN k := by
 induction l with
 | nil => simp [stN]
 | cons v l ih => rw [List.cons_append, stN, stN, ih, Nat.or_assoc]
theorem or_of_add {a u : Nat} (h : a.testBit u = false) : a + 2 ^ u = a ||| 2 ^ u := by
 rw [add_pow_bit h]
 apply Nat.eq_of_testBit_eq
 intro i
 rw [Nat.testBit_or, Nat.testBit_xor, Nat.testBit_two_pow]
 by_cases hi : u = i
 ·subst hi; simp [h]
 ·simp [hi]
theorem take_snocz {l : List Int} {k : Nat} (hk : k < l.length) : l.take (k + 1) = l.take k ++ [l.getD k 0] := by
 have e : l.getD k 0 = l[k] := by simp [List.getD, hk]
 rw [e, List.take_succ_eq_append_getElem hk]
theorem stN_take {l : List Int} {k : Nat} (hk : k < l.length) : stN (l.take (k + 1)) = stN (l.take k) ||| 2 ^ (l.getD k 0).toNat := by
 rw [take_snocz hk, stN_append]; simp [stN]
noncomputable def soN (l : List Int) : Int := if vzB 7 l = true then (stN l : Int) else 0
theorem soN_yes {l : List Int} (h : vzB 7 l = true) : soN l = (stN l : Int) := by unfold soN; rw [if_pos h]
theorem soN_no {l : List Int} (h : vzB 7 l = false) : soN l = 0 := by unfold soN; rw [h]; rfl
theorem VZ.step {m : Nat} {l : List Int} {k : Nat} (hk : k < l.length) (h : VZ m (l.take k)) (h0 : 0 ≤ l.getD k 0) (h1 : l.getD k 0 < m) (hn : l.getD k 0 ∉ l.take k) : VZ m (l.take (k + 1)) := by
 refine ⟨nodupz_take hk h.1 hn, fun v hv => ?_⟩
 rw [take_snocz hk, List.mem_append, List.mem_singleton] at hv
 rcases hv with hv | rfl
 ·exact h.2 v hv
 ·exact ⟨h0, h1⟩
set_option maxHeartbeats 1600000 in
theorem SetOf_s (Al : Option Addr) (n cl : Nat) (l : List Int) (w : World) (hl : LI w Al n cl l) (hn : n ≤ 1048576) :
 Calls Tryz.prog 188 #[.slice Al n cl] w fun e w' => e = .returned (.tuple #[.int .i64 (soN l), .bool (vzB 7 l)]) ∧ w = w' := by
 have HL := Lib.hid hl
 have HN := Lib.hid hl.len
 clear hl
 go_enter Tryz.func188, Tryz.ntmps188
 go_wp2
 go_loop [4, 5] (fun s i => ∃ k : Nat, k ≤ n ∧ i = .int .i64 k ∧ s = .int .i64 (stN (l.take k) : Nat) ∧ Hid (VZ 7 (l.take k))) (fun _ i => n - (intOf i).toNat)
 case atStart => exact ⟨0, Nat.zero_le _, rfl, rfl, List.nodup_nil, fun v hv => by cases hv⟩
 case round =>
  obtain ⟨k, hk, rfl, rfl, hall⟩ := hrel
  by_cases hlt : k < n
  ·have hkl : k < l.length := by rw [← HN.out]; exact hlt
   obtain ⟨b, o, rfl⟩ := HL.out.addr (by omega)
   have q0 := HL.out.at hlt
   have hmem := getD_mem hkl
   have hst := stN_take hkl
   have hs7 := stN_lt hall.out.2
   obtain ⟨u, hu⟩ : ∃ u : Int, u = l.getD k 0 := ⟨_, rfl⟩
   rw [← hu] at q0 hmem hst
   have i1 : (k : Int) < (n : Int) := by omega
   by_cases hr : 0 ≤ u ∧ u < 7
   ·obtain ⟨r1, r2⟩ := hr
    obtain ⟨v, rfl⟩ := Int.eq_ofNat_of_zero_le r1
    rw [Int.toNat_natCast] at hst
    have hv7 : 2 ^ v < 2 ^ 7 := Nat.pow_lt_pow_right (by omega) (by omega)
    have E1 := and_one_i64 (stN (l.take k) : Int) v (by omega) (by omega)
    rw [Int.toNat_natCast] at E1
    have p1 := pow_shl v (by omega)
    have hpc := pow_cast v
    cases ht : (stN (l.take k)).testBit v
    ·have hnin : (v : Int) ∉ l.take k := fun h => by rw [(stN_bit (fun v hv => (hall.out.2 v hv).1)).2 h] at ht; cases ht
     have hyes : Hid (VZ 7 (l.take (k + 1))) := hall.out.step hkl (by rw [← hu]; exact r1) (by rw [← hu]; exact r2) (by rw [← hu]; exact hnin)
     have E2 : wrap64 ((stN (l.take k) : Int) + 2 ^ v) = (stN (l.take (k + 1)) : Int) := by
      have e : (stN (l.take k) : Int) + 2 ^ v = (stN (l.take (k + 1)) : Int) := by rw [hst, ← or_of_add ht]; simp
      rw [Go.IntWalk.wrap64_in _ (by omega), e]
     rw [ht] at E1
     clear ht hnin hst hu hmem hpc
     go_wp2_with (first | (go_at_call 110; refine (l1In_yes _ _ _ _ r1 (by omega)).mono ?_; rintro e w' ⟨rfl, rfl⟩))
     go_round
     case rel => exact ⟨k + 1, by omega, by go_num, congrArg (Value.int .i64) E2, hyes⟩
     case measure => simp [intOf]; omega
    ·have hin : (v : Int) ∈ l.take k := (stN_bit (fun v hv => (hall.out.2 v hv).1)).1 ht
     have hno : Hid (vzB 7 l = false) := vzB_no fun h => not_nodupz hkl (by rw [← hu]; exact hin) h.1
     have hz : Hid (soN l = 0) := soN_no hno.out
     rw [ht] at E1
     clear ht hin hst hu hmem hpc
     go_wp2_with (first | (go_at_call 110; refine (l1In_yes _ _ _ _ r1 (by omega)).mono ?_; rintro e w' ⟨rfl, rfl⟩))
     go_ret2
     exact ⟨by rw [hno.out, hz.out]; rfl, rfl⟩
   ·have hno : Hid (vzB 7 l = false) := vzB_no fun h => hr (h.2 u hmem)
    have hz : Hid (soN l = 0) := soN_no hno.out
    have hr' : Hid (u < 0 ∨ 6 < u) := by show _ ∨ _; omega
    clear hr hst hu hmem
    go_wp2_with (first | (go_at_call 110; refine (l1In_no _ _ _ _ hr'.out).mono ?_; rintro e w' ⟨rfl, rfl⟩))
    go_ret2
    exact ⟨by rw [hno.out, hz.out]; rfl, rfl⟩
  ·have hyes : Hid (vzB 7 l = true) := by
    refine vzB_yes ?_
    have := hall.out
    rwa [List.take_of_length_le (by rw [← HN.out]; omega)] at this
   have he : Hid (l.take k = l) := List.take_of_length_le (by rw [← HN.out]; omega)
   have hz : Hid (soN l = (stN l : Int)) := soN_yes hyes.out
   have i1 : (n : Int) ≤ (k : Int) := by omega
   go_wp2
   go_ret2
   exact ⟨by rw [hyes.out, hz.out]; simp only [he.out]; rfl, rfl⟩
theorem IsSet_s (sz : Int) (A : Option Addr) (m c : Nat) (x : Nat → Int) (s : Nat) (w : World) (h : GA w A m c x) (ho : okB sz m x = true) :
 Calls Tryz.prog 94 #[.agg #[.int .i64 sz, .slice A m c], .int .i64 s] w fun e w' => e = .returned (.bool (decide (s < 2 ^ m))) ∧ Below w.heap.size w w' := by
 obtain ⟨_, es, vg0, _⟩ := okB_ok' ho
 subst es
 have hn7 := vg0.n7
 have p1 := pow_shl m hn7
 have hpc := pow_cast m
 have HV := Lib.hid (h.gv ho)
 clear ho vg0
 have h := HV.out
 obtain ⟨r, hr⟩ : ∃ r, r = rw_ x := ⟨_, rfl⟩
 rw [← hr] at h
 obtain ⟨W, hW⟩ : ∃ W : World, W = (w.alloc (Obj.cells #[Value.int IntKind.i64 m, Value.slice A m c] 26)) := ⟨_, rfl⟩
 have HB : Hid (From w W) := by rw [hW]; exact From.alloc _ _
 have HG : Hid (GBox W w.heap.size A m c r) := by rw [hW]; exact h.box
 have HW := Lib.hid hW
 clear hW h
 have e0 := HG.out.c0
 have e1 := HG.out.c1
 by_cases hlt : s < 2 ^ m
 ·rw [decide_eq_true hlt]
  have i1 : (s : Int) < 2 ^ m := by omega
  clear hlt
  go_enter Tryz.func94, Tryz.ntmps94
  go_wp2_with fail
  rw [← HW.out]
  refine (IsGraph_sv HG.out.gv).mono ?_
  rintro e w1 ⟨rfl, hb1⟩
  clear HW
  clear e0 e1
  replace HB := Lib.hid (HB.out.keep hb1)
  replace HG := Lib.hid (HG.out.keep hb1)
  clear hb1
  have e0 := HG.out.c0
  have e1 := HG.out.c1
  go_wp2
  go_ret
  exact ⟨rfl, HB.out.below⟩
 ·rw [decide_eq_false hlt]
  have i1 : (2 : Int) ^ m ≤ (s : Int) := by omega
  clear hlt
  go_enter Tryz.func94, Tryz.ntmps94
  go_wp2_with fail
  rw [← HW.out]
  refine (IsGraph_sv HG.out.gv).mono ?_
  rintro e w2 ⟨rfl, hb2⟩
  clear HW
  clear e0 e1
  replace HB := Lib.hid (HB.out.keep hb2)
  replace HG := Lib.hid (HG.out.keep hb2)
  clear hb2
  have e0 := HG.out.c0
  have e1 := HG.out.c1
  go_wp2
  go_ret
  exact ⟨ret_bool (decide_eq_false (by omega)), HB.out.below⟩
set_option maxHeartbeats 1000000 in
theorem l4Distinct_z (sz : Int) (A : Option Addr) (m c : Nat) (x : Nat → Int) (Al : Option Addr) (n cl : Nat) (l : List Int) (w : World) (h : GA w A m c x) (hl : LI w Al n cl l) (hm : m ≤ 1048576) (hn : n ≤ 1048576) :
 Calls Tryz.prog 167 #[.agg #[.int .i64 sz, .slice A m c], .slice Al n cl] w fun e w' => e = .returned (.bool (vrB sz m x l)) ∧ Below w.heap.size w w' := by
 obtain ⟨W, hW⟩ : ∃ W : World, W = (w.alloc (Obj.cells #[Value.int IntKind.i64 sz, Value.slice A m c] 26)) := ⟨_, rfl⟩
 have HB : Hid (From w W) := by rw [hW]; exact From.alloc _ _
 have HK := Lib.hid (h.keep HB.out.below)
 have HL := Lib.hid (hl.keep HB.out.below)
 have HC : Hid (GC W w.heap.size sz A m c) := by rw [hW]; exact GC.new _ _ _ _ _
 have HW := Lib.hid hW
 clear hW h hl
 go_enter Tryz.func167, Tryz.ntmps167
 go_wp2_with fail
 rw [← HW.out]
 clear HW
 refine (SetOf_s Al n cl l W HL.out hn).mono ?_
 rintro e w' ⟨rfl, rfl⟩
 have e0 := HC.out.c0
 have e1 := HC.out.c1
 go_wp2_with fail
 refine (IsGraph_sany sz A m c x W W.heap.size HK.out.rd (Nat.le_refl _) hm).mono ?_
 rintro e w1 ⟨rfl, hb1⟩
 clear e0 e1
 replace HB := Lib.hid (HB.out.keep hb1)
 replace HK := Lib.hid (HK.out.keep hb1)
 replace HC := Lib.hid (HC.out.keep hb1)
 clear hb1
 have e0 := HC.out.c0
 have e1 := HC.out.c1
 cases ho : okB sz m x
 ·have hno : Hid (vrB sz m x l = false) := vrB_bad ho
  clear ho
  go_wp2
  go_ret
  exact ⟨ret_bool hno.out.symm, HB.out.below⟩
 ·have hv : Hid (vrB sz m x l = vzB m l) := vrB_ok ho
  obtain ⟨_, es, vg0, _⟩ := okB_ok' ho
  subst es
  have hn7 := vg0.n7
  have Ho := Lib.hid ho
  clear ho vg0
  cases h7 : vzB 7 l
  ·have hno : Hid (vzB m l = false) := vzB_no fun h => by
    rw [vzB_yes ⟨h.1, fun v hv => by have := h.2 v hv; omega⟩] at h7; cases h7
   clear h7
   go_wp2
   go_ret
   exact ⟨ret_bool (by rw [hv.out, hno.out]), HB.out.below⟩
  ·have hz : Hid (soN l = (stN l : Int)) := soN_yes h7
   have hV := vzB_iff.1 h7
   have hlt := stN_lt hV.2
   have hd : Hid (decide (stN l < 2 ^ m) = vrB (m : Int) m x l) := by
    show _ = _
    rw [hv.out]
    by_cases h : VZ m l
    ·rw [vzB_yes h, decide_eq_true (stN_lt h.2)]
    ·rw [vzB_no h, decide_eq_false]
     intro hs
     refine h ⟨hV.1, fun v hv => ?_⟩
     have h0 := (hV.2 v hv).1
     obtain ⟨u, rfl⟩ := Int.eq_ofNat_of_zero_le h0
     have := bit_lt hs ((stN_bit (fun v hv => (hV.2 v hv).1)).2 hv)
     omega
   rw [hz.out]
   obtain ⟨S, hS⟩ : ∃ S, S = stN l := ⟨_, rfl⟩
   rw [← hS] at hd ⊢
   clear h7 hV hlt hz hS
   go_wp2_with fail
   refine (IsSet_s (m : Int) A m c x S _ HK.out Ho.out).mono ?_
   rintro e w2 ⟨rfl, hb2⟩
   clear e0 e1
   replace HB := Lib.hid (HB.out.keep hb2)
   replace HK := Lib.hid (HK.out.keep hb2)
   replace HC := Lib.hid (HC.out.keep hb2)
   clear hb2
   have e0 := HC.out.c0
   have e1 := HC.out.c1
   go_wp2
   go_ret
   exact ⟨ret_bool hd.out, HB.out.below⟩
end Go.Proofs.YticadlkcjhglnaaGreat
