/-
  Several texts in one.
-/
import Derived.Test.YtfabbohijhjpcaaGreatDoorRcPmoS
import Derived.Test.YtfabbohijhjpcaaGreatDoorRcLexI
import Derived.RegionTactic
import Derived.BigRegion
/-
-/
namespace Go.Proofs.YtfabbohijhjpcaaGreatDoor
open Go.RowKit
section
variable {A : Option Addr} {m c : Nat} {t : Nat → Nat} {w : World}
set_option maxRecDepth 100000 in
set_option maxHeartbeats 6400000 in
theorem orderOf_v (hm1 : 1 ≤ m) (hm7 : m ≤ 7) (h : Rd w w.heap.size A m c (fun j => ((t j : Nat) : Int))) (hl : ∀ v, v < m → t v < 128) (hj : ∀ v, v < m → (t v).testBit v = false) :
 Calls Tryz.prog 224 #[.slice A m c] w fun e w' => ∃ A' c', e = .returned (.slice A' m c') ∧ ON w.heap.size w' A' c' (osL t m) ∧ Below w.heap.size w w' := by
 have HR : Hid (∀ z : World, From w z → Rd z z.heap.size A m c (fun j => ((t j : Nat) : Int))) := fun z hz => h.keep hz.below hz.below.size
 have HL := Lib.hid hl
 have HJ := Lib.hid hj
 obtain ⟨W4, hmk, hO4, hb4⟩ := made_own w m (by omega)
 have HT : Hid (RW W4 w.heap.size m m (osK t m 0)) := ⟨hO4.congr (fun j _ => rfl), by omega⟩
 have HB : Hid (From w W4) := ⟨hb4⟩
 obtain ⟨go, hgo⟩ : ∃ go, go = w.heap.size := ⟨_, rfl⟩
 obtain ⟨b1, o1, rfl⟩ : ∃ b o, A = some ⟨b, o, none⟩ := by
  obtain ⟨b, o, e, _⟩ := h.2 (by omega)
  exact ⟨b, o, e⟩
 have hbw : b1 < w.heap.size := by
  obtain ⟨b, o, e, hb, _⟩ := h.2 (by omega)
  cases e
  exact hb
 obtain ⟨M1, hM1⟩ : ∃ M1, M1 = m - 1 := ⟨_, rfl⟩
 have s1 : wrap64 ((m : Int) - 1) = (M1 : Int) := by rw [Go.IntWalk.wrap64_in _ (by omega)]; omega
 have s2 : IntKind.i64.wrap ((m : Int) - 1) = (M1 : Int) := by rw [Go.IntWalk.i64_in _ (by omega)]; omega
 have HM1 := Lib.hid hM1
 have Hgo := Lib.hid hgo
 clear h hl hj hO4 hb4 hM1 hgo
 go_enter Tryz.func224, Tryz.ntmps224
 go_wp2
 rw [← Hgo.out] at HT ⊢
 clear hmk
 go_loopw [13] (fun i wr => ∃ v : Nat, v ≤ m ∧ i = .int .i64 v ∧ Hid (RW wr go m m (osK t m v)) ∧ Hid (From w wr)) (fun i _ => m - (intOf i).toNat)
 case atStart => exact ⟨0, Nat.zero_le _, rfl, HT, HB⟩
 case round =>
  clear HT HB
  obtain ⟨v, hv, rfl, HT, HB⟩ := hrel
  by_cases hvm : v < m
  rotate_left
  ·obtain rfl : v = m := by omega
   have i1 : (v : Int) ≤ (v : Int) := Int.le_refl _
   go_wp2
   go_ret
   exact ⟨_, _, rfl, ⟨osL_own (HT.out.own.mono (by rw [Hgo.out]; exact Nat.le_refl _) HT.out.lt)⟩, HB.out.below⟩
  have i1 : (v : Int) < (m : Int) := by omega
  go_wp2
  go_loopw [5, 18] (fun n i wz => ∃ u : Nat, u ≤ m ∧ i = .int .i64 u ∧ n = .int .i64 (bfP t v u : Nat) ∧ Hid (RW wz go m m (osK t m v)) ∧ Hid (From w wz)) (fun _ i _ => m - (intOf i).toNat)
  case atStart => exact ⟨0, Nat.zero_le _, rfl, rfl, HT, HB⟩
  case round =>
   clear HT HB
   obtain ⟨u, hu, rfl, rfl, HT, HB⟩ := hrel
   by_cases hum : u < m
   rotate_left
   ·obtain rfl : u = m := by omega
    have i2 : (u : Int) ≤ (u : Int) := Int.le_refl _
    have hlt := bfP_lt (HJ.out v hvm) hvm
    obtain ⟨n, hn⟩ : ∃ n, n = bfP t v u := ⟨_, rfl⟩
    rw [← hn] at hlt ⊢
    have HSt : Hid (∀ i, osK t u (v + 1) i = if i = n then v else osK t u v i) := fun i => by rw [hn]; rfl
    have q0 := HT.out.cell hlt
    have f0 := HT.out.froz n
    have i3 : (n : Int) < (u : Int) := by omega
    have i4 : (n : Int) ≤ (M1 : Int) := by have := HM1.out; omega
    have i5 : min (n : Int) (M1 : Int) = (n : Int) := by omega
    obtain ⟨y, hy⟩ : ∃ y, y = osK t u v n := ⟨_, rfl⟩
    rw [← hy] at q0
    clear hn hy
    go_wp2
    have F : Fr go (go + 1) wr (wr.setCell ⟨go, n, none⟩ (.int .i64 (v : Nat))) := fr_set wr
    have HB5 : Hid (From w (wr.setCell ⟨go, n, none⟩ (.int .i64 (v : Nat)))) := ⟨HB.out.below.trans (F.below (by rw [Hgo.out]; exact Nat.le_refl _) HB.out.below.size)⟩
    go_roundw
    case rel => exact ⟨v + 1, by omega, by go_num, HT.out.set HSt.out, HB5⟩
    case measure => (simp [intOf] <;> omega)
   have i2 : (u : Int) < (m : Int) := by omega
   obtain ⟨_, _, e1, _, hc1⟩ := (HR.out wr HB.out).2 (by omega)
   cases e1
   have p0 := hc1 u hum
   dsimp only at p0
   have x0 := HL.out u hum
   have hbn := bfP_le (t := t) (v := v) (k := u)
   obtain ⟨y, hy⟩ : ∃ y, y = t u := ⟨_, rfl⟩
   obtain ⟨b, hb⟩ : ∃ b, b = y.testBit v := ⟨_, rfl⟩
   rw [← hy] at p0 x0
   have KH : Hid (∀ z : World, Calls Tryz.prog 44 #[.int .i64 (y : Int), .int .i64 (v : Int)] z fun e w' => e = .returned (.bool b) ∧ Below z.heap.size z w') := fun z => by
    rw [hb]
    exact (has_v z x0 (by omega)).mono fun e w' ⟨h1, h2⟩ => ⟨h1, by rw [← h2]; exact Below.refl _ _⟩
   have HBt : Hid ((t u).testBit v = b) := by rw [hb, hy]; rfl
   clear hc1 hy hb
   cases b
   ·have Hb : Hid (bfP t v (u + 1) = bfP t v u) := bfP_no HBt.out
    go_wp2_with fail
    refine (KH.out _).mono ?_
    rintro e w2 ⟨rfl, hb2⟩
    replace HT := Lib.hid (HT.out.keep hb2)
    replace HB := Lib.hid (HB.out.keep hb2)
    clear hb2 KH p0
    go_wp2
    go_roundw
    case rel => exact ⟨u + 1, by omega, by go_num, by rw [Hb.out], HT, HB⟩
    case measure => (simp [intOf] <;> omega)
   ·have Hb : Hid (bfP t v (u + 1) = bfP t v u + 1) := bfP_yes HBt.out
    go_wp2_with fail
    refine (KH.out _).mono ?_
    rintro e w2 ⟨rfl, hb2⟩
    replace HT := Lib.hid (HT.out.keep hb2)
    replace HB := Lib.hid (HB.out.keep hb2)
    clear hb2 KH p0
    go_wp2
    go_roundw
    case rel => exact ⟨u + 1, by omega, by go_num, by rw [Hb.out]; go_num, HT, HB⟩
    case measure => (simp [intOf] <;> omega)
end
end Go.Proofs.YtfabbohijhjpcaaGreatDoor

/-
-/
namespace Go.Proofs.YtfabbohijhjpcaaGreatDoor
open Go.RowKit
set_option maxRecDepth 100000 in
set_option maxHeartbeats 1000000 in
theorem clone_z (A : Option Addr) (c : Nat) (l : List Nat) (w : World) (h : LN w A c l) (h0 : l ≠ []) (hlen : l.length ≤ 1048576) :
 Calls Tryz.prog 222 #[.slice A l.length c] w fun e w' => ∃ g c', e = .returned (.slice (some ⟨g, 0, none⟩) l.length c') ∧ ON w.heap.size w' (some ⟨g, 0, none⟩) c' l ∧ Below w.heap.size w w' := by
 have hpos : 0 < l.length := List.length_pos_iff.2 h0
 obtain ⟨b, o, rfl⟩ := h.addr hpos
 have HO : Hid (Own (w.alloc (Obj.cells #[] 3)) w.heap.size (w.heap.size + 1) 3 1 (some ⟨w.heap.size, 0, none⟩) 0 0 (ni [])) :=
  .inr ⟨w.heap.size, #[], rfl, Nat.le_refl _, Nat.lt_succ_self _, heap_alloc_new w _, Nat.le_refl _, by unfold maxLen; omega, rfl, fun j hj => absurd hj (by omega)⟩
 have HR : Hid (Rd (w.alloc (Obj.cells #[] 3)) w.heap.size (some ⟨b, o, none⟩) l.length c (fun j => ((l.getD j 0 : Nat) : Int))) := h.rd.keep ((Below.refl _ _).alloc (Nat.le_refl _) _) (Nat.le_refl _)
 have H0 := Lib.hid hpos
 clear h h0 hpos
 have he : ∀ w : World, (binOp .eql 24 (.slice (some ⟨b, o, none⟩) l.length c) (.slice none 0 0)).run Tryz.prog w = .ok (.bool false) w := fun _ => rfl
 go_enter Tryz.func222, Tryz.ntmps222
 go_wp2_with (first | (at_builtin; (refine wpList_appendI _ rfl _ _ rfl rfl HO.out rfl HR.out (by simp) (by omega) (by omega) ?_; intro A' c' w1 hO hb)))
 rw [Nat.zero_add] at hO
 have hO2 := hO.congr (y := ni l) (fun j hj => by unfold thenI ni; simp)
 obtain ⟨g, rfl, _⟩ := hO2.at_ H0.out
 have HO2 : Hid (ON w.heap.size w1 (some ⟨g, 0, none⟩) c' l) := ⟨hO2⟩
 have HB : Hid (Below w.heap.size w w1) := ((Below.refl _ _).alloc (Nat.le_refl _) _).trans hb
 clear hO hO2 hb
 go_wp2
 go_ret
 exact ⟨g, c', rfl, HO2.out, HB.out⟩
end Go.Proofs.YtfabbohijhjpcaaGreatDoor
