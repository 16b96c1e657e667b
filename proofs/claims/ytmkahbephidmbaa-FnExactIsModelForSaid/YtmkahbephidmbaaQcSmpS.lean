/-
  Contract: is each vertex of an order simple within what is left? The reference's.
-/
import Derived.Test.YtmkahbephidmbaaQcOrdP
import Derived.Test.YtmkahbephidmbaaQcSimS
namespace Go.Proofs.Ytmkahbephidmbaa
open Go.RowKit

set_option maxRecDepth 100000 in
set_option maxHeartbeats 3200000 in
theorem l33Simple_v {A : Option Addr} {m c : Nat} {r : Nat → Nat} {Al : Option Addr} {n cl : Nat} {l : List Int} {w : World} (h : GV w A m c r) (hl : LI w Al n cl l) (hV : VZ m l) (hlen : l.length = m) :
    Calls Try.prog 20 #[.agg #[.int .i64 m, .slice A m c], .slice Al n cl] w fun e w' => e = .returned (.bool ((List.range l.length).all fun j => simB r (l.getD j 0).toNat (lfN l j))) ∧ Below w.heap.size w w' := by
  have hn7 := h.vg.n7
  have h128 := two_pow_le hn7
  have hpos := Nat.two_pow_pos m
  have HL := Lib.hid hl
  have HN := Lib.hid hl.len
  have HV := Lib.hid hV
  obtain ⟨F, hF⟩ : ∃ F, F = 2 ^ m := ⟨_, rfl⟩
  have p0 : IntKind.i64.wrap ((2 : Int) ^ m) = (F : Int) := by rw [pow_shl m hn7, hF]; simp
  have s0 : wrap64 ((F : Int) - 1) = (lfN l 0 : Nat) := by rw [lf_zero hV hlen, ← hF, Go.IntWalk.wrap64_in _ (by omega)]; omega
  have hn8 : n ≤ 7 := by rw [hl.len, hlen]; exact hn7
  clear hl hV hlen hF hpos
  obtain ⟨W, hW⟩ : ∃ W : World, W = (w.alloc (Obj.cells #[Value.int IntKind.i64 m, Value.slice A m c] 27)) := ⟨_, rfl⟩
  have HB : Hid (From w W) := by rw [hW]; exact From.alloc _ _
  have HG : Hid (GBox W w.heap.size A m c r) := by rw [hW]; exact h.box
  have HW := Lib.hid hW
  clear hW h
  have e0 := HG.out.c0
  have e1 := HG.out.c1
  replace HL := Lib.hid (HL.out.keep HB.out.below)
  have HR0 : Hid (From W W) := From.refl W
  have hlt0 := HG.out.lt
  go_enter Try.func20, Try.ntmps20
  go_wp2_with fail
  rw [← HW.out]
  clear HW
  go_wp2
  clear e0 e1
  go_loopw [5, 6] (fun sv iv wr => ∃ k : Nat, k ≤ n ∧ sv = .int .i64 (lfN l k : Nat) ∧ iv = .int .i64 k ∧ Hid (∀ j, j < k → simB r (l.getD j 0).toNat (lfN l j) = true) ∧ Hid (From W wr)) (fun _ iv _ => n - (intOf iv).toNat)
  case atStart => exact ⟨0, Nat.zero_le _, by first | rfl | exact congrArg (Value.int .i64) s0 | (rw [s0]), rfl, (fun j hj => absurd hj (by omega)), HR0⟩
  case round =>
    clear HR0 p0 s0
    obtain ⟨k, hk, rfl, rfl, H1, HR⟩ := hrel
    have HBr := Lib.hid (HB.out.up HR.out)
    by_cases hkn : k < n
    · have i1 : (k : Int) < (n : Int) := by omega
      have HLr := Lib.hid (HL.out.keep HR.out.below)
      have HGr := Lib.hid (HG.out.keep HR.out.below)
      have e0 := HGr.out.c0
      have e1 := HGr.out.c1
      obtain ⟨bl, ol, rfl⟩ := HLr.out.addr (by omega)
      have p0 := HLr.out.at hkn
      have hkl : k < l.length := by rw [← HN.out]; exact hkn
      obtain ⟨d, hd, hdm, hbit, hsub, _⟩ := lf_at HV.out hkl
      rw [hd] at p0
      have hs := lf_lt (k := k) HV.out
      have Hd := Lib.hid hd
      obtain ⟨s, hs'⟩ : ∃ s, s = lfN l k := ⟨_, rfl⟩
      rw [← hs'] at hs hsub ⊢
      have Hs := Lib.hid hs'
      have KF : Hid (∀ z : World, Below wr.heap.size wr z → Calls Try.prog 43 #[.agg #[.int .i64 m, .slice A m c], .int .i64 (d : Int), .int .i64 (s : Int)] z fun e w' => e = .returned (.bool (simB r d s)) ∧ Below z.heap.size z w') := fun z hz => IsSimple_sv (HGr.out.gv.keep hz) hs hdm
      have h2d := two_pow_le (n := d) (by omega)
      obtain ⟨z, hz⟩ : ∃ z, z = 2 ^ d := ⟨_, rfl⟩
      have p1 : IntKind.i64.wrap ((2 : Int) ^ d) = (z : Int) := by rw [pow_shl d (by omega), hz]; simp
      rw [← hz] at hsub h2d
      obtain ⟨s2, hs2⟩ : ∃ s2, s2 = lfN l (k + 1) := ⟨_, rfl⟩
      rw [← hs2] at hsub
      have Hs2 := Lib.hid hs2
      have s3 : wrap64 ((s : Int) - (z : Int)) = (s2 : Int) := by rw [Go.IntWalk.wrap64_in _ (by omega)]; omega
      clear hd hs' hz hsub hs2 h2d hbit
      cases hp : simB r d s
      · rw [hp] at KF
        have Hn : Hid (((List.range l.length).all fun j => simB r (l.getD j 0).toNat (lfN l j)) = false) := all_snoc (p := fun j => simB r (l.getD j 0).toNat (lfN l j)) hkl (by show simB r (l.getD k 0).toNat (lfN l k) = _; rw [Hd.out, Int.toNat_natCast, ← Hs.out]; exact hp)
        clear hp
        go_wp2
        have HSC : Hid (∀ z : World, Below wr.heap.size wr z → (Below wr.heap.size wr z ∧ z.cell? ⟨w.heap.size, 0, none⟩ = some (.int .i64 m) ∧ z.cell? ⟨w.heap.size, 1, none⟩ = some (.slice A m c) ∧ z.cell? ⟨bl, ol + k, none⟩ = some (.int .i64 (d : Int)))) := fun z hz => ⟨hz, up_ hz e0, up_ hz e1, up_ hz p0⟩
        have HZ0 : Hid (Below wr.heap.size wr wr.drew) := (Below.refl _ _).drew
        have HS1 := Lib.hid (HSC.out _ HZ0.out)
        have KR1 : Hid (∀ z : World, Below wr.heap.size wr z → _) := fun z hz => KF.out _ hz
        go_region_held3 (fun z => Below wr.heap.size wr z ∧ z.cell? ⟨w.heap.size, 0, none⟩ = some (.int .i64 m) ∧ z.cell? ⟨w.heap.size, 1, none⟩ = some (.slice A m c) ∧ z.cell? ⟨bl, ol + k, none⟩ = some (.int .i64 (d : Int)))
          (first | exact HS1.out | assumption | exact HSC.out _ hz1 | fail)
          (first | (go_at_call 43; ((with_reducible refine (KR1.out _ HZ0.out).mono ?_); rintro e w1 ⟨rfl, hb1⟩; have hz1 := bl_trans HZ0.out hb1)))
        replace HR := Lib.hid (HR.out.keep hz1)
        replace HBr := Lib.hid (HBr.out.keep hz1)
        replace HLr := Lib.hid (HLr.out.keep hz1)
        clear hb1 hz1 HSC HZ0 HS1 KR1
        go_wp2
        go_ret
        exact ⟨ret_bool Hn.out.symm, HBr.out.below⟩
      · rw [hp] at KF
        have Hp : Hid (simB r (l.getD k 0).toNat (lfN l k) = true) := by show _ = _; rw [Hd.out, Int.toNat_natCast, ← Hs.out]; exact hp
        clear hp
        go_wp2
        have HSC : Hid (∀ z : World, Below wr.heap.size wr z → (Below wr.heap.size wr z ∧ z.cell? ⟨w.heap.size, 0, none⟩ = some (.int .i64 m) ∧ z.cell? ⟨w.heap.size, 1, none⟩ = some (.slice A m c) ∧ z.cell? ⟨bl, ol + k, none⟩ = some (.int .i64 (d : Int)))) := fun z hz => ⟨hz, up_ hz e0, up_ hz e1, up_ hz p0⟩
        have HZ0 : Hid (Below wr.heap.size wr wr.drew) := (Below.refl _ _).drew
        have HS1 := Lib.hid (HSC.out _ HZ0.out)
        have KR1 : Hid (∀ z : World, Below wr.heap.size wr z → _) := fun z hz => KF.out _ hz
        go_region_held3 (fun z => Below wr.heap.size wr z ∧ z.cell? ⟨w.heap.size, 0, none⟩ = some (.int .i64 m) ∧ z.cell? ⟨w.heap.size, 1, none⟩ = some (.slice A m c) ∧ z.cell? ⟨bl, ol + k, none⟩ = some (.int .i64 (d : Int)))
          (first | exact HS1.out | assumption | exact HSC.out _ hz2 | fail)
          (first | (go_at_call 43; ((with_reducible refine (KR1.out _ HZ0.out).mono ?_); rintro e w2 ⟨rfl, hb2⟩; have hz2 := bl_trans HZ0.out hb2)))
        replace HR := Lib.hid (HR.out.keep hz2)
        replace HBr := Lib.hid (HBr.out.keep hz2)
        replace HLr := Lib.hid (HLr.out.keep hz2)
        clear hb2 hz2 HSC HZ0 HS1 KR1
        clear p0
        have p0 := HLr.out.at hkn
        rw [Hd.out] at p0
        go_wp2
        go_roundw
        case rel =>
          refine ⟨k + 1, by omega, by rw [s3, Hs2.out], by go_num, fun j hj => ?_, HR⟩
          by_cases e : j < k
          · exact H1.out j e
          · obtain rfl : j = k := by omega
            exact Hp.out
        case measure => (simp [intOf] <;> omega)
    · obtain rfl : n = k := by omega
      have Hn : Hid (((List.range l.length).all fun j => simB r (l.getD j 0).toNat (lfN l j)) = true) := all_yes (p := fun j => simB r (l.getD j 0).toNat (lfN l j)) fun j hj => H1.out j (by rw [HN.out]; exact hj)
      go_wp2
      go_ret
      exact ⟨ret_bool Hn.out.symm, HBr.out.below⟩
end Go.Proofs.Ytmkahbephidmbaa
