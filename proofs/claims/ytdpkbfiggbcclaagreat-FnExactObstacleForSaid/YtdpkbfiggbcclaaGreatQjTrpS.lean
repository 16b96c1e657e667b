/-
  Contracts: the first asteroidal triple (the reference's).
-/
import Derived.Test.YtdpkbfiggbcclaaGreatQjTrpI
import Derived.Test.YtdpkbfiggbcclaaGreatQjTripS
namespace Go.Proofs.YtdpkbfiggbcclaaGreat
open Go.RowKit

set_option maxRecDepth 100000 in
set_option maxHeartbeats 6400000 in
theorem FindTriple_sv {A : Option Addr} {m c : Nat} {r : Nat → Nat} {w : World} (h : GV w A m c r) : Calls Tryz.prog 204 #[.agg #[.int .i64 m, .slice A m c]] w (lsQ w (triO r m)) := by
  have hm7 := h.vg.n7
  obtain ⟨W, hW⟩ : ∃ W : World, W = (w.alloc (Obj.cells #[Value.int IntKind.i64 m, Value.slice A m c] 28)) := ⟨_, rfl⟩
  have HB : Hid (From w W) := by rw [hW]; exact From.alloc _ _
  have HG : Hid (GBox W w.heap.size A m c r) := by rw [hW]; exact h.box
  have HW := Lib.hid hW
  clear hW h
  have e0 := HG.out.c0
  have e1 := HG.out.c1
  have HR0 : Hid (From W W) := From.refl W
  go_enter Tryz.func204, Tryz.ntmps204
  go_wp2_with fail
  rw [← HW.out]
  clear HW
  go_wp2
  go_loopw [4] (fun i wr => ∃ a : Nat, a ≤ m ∧ i = .int .i64 a ∧ Hid (∀ u, u < a → triA r m u = none) ∧ Hid (From W wr)) (fun i _ => m - (intOf i).toNat)
  case atStart => exact ⟨0, Nat.zero_le _, rfl, (fun u hu => absurd hu (by omega)), HR0⟩
  case round =>
    clear HR0 e0 e1
    obtain ⟨a, ha, rfl, hall, HR⟩ := hrel
    have HB1 := Lib.hid (HB.out.up HR.out)
    have HG1 := Lib.hid (HG.out.keep HR.out.below)
    have e0 := HG1.out.c0
    have e1 := HG1.out.c1
    by_cases ham : a < m
    · have i1 : (a : Int) < (m : Int) := by omega
      go_wp2_with fail
      refine (IsGraph_sv HG1.out.gv).mono ?_
      rintro e w1 ⟨rfl, hb1⟩
      clear e0 e1
      replace HB1 := Lib.hid (HB1.out.keep hb1)
      replace HG1 := Lib.hid (HG1.out.keep hb1)
      replace HR := Lib.hid (HR.out.keep hb1)
      clear hb1
      have e0 := HG1.out.c0
      have e1 := HG1.out.c1
      go_wp2
      clear e0 e1 HB1 HG1
      go_loopw [5] (fun i wr => ∃ b : Nat, a + 1 ≤ b ∧ b ≤ m ∧ i = .int .i64 b ∧ Hid (∀ u, u < b → triB r m a u = none) ∧ Hid (From W wr)) (fun i _ => m - (intOf i).toNat)
      case atStart => exact ⟨a + 1, Nat.le_refl _, by omega, by go_num, (fun u hu => triB_lo (by omega)), HR⟩
      case round =>
        clear HR
        obtain ⟨b, hab, hb, rfl, hallb, HR⟩ := hrel
        have HB1 := Lib.hid (HB.out.up HR.out)
        have HG1 := Lib.hid (HG.out.keep HR.out.below)
        have e0 := HG1.out.c0
        have e1 := HG1.out.c1
        by_cases hbm : b < m
        · have i2 : (b : Int) < (m : Int) := by omega
          go_wp2
          clear e0 e1 HB1 HG1
          go_loopw [6] (fun i wr => ∃ c : Nat, b + 1 ≤ c ∧ c ≤ m ∧ i = .int .i64 c ∧ Hid (∀ u, u < c → triC r m a b u = none) ∧ Hid (From W wr)) (fun i _ => m - (intOf i).toNat)
          case atStart => exact ⟨b + 1, Nat.le_refl _, by omega, by go_num, (fun u hu => triC_lo (by omega)), HR⟩
          case round =>
            clear HR
            obtain ⟨k, hbk, hk, rfl, hallc, HR⟩ := hrel
            have HB1 := Lib.hid (HB.out.up HR.out)
            have HG1 := Lib.hid (HG.out.keep HR.out.below)
            have e0 := HG1.out.c0
            have e1 := HG1.out.c1
            by_cases hkm : k < m
            · have i3 : (k : Int) < (m : Int) := by omega
              obtain ⟨t, ht⟩ : ∃ t, t = trB (m : Int) m (fun v => (r v : Int)) (a : Nat) (b : Nat) (k : Nat) := ⟨_, rfl⟩
              have KT : Hid (∀ {z : World}, GV z A m c r → Calls Tryz.prog 315 #[.agg #[.int .i64 m, .slice A m c], .int .i64 a, .int .i64 b, .int .i64 k] z fun e w' => e = .returned (.bool t) ∧ Below z.heap.size z w') := by rw [ht]; exact fun h => IsTriple_s m A m c _ a b k _ h.ga (by omega)
              cases t
              · have Hn : Hid (triC r m a b k = none) := triC_no ht.symm
                clear ht
                go_wp2_with fail
                refine (KT.out HG1.out.gv).mono ?_
                rintro e w2 ⟨rfl, hb2⟩
                clear e0 e1
                replace HB1 := Lib.hid (HB1.out.keep hb2)
                replace HG1 := Lib.hid (HG1.out.keep hb2)
                replace HR := Lib.hid (HR.out.keep hb2)
                clear hb2
                have e0 := HG1.out.c0
                have e1 := HG1.out.c1
                go_wp2
                go_roundw
                case rel =>
                  refine ⟨k + 1, by omega, by omega, by go_num, fun u hu => ?_, HR⟩
                  by_cases huv : u < k
                  · exact hallc.out u huv
                  · obtain rfl : u = k := by omega
                    exact Hn.out
                case measure => (simp [intOf] <;> omega)
              · have Hs : Hid (triO r m = some [a, b, k]) := range_some ham (range_some hbm (range_some hkm (triC_yes (by omega) (by omega) ht.symm) hallc.out) hallb.out) hall.out
                clear ht
                go_wp2_with fail
                refine (KT.out HG1.out.gv).mono ?_
                rintro e w3 ⟨rfl, hb3⟩
                clear e0 e1
                replace HB1 := Lib.hid (HB1.out.keep hb3)
                replace HG1 := Lib.hid (HG1.out.keep hb3)
                replace HR := Lib.hid (HR.out.keep hb3)
                clear hb3
                have e0 := HG1.out.c0
                have e1 := HG1.out.c1
                have HON := Lib.hid (ON.three w3 a b k)
                have HBz := Lib.hid (HB1.out.alloc_ (Obj.cells #[.int .i64 (a : Int), .int .i64 (b : Int), .int .i64 (k : Int)] 3))
                go_wp2
                go_ret2
                rw [Hs.out]
                exact lsQ.yes (HON.out.mono HB1.out.below.size) HBz.out.below
            · have Hn : Hid (triB r m a b = none) := range_none fun u hu => hallc.out u (by omega)
              have i3 : (m : Int) ≤ (k : Int) := by omega
              go_wp2
              go_roundw
              case rel =>
                refine ⟨b + 1, by omega, by omega, by go_num, fun u hu => ?_, HR⟩
                by_cases huv : u < b
                · exact hallb.out u huv
                · obtain rfl : u = b := by omega
                  exact Hn.out
              case measure => (simp [intOf] <;> omega)
        · have Hn : Hid (triA r m a = none) := range_none fun u hu => hallb.out u (by omega)
          have i3 : (m : Int) ≤ (b : Int) := by omega
          go_wp2
          go_roundw
          case rel =>
            refine ⟨a + 1, by omega, by go_num, fun u hu => ?_, HR⟩
            by_cases huv : u < a
            · exact hall.out u huv
            · obtain rfl : u = a := by omega
              exact Hn.out
          case measure => (simp [intOf] <;> omega)
    · have Hn : Hid (triO r m = none) := range_none fun u hu => hall.out u (by omega)
      have i1 : (m : Int) ≤ (a : Int) := by omega
      have HON : Hid (ON wr.heap.size (wr.alloc (Obj.cells #[] 3)) (some ⟨wr.heap.size, 0, none⟩) 0 []) := ON.nil wr
      have HBz := Lib.hid (HB1.out.alloc_ (Obj.cells #[] 3))
      go_wp2
      go_ret2
      rw [Hn.out]
      exact ⟨_, _, rfl, HON.out.mono HB1.out.below.size, HBz.out.below⟩
set_option maxRecDepth 100000 in
set_option maxHeartbeats 3200000 in
theorem FindTriple_sno (sz : Int) (A : Option Addr) (m c : Nat) (x : Nat → Int) (w : World) (h : GA w A m c x) (hm : m ≤ 1048576) (hok : okB sz m x = false) :
    Calls Tryz.prog 204 #[.agg #[.int .i64 sz, .slice A m c]] w (lsQ w none) := by
  obtain ⟨W, hW⟩ : ∃ W : World, W = (w.alloc (Obj.cells #[Value.int IntKind.i64 sz, Value.slice A m c] 28)) := ⟨_, rfl⟩
  have HB : Hid (From w W) := by rw [hW]; exact From.alloc _ _
  have HK := Lib.hid (h.keep HB.out.below)
  have HC : Hid (GC W w.heap.size sz A m c) := by rw [hW]; exact GC.new _ _ _ _ _
  have HW := Lib.hid hW
  have Ho := Lib.hid hok
  have HR0 : Hid (From W W) := From.refl W
  clear hW h hok
  go_enter Tryz.func204, Tryz.ntmps204
  have e0 := HC.out.c0
  have e1 := HC.out.c1
  go_wp2_with fail
  rw [← HW.out]
  clear HW
  go_wp2
  go_loopw [4] (fun i wr => i = .int .i64 0 ∧ Hid (From W wr)) (fun _ _ => 0)
  case atStart => exact ⟨rfl, HR0⟩
  case round =>
    clear HR0 e0 e1
    obtain ⟨rfl, HR⟩ := hrel
    have HB1 := Lib.hid (HB.out.up HR.out)
    have HK1 := Lib.hid (HK.out.keep HR.out.below)
    have HC1 := Lib.hid (HC.out.keep HR.out.below)
    have e0 := HC1.out.c0
    have e1 := HC1.out.c1
    by_cases hnm : 0 < sz
    · skip
      go_wp2_with fail
      refine (IsGraph_sany sz A m c x wr wr.heap.size HK1.out.rd (Nat.le_refl _) hm).mono ?_
      rintro e w5 ⟨rfl, hb1⟩
      rw [Ho.out]
      clear e0 e1
      replace HB1 := Lib.hid (HB1.out.keep hb1)
      replace HC1 := Lib.hid (HC1.out.keep hb1)
      clear hb1
      have e0 := HC1.out.c0
      have e1 := HC1.out.c1
      have HON : Hid (ON w5.heap.size (w5.alloc (Obj.cells #[] 3)) (some ⟨w5.heap.size, 0, none⟩) 0 []) := ON.nil w5
      have HBz := Lib.hid (HB1.out.alloc_ (Obj.cells #[] 3))
      go_wp2
      go_ret2
      exact ⟨_, _, rfl, HON.out.mono HB1.out.below.size, HBz.out.below⟩
    · have i1 : sz ≤ 0 := by omega
      have HON : Hid (ON wr.heap.size (wr.alloc (Obj.cells #[] 3)) (some ⟨wr.heap.size, 0, none⟩) 0 []) := ON.nil wr
      have HBz := Lib.hid (HB1.out.alloc_ (Obj.cells #[] 3))
      go_wp2
      go_ret2
      exact ⟨_, _, rfl, HON.out.mono HB1.out.below.size, HBz.out.below⟩
end Go.Proofs.YtdpkbfiggbcclaaGreat
