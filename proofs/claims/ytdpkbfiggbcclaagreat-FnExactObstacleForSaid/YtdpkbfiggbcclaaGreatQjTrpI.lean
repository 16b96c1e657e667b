/-
  Contracts: the first asteroidal triple (the program's).
-/
import Derived.Test.YtdpkbfiggbcclaaGreatQjTripK
import Derived.Test.YtdpkbfiggbcclaaGreatQjPthI
namespace Go.Proofs.YtdpkbfiggbcclaaGreat
open Go.RowKit

noncomputable def triC (r : Nat → Nat) (m a b c : Nat) : Option (List Nat) := if a < b ∧ b < c ∧ trB (m : Int) m (fun v => (r v : Int)) (a : Nat) (b : Nat) (c : Nat) = true then some [a, b, c] else none
noncomputable def triB (r : Nat → Nat) (m a b : Nat) : Option (List Nat) := (List.range m).findSome? (triC r m a b)
noncomputable def triA (r : Nat → Nat) (m a : Nat) : Option (List Nat) := (List.range m).findSome? (triB r m a)
noncomputable def triO (r : Nat → Nat) (m : Nat) : Option (List Nat) := (List.range m).findSome? (triA r m)
section
variable {r : Nat → Nat} {m a b c : Nat}
theorem triC_lo (h : c ≤ b) : triC r m a b c = none := by unfold triC; rw [if_neg (fun hh => by omega)]
theorem triC_no (h : trB (m : Int) m (fun v => (r v : Int)) (a : Nat) (b : Nat) (c : Nat) = false) : triC r m a b c = none := by unfold triC; rw [if_neg (fun hh => by rw [h] at hh; exact absurd hh.2.2 (by simp))]
theorem triC_yes (h1 : a < b) (h2 : b < c) (h : trB (m : Int) m (fun v => (r v : Int)) (a : Nat) (b : Nat) (c : Nat) = true) : triC r m a b c = some [a, b, c] := by unfold triC; rw [if_pos ⟨h1, h2, h⟩]
theorem triB_lo (h : b ≤ a) : triB r m a b = none := range_none fun u _ => by unfold triC; rw [if_neg (fun hh => by omega)]
end
theorem ON.three (w : World) (a b c : Nat) : ON w.heap.size (w.alloc (Obj.cells #[.int .i64 (a : Int), .int .i64 (b : Int), .int .i64 (c : Int)] 3)) (some ⟨w.heap.size, 0, none⟩) 3 [a, b, c] :=
  ⟨.inr ⟨w.heap.size, _, rfl, Nat.le_refl _, by simp, heap_alloc_new w _, Nat.le_refl _, by unfold maxLen; omega, rfl, fun j hj => by
    have hj3 : j < 3 := hj
    have hc : j = 0 ∨ j = 1 ∨ j = 2 := by omega
    rcases hc with rfl | rfl | rfl <;> rfl⟩⟩
set_option maxRecDepth 100000 in
set_option maxHeartbeats 6400000 in
theorem FindTriple_v {A : Option Addr} {m c : Nat} {r : Nat → Nat} {w : World} (h : GV w A m c r) : Calls Tryz.prog 218 #[.agg #[.int .i64 m, .slice A m c]] w (lsQ w (triO r m)) := by
  have hm7 := h.vg.n7
  obtain ⟨W, hW⟩ : ∃ W : World, W = (w.alloc (Obj.cells #[Value.int IntKind.i64 m, Value.slice A m c] 28)) := ⟨_, rfl⟩
  have HB : Hid (From w W) := by rw [hW]; exact From.alloc _ _
  have HG : Hid (GBox W w.heap.size A m c r) := by rw [hW]; exact h.box
  have HW := Lib.hid hW
  clear hW h
  have e0 := HG.out.c0
  have e1 := HG.out.c1
  go_enter Tryz.func218, Tryz.ntmps218
  go_wp2_with fail
  rw [← HW.out]
  refine (IsGraph_v HG.out.gv).mono ?_
  rintro e w1 ⟨rfl, hb1⟩
  clear HW
  clear e0 e1
  replace HB := Lib.hid (HB.out.keep hb1)
  replace HG := Lib.hid (HG.out.keep hb1)
  clear hb1
  have e0 := HG.out.c0
  have e1 := HG.out.c1
  go_wp2
  go_loopw [12] (fun i wr => ∃ a : Nat, a ≤ m ∧ i = .int .i64 a ∧ Hid (∀ u, u < a → triA r m u = none) ∧ Hid (From w1 wr)) (fun i _ => m - (intOf i).toNat)
  case atStart => exact ⟨0, Nat.zero_le _, rfl, (fun u hu => absurd hu (by omega)), From.refl _⟩
  case round =>
    clear e0 e1
    obtain ⟨a, ha, rfl, hall, HR⟩ := hrel
    have HB1 := Lib.hid (HB.out.up HR.out)
    have HG1 := Lib.hid (HG.out.keep HR.out.below)
    have e0 := HG1.out.c0
    have e1 := HG1.out.c1
    by_cases ham : a < m
    · have i1 : (a : Int) < (m : Int) := by omega
      go_wp2
      clear e0 e1 HB1 HG1
      go_loopw [5] (fun i wr => ∃ b : Nat, a + 1 ≤ b ∧ b ≤ m ∧ i = .int .i64 b ∧ Hid (∀ u, u < b → triB r m a u = none) ∧ Hid (From w1 wr)) (fun i _ => m - (intOf i).toNat)
      case atStart => exact ⟨a + 1, Nat.le_refl _, by omega, by go_num, (fun u hu => triB_lo (by omega)), HR⟩
      case round =>
        clear HR
        obtain ⟨b, hab, hb, rfl, hallb, HR⟩ := hrel
        have HB1 := Lib.hid (HB.out.up HR.out)
        have HG1 := Lib.hid (HG.out.keep HR.out.below)
        have e0 := HG1.out.c0
        have e1 := HG1.out.c1
        by_cases hbm : b < m
        · have i2 : (b : Int) < (m : Int) := by omega
          go_wp2
          clear e0 e1 HB1 HG1
          go_loopw [6] (fun i wr => ∃ c : Nat, b + 1 ≤ c ∧ c ≤ m ∧ i = .int .i64 c ∧ Hid (∀ u, u < c → triC r m a b u = none) ∧ Hid (From w1 wr)) (fun i _ => m - (intOf i).toNat)
          case atStart => exact ⟨b + 1, Nat.le_refl _, by omega, by go_num, (fun u hu => triC_lo (by omega)), HR⟩
          case round =>
            clear HR
            obtain ⟨k, hbk, hk, rfl, hallc, HR⟩ := hrel
            have HB1 := Lib.hid (HB.out.up HR.out)
            have HG1 := Lib.hid (HG.out.keep HR.out.below)
            have e0 := HG1.out.c0
            have e1 := HG1.out.c1
            by_cases hkm : k < m
            · have i3 : (k : Int) < (m : Int) := by omega
              obtain ⟨t, ht⟩ : ∃ t, t = trB (m : Int) m (fun v => (r v : Int)) (a : Nat) (b : Nat) (k : Nat) := ⟨_, rfl⟩
              have KT : Hid (∀ {z : World}, GV z A m c r → Calls Tryz.prog 324 #[.agg #[.int .i64 m, .slice A m c], .int .i64 a, .int .i64 b, .int .i64 k] z fun e w' => e = .returned (.bool t) ∧ Below z.heap.size z w') := by rw [ht]; exact fun h => IsTriple_i m A m c _ a b k _ h.ga (by omega)
              cases t
              · have Hn : Hid (triC r m a b k = none) := triC_no ht.symm
                clear ht
                go_wp2_with fail
                refine (KT.out HG1.out.gv).mono ?_
                rintro e w2 ⟨rfl, hb2⟩
                clear e0 e1
                replace HB1 := Lib.hid (HB1.out.keep hb2)
                replace HG1 := Lib.hid (HG1.out.keep hb2)
                replace HR := Lib.hid (HR.out.keep hb2)
                clear hb2
                have e0 := HG1.out.c0
                have e1 := HG1.out.c1
                go_wp2
                go_roundw
                case rel =>
                  refine ⟨k + 1, by omega, by omega, by go_num, fun u hu => ?_, HR⟩
                  by_cases huv : u < k
                  · exact hallc.out u huv
                  · obtain rfl : u = k := by omega
                    exact Hn.out
                case measure => (simp [intOf] <;> omega)
              · have Hs : Hid (triO r m = some [a, b, k]) := range_some ham (range_some hbm (range_some hkm (triC_yes (by omega) (by omega) ht.symm) hallc.out) hallb.out) hall.out
                clear ht
                go_wp2_with fail
                refine (KT.out HG1.out.gv).mono ?_
                rintro e w3 ⟨rfl, hb3⟩
                clear e0 e1
                replace HB1 := Lib.hid (HB1.out.keep hb3)
                replace HG1 := Lib.hid (HG1.out.keep hb3)
                replace HR := Lib.hid (HR.out.keep hb3)
                clear hb3
                have e0 := HG1.out.c0
                have e1 := HG1.out.c1
                have HON := Lib.hid (ON.three w3 a b k)
                have HBz := Lib.hid (HB1.out.alloc_ (Obj.cells #[.int .i64 (a : Int), .int .i64 (b : Int), .int .i64 (k : Int)] 3))
                go_wp2
                go_ret2
                rw [Hs.out]
                exact lsQ.yes (HON.out.mono HB1.out.below.size) HBz.out.below
            · have Hn : Hid (triB r m a b = none) := range_none fun u hu => hallc.out u (by omega)
              have i3 : (m : Int) ≤ (k : Int) := by omega
              go_wp2
              go_roundw
              case rel =>
                refine ⟨b + 1, by omega, by omega, by go_num, fun u hu => ?_, HR⟩
                by_cases huv : u < b
                · exact hallb.out u huv
                · obtain rfl : u = b := by omega
                  exact Hn.out
              case measure => (simp [intOf] <;> omega)
        · have Hn : Hid (triA r m a = none) := range_none fun u hu => hallb.out u (by omega)
          have i3 : (m : Int) ≤ (b : Int) := by omega
          go_wp2
          go_roundw
          case rel =>
            refine ⟨a + 1, by omega, by go_num, fun u hu => ?_, HR⟩
            by_cases huv : u < a
            · exact hall.out u huv
            · obtain rfl : u = a := by omega
              exact Hn.out
          case measure => (simp [intOf] <;> omega)
    · have Hn : Hid (triO r m = none) := range_none fun u hu => hall.out u (by omega)
      have i1 : (m : Int) ≤ (a : Int) := by omega
      go_wp2
      go_ret2
      rw [Hn.out]
      exact lsQ.no HB1.out.below
set_option maxRecDepth 100000 in
set_option maxHeartbeats 3200000 in
theorem FindTriple_no (sz : Int) (A : Option Addr) (m c : Nat) (x : Nat → Int) (w : World) (h : GA w A m c x) (hm : m ≤ 1048576) (hok : okB sz m x = false) :
    Calls Tryz.prog 218 #[.agg #[.int .i64 sz, .slice A m c]] w (lsQ w none) := by
  obtain ⟨W, hW⟩ : ∃ W : World, W = (w.alloc (Obj.cells #[Value.int IntKind.i64 sz, Value.slice A m c] 28)) := ⟨_, rfl⟩
  have HB : Hid (From w W) := by rw [hW]; exact From.alloc _ _
  have HK := Lib.hid (h.keep HB.out.below)
  have HC : Hid (GC W w.heap.size sz A m c) := by rw [hW]; exact GC.new _ _ _ _ _
  have HW := Lib.hid hW
  have Ho := Lib.hid hok
  have HR0 : Hid (From W W) := From.refl W
  clear hW h hok
  go_enter Tryz.func218, Tryz.ntmps218
  have e0 := HC.out.c0
  have e1 := HC.out.c1
  go_wp2_with fail
  rw [← HW.out]
  clear HW
  refine (IsGraph_any sz A m c x W W.heap.size HK.out.rd (Nat.le_refl _) hm).mono ?_
  rintro e w1 ⟨rfl, hb1⟩
  rw [Ho.out]
  clear e0 e1
  replace HB := Lib.hid (HB.out.keep hb1)
  replace HK := Lib.hid (HK.out.keep hb1)
  replace HC := Lib.hid (HC.out.keep hb1)
  clear hb1
  have e0 := HC.out.c0
  have e1 := HC.out.c1
  go_wp2
  go_ret2
  exact lsQ.no HB.out.below
end Go.Proofs.YtdpkbfiggbcclaaGreat
