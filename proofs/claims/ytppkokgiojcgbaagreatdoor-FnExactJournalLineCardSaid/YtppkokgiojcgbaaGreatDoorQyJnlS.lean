/-
  Contracts: whether the graphs along a journal are in a class (the reference's).
-/
import Derived.Test.YtppkokgiojcgbaaGreatDoorQyJnlI
import Derived.Test.YtppkokgiojcgbaaGreatDoorQyJoinI
namespace Go.Proofs.YtppkokgiojcgbaaGreatDoor
open Go.RowKit

section
variable (sz : Int) (A : Option Addr) (m c : Nat) (x : Nat → Int) (Al : Option Addr) (n cl : Nat) (a : Nat → Bool) (v u : Nat → Int) (str : ByteArray) (w : World)
set_option maxRecDepth 100000 in
set_option maxHeartbeats 6400000 in
theorem MembershipOf_s (h : GA w A m c x) (hl : ED w Al n cl a v u) (hm : m ≤ 1048576) (hn : n ≤ 1048576) :
    Calls Tryz.prog 27 #[.agg #[.int .i64 sz, .slice A m c], .slice Al n cl, .string str] w (meQ w (meL sz m x n a v u str.toList)) := by
  obtain ⟨W, hW⟩ : ∃ W : World, W = ((w.alloc (Obj.cells #[Value.int IntKind.i64 sz, Value.slice A m c] 29)).alloc (Obj.cells #[] 4)) := ⟨_, rfl⟩
  have HB : Hid (From w W) := by rw [hW]; exact (From.alloc _ _).alloc_ _
  have HK := Lib.hid (h.keep HB.out.below)
  have HD := Lib.hid (hl.keep HB.out.below)
  have HC : Hid (GC W w.heap.size sz A m c) := by rw [hW]; exact (GC.new _ _ _ _ _).keep ((Below.refl _ _).alloc (Nat.le_refl _) _)
  have hzW : W.heap.size = w.heap.size + 2 := by rw [hW]; simp
  have HO : Hid (Own W (w.heap.size + 1) (w.heap.size + 1 + 1) 4 1 (some ⟨w.heap.size + 1, 0, none⟩) 0 0 (blL [])) := by
    rw [hW]
    have := bl_nil (w.alloc (Obj.cells #[Value.int IntKind.i64 sz, Value.slice A m c] 29))
    have e : (w.alloc (Obj.cells #[Value.int IntKind.i64 sz, Value.slice A m c] 29)).heap.size = w.heap.size + 1 := by simp
    rw [e] at this
    exact this
  have HW := Lib.hid hW
  have HDw := Lib.hid hl
  clear hW h hl
  obtain ⟨D, hD⟩ : ∃ D, D = apD sz m x n a v u := ⟨_, rfl⟩
  have HDD := Lib.hid hD
  have KA := Lib.hid (ApplyEdits_s sz A m c x Al n cl a v u W W.heap.size HK.out.rd HD.out.rd (Nat.le_refl _) hm hn)
  rw [← hD] at KA
  clear hD
  go_enter Tryz.func27, Tryz.ntmps27
  have e0 := HC.out.c0
  have e1 := HC.out.c1
  go_wp2_with fail
  rw [← HW.out]
  clear HW
  refine KA.out.mono ?_
  rintro e w1 ⟨A1, c1, rfl, ho1, hb1⟩
  have HO1 := Lib.hid (HO.out.keepB hb1 (by omega))
  have hz1 := hb1.size
  clear e0 e1
  replace HB := Lib.hid (HB.out.keep hb1)
  replace HK := Lib.hid (HK.out.keep hb1)
  replace HD := Lib.hid (HD.out.keep hb1)
  replace HC := Lib.hid (HC.out.keep hb1)
  clear hb1 ho1 HO KA
  have e0 := HC.out.c0
  have e1 := HC.out.c1
  obtain ⟨Z1, hZ1⟩ : ∃ Z, Z = apZ sz m x n a v u := ⟨_, rfl⟩
  obtain ⟨N1, hN1⟩ : ∃ Z, Z = apN sz m x n a v u := ⟨_, rfl⟩
  rw [← hZ1, ← hN1]
  clear hZ1 hN1
  obtain ⟨W2, hW2⟩ : ∃ W2 : World, W2 = w1.alloc (Obj.cells #[Value.int IntKind.i64 Z1, Value.slice A1 N1 c1] 29) := ⟨_, rfl⟩
  have hb2 : Below w1.heap.size w1 W2 := by rw [hW2]; exact (Below.refl _ _).alloc (Nat.le_refl _) _
  have HO2 := Lib.hid (HO1.out.keepB hb2 (by omega))
  have hz2 := hb2.size
  have HW2 := Lib.hid hW2
  have hCl := HC.out.lt
  clear hW2 HO1
  go_wp2_with fail
  rw [← HW2.out]
  clear HW2
  clear e0 e1
  replace HB := Lib.hid (HB.out.keep hb2)
  replace HK := Lib.hid (HK.out.keep hb2)
  replace HD := Lib.hid (HD.out.keep hb2)
  replace HC := Lib.hid (HC.out.keep hb2)
  clear hb2
  have e0 := HC.out.c0
  have e1 := HC.out.c1
  refine (l2Copy_any sz A m c x W2 W2.heap.size HK.out.rd (Nat.le_refl _) hm).mono ?_
  rintro e w3 ⟨A3, c3, rfl, ho3, hb3⟩
  have HO3 := Lib.hid (HO2.out.keepB hb3 (by omega))
  have hz3 := hb3.size
  clear e0 e1
  replace HB := Lib.hid (HB.out.keep hb3)
  replace HK := Lib.hid (HK.out.keep hb3)
  replace HD := Lib.hid (HD.out.keep hb3)
  replace HC := Lib.hid (HC.out.keep hb3)
  clear hb3 HO2
  have e0 := HC.out.c0
  have e1 := HC.out.c1
  obtain ⟨W4, hW4⟩ : ∃ W4 : World, W4 = w3.alloc (Obj.cells #[Value.int IntKind.i64 sz, Value.slice A3 m c3] 29) := ⟨_, rfl⟩
  have hb4 : Below w3.heap.size w3 W4 := by rw [hW4]; exact (Below.refl _ _).alloc (Nat.le_refl _) _
  have HO4 : Hid (Own W4 (w.heap.size + 1) (w.heap.size + 1 + 1) 4 1 (some ⟨w.heap.size + 1, 0, none⟩) 0 0 (blL (meV sz m x a v u str.toList 0))) := HO3.out.keepB hb4 (by omega)
  have HY4 : Hid (Own W4 (W2.heap.size + 2) w3.heap.size 3 1 A3 m c3 (fun j => .int .i64 (x j))) := ho3.keepB hb4 (Nat.le_refl _)
  have HQ4 : Hid (GC W4 w3.heap.size sz A3 m c3) := by rw [hW4]; exact GC.new _ _ _ _ _
  have hz4 : W4.heap.size = w3.heap.size + 1 := by rw [hW4]; simp
  have HW4 := Lib.hid hW4
  clear hW4 HO3 ho3
  clear e0 e1
  replace HB := Lib.hid (HB.out.keep hb4)
  replace HK := Lib.hid (HK.out.keep hb4)
  replace HD := Lib.hid (HD.out.keep hb4)
  replace HC := Lib.hid (HC.out.keep hb4)
  clear hb4
  have e0 := HC.out.c0
  have e1 := HC.out.c1
  have HB4 := HB
  cases D
  · have hr : apR sz m x n a v u = none := by
      cases hr : apR sz m x n a v u with
      | none => rfl
      | some y => have := (ap_some hr).1; rw [← HDD.out] at this; cases this
    have Hn : Hid (meL sz m x n a v u str.toList = []) := meL_no hr
    clear hr
    go_wp2_with fail
    rw [← HW4.out]
    clear HW4
    go_loopw [7, 11] (fun o i wr => o = .slice (some ⟨w.heap.size + 1, 0, none⟩) 0 0 ∧ i = .int .i64 0 ∧ wr = W4) (fun _ _ _ => 0)
    case atStart => exact ⟨rfl, rfl, by first | rfl | trivial⟩
    case round =>
      obtain ⟨rfl, rfl, rfl⟩ := hrel
      go_wp2
      go_ret
      rw [Hn.out]
      exact ⟨_, _, rfl, HO4.out.mono (by omega) (by omega), HB4.out.below⟩
  · have hr : ∃ y, apR sz m x n a v u = some y := by
      cases hr : apR sz m x n a v u with
      | none => have := (ap_none hr).1; rw [← HDD.out] at this; cases this
      | some y => exact ⟨y, rfl⟩
    obtain ⟨y0, hr⟩ := hr
    obtain ⟨hok, hn12, _⟩ := apR_parts hr
    have Hn : Hid (meL sz m x n a v u str.toList = meV sz m x a v u str.toList (n + 1)) := meL_yes hr
    have Hst : Hid (∀ k, apS sz m a v u 0 (k + 1) x = apX (a k) sz m (apS sz m a v u 0 k x) (v k) (u k)) := fun k => by
      have := apS_snoc (sz := sz) (m := m) (a := a) (v := v) (u := u) k 0 x
      rwa [Nat.zero_add] at this
    clear hr hok
    go_wp2_with fail
    rw [← HW4.out]
    clear HW4
    go_loopw [7, 11] (fun o i wr => ∃ (k c' g c5 l5 h5 : Nat) (A5 : Option Addr) (y : Nat → Int), k ≤ n + 1 ∧ i = .int .i64 k ∧ o = .slice (some ⟨g, 0, none⟩) k c' ∧ w.heap.size < g ∧ g < wr.heap.size ∧ g ≠ w3.heap.size ∧ (g < l5 ∨ h5 ≤ g) ∧ Hid (Own wr g (g + 1) 4 1 (some ⟨g, 0, none⟩) k c' (blL (meV sz m x a v u str.toList k))) ∧ Hid (GC wr w3.heap.size sz A5 m c5) ∧ Hid (Own wr l5 h5 3 1 A5 m c5 (fun j => .int .i64 (y j))) ∧ w.heap.size + 2 ≤ l5 ∧ (h5 ≤ w3.heap.size ∨ w3.heap.size + 1 ≤ l5) ∧ h5 ≤ wr.heap.size ∧ w3.heap.size < wr.heap.size ∧ Hid (k ≤ n → y = apS sz m a v u 0 k x) ∧ Hid (From w wr)) (fun _ i _ => n + 1 - (intOf i).toNat)
    case atStart => exact ⟨0, 0, w.heap.size + 1, c3, W2.heap.size + 2, w3.heap.size, A3, x, by omega, rfl, rfl, by omega, by omega, by omega, .inl (by omega), HO4, HQ4, HY4, by omega, .inl (Nat.le_refl _), by omega, by omega, (fun _ => rfl), HB4⟩
    case round =>
      clear HO4 HQ4 HY4 HB4 HB HK HC HD e0 e1
      obtain ⟨k, c', g, c5, l5, h5, A5, y, hk, rfl, rfl, hg1, hg2, hg3, hg4, HO, HQ, HY, hl5, hh5, hh6, hw3, Hy, HB⟩ := hrel
      have hbk : Below w.heap.size w wr := HB.out.below
      by_cases hkn : k ≤ n
      · have i1 : (k : Int) ≤ (n : Int) := by omega
        have hy := Hy.out hkn
        obtain ⟨b, hb⟩ : ∃ b, b = isB sz m y str.toList := ⟨_, rfl⟩
        have KI : Hid (∀ {z : World} {A' : Option Addr} {c' : Nat}, GA z A' m c' y → Calls Tryz.prog 28 #[.agg #[.int .i64 sz, .slice A' m c'], .string str] z fun e w' => e = .returned (.bool b) ∧ Below z.heap.size z w') := by rw [hb]; exact fun h => IsIn_s sz _ m _ y str _ h hm
        obtain ⟨T, hT⟩ : ∃ T, T = meV sz m x a v u str.toList k := ⟨_, rfl⟩
        have Hs : Hid (meV sz m x a v u str.toList (k + 1) = T ++ [b]) := by show _ = _; rw [hT, hb, hy]; exact meV_succ k
        have Hy1 : Hid (apX (a k) sz m y (v k) (u k) = apS sz m a v u 0 (k + 1) x) := by show _ = _; rw [Hst.out, hy]
        have hTl : T.length = k := by rw [hT, meV_len]
        rw [← hT] at HO
        clear hT hb hy Hy
        subst hTl
        have HA : Hid (GA wr A5 m c5 y) := ⟨HY.out.rd.keep (Below.refl _ _) hh6⟩
        have e0 := HQ.out.c0
        have e1 := HQ.out.c1
        have HX : Hid (From wr wr) := From.refl _
        go_wp2_with fail
        refine (KI.out HA.out).mono ?_
        rintro e w7 ⟨rfl, hb7⟩
        have HO7 : Hid (Own w7 g (g + 1) 4 1 (some ⟨g, 0, none⟩) T.length c' (blL T)) := HO.out.keepB hb7 hg2
        have HQ7 := Lib.hid (HQ.out.keep hb7)
        have HY7 : Hid (Own w7 l5 h5 3 1 A5 m c5 (fun j => .int .i64 (y j))) := HY.out.keepB hb7 hh6
        have HB7 := Lib.hid (HB.out.keep hb7)
        have hz7 := hb7.size
        have hg7 : g < w7.heap.size := by omega
        clear e0 e1 HA HX KI HO HQ HY HB hb7 hbk
        have hzB := HB7.out.below.size
        by_cases hkl : T.length < n
        · have i2 : (T.length : Int) < (n : Int) := by omega
          go_wp2_with (first | (at_builtin; (refine wpList_pushBl w7 rfl _ _ rfl g c' T HO7.out hg7 b rfl 1 w7.heap.size rfl rfl (by omega) ?_; intro g3 c3' w8 hO3 hg8 hg9 hf3)))
          have HO8 : Hid (Own w8 g3 (g3 + 1) 4 1 (some ⟨g3, 0, none⟩) (T.length + 1) c3' (blL (meV sz m x a v u str.toList (T.length + 1)))) := by show Own _ _ _ _ _ _ _ _ _; rw [Hs.out]; exact hO3
          have HB8 : Hid (From w w8) := ⟨HB7.out.below.trans (hf3.below (by omega) hzB)⟩
          have HQ8 := Lib.hid (HQ7.out.keepF hf3 (by omega))
          have HY8 : Hid (Own w8 l5 h5 3 1 A5 m c5 (fun j => .int .i64 (y j))) := HY7.out.keep hf3 (by omega)
          have hz8 := hf3.size
          clear hO3 hf3 HO7 HQ7 HY7 HB7
          have HD8 := Lib.hid (HDw.out.keep HB8.out.below)
          obtain ⟨be, oe, rfl⟩ := HD8.out.addr (by omega)
          obtain ⟨p0, p1, p2⟩ := HD8.out.at hkl
          have hlt := World.block_lt_of_cell? _ _ p0
          have KD : Hid (Calls Tryz.prog 66 #[.agg #[.int .i64 sz, .slice A5 m c5], .agg #[.bool (a T.length), .int .i64 (v T.length), .int .i64 (u T.length)]] w8.drew fun e w' => ∃ A' c', e = .returned (.tuple #[.agg #[.int .i64 sz, .slice A' m c'], .bool (apB (a T.length) sz m y (v T.length) (u T.length))]) ∧ Own w' w8.heap.size w'.heap.size 3 1 A' m c' (fun j => .int .i64 (apX (a T.length) sz m y (v T.length) (u T.length) j)) ∧ Below w8.heap.size w8.drew w') :=
            l32Apply_s sz A5 m c5 y (a T.length) (v T.length) (u T.length) w8.drew w8.drew.heap.size (HY8.out.drew.rd.keep (Below.refl _ _) (by show h5 ≤ w8.heap.size; omega)) (Nat.le_refl _) hm
          have q0 := HQ8.out.c0
          have q1 := HQ8.out.c1
          have hbew := HDw.out.rd.2 (by omega)
          obtain ⟨be', oe', hbe1, hbe2, _⟩ := hbew
          have hbe : be < w3.heap.size ∨ w3.heap.size + 1 ≤ be := by
            simp only [Option.some.injEq, Addr.mk.injEq, and_true] at hbe1
            omega
          clear hbe1 hbe2
          go_wp2
          refine wp_region_held_drew (S := fun z => z.cell? ⟨be, oe + T.length * 3, none⟩ = some (.bool (a T.length)) ∧ z.cell? ⟨be, oe + T.length * 3 + 1, none⟩ = some (.int .i64 (v T.length)) ∧ z.cell? ⟨be, oe + T.length * 3 + 2, none⟩ = some (.int .i64 (u T.length))) (by kernel_rfl) ⟨p0, p1, p2⟩ (fun hHeld => ?_)
          refine take_yes (i := 1) (d := 42) (v := ?v1) rfl rfl (by kernel_rfl) (by kernel_rfl) (by kernel_rfl) (fun _ _ _ h => h) (by rfl) ?y1 (by assumption) ?r1
          case y1 => (intro w hSw; (try dsimp only at hSw); go_simp <;> with_reducible rfl)
          simp only [Act.put, sl0, sl1, sl2]
          refine take_yes (i := 2) (d := 43) (v := ?v2) rfl rfl (by kernel_rfl) (by kernel_rfl) (by kernel_rfl) (fun _ _ _ h => h) (by rfl) ?y2 (by assumption) ?r2
          case y2 => (intro w hSw; (try dsimp only at hSw); go_simp <;> with_reducible rfl)
          simp only [Act.put, sl0, sl1, sl2]
          refine take_yes (i := 3) (d := 44) (v := ?v3) rfl rfl (by kernel_rfl) (by kernel_rfl) (by kernel_rfl) (fun _ _ _ h => h) (by rfl) ?y3 (by assumption) ?r3
          case y3 => (intro w hSw; (try dsimp only at hSw); go_simp <;> with_reducible rfl)
          simp only [Act.put, sl0, sl1, sl2]
          refine take_yes (i := 4) (d := 45) (v := ?v4) rfl rfl (by kernel_rfl) (by kernel_rfl) (by kernel_rfl) (fun _ _ _ h => h) (by rfl) ?y4 (by assumption) ?r4
          case y4 => (intro w hSw; (try dsimp only at hSw); go_simp <;> with_reducible rfl)
          simp only [Act.put, sl0, sl1, sl2]
          refine wpAnyH_ready (rs := [0]) (by kernel_rfl) (by simp) ?_
          refine AllReadyH.cons rfl (fun K hK => ?_) AllReadyH.nil
          go_simp
          refine hK.out _ _ ⟨p0, p1, p2⟩ (fun hHeld => ?_)
          clear hK K
          try simp only [Act.put, sl0, sl1, sl2]
          refine wpAnyH_ready (rs := [5]) (by kernel_rfl) (by simp) ?_
          refine AllReadyH.cons rfl (fun K hK => ?_) AllReadyH.nil
          go_simp
          go_at_call 66; refine (KD.out).mono ?_
          rintro e w9 ⟨A6, c6, rfl, ho6, hb6⟩
          have HU6 := Lib.hid (HQ8.out.drew.keep hb6)
          have q2 := HU6.out.c0
          have q3 := HU6.out.c1
          have q4 := HU6.out.f0
          have q5 := HU6.out.f1
          have F6 := fr2 w9 w3.heap.size (.int .i64 sz) (.slice A6 m c6)
          have S6 : w9.cell? ⟨be, oe + T.length * 3, none⟩ = some (.bool (a T.length)) ∧ w9.cell? ⟨be, oe + T.length * 3 + 1, none⟩ = some (.int .i64 (v T.length)) ∧ w9.cell? ⟨be, oe + T.length * 3 + 2, none⟩ = some (.int .i64 (u T.length)) := ⟨up hb6 p0 hlt, up hb6 p1 hlt, up hb6 p2 hlt⟩
          have hz9 : w8.heap.size ≤ w9.heap.size := hb6.size
          refine hK.out _ _ S6 (fun hHeld => ?_)
          clear hK K
          try simp only [Act.put, sl0, sl1, sl2]
          refine take_yes (i := 6) (d := 40) (v := ?v5) rfl rfl (by kernel_rfl) (by kernel_rfl) (by kernel_rfl) (fun _ _ _ h => h) (by rfl) ?y5 (by assumption) ?r5
          case y5 => (intro w hSw; (try dsimp only at hSw); go_simp <;> with_reducible rfl)
          simp only [Act.put, sl0, sl1, sl2]
          refine take_yes (i := 7) (d := 47) (v := ?v6) rfl rfl (by kernel_rfl) (by kernel_rfl) (by kernel_rfl) (fun _ _ _ h => h) (by rfl) ?y6 (by assumption) ?r6
          case y6 => (intro w hSw; (try dsimp only at hSw); go_simp <;> with_reducible rfl)
          simp only [Act.put, sl0, sl1, sl2]
          refine take_yes (i := 8) (d := 48) (v := ?v7) rfl rfl (by kernel_rfl) (by kernel_rfl) (by kernel_rfl) (fun _ _ _ h => h) (by rfl) ?y7 (by assumption) ?r7
          case y7 => (intro w hSw; (try dsimp only at hSw); go_simp <;> with_reducible rfl)
          simp only [Act.put, sl0, sl1, sl2]
          refine wpAnyH_ready (rs := [9]) (by kernel_rfl) (by simp) ?_
          refine AllReadyH.cons rfl (fun K hK => ?_) AllReadyH.nil
          go_simp
          refine hK.out _ _ ⟨frC_ F6 S6.1 (by omega) hbe, frC_ F6 S6.2.1 (by omega) hbe, frC_ F6 S6.2.2 (by omega) hbe⟩ (fun hHeld => ?_)
          clear hK K
          try simp only [Act.put, sl0, sl1, sl2]
          refine wpAnyH_done (by kernel_rfl) ?_ _
          have HU7 : Hid (GC ((w9.setCell ⟨w3.heap.size, 0, none⟩ (.int .i64 sz)).setCell ⟨w3.heap.size, 1, none⟩ (.slice A6 m c6)) w3.heap.size sz A6 m c6) := HU6.out.set
          have HY9 : Hid (Own ((w9.setCell ⟨w3.heap.size, 0, none⟩ (.int .i64 sz)).setCell ⟨w3.heap.size, 1, none⟩ (.slice A6 m c6)) w8.heap.size w9.heap.size 3 1 A6 m c6 (fun j => .int .i64 (apX (a T.length) sz m y (v T.length) (u T.length) j))) := ho6.keep F6 (.inr (by omega))
          have HO9 : Hid (Own ((w9.setCell ⟨w3.heap.size, 0, none⟩ (.int .i64 sz)).setCell ⟨w3.heap.size, 1, none⟩ (.slice A6 m c6)) g3 (g3 + 1) 4 1 (some ⟨g3, 0, none⟩) (T.length + 1) c3' (blL (meV sz m x a v u str.toList (T.length + 1)))) := (HO8.out.drew.keepB hb6 hg9).keep F6 (by omega)
          have HB9 : Hid (From w ((w9.setCell ⟨w3.heap.size, 0, none⟩ (.int .i64 sz)).setCell ⟨w3.heap.size, 1, none⟩ (.slice A6 m c6))) := (HB8.out.drew.keep hb6).set (by omega) _ _
          have hzF := F6.size
          clear ho6 hb6 KD p0 p1 p2 q0 q1 q2 q3 q4 q5 HU6 F6 S6 HQ8 HY8 HO8 HB8 HD8
          go_wp2
          go_roundw
          case rel => exact ⟨T.length + 1, c3', g3, c6, w8.heap.size, w9.heap.size, A6, _, by omega, by go_num, rfl, by omega, by omega, by omega, by omega, HO9, HU7, HY9, by omega, .inr (by omega), hzF, by omega, (fun _ => Hy1.out), HB9⟩
          case measure => (simp [intOf] <;> omega)
        · have i2 : (n : Int) ≤ (T.length : Int) := by omega
          go_wp2_with (first | (at_builtin; (refine wpList_pushBl w7 rfl _ _ rfl g c' T HO7.out hg7 b rfl 1 w7.heap.size rfl rfl (by omega) ?_; intro g3 c3' w8 hO3 hg8 hg9 hf3)))
          have HO8 : Hid (Own w8 g3 (g3 + 1) 4 1 (some ⟨g3, 0, none⟩) (T.length + 1) c3' (blL (meV sz m x a v u str.toList (T.length + 1)))) := by show Own _ _ _ _ _ _ _ _ _; rw [Hs.out]; exact hO3
          have HB8 : Hid (From w w8) := ⟨HB7.out.below.trans (hf3.below (by omega) hzB)⟩
          have HQ8 := Lib.hid (HQ7.out.keepF hf3 (by omega))
          have HY8 : Hid (Own w8 l5 h5 3 1 A5 m c5 (fun j => .int .i64 (y j))) := HY7.out.keep hf3 (by omega)
          have hz8 := hf3.size
          clear hO3 hf3 HO7 HQ7 HY7 HB7
          go_wp2
          go_roundw
          case rel => exact ⟨T.length + 1, c3', g3, c5, l5, h5, A5, y, by omega, by go_num, rfl, by omega, by omega, by omega, by omega, HO8, HQ8, HY8, by omega, hh5, by omega, by omega, (fun hh => absurd hh (by omega)), HB8⟩
          case measure => (simp [intOf] <;> omega)
      · have hk1 : k = n + 1 := by omega
        have i1 : (n : Int) < (k : Int) := by omega
        have Hk : Hid (meV sz m x a v u str.toList k = meL sz m x n a v u str.toList) := by show _ = _; rw [Hn.out, hk1]
        have Hkl : Hid ((meL sz m x n a v u str.toList).length = k) := by show _ = _; rw [← Hk.out, meV_len]
        rw [Hk.out] at HO
        clear hk1
        go_wp2
        go_ret
        exact ⟨some ⟨g, 0, none⟩, c', by rw [Hkl.out]; rfl, by rw [Hkl.out]; exact HO.out.mono (by omega) hg2, HB.out.below⟩
end
end Go.Proofs.YtppkokgiojcgbaaGreatDoor
