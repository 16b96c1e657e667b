/-
  Contracts: the largest clique, the largest independent set, the fewest colors: the reference's.
-/
import Derived.Test.YtjonhbmgmamchaaGreatDoorRdColS
import Derived.Test.YtjonhbmgmamchaaGreatDoorRdSet2S
import Derived.Test.YtjonhbmgmamchaaGreatDoorRdPackS
namespace Go.Proofs.YtjonhbmgmamchaaGreatDoor
open Go.RowKit

section
variable {A : Option Addr} {m c : Nat} {r : Nat → Nat}
set_option maxHeartbeats 1000000 in
theorem LargestClique_sv {w : World} (h : GV w A m c r) :
    Calls Tryz.prog 43 #[.agg #[.int .i64 m, .slice A m c]] w fun e w' => e = .returned (.int .i64 (lqN r m : Nat)) ∧ Below w.heap.size w w' := by
  have hn7 := h.vg.n7
  have h128 := two_pow_le hn7
  have hpos := Nat.two_pow_pos m
  have hpc := pow_cast m
  have p1 := pow_shl m hn7
  obtain ⟨W, hW⟩ : ∃ W : World, W = (w.alloc (Obj.cells #[Value.int IntKind.i64 m, Value.slice A m c] 27)) := ⟨_, rfl⟩
  have HB : Hid (From w W) := by rw [hW]; exact From.alloc _ _
  have HG : Hid (GBox W w.heap.size A m c r) := by rw [hW]; exact h.box
  have HW := Lib.hid hW
  clear hW h
  have e0 := HG.out.c0
  have e1 := HG.out.c1
  go_enter Tryz.func43, Tryz.ntmps43
  go_wp2
  rw [← HW.out]
  clear HW
  go_loopw [3, 4] (fun b i wr => ∃ k : Nat, 1 ≤ k ∧ k ≤ 2 ^ m ∧ i = .int .i64 k ∧ b = .int .i64 (lgK (cliq r) k : Nat) ∧ Hid (From W wr)) (fun _ i _ => 2 ^ m - (intOf i).toNat)
  case atStart => exact ⟨1, Nat.le_refl _, hpos, rfl, by rw [lgK_one]; rfl, From.refl _⟩
  case round =>
    obtain ⟨k, hk1, hk, rfl, rfl, HR⟩ := hrel
    clear e0 e1
    replace HB := Lib.hid (HB.out.keep HR.out.below)
    replace HG := Lib.hid (HG.out.keep HR.out.below)
    have e0 := HG.out.c0
    have e1 := HG.out.c1
    have hlk := lgK_lt (p := cliq r) k (by omega)
    go_wp2_with fail
    refine (IsGraph_sv HG.out.gv).mono ?_
    rintro e w1 ⟨rfl, hb1⟩
    clear e0 e1
    replace HB := Lib.hid (HB.out.keep hb1)
    replace HG := Lib.hid (HG.out.keep hb1)
    replace HR := Lib.hid (HR.out.keep hb1)
    clear hb1
    have e0 := HG.out.c0
    have e1 := HG.out.c1
    by_cases hlt : k < 2 ^ m
    · have i1 : (k : Int) < 2 ^ m := by omega
      go_wp2_with fail
      refine (CountSet_sv k (by omega) _).mono ?_
      rintro e w2 ⟨rfl, hb2⟩
      clear e0 e1
      replace HB := Lib.hid (HB.out.keep hb2)
      replace HG := Lib.hid (HG.out.keep hb2)
      replace HR := Lib.hid (HR.out.keep hb2)
      clear hb2
      have e0 := HG.out.c0
      have e1 := HG.out.c1
      go_wp2_with fail
      refine (CountSet_sv (lgK (cliq r) k) (by omega) _).mono ?_
      rintro e w3 ⟨rfl, hb3⟩
      clear e0 e1
      replace HB := Lib.hid (HB.out.keep hb3)
      replace HG := Lib.hid (HG.out.keep hb3)
      replace HR := Lib.hid (HR.out.keep hb3)
      clear hb3
      have e0 := HG.out.c0
      have e1 := HG.out.c1
      by_cases hcn : cn (lgK (cliq r) k) < cn k
      · have i2 : ((cn (lgK (cliq r) k) : Nat) : Int) < ((cn k : Nat) : Int) := by omega
        go_wp2_with fail
        refine (IsClique_sv HG.out.gv hlt).mono ?_
        rintro e w4 ⟨rfl, hb4⟩
        clear e0 e1
        replace HB := Lib.hid (HB.out.keep hb4)
        replace HG := Lib.hid (HG.out.keep hb4)
        replace HR := Lib.hid (HR.out.keep hb4)
        clear hb4
        have e0 := HG.out.c0
        have e1 := HG.out.c1
        cases hp : (cliq r) k
        · have Hn : Hid (lgK (cliq r) (k + 1) = lgK (cliq r) k) := lgK_no (.inr hp)
          clear hp
          go_wp2
          go_roundw
          case rel => exact ⟨k + 1, by omega, by omega, by go_num, by rw [Hn.out], HR⟩
          case measure => simp [intOf]; omega
        · have Hn : Hid (lgK (cliq r) (k + 1) = k) := lgK_yes hcn hp
          clear hp
          go_wp2
          go_roundw
          case rel => exact ⟨k + 1, by omega, by omega, by go_num, by rw [Hn.out], HR⟩
          case measure => simp [intOf]; omega
      · have Hn : Hid (lgK (cliq r) (k + 1) = lgK (cliq r) k) := lgK_no (.inl hcn)
        have i2 : ((cn k : Nat) : Int) ≤ ((cn (lgK (cliq r) k) : Nat) : Int) := by omega
        go_wp2
        go_roundw
        case rel => exact ⟨k + 1, by omega, by omega, by go_num, by rw [Hn.out], HR⟩
        case measure => simp [intOf]; omega
    · have hkm : k = 2 ^ m := by omega
      have i1 : (2 : Int) ^ m ≤ (k : Int) := by omega
      have Hk : Hid (lgK (cliq r) k = lqN r m) := by rw [hkm]; exact rfl
      clear hkm
      go_wp2
      go_ret
      exact ⟨ret_int (by rw [Hk.out]), HB.out.below⟩
set_option maxHeartbeats 1000000 in
theorem LargestIndependent_sv {w : World} (h : GV w A m c r) :
    Calls Tryz.prog 15 #[.agg #[.int .i64 m, .slice A m c]] w fun e w' => e = .returned (.int .i64 (liN r m : Nat)) ∧ Below w.heap.size w w' := by
  have hn7 := h.vg.n7
  have h128 := two_pow_le hn7
  have hpos := Nat.two_pow_pos m
  have hpc := pow_cast m
  have p1 := pow_shl m hn7
  obtain ⟨W, hW⟩ : ∃ W : World, W = (w.alloc (Obj.cells #[Value.int IntKind.i64 m, Value.slice A m c] 27)) := ⟨_, rfl⟩
  have HB : Hid (From w W) := by rw [hW]; exact From.alloc _ _
  have HG : Hid (GBox W w.heap.size A m c r) := by rw [hW]; exact h.box
  have HW := Lib.hid hW
  clear hW h
  have e0 := HG.out.c0
  have e1 := HG.out.c1
  go_enter Tryz.func15, Tryz.ntmps15
  go_wp2
  rw [← HW.out]
  clear HW
  go_loopw [3, 4] (fun b i wr => ∃ k : Nat, 1 ≤ k ∧ k ≤ 2 ^ m ∧ i = .int .i64 k ∧ b = .int .i64 (lgK (indB r) k : Nat) ∧ Hid (From W wr)) (fun _ i _ => 2 ^ m - (intOf i).toNat)
  case atStart => exact ⟨1, Nat.le_refl _, hpos, rfl, by rw [lgK_one]; rfl, From.refl _⟩
  case round =>
    obtain ⟨k, hk1, hk, rfl, rfl, HR⟩ := hrel
    clear e0 e1
    replace HB := Lib.hid (HB.out.keep HR.out.below)
    replace HG := Lib.hid (HG.out.keep HR.out.below)
    have e0 := HG.out.c0
    have e1 := HG.out.c1
    have hlk := lgK_lt (p := indB r) k (by omega)
    go_wp2_with fail
    refine (IsGraph_sv HG.out.gv).mono ?_
    rintro e w1 ⟨rfl, hb1⟩
    clear e0 e1
    replace HB := Lib.hid (HB.out.keep hb1)
    replace HG := Lib.hid (HG.out.keep hb1)
    replace HR := Lib.hid (HR.out.keep hb1)
    clear hb1
    have e0 := HG.out.c0
    have e1 := HG.out.c1
    by_cases hlt : k < 2 ^ m
    · have i1 : (k : Int) < 2 ^ m := by omega
      go_wp2_with fail
      refine (CountSet_sv k (by omega) _).mono ?_
      rintro e w2 ⟨rfl, hb2⟩
      clear e0 e1
      replace HB := Lib.hid (HB.out.keep hb2)
      replace HG := Lib.hid (HG.out.keep hb2)
      replace HR := Lib.hid (HR.out.keep hb2)
      clear hb2
      have e0 := HG.out.c0
      have e1 := HG.out.c1
      go_wp2_with fail
      refine (CountSet_sv (lgK (indB r) k) (by omega) _).mono ?_
      rintro e w3 ⟨rfl, hb3⟩
      clear e0 e1
      replace HB := Lib.hid (HB.out.keep hb3)
      replace HG := Lib.hid (HG.out.keep hb3)
      replace HR := Lib.hid (HR.out.keep hb3)
      clear hb3
      have e0 := HG.out.c0
      have e1 := HG.out.c1
      by_cases hcn : cn (lgK (indB r) k) < cn k
      · have i2 : ((cn (lgK (indB r) k) : Nat) : Int) < ((cn k : Nat) : Int) := by omega
        go_wp2_with fail
        refine (IsIndependent_sv HG.out.gv hlt).mono ?_
        rintro e w4 ⟨rfl, hb4⟩
        clear e0 e1
        replace HB := Lib.hid (HB.out.keep hb4)
        replace HG := Lib.hid (HG.out.keep hb4)
        replace HR := Lib.hid (HR.out.keep hb4)
        clear hb4
        have e0 := HG.out.c0
        have e1 := HG.out.c1
        cases hp : (indB r) k
        · have Hn : Hid (lgK (indB r) (k + 1) = lgK (indB r) k) := lgK_no (.inr hp)
          clear hp
          go_wp2
          go_roundw
          case rel => exact ⟨k + 1, by omega, by omega, by go_num, by rw [Hn.out], HR⟩
          case measure => simp [intOf]; omega
        · have Hn : Hid (lgK (indB r) (k + 1) = k) := lgK_yes hcn hp
          clear hp
          go_wp2
          go_roundw
          case rel => exact ⟨k + 1, by omega, by omega, by go_num, by rw [Hn.out], HR⟩
          case measure => simp [intOf]; omega
      · have Hn : Hid (lgK (indB r) (k + 1) = lgK (indB r) k) := lgK_no (.inl hcn)
        have i2 : ((cn k : Nat) : Int) ≤ ((cn (lgK (indB r) k) : Nat) : Int) := by omega
        go_wp2
        go_roundw
        case rel => exact ⟨k + 1, by omega, by omega, by go_num, by rw [Hn.out], HR⟩
        case measure => simp [intOf]; omega
    · have hkm : k = 2 ^ m := by omega
      have i1 : (2 : Int) ^ m ≤ (k : Int) := by omega
      have Hk : Hid (lgK (indB r) k = liN r m) := by rw [hkm]; exact rfl
      clear hkm
      go_wp2
      go_ret
      exact ⟨ret_int (by rw [Hk.out]), HB.out.below⟩
set_option maxHeartbeats 1000000 in
theorem CliqueNumber_sv {w : World} (h : GV w A m c r) :
    Calls Tryz.prog 12 #[.agg #[.int .i64 m, .slice A m c]] w fun e w' => e = .returned (.int .i64 (cn (lqN r m) : Nat)) ∧ Below w.heap.size w w' := by
  have hl : lqN r m < 128 := Nat.lt_of_lt_of_le (lq_lt r m) (two_pow_le h.vg.n7)
  obtain ⟨W, hW⟩ : ∃ W : World, W = (w.alloc (Obj.cells #[Value.int IntKind.i64 m, Value.slice A m c] 27)) := ⟨_, rfl⟩
  have HB : Hid (From w W) := by rw [hW]; exact From.alloc _ _
  have HG : Hid (GBox W w.heap.size A m c r) := by rw [hW]; exact h.box
  have HW := Lib.hid hW
  clear hW h
  have e0 := HG.out.c0
  have e1 := HG.out.c1
  go_enter Tryz.func12, Tryz.ntmps12
  go_wp2_with fail
  rw [← HW.out]
  refine (IsGraph_sv HG.out.gv).mono ?_
  rintro e w1 ⟨rfl, hb1⟩
  clear HW
  clear e0 e1
  replace HB := Lib.hid (HB.out.keep hb1)
  replace HG := Lib.hid (HG.out.keep hb1)
  clear hb1
  have e0 := HG.out.c0
  have e1 := HG.out.c1
  go_wp2_with fail
  refine (LargestClique_sv HG.out.gv).mono ?_
  rintro e w2 ⟨rfl, hb2⟩
  clear e0 e1
  replace HB := Lib.hid (HB.out.keep hb2)
  replace HG := Lib.hid (HG.out.keep hb2)
  clear hb2
  have e0 := HG.out.c0
  have e1 := HG.out.c1
  go_wp2_with fail
  refine (CountSet_sv (lqN r m) hl _).mono ?_
  rintro e w3 ⟨rfl, hb3⟩
  clear e0 e1
  replace HB := Lib.hid (HB.out.keep hb3)
  replace HG := Lib.hid (HG.out.keep hb3)
  clear hb3
  have e0 := HG.out.c0
  have e1 := HG.out.c1
  go_wp2
  go_ret
  exact ⟨rfl, HB.out.below⟩
theorem l1In_tt {n lo hi : Int} (w : World) (h1 : lo ≤ n) (h2 : n ≤ hi) : Calls Tryz.prog 42 #[.int .i64 n, .int .i64 lo, .int .i64 hi] w fun e w' => e = .returned (.bool true) ∧ Below w.heap.size w w' :=
  (l1In_yes n lo hi w h1 h2).mono fun _ _ ⟨h1, h2⟩ => ⟨h1, h2 ▸ Below.refl _ _⟩
set_option maxRecDepth 100000 in
set_option maxHeartbeats 1600000 in
theorem ColoringWith_sv {k : Nat} {w : World} (h : GV w A m c r) (hk1 : 1 ≤ k) (hk7 : k ≤ 7) :
    Calls Tryz.prog 44 #[.agg #[.int .i64 m, .slice A m c], .int .i64 k] w fun e w' => ∃ A' n' c', e = .returned (.tuple #[.slice A' n' c', .bool (cOf r m k).isSome]) ∧ (∀ x, cOf r m k = some x → n' = x.length ∧ ON w.heap.size w' A' c' x) ∧ Below w.heap.size w w' := by
  have HL : Hid (∀ (z : World), From w z → Calls Tryz.prog 84 #[.agg #[.int .i64 m, .slice A m c], .int .i64 k, .slice (some ⟨z.heap.size, 0, none⟩) 0 0] (z.alloc (Obj.cells #[] 3)) fun e w' => ∃ A' n' c', e = .returned (.tuple #[.slice A' n' c', .bool (cOf r m k).isSome]) ∧ (∀ x, cOf r m k = some x → n' = x.length ∧ ON w.heap.size w' A' c' x) ∧ Below z.heap.size z w') := fun z hz => by
    refine (l24_s hk7 m [] (some ⟨z.heap.size, 0, none⟩) 0 (z.alloc (Obj.cells #[] 3)) w.heap.size (by simp) ((h.keep hz.below).keep ((Below.refl _ _).alloc (Nat.le_refl _) _)) ((ON.nil z).mono hz.below.size) (by have := hz.below.size; simp; omega)).mono ?_
    rintro e w' ⟨A', n', c', h1, h2, h3⟩
    exact ⟨A', n', c', h1, h2, ((Below.refl _ _).alloc (Nat.le_refl _) _).trans (h3.mono (by simp))⟩
  obtain ⟨W, hW⟩ : ∃ W : World, W = (w.alloc (Obj.cells #[Value.int IntKind.i64 m, Value.slice A m c] 27)) := ⟨_, rfl⟩
  have HB : Hid (From w W) := by rw [hW]; exact From.alloc _ _
  have HG : Hid (GBox W w.heap.size A m c r) := by rw [hW]; exact h.box
  have HW := Lib.hid hW
  clear hW h
  have e0 := HG.out.c0
  have e1 := HG.out.c1
  go_enter Tryz.func44, Tryz.ntmps44
  go_wp2_with fail
  rw [← HW.out]
  refine (IsGraph_sv HG.out.gv).mono ?_
  rintro e w1 ⟨rfl, hb1⟩
  clear HW
  clear e0 e1
  replace HB := Lib.hid (HB.out.keep hb1)
  replace HG := Lib.hid (HG.out.keep hb1)
  clear hb1
  have e0 := HG.out.c0
  have e1 := HG.out.c1
  go_wp2_with fail
  refine (l1In_tt (n := (k : Int)) (lo := 1) (hi := 7) w1 (by omega) (by omega)).mono ?_
  rintro e w2 ⟨rfl, hb2⟩
  clear e0 e1
  replace HB := Lib.hid (HB.out.keep hb2)
  replace HG := Lib.hid (HG.out.keep hb2)
  clear hb2
  have e0 := HG.out.c0
  have e1 := HG.out.c1
  have hlt := HG.out.lt
  go_wp2_with fail
  refine (HL.out _ HB.out).mono ?_
  rintro e w3 ⟨A5, n5, c5, rfl, hx, hb3⟩
  have HX := Lib.hid hx
  clear hx HL
  clear e0 e1
  replace HB := Lib.hid (HB.out.keep hb3)
  replace HG := Lib.hid (HG.out.keep hb3)
  clear hb3
  have e0 := HG.out.c0
  have e1 := HG.out.c1
  go_wp2
  go_ret2
  exact ⟨_, _, _, rfl, HX.out, HB.out.below⟩
set_option maxRecDepth 100000 in
set_option maxHeartbeats 1600000 in
theorem ChromaticNumber_sv {w : World} (h : GV w A m c r) :
    Calls Tryz.prog 13 #[.agg #[.int .i64 m, .slice A m c]] w fun e w' => e = .returned (.int .i64 (chN r m : Nat)) ∧ Below w.heap.size w w' := by
  have hn7 := h.vg.n7
  have hn1 := h.vg.n1
  obtain ⟨hcm, hsome, hmin⟩ := chN_spec (r := r) hn1
  have hpos := chN_pos (r := r) (m := m)
  have HS := Lib.hid hsome
  have HM := Lib.hid hmin
  obtain ⟨K, hK⟩ : ∃ K, K = chN r m := ⟨_, rfl⟩
  rw [← hK] at hcm HS HM hpos ⊢
  clear hsome hmin hK
  obtain ⟨W, hW⟩ : ∃ W : World, W = (w.alloc (Obj.cells #[Value.int IntKind.i64 m, Value.slice A m c] 27)) := ⟨_, rfl⟩
  have HB : Hid (From w W) := by rw [hW]; exact From.alloc _ _
  have HG : Hid (GBox W w.heap.size A m c r) := by rw [hW]; exact h.box
  have HW := Lib.hid hW
  clear hW h
  have e0 := HG.out.c0
  have e1 := HG.out.c1
  have HR0 : Hid (From W W) := From.refl W
  go_enter Tryz.func13, Tryz.ntmps13
  go_wp2_with fail
  rw [← HW.out]
  go_wp2
  go_loopw [3] (fun i wr => ∃ k : Nat, 1 ≤ k ∧ k ≤ K ∧ i = .int .i64 k ∧ Hid (From W wr)) (fun i _ => K - (intOf i).toNat)
  case atStart => exact ⟨1, Nat.le_refl _, hpos, rfl, HR0⟩
  case round =>
    clear HR0
    obtain ⟨k, hk1, hk, rfl, HR⟩ := hrel
    clear e0 e1
    replace HB := Lib.hid (HB.out.keep HR.out.below)
    replace HG := Lib.hid (HG.out.keep HR.out.below)
    have e0 := HG.out.c0
    have e1 := HG.out.c1
    have i1 : (k : Int) ≤ 7 := by omega
    go_wp2_with fail
    refine (IsGraph_sv HG.out.gv).mono ?_
    rintro e w1 ⟨rfl, hb1⟩
    clear e0 e1
    replace HB := Lib.hid (HB.out.keep hb1)
    replace HG := Lib.hid (HG.out.keep hb1)
    replace HR := Lib.hid (HR.out.keep hb1)
    clear hb1
    have e0 := HG.out.c0
    have e1 := HG.out.c1
    cases hs : (cOf r m k).isSome
    · have hlt : k < K := by
        by_cases e : k = K
        · subst e; rw [HS.out] at hs; cases hs
        · omega
      have Hs := Lib.hid hs
      clear hs
      go_wp2_with fail
      refine (ColoringWith_sv HG.out.gv hk1 (by omega)).mono ?_
      rintro e w5 ⟨A5, n5, c5, rfl, _, hb5⟩
      rw [Hs.out]
      clear e0 e1
      replace HB := Lib.hid (HB.out.keep hb5)
      replace HG := Lib.hid (HG.out.keep hb5)
      replace HR := Lib.hid (HR.out.keep hb5)
      clear hb5
      have e0 := HG.out.c0
      have e1 := HG.out.c1
      go_wp2
      go_roundw
      case rel => exact ⟨k + 1, by omega, by omega, by go_num, HR⟩
      case measure => (simp [intOf] <;> omega)
    · have hKe : k = K := by
        by_cases e : k < K
        · rw [HM.out k hk1 e] at hs; cases hs
        · omega
      have Hs := Lib.hid hs
      have HKe := Lib.hid hKe
      clear hs hKe
      go_wp2_with fail
      refine (ColoringWith_sv HG.out.gv hk1 (by omega)).mono ?_
      rintro e w5 ⟨A5, n5, c5, rfl, _, hb5⟩
      rw [Hs.out]
      clear e0 e1
      replace HB := Lib.hid (HB.out.keep hb5)
      replace HG := Lib.hid (HG.out.keep hb5)
      replace HR := Lib.hid (HR.out.keep hb5)
      clear hb5
      have e0 := HG.out.c0
      have e1 := HG.out.c1
      go_wp2
      go_ret
      exact ⟨ret_int (by rw [HKe.out]), HB.out.below⟩
end
end Go.Proofs.YtjonhbmgmamchaaGreatDoor
