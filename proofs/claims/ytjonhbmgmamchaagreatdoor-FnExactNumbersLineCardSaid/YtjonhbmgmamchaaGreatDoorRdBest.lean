/-
  Contracts: the least set with most, with fewest vertices for which something holds, whatever it is: the program's searches.
-/
import Derived.Test.YtjonhbmgmamchaaGreatDoorRdV
import Derived.Test.YtjonhbmgmamchaaGreatDoorRdGA
namespace Go.Proofs.YtjonhbmgmamchaaGreatDoor
open Go.RowKit

theorem CountSet_v (s : Nat) (hs : s < 128) (w : World) :
    Calls Tryz.prog 29 #[.int .i64 s] w fun e w' => e = .returned (.int .i64 (cn s : Int)) ∧ Below w.heap.size w w' := CountSet_i s hs w
theorem CountSet_sv (s : Nat) (hs : s < 128) (w : World) :
    Calls Tryz.prog 14 #[.int .i64 s] w fun e w' => e = .returned (.int .i64 (cn s : Int)) ∧ Below w.heap.size w w' := CountSet_s s hs w

section
variable {A : Option Addr} {m c : Nat} {r : Nat → Nat} {fn : FuncId} {caps : Array Value} {p : Nat → Bool}
set_option maxHeartbeats 1000000 in
theorem largest_g (hef : Ent fn) (w : World) (h : GV w A m c r)
    (HF : ∀ (s : Nat) (z : World), s < 2 ^ m → Below w.heap.size w z → Calls Tryz.prog fn (#[.agg #[.int .i64 m, .slice A m c], .int .i64 s] ++ caps) z (fun e z' => e = .returned (.bool (p s)) ∧ Below z.heap.size z z')) :
    Calls Tryz.prog 62 #[.agg #[.int .i64 m, .slice A m c], .func (.func fn) #[] caps] w fun e w' => e = .returned (.int .i64 (lgK p (2 ^ m) : Nat)) ∧ Below w.heap.size w w' := by
  have hn7 := h.vg.n7
  unfold Ent at hef
  have h128 := two_pow_le hn7
  have hpos := Nat.two_pow_pos m
  obtain ⟨W, hW⟩ : ∃ W : World, W = (w.alloc (Obj.cells #[Value.int IntKind.i64 m, Value.slice A m c] 27)) := ⟨_, rfl⟩
  have HB : Hid (From w W) := by rw [hW]; exact From.alloc _ _
  have HG : Hid (GBox W w.heap.size A m c r) := by rw [hW]; exact h.box
  have HW := Lib.hid hW
  clear hW h
  have e0 := HG.out.c0
  have e1 := HG.out.c1
  have HF := Lib.hid HF
  go_enter Tryz.func62, Tryz.ntmps62
  go_wp2_with fail
  rw [← HW.out]
  refine (IsGraph_v HG.out.gv).mono ?_
  rintro e w1 ⟨rfl, hb1⟩
  clear HW
  clear e0 e1
  replace HB := Lib.hid (HB.out.keep hb1)
  replace HG := Lib.hid (HG.out.keep hb1)
  clear hb1
  have e0 := HG.out.c0
  have e1 := HG.out.c1
  go_wp2
  go_loopw [5, 6] (fun b i wr => ∃ k : Nat, 1 ≤ k ∧ k ≤ 2 ^ m ∧ i = .int .i64 k ∧ b = .int .i64 (lgK p k : Nat) ∧ Hid (From w1 wr)) (fun _ i _ => 2 ^ m - (intOf i).toNat)
  case atStart => exact ⟨1, Nat.le_refl _, hpos, rfl, by rw [lgK_one]; rfl, From.refl _⟩
  case round =>
    obtain ⟨k, hk1, hk, rfl, rfl, HR⟩ := hrel
    clear e0 e1
    replace HB := Lib.hid (HB.out.keep HR.out.below)
    replace HG := Lib.hid (HG.out.keep HR.out.below)
    have e0 := HG.out.c0
    have e1 := HG.out.c1
    have hlk := lgK_lt (p := p) k (by omega)
    go_wp2_with fail
    refine (all_v HG.out.gv).mono ?_
    rintro e w2 ⟨rfl, hb2⟩
    clear e0 e1
    replace HB := Lib.hid (HB.out.keep hb2)
    replace HG := Lib.hid (HG.out.keep hb2)
    replace HR := Lib.hid (HR.out.keep hb2)
    clear hb2
    have e0 := HG.out.c0
    have e1 := HG.out.c1
    by_cases hlt : k < 2 ^ m
    · have i1 : (k : Int) ≤ ((2 ^ m - 1 : Nat) : Int) := by omega
      go_wp2_with fail
      refine (CountSet_v k (by omega) _).mono ?_
      rintro e w3 ⟨rfl, hb3⟩
      clear e0 e1
      replace HB := Lib.hid (HB.out.keep hb3)
      replace HG := Lib.hid (HG.out.keep hb3)
      replace HR := Lib.hid (HR.out.keep hb3)
      clear hb3
      have e0 := HG.out.c0
      have e1 := HG.out.c1
      go_wp2_with fail
      refine (CountSet_v (lgK p k) (by omega) _).mono ?_
      rintro e w4 ⟨rfl, hb4⟩
      clear e0 e1
      replace HB := Lib.hid (HB.out.keep hb4)
      replace HG := Lib.hid (HG.out.keep hb4)
      replace HR := Lib.hid (HR.out.keep hb4)
      clear hb4
      have e0 := HG.out.c0
      have e1 := HG.out.c1
      by_cases hcn : cn (lgK p k) < cn k
      · have KF := Lib.hid (HF.out k _ hlt HB.out.below)
        have i2 : ((cn (lgK p k) : Nat) : Int) < ((cn k : Nat) : Int) := by omega
        go_wp2_with fail
        refine (KF.out).mono ?_
        rintro e w5 ⟨rfl, hb5⟩
        clear e0 e1
        replace HB := Lib.hid (HB.out.keep hb5)
        replace HG := Lib.hid (HG.out.keep hb5)
        replace HR := Lib.hid (HR.out.keep hb5)
        clear hb5
        have e0 := HG.out.c0
        have e1 := HG.out.c1
        cases hp : p k
        · have Hn : Hid (lgK p (k + 1) = lgK p k) := lgK_no (.inr hp)
          clear hp KF
          go_wp2
          go_roundw
          case rel => exact ⟨k + 1, by omega, by omega, by go_num, by rw [Hn.out], HR⟩
          case measure => simp [intOf]; omega
        · have Hn : Hid (lgK p (k + 1) = k) := lgK_yes hcn hp
          clear hp KF
          go_wp2
          go_roundw
          case rel => exact ⟨k + 1, by omega, by omega, by go_num, by rw [Hn.out], HR⟩
          case measure => simp [intOf]; omega
      · have Hn : Hid (lgK p (k + 1) = lgK p k) := lgK_no (.inl hcn)
        have i2 : ((cn k : Nat) : Int) ≤ ((cn (lgK p k) : Nat) : Int) := by omega
        go_wp2
        go_roundw
        case rel => exact ⟨k + 1, by omega, by omega, by go_num, by rw [Hn.out], HR⟩
        case measure => simp [intOf]; omega
    · have hkm : k = 2 ^ m := by omega
      have i1 : ((2 ^ m - 1 : Nat) : Int) < (k : Int) := by omega
      have Hk : Hid (lgK p k = lgK p (2 ^ m)) := by rw [hkm]; exact rfl
      clear hkm
      go_wp2
      go_ret
      exact ⟨ret_int (by rw [Hk.out]), HB.out.below⟩

set_option maxHeartbeats 1000000 in
theorem fewest_g (hef : Ent fn) (w : World) (h : GV w A m c r)
    (HF : ∀ (s : Nat) (z : World), s < 2 ^ m → Below w.heap.size w z → Calls Tryz.prog fn (#[.agg #[.int .i64 m, .slice A m c], .int .i64 s] ++ caps) z (fun e z' => e = .returned (.bool (p s)) ∧ Below z.heap.size z z')) :
    Calls Tryz.prog 67 #[.agg #[.int .i64 m, .slice A m c], .func (.func fn) #[] caps] w fun e w' => e = .returned (.int .i64 (fwI (fwK p (2 ^ m)))) ∧ Below w.heap.size w w' := by
  have hn7 := h.vg.n7
  unfold Ent at hef
  have h128 := two_pow_le hn7
  have hpos := Nat.two_pow_pos m
  have s1 : wrap64 (((2 ^ m - 1 : Nat) : Int) + 1) = ((2 ^ m : Nat) : Int) := by
    rw [Go.IntWalk.wrap64_in _ (by omega)]; omega
  obtain ⟨W, hW⟩ : ∃ W : World, W = (w.alloc (Obj.cells #[Value.int IntKind.i64 m, Value.slice A m c] 27)) := ⟨_, rfl⟩
  have HB : Hid (From w W) := by rw [hW]; exact From.alloc _ _
  have HG : Hid (GBox W w.heap.size A m c r) := by rw [hW]; exact h.box
  have HW := Lib.hid hW
  clear hW h
  have e0 := HG.out.c0
  have e1 := HG.out.c1
  have HF := Lib.hid HF
  have HS := Lib.hid s1
  go_enter Tryz.func67, Tryz.ntmps67
  go_wp2_with fail
  rw [← HW.out]
  refine (IsGraph_v HG.out.gv).mono ?_
  rintro e w1 ⟨rfl, hb1⟩
  clear HW
  clear e0 e1
  replace HB := Lib.hid (HB.out.keep hb1)
  replace HG := Lib.hid (HG.out.keep hb1)
  clear hb1
  have e0 := HG.out.c0
  have e1 := HG.out.c1
  go_wp2_with fail
  refine (all_v HG.out.gv).mono ?_
  rintro e w2 ⟨rfl, hb2⟩
  clear e0 e1
  replace HB := Lib.hid (HB.out.keep hb2)
  replace HG := Lib.hid (HG.out.keep hb2)
  clear hb2
  have e0 := HG.out.c0
  have e1 := HG.out.c1
  go_wp2
  go_loopw [5, 13] (fun b i wr => ∃ k : Nat, k ≤ 2 ^ m ∧ i = .int .i64 k ∧ b = .int .i64 (fwI (fwK p k)) ∧ Hid (From w2 wr)) (fun _ i _ => 2 ^ m - (intOf i).toNat)
  case atStart => exact ⟨0, Nat.zero_le _, rfl, rfl, From.refl _⟩
  case round =>
    obtain ⟨k, hk, rfl, rfl, HR⟩ := hrel
    clear e0 e1
    replace HB := Lib.hid (HB.out.keep HR.out.below)
    replace HG := Lib.hid (HG.out.keep HR.out.below)
    have e0 := HG.out.c0
    have e1 := HG.out.c1
    by_cases hlt : k < 2 ^ m
    · have i1 : (k : Int) < ((2 ^ m : Nat) : Int) := by omega
      cases hb : fwK p k with
      | none =>
        have KF := Lib.hid (HF.out k _ hlt HB.out.below)
        have hq : fwI none = -1 := rfl
        rw [hq]
        clear hq
        go_wp2_with fail
        refine (KF.out).mono ?_
        rintro e w3 ⟨rfl, hb3⟩
        clear e0 e1
        replace HB := Lib.hid (HB.out.keep hb3)
        replace HG := Lib.hid (HG.out.keep hb3)
        replace HR := Lib.hid (HR.out.keep hb3)
        clear hb3
        have e0 := HG.out.c0
        have e1 := HG.out.c1
        cases hp : p k
        · have Hn : Hid (fwK p (k + 1) = none) := (fwK_no (.inr hp)).trans hb
          clear hp KF hb
          go_wp2
          go_roundw
          case rel => exact ⟨k + 1, by omega, by go_num, by rw [Hn.out]; rfl, HR⟩
          case measure => simp [intOf]; omega
        · have Hn : Hid (fwK p (k + 1) = some k) := fwK_yes (fun b h => by rw [hb] at h; cases h) hp
          clear hp KF hb
          go_wp2
          go_roundw
          case rel => exact ⟨k + 1, by omega, by go_num, by rw [Hn.out]; rfl, HR⟩
          case measure => simp [intOf]; omega
      | some b =>
        have hbl := (fwK_lt k b hb).1
        have hq : fwI (some b) = (b : Int) := rfl
        rw [hq]
        have i3 : (0 : Int) ≤ (b : Int) := by omega
        clear hq
        go_wp2_with fail
        refine (CountSet_v k (by omega) _).mono ?_
        rintro e w4 ⟨rfl, hb4⟩
        clear e0 e1
        replace HB := Lib.hid (HB.out.keep hb4)
        replace HG := Lib.hid (HG.out.keep hb4)
        replace HR := Lib.hid (HR.out.keep hb4)
        clear hb4
        have e0 := HG.out.c0
        have e1 := HG.out.c1
        go_wp2_with fail
        refine (CountSet_v b (by omega) _).mono ?_
        rintro e w5 ⟨rfl, hb5⟩
        clear e0 e1
        replace HB := Lib.hid (HB.out.keep hb5)
        replace HG := Lib.hid (HG.out.keep hb5)
        replace HR := Lib.hid (HR.out.keep hb5)
        clear hb5
        have e0 := HG.out.c0
        have e1 := HG.out.c1
        by_cases hcn : cn k < cn b
        · have KF := Lib.hid (HF.out k _ hlt HB.out.below)
          have i2 : ((cn k : Nat) : Int) < ((cn b : Nat) : Int) := by omega
          go_wp2_with fail
          refine (KF.out).mono ?_
          rintro e w6 ⟨rfl, hb6⟩
          clear e0 e1
          replace HB := Lib.hid (HB.out.keep hb6)
          replace HG := Lib.hid (HG.out.keep hb6)
          replace HR := Lib.hid (HR.out.keep hb6)
          clear hb6
          have e0 := HG.out.c0
          have e1 := HG.out.c1
          cases hp : p k
          · have Hn : Hid (fwK p (k + 1) = some b) := (fwK_no (.inr hp)).trans hb
            clear hp KF hb
            go_wp2
            go_roundw
            case rel => exact ⟨k + 1, by omega, by go_num, by rw [Hn.out]; rfl, HR⟩
            case measure => simp [intOf]; omega
          · have Hn : Hid (fwK p (k + 1) = some k) := fwK_yes (fun b' h => by rw [hb] at h; injection h with h; subst h; exact hcn) hp
            clear hp KF hb
            go_wp2
            go_roundw
            case rel => exact ⟨k + 1, by omega, by go_num, by rw [Hn.out]; rfl, HR⟩
            case measure => simp [intOf]; omega
        · have Hn : Hid (fwK p (k + 1) = some b) := (fwK_no (.inl ⟨b, hb, hcn⟩)).trans hb
          have i2 : ((cn b : Nat) : Int) ≤ ((cn k : Nat) : Int) := by omega
          clear hb
          go_wp2
          go_roundw
          case rel => exact ⟨k + 1, by omega, by go_num, by rw [Hn.out]; rfl, HR⟩
          case measure => simp [intOf]; omega
    · have hkm : k = 2 ^ m := by omega
      have i1 : ((2 ^ m : Nat) : Int) ≤ (k : Int) := by omega
      have Hk : Hid (fwK p k = fwK p (2 ^ m)) := by rw [hkm]; exact rfl
      clear hkm
      go_wp2
      go_ret
      exact ⟨ret_int (by rw [Hk.out]), HB.out.below⟩
end
end Go.Proofs.YtjonhbmgmamchaaGreatDoor
