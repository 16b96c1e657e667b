/-
  Contracts: the least dominating set, the greatest packing, their gap, the claim of a packing: the reference's.
-/
import Derived.Test.YtjonhbmgmamchaaGreatDoorRdPackP
import Derived.Deep.RegionHeld3
namespace Go.Proofs.YtjonhbmgmamchaaGreatDoor
open Go.RowKit

section
variable {A : Option Addr} {m c : Nat} {r : Nat → Nat}
set_option maxHeartbeats 1000000 in
theorem FewestDominating_sv {w : World} (h : GV w A m c r) :
    Calls Tryz.prog 18 #[.agg #[.int .i64 m, .slice A m c]] w fun e w' => e = .returned (.int .i64 (fdN r m : Nat)) ∧ Below w.heap.size w w' := by
  have hn7 := h.vg.n7
  have h128 := two_pow_le hn7
  have hpos := Nat.two_pow_pos m
  have hpc := pow_cast m
  have p1 := pow_shl m hn7
  have hq : Hid (fwI (fwK (domB r m) (2 ^ m)) = (fdN r m : Int)) := by show _ = _; rw [fd_some h.vg]; rfl
  obtain ⟨W, hW⟩ : ∃ W : World, W = (w.alloc (Obj.cells #[Value.int IntKind.i64 m, Value.slice A m c] 27)) := ⟨_, rfl⟩
  have HB : Hid (From w W) := by rw [hW]; exact From.alloc _ _
  have HG : Hid (GBox W w.heap.size A m c r) := by rw [hW]; exact h.box
  have HW := Lib.hid hW
  clear hW h
  have e0 := HG.out.c0
  have e1 := HG.out.c1
  go_enter Tryz.func18, Tryz.ntmps18
  go_wp2
  rw [← HW.out]
  clear HW
  go_loopw [3, 4] (fun b i wr => ∃ k : Nat, k ≤ 2 ^ m ∧ i = .int .i64 k ∧ b = .int .i64 (fwI (fwK (domB r m) k)) ∧ Hid (From W wr)) (fun _ i _ => 2 ^ m - (intOf i).toNat)
  case atStart => exact ⟨0, Nat.zero_le _, rfl, rfl, From.refl _⟩
  case round =>
    obtain ⟨k, hk, rfl, rfl, HR⟩ := hrel
    clear e0 e1
    replace HB := Lib.hid (HB.out.keep HR.out.below)
    replace HG := Lib.hid (HG.out.keep HR.out.below)
    have e0 := HG.out.c0
    have e1 := HG.out.c1
    go_wp2_with fail
    refine (IsGraph_sv HG.out.gv).mono ?_
    rintro e w1 ⟨rfl, hb1⟩
    clear e0 e1
    replace HB := Lib.hid (HB.out.keep hb1)
    replace HG := Lib.hid (HG.out.keep hb1)
    replace HR := Lib.hid (HR.out.keep hb1)
    clear hb1
    have e0 := HG.out.c0
    have e1 := HG.out.c1
    by_cases hlt : k < 2 ^ m
    · have i1 : (k : Int) < 2 ^ m := by omega
      go_wp2_with fail
      refine (IsDominating_sv HG.out.gv hlt).mono ?_
      rintro e w2 ⟨rfl, hb2⟩
      clear e0 e1
      replace HB := Lib.hid (HB.out.keep hb2)
      replace HG := Lib.hid (HG.out.keep hb2)
      replace HR := Lib.hid (HR.out.keep hb2)
      clear hb2
      have e0 := HG.out.c0
      have e1 := HG.out.c1
      cases hp : domB r m k
      · have Hn : Hid (fwK (domB r m) (k + 1) = fwK (domB r m) k) := fwK_no (.inr hp)
        clear hp
        go_wp2
        go_roundw
        case rel => exact ⟨k + 1, by omega, by go_num, by rw [Hn.out], HR⟩
        case measure => simp [intOf]; omega
      · cases hb : fwK (domB r m) k with
        | none =>
          have hq : fwI none = -1 := rfl
          rw [hq]
          have Hn : Hid (fwK (domB r m) (k + 1) = some k) := fwK_yes (fun b h => by rw [hb] at h; cases h) hp
          clear hp hb hq
          go_wp2
          go_roundw
          case rel => exact ⟨k + 1, by omega, by go_num, by rw [Hn.out]; rfl, HR⟩
          case measure => simp [intOf]; omega
        | some b =>
          have hbl := (fwK_lt k b hb).1
          have hq : fwI (some b) = (b : Int) := rfl
          rw [hq]
          have i3 : (0 : Int) ≤ (b : Int) := by omega
          clear hq
          go_wp2_with fail
          refine (CountSet_sv k (by omega) _).mono ?_
          rintro e w3 ⟨rfl, hb3⟩
          clear e0 e1
          replace HB := Lib.hid (HB.out.keep hb3)
          replace HG := Lib.hid (HG.out.keep hb3)
          replace HR := Lib.hid (HR.out.keep hb3)
          clear hb3
          have e0 := HG.out.c0
          have e1 := HG.out.c1
          go_wp2_with fail
          refine (CountSet_sv b (by omega) _).mono ?_
          rintro e w4 ⟨rfl, hb4⟩
          clear e0 e1
          replace HB := Lib.hid (HB.out.keep hb4)
          replace HG := Lib.hid (HG.out.keep hb4)
          replace HR := Lib.hid (HR.out.keep hb4)
          clear hb4
          have e0 := HG.out.c0
          have e1 := HG.out.c1
          by_cases hcn : cn k < cn b
          · have Hn : Hid (fwK (domB r m) (k + 1) = some k) := fwK_yes (fun b' h => by rw [hb] at h; injection h with h; subst h; exact hcn) hp
            have i2 : ((cn k : Nat) : Int) < ((cn b : Nat) : Int) := by omega
            clear hp hb
            go_wp2
            go_roundw
            case rel => exact ⟨k + 1, by omega, by go_num, by rw [Hn.out]; rfl, HR⟩
            case measure => simp [intOf]; omega
          · have Hn : Hid (fwK (domB r m) (k + 1) = some b) := (fwK_no (.inl ⟨b, hb, hcn⟩)).trans hb
            have i2 : ((cn b : Nat) : Int) ≤ ((cn k : Nat) : Int) := by omega
            clear hp hb
            go_wp2
            go_roundw
            case rel => exact ⟨k + 1, by omega, by go_num, by rw [Hn.out]; rfl, HR⟩
            case measure => simp [intOf]; omega
    · have hkm : k = 2 ^ m := by omega
      have i1 : (2 : Int) ^ m ≤ (k : Int) := by omega
      have Hk : Hid (fwK (domB r m) k = fwK (domB r m) (2 ^ m)) := by rw [hkm]; exact rfl
      clear hkm
      go_wp2
      go_ret
      exact ⟨ret_int (by rw [Hk.out, hq.out]), HB.out.below⟩

end

end Go.Proofs.YtjonhbmgmamchaaGreatDoor
