/-
  Contracts: the largest cliques in ascending order; do the sets with a vertex follow one another? The first order of the cliques; is a graph an interval graph? The reference's.
-/
import Derived.Test.YtppkokgiojcgbaaDoorQzClqP
import Derived.Test.YtppkokgiojcgbaaDoorQzBest
import Derived.Test.YtppkokgiojcgbaaDoorQzSet2P
import Derived.Test.YtppkokgiojcgbaaDoorQzSet2I
import Derived.Test.YtppkokgiojcgbaaDoorQzGC
import Derived.Test.YtppkokgiojcgbaaDoorQzTake
import Derived.Deep.QuietTactic
import Derived.BigQuiet
import Derived.Test.YtppkokgiojcgbaaDoorQzColP
namespace Go.Proofs.YtppkokgiojcgbaaDoor
open Go.RowKit

set_option maxRecDepth 100000 in
set_option maxHeartbeats 3200000 in
theorem MaximalCliques_sv {A : Option Addr} {m c : Nat} {r : Nat → Nat} {w : World} (h : GV w A m c r) :
    Calls Tryd.prog 16 #[.agg #[.int .i64 m, .slice A m c]] w fun e w' => ∃ A' c', e = .returned (.slice A' (mqL r m).length c') ∧ ON w.heap.size w' A' c' (mqL r m) ∧ Below w.heap.size w w' := by
  have hn7 := h.vg.n7
  have h128 := two_pow_le hn7
  have hpos := Nat.two_pow_pos m
  have hpc := pow_cast m
  have p1 := pow_shl m hn7
  have HV := Lib.hid h.vg
  have Hfin : Hid (mqK r m (2 ^ m) = mqL r m) := rfl
  obtain ⟨b0, o0, rfl⟩ := h.addr
  obtain ⟨W0, hW0⟩ : ∃ W0 : World, W0 = (w.alloc (Obj.cells #[Value.int IntKind.i64 m, Value.slice (some ⟨b0, o0, none⟩) m c] 27)) := ⟨_, rfl⟩
  have HB0 : Hid (From w W0) := by rw [hW0]; exact From.alloc _ _
  have HG0 : Hid (GBox W0 w.heap.size (some ⟨b0, o0, none⟩) m c r) := by rw [hW0]; exact h.box
  obtain ⟨W, hW⟩ : ∃ W : World, W = W0.alloc (Obj.cells #[] 3) := ⟨_, rfl⟩
  have HRa : Hid (From W0 W) := by rw [hW]; exact From.alloc _ _
  have HO : Hid (ON W0.heap.size W (some ⟨W0.heap.size, 0, none⟩) 0 []) := by rw [hW]; exact ON.nil W0
  have HO1 : Hid (ON W0.heap.size W (some ⟨W0.heap.size, 0, none⟩) 0 (mqK r m 1)) := by rw [mqK_one]; exact HO.out
  have Hl1 : Hid ((mqK r m 1).length = 0) := by show _ = _; rw [mqK_one]; rfl
  have HZ0 : Hid (w.heap.size + 1 = W0.heap.size) := by rw [hW0]; simp [Hid]
  have HW := Lib.hid hW
  have HW0 := Lib.hid hW0
  clear hW hW0 h HO
  go_enter Tryd.func16, Tryd.ntmps16
  go_wp2
  rw [← HW0.out, ← HW.out]
  clear HW HW0
  go_loopw [3, 4] (fun l i wr => ∃ (k : Nat) (A' : Option Addr) (c' : Nat), 1 ≤ k ∧ k ≤ 2 ^ m ∧ i = .int .i64 k ∧ l = .slice A' (mqK r m k).length c' ∧ Hid (ON W0.heap.size wr A' c' (mqK r m k)) ∧ Hid (From W0 wr)) (fun _ i _ => 2 ^ m - (intOf i).toNat)
  case atStart => exact ⟨1, _, 0, Nat.le_refl _, hpos, rfl, by rw [Hl1.out, HZ0.out], HO1, HRa⟩
  case round =>
    clear HO1 Hl1 HRa
    obtain ⟨k, A', c', hk1, hk, rfl, rfl, HO, HR⟩ := hrel
    have HG := Lib.hid (HG0.out.keep HR.out.below)
    have hml := mqK_len r m k
    have e0 := HG.out.c0
    have e1 := HG.out.c1
    go_wp2_with fail
    refine (IsGraph_sv HG.out.gv).mono ?_
    rintro e w1 ⟨rfl, hb1⟩
    clear e0 e1
    replace HR := Lib.hid (HR.out.keep hb1)
    replace HO := Lib.hid (HO.out.keep hb1)
    replace HG := Lib.hid (HG.out.keep hb1)
    clear hb1
    have e0 := HG.out.c0
    have e1 := HG.out.c1
    by_cases hlt : k < 2 ^ m
    · have i1 : (k : Int) < 2 ^ m := by omega
      have Hfx : Hid (mxK r k m = mxB r m k) := rfl
      go_wp2_with fail
      refine (IsClique_sv HG.out.gv hlt).mono ?_
      rintro e w2 ⟨rfl, hb2⟩
      clear e0 e1
      replace HR := Lib.hid (HR.out.keep hb2)
      replace HO := Lib.hid (HO.out.keep hb2)
      replace HG := Lib.hid (HG.out.keep hb2)
      clear hb2
      have e0 := HG.out.c0
      have e1 := HG.out.c1
      cases hcl : cliq r k
      · have Hn : Hid (mqK r m (k + 1) = mqK r m k) := mqK_no (by rw [← Hfx.out]; exact mxK_no (j := 0) hcl (Nat.zero_le _))
        clear hcl
        go_wp2
        go_roundw
        case rel => exact ⟨k + 1, _, _, by omega, by omega, by go_num, by rw [Hn.out], by rw [Hn.out]; exact HO, HR⟩
        case measure => simp [intOf]; omega
      have Hz : Hid (mxK r k 0 = true) := hcl
      clear hcl
      go_wp2
      go_loopw [5, 6] (fun b i wz => ∃ v : Nat, v ≤ m ∧ i = .int .i64 v ∧ b = .bool (mxK r k v) ∧ wz = w2) (fun _ i _ => m - (intOf i).toNat)
      case atStart => exact ⟨0, Nat.zero_le _, rfl, by rw [Hz.out], rfl⟩
      case round =>
        obtain ⟨v, hv, rfl, rfl, rfl⟩ := hrel
        by_cases hvm : v < m
        · have i2 : (v : Int) < (m : Int) := by omega
          have q0 := HG.out.gv.row hvm
          have hr := HV.out.lt128 hvm
          obtain ⟨x, hx⟩ : ∃ x, x = r v := ⟨_, rfl⟩
          rw [← hx] at q0 hr
          have Hst : Hid (mxK r k (v + 1) = (mxK r k v && (k.testBit v || !(x &&& k == k)))) := by rw [hx]; exact rfl
          clear hx
          have E1 := and_one_i64 (k : Int) v (by omega) (by omega)
          rw [Int.toNat_natCast] at E1
          cases hf : mxK r k v
          · have Hs : Hid (mxK r k (v + 1) = false) := by show _ = _; rw [Hst.out, hf]; rfl
            clear hf
            go_wp2
            go_roundw
            case rel => exact ⟨v + 1, by omega, by go_num, by rw [Hs.out], by first | rfl | trivial⟩
            case measure => (simp [intOf] <;> omega)
          · cases hb : k.testBit v
            · rw [hb] at E1
              have E2 := i64_and_nat x k (by omega) (by omega)
              by_cases hx : x &&& k = k
              · rw [hx] at E2
                have Hs : Hid (mxK r k (v + 1) = false) := by show _ = _; rw [Hst.out, hf, hb, hx]; simp
                clear hf hb hx
                go_wp2
                go_roundw
                case rel => exact ⟨v + 1, by omega, by go_num, by rw [Hs.out], by first | rfl | trivial⟩
                case measure => (simp [intOf] <;> omega)
              · have Hs : Hid (mxK r k (v + 1) = true) := by show _ = _; rw [Hst.out, hf, hb]; simp [hx]
                obtain ⟨y, hy⟩ : ∃ y, y = x &&& k := ⟨_, rfl⟩
                rw [← hy] at E2 hx
                have hyn : ((y : Int) != (k : Int)) = true := by simp; omega
                clear hf hb hx hy
                go_wp2
                go_roundw
                case rel => exact ⟨v + 1, by omega, by go_num, by rw [Hs.out], by first | rfl | trivial⟩
                case measure => (simp [intOf] <;> omega)
            · rw [hb] at E1
              have Hs : Hid (mxK r k (v + 1) = true) := by show _ = _; rw [Hst.out, hf, hb]; rfl
              clear hf hb
              go_wp2
              go_roundw
              case rel => exact ⟨v + 1, by omega, by go_num, by rw [Hs.out], by first | rfl | trivial⟩
              case measure => (simp [intOf] <;> omega)
        · obtain rfl : m = v := by omega
          rw [Hfx.out]
          cases hmx : mxB r m k
          · have Hn : Hid (mqK r m (k + 1) = mqK r m k) := mqK_no hmx
            clear hmx
            go_wp2
            go_roundw
            case rel => exact ⟨k + 1, _, _, by omega, by omega, by go_num, by rw [Hn.out], by rw [Hn.out]; exact HO, HR⟩
            case measure => simp [intOf]; omega
          · have Hn : Hid (mqK r m (k + 1) = mqK r m k ++ [k]) := mqK_yes hk1 hmx
            clear hmx
            obtain ⟨T, hT⟩ : ∃ T, T = mqK r m k := ⟨_, rfl⟩
            rw [← hT] at Hn HO hml ⊢
            clear hT
            have hzr := HR.out.below.size
            go_wp2_with (first | (at_builtin; (refine wpList_pushN wr rfl _ _ rfl W0.heap.size wr.heap.size A' c' T HO.out.own hzr k rfl 1 wr.heap.size rfl rfl (by omega) ?_; intro g3 c3 w3 hO3 hb3)))
            have HOn : Hid (ON W0.heap.size w3 (some ⟨g3, 0, none⟩) c3 (T ++ [k])) := ⟨by rw [List.length_append]; exact hO3⟩
            have HRn : Hid (From W0 w3) := ⟨HR.out.below.trans hb3⟩
            clear hO3 hb3
            go_roundw
            case rel => exact ⟨k + 1, _, _, by omega, by omega, by go_num, by rw [Hn.out, List.length_append]; rfl, by rw [Hn.out]; exact HOn, HRn⟩
            case measure => simp [intOf]; omega
    · have hkm : k = 2 ^ m := by omega
      have i1 : (2 : Int) ^ m ≤ (k : Int) := by omega
      have Hk : Hid (mqK r m k = mqL r m) := by rw [hkm]; exact Hfin.out
      have HBw : Hid (From w w1) := HB0.out.up HR.out
      have hz0 := HB0.out.below.size
      rw [Hk.out] at HO ⊢
      clear hkm hml
      go_wp2
      go_ret
      exact ⟨_, _, rfl, HO.out.mono hz0, HBw.out.below⟩
end Go.Proofs.YtppkokgiojcgbaaDoor
