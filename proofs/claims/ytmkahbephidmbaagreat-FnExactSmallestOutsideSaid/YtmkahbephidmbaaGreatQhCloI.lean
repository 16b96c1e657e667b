/-
  Contracts: the largest cliques in ascending order; do the sets with a vertex follow one another? The program's.
-/
import Derived.Test.YtmkahbephidmbaaGreatQhClqP
import Derived.Test.YtmkahbephidmbaaGreatQhUmbP
import Derived.Test.YtmkahbephidmbaaGreatQhPthI
namespace Go.Proofs.YtmkahbephidmbaaGreat
open Go.RowKit

set_option maxRecDepth 100000 in
set_option maxHeartbeats 3200000 in
theorem MaximalCliques_v {A : Option Addr} {m c : Nat} {r : Nat → Nat} {w : World} (h : GV w A m c r) :
    Calls Tryz.prog 318 #[.agg #[.int .i64 m, .slice A m c]] w fun e w' => ∃ A' c', e = .returned (.slice A' (mqL r m).length c') ∧ ON w.heap.size w' A' c' (mqL r m) ∧ Below w.heap.size w w' := by
  have hn7 := h.vg.n7
  have h128 := two_pow_le hn7
  have hpos := Nat.two_pow_pos m
  have HV := Lib.hid h.vg
  have Hfin : Hid (mqK r m (2 ^ m) = mqL r m) := rfl
  obtain ⟨b0, o0, rfl⟩ := h.addr
  obtain ⟨W0, hW0⟩ : ∃ W0 : World, W0 = (w.alloc (Obj.cells #[Value.int IntKind.i64 m, Value.slice (some ⟨b0, o0, none⟩) m c] 30)) := ⟨_, rfl⟩
  have HB0 : Hid (From w W0) := by rw [hW0]; exact From.alloc _ _
  have HG0 : Hid (GBox W0 w.heap.size (some ⟨b0, o0, none⟩) m c r) := by rw [hW0]; exact h.box
  obtain ⟨W, hW⟩ : ∃ W : World, W = W0.alloc (Obj.cells #[] 3) := ⟨_, rfl⟩
  have HR : Hid (From W0 W) := by rw [hW]; exact From.alloc _ _
  have HO : Hid (ON W0.heap.size W (some ⟨W0.heap.size, 0, none⟩) 0 []) := by rw [hW]; exact ON.nil W0
  have HG := Lib.hid (HG0.out.keep HR.out.below)
  have HZ0 : Hid (w.heap.size + 1 = W0.heap.size) := by rw [hW0]; simp [Hid]
  have HW := Lib.hid hW
  have HW0 := Lib.hid hW0
  clear hW hW0 h
  go_enter Tryz.func318, Tryz.ntmps318
  go_wp2_with fail
  rw [← HW0.out, ← HW.out]
  clear HW HW0
  have e0 := HG.out.c0
  have e1 := HG.out.c1
  refine (IsGraph_v HG.out.gv).mono ?_
  rintro e w1 ⟨rfl, hb1⟩
  clear e0 e1
  replace HR := Lib.hid (HR.out.keep hb1)
  replace HO := Lib.hid (HO.out.keep hb1)
  replace HG := Lib.hid (HG.out.keep hb1)
  clear hb1
  have e0 := HG.out.c0
  have e1 := HG.out.c1
  have HO1 : Hid (ON W0.heap.size w1 (some ⟨W0.heap.size, 0, none⟩) 0 (mqK r m 1)) := by rw [mqK_one]; exact HO.out
  have Hl1 : Hid ((mqK r m 1).length = 0) := by show _ = _; rw [mqK_one]; rfl
  have HRa := HR
  clear e0 e1 HO HR
  go_wp2
  go_loopw [3, 4] (fun l i wr => ∃ (k : Nat) (A' : Option Addr) (c' : Nat), 1 ≤ k ∧ k ≤ 2 ^ m ∧ i = .int .i64 k ∧ l = .slice A' (mqK r m k).length c' ∧ Hid (ON W0.heap.size wr A' c' (mqK r m k)) ∧ Hid (From W0 wr)) (fun _ i _ => 2 ^ m - (intOf i).toNat)
  case atStart => exact ⟨1, _, 0, Nat.le_refl _, hpos, rfl, by rw [Hl1.out, HZ0.out], HO1, HRa⟩
  case round =>
    clear HO1 Hl1 HRa
    obtain ⟨k, A', c', hk1, hk, rfl, rfl, HO, HR⟩ := hrel
    have HG := Lib.hid (HG0.out.keep HR.out.below)
    have hml := mqK_len r m k
    have e0 := HG.out.c0
    have e1 := HG.out.c1
    go_wp2_with fail
    refine (all_v HG.out.gv).mono ?_
    rintro e w1 ⟨rfl, hb1⟩
    clear e0 e1
    replace HR := Lib.hid (HR.out.keep hb1)
    replace HO := Lib.hid (HO.out.keep hb1)
    replace HG := Lib.hid (HG.out.keep hb1)
    clear hb1
    have e0 := HG.out.c0
    have e1 := HG.out.c1
    by_cases hlt : k < 2 ^ m
    · have i1 : (k : Int) ≤ ((2 ^ m - 1 : Nat) : Int) := by omega
      have Hfx : Hid (mxK r k m = mxB r m k) := rfl
      go_wp2_with fail
      refine (isClique_v HG.out.gv hlt).mono ?_
      rintro e w2 ⟨rfl, hb2⟩
      clear e0 e1
      replace HR := Lib.hid (HR.out.keep hb2)
      replace HO := Lib.hid (HO.out.keep hb2)
      replace HG := Lib.hid (HG.out.keep hb2)
      clear hb2
      have e0 := HG.out.c0
      have e1 := HG.out.c1
      have Hz : Hid (cliq r k = mxK r k 0) := rfl
      rw [Hz.out]
      go_wp2
      go_loopw [5, 25] (fun b i wz => ∃ v : Nat, v ≤ m ∧ i = .int .i64 v ∧ b = .bool (mxK r k v) ∧ wz = w2) (fun _ i _ => m - (intOf i).toNat)
      case atStart => exact ⟨0, Nat.zero_le _, rfl, rfl, rfl⟩
      case round =>
        obtain ⟨v, hv, rfl, rfl, rfl⟩ := hrel
        by_cases hvm : v < m
        · have i2 : (v : Int) < (m : Int) := by omega
          have q0 := HG.out.gv.row hvm
          have hr := HV.out.lt128 hvm
          obtain ⟨x, hx⟩ : ∃ x, x = r v := ⟨_, rfl⟩
          have Hx := Lib.hid hx
          rw [← hx] at q0 hr
          have Hst : Hid (mxK r k (v + 1) = (mxK r k v && (k.testBit v || !(x &&& k == k)))) := by rw [hx]; exact rfl
          clear hx
          cases hf : mxK r k v
          · have Hs : Hid (mxK r k (v + 1) = false) := by show _ = _; rw [Hst.out, hf]; rfl
            clear hf
            go_wp2
            go_roundw
            case rel => exact ⟨v + 1, by omega, by go_num, by rw [Hs.out], by first | rfl | trivial⟩
            case measure => (simp [intOf] <;> omega)
          · cases hb : k.testBit v
            · have KH := Lib.hid (has_q (s := k) (v := v) (by omega) (by omega) hb wr)
              have E2 := i64_andNot_nat k x (by omega) (by omega)
              by_cases hx : x &&& k = k
              · have hz : k ^^^ (k &&& x) = 0 := (andNot_zero k x).2 (by rw [Nat.and_comm]; exact hx)
                rw [hz] at E2
                have Hs : Hid (mxK r k (v + 1) = false) := by show _ = _; rw [Hst.out, hf, hb, hx]; simp
                clear hf hb hx hz
                go_wp2_with fail
                refine KH.out.mono ?_
                rintro e w' ⟨rfl, rfl⟩
                go_wp2
                go_roundw
                case rel => exact ⟨v + 1, by omega, by go_num, by rw [Hs.out], by first | rfl | trivial⟩
                case measure => (simp [intOf] <;> omega)
              · have hz : k ^^^ (k &&& x) ≠ 0 := fun h => hx (by rw [Nat.and_comm]; exact (andNot_zero k x).1 h)
                have Hs : Hid (mxK r k (v + 1) = true) := by show _ = _; rw [Hst.out, hf, hb]; simp [hx]
                obtain ⟨y, hy⟩ : ∃ y, y = k ^^^ (k &&& x) := ⟨_, rfl⟩
                rw [← hy] at E2 hz
                have hyn : ((y : Int) != 0) = true := by simp; omega
                clear hf hb hx hy
                go_wp2_with fail
                refine KH.out.mono ?_
                rintro e w' ⟨rfl, rfl⟩
                go_wp2
                go_roundw
                case rel => exact ⟨v + 1, by omega, by go_num, by rw [Hs.out], by first | rfl | trivial⟩
                case measure => (simp [intOf] <;> omega)
            · have KH := Lib.hid (has_q (s := k) (v := v) (by omega) (by omega) hb wr)
              have Hs : Hid (mxK r k (v + 1) = true) := by show _ = _; rw [Hst.out, hf, hb]; rfl
              clear hf hb
              go_wp2_with fail
              refine KH.out.mono ?_
              rintro e w' ⟨rfl, rfl⟩
              go_wp2
              go_roundw
              case rel => exact ⟨v + 1, by omega, by go_num, by rw [Hs.out], by first | rfl | trivial⟩
              case measure => (simp [intOf] <;> omega)
        · obtain rfl : m = v := by omega
          rw [Hfx.out]
          clear e0 e1
          cases hmx : mxB r m k
          · have Hn : Hid (mqK r m (k + 1) = mqK r m k) := mqK_no hmx
            clear hmx
            go_wp2
            go_roundw
            case rel => exact ⟨k + 1, _, _, by omega, by omega, by go_num, by rw [Hn.out], by rw [Hn.out]; exact HO, HR⟩
            case measure => simp [intOf]; omega
          · have Hn : Hid (mqK r m (k + 1) = mqK r m k ++ [k]) := mqK_yes hk1 hmx
            clear hmx
            obtain ⟨T, hT⟩ : ∃ T, T = mqK r m k := ⟨_, rfl⟩
            rw [← hT] at Hn HO hml ⊢
            clear hT
            have hzr := HR.out.below.size
            go_wp2_with (first | (at_builtin; (refine wpList_pushN wr rfl _ _ rfl W0.heap.size wr.heap.size A' c' T HO.out.own hzr k rfl 1 wr.heap.size rfl rfl (by omega) ?_; intro g3 c3 w3 hO3 hb3)))
            have HOn : Hid (ON W0.heap.size w3 (some ⟨g3, 0, none⟩) c3 (T ++ [k])) := ⟨by rw [List.length_append]; exact hO3⟩
            have HRn : Hid (From W0 w3) := ⟨HR.out.below.trans hb3⟩
            clear hO3 hb3
            go_roundw
            case rel => exact ⟨k + 1, _, _, by omega, by omega, by go_num, by rw [Hn.out, List.length_append]; rfl, by rw [Hn.out]; exact HOn, HRn⟩
            case measure => simp [intOf]; omega
    · have hkm : k = 2 ^ m := by omega
      have i1 : ((2 ^ m - 1 : Nat) : Int) < (k : Int) := by omega
      have Hk : Hid (mqK r m k = mqL r m) := by rw [hkm]; exact Hfin.out
      have HBw : Hid (From w w1) := HB0.out.up HR.out
      have hz0 := HB0.out.below.size
      rw [Hk.out] at HO ⊢
      clear hkm hml
      go_wp2
      go_ret
      exact ⟨_, _, rfl, HO.out.mono hz0, HBw.out.below⟩
set_option maxRecDepth 100000 in
set_option maxHeartbeats 1600000 in
theorem MaximalCliques_no {sz : Int} {A : Option Addr} {m c : Nat} {x : Nat → Int} {w : World} (h : GA w A m c x) (hm : m ≤ 1048576) (hok : okB sz m x = false) :
    Calls Tryz.prog 318 #[.agg #[.int .i64 sz, .slice A m c]] w fun e w' => ∃ A' c', e = .returned (.slice A' 0 c') ∧ Below w.heap.size w w' := by
  obtain ⟨W, hW⟩ : ∃ W : World, W = ((w.alloc (Obj.cells #[Value.int IntKind.i64 sz, Value.slice A m c] 30)).alloc (Obj.cells #[] 3)) := ⟨_, rfl⟩
  have HB : Hid (From w W) := by rw [hW]; exact (From.alloc _ _).alloc_ _
  have HK := Lib.hid (h.keep HB.out.below)
  have HC : Hid (GC W w.heap.size sz A m c) := by rw [hW]; exact (GC.new _ _ _ _ _).keep ((Below.refl _ _).alloc (Nat.le_refl _) _)
  have HW := Lib.hid hW
  have Ho := Lib.hid hok
  clear hW h hok
  go_enter Tryz.func318, Tryz.ntmps318
  have e0 := HC.out.c0
  have e1 := HC.out.c1
  go_wp2_with fail
  rw [← HW.out]
  clear HW
  refine (IsGraph_any sz A m c x W W.heap.size HK.out.rd (Nat.le_refl _) hm).mono ?_
  rintro e w1 ⟨rfl, hb1⟩
  rw [Ho.out]
  clear e0 e1
  replace HB := Lib.hid (HB.out.keep hb1)
  replace HK := Lib.hid (HK.out.keep hb1)
  replace HC := Lib.hid (HC.out.keep hb1)
  clear hb1
  have e0 := HC.out.c0
  have e1 := HC.out.c1
  go_wp2
  go_ret
  exact ⟨_, _, rfl, HB.out.below⟩
set_option maxRecDepth 100000 in
set_option maxHeartbeats 3200000 in
theorem follow_v {Al : Option Addr} {cl : Nat} {l : List Nat} {w : World} (hl : LN w Al cl l) (hlt : ∀ s ∈ l, s < 128) (hlen : l.length ≤ 1048576) :
    Calls Tryz.prog 320 #[.slice Al l.length cl] w fun e w' => e = .returned (.bool (foB l)) ∧ Below w.heap.size w w' := by
  have HL := Lib.hid hl
  have Hlt := Lib.hid hlt
  have Hse := Lib.hid (seK_lt hlt)
  have HF : Hid (From w w) := From.refl w
  clear hl hlt
  go_enter Tryz.func320, Tryz.ntmps320
  go_wp2
  go_loopw [3, 4, 9] (fun a b i wr => ∃ k : Nat, k ≤ l.length ∧ i = .int .i64 k ∧ a = .int .i64 (seK l k : Nat) ∧ b = .int .i64 (laK l k : Nat) ∧ Hid (∀ j, j < k → fcB l j = true) ∧ wr = w) (fun _ _ i _ => l.length - (intOf i).toNat)
  case atStart => exact ⟨0, Nat.zero_le _, rfl, rfl, rfl, (fun j hj => absurd hj (by omega)), rfl⟩
  case round =>
    obtain ⟨k, hk, rfl, rfl, rfl, hall, rfl⟩ := hrel
    by_cases hkl : k < l.length
    · have i1 : (k : Int) < (l.length : Int) := by omega
      obtain ⟨b0, o0, rfl⟩ := HL.out.addr (by omega)
      have p0 := HL.out.at hkl
      have e : l[k] = l.getD k 0 := by simp [List.getD, hkl]
      rw [e] at p0
      have hx : l.getD k 0 < 128 := by rw [← e]; exact Hlt.out _ (List.getElem_mem hkl)
      have hs := Hse.out k (by omega)
      have hla : laK l k < 128 := by
        cases k with
        | zero => exact (by decide : (0 : Nat) < 128)
        | succ j =>
          show l.getD j 0 < 128
          have : l.getD j 0 = l[j] := by simp [List.getD, show j < l.length by omega]
          rw [this]; exact Hlt.out _ (List.getElem_mem _)
      have Hs1 : Hid (seK l (k + 1) = seK l k ||| l.getD k 0) := rfl
      have Hl1 : Hid (laK l (k + 1) = l.getD k 0) := rfl
      have Hfc : Hid (fcB l k = ((l.getD k 0 &&& seK l k) ^^^ ((l.getD k 0 &&& seK l k) &&& laK l k) == 0)) := rfl
      obtain ⟨x, hx'⟩ : ∃ x, x = l.getD k 0 := ⟨_, rfl⟩
      obtain ⟨y, hy'⟩ : ∃ y, y = seK l k := ⟨_, rfl⟩
      obtain ⟨z, hz'⟩ : ∃ z, z = laK l k := ⟨_, rfl⟩
      rw [← hx'] at p0 hx Hs1 Hl1 Hfc
      rw [← hy'] at hs Hs1 Hfc ⊢
      rw [← hz'] at hla Hfc ⊢
      have hand : x &&& y < 128 := Nat.lt_of_le_of_lt Nat.and_le_left hx
      have E1 := i64_and_nat x y (by omega) (by omega)
      have E2 := i64_andNot_nat (x &&& y) z (by omega) (by omega)
      have E3 := i64_or_nat y x (by omega) (by omega)
      obtain ⟨t, ht⟩ : ∃ t, t = (x &&& y) ^^^ ((x &&& y) &&& z) := ⟨_, rfl⟩
      obtain ⟨u, hu⟩ : ∃ u, u = x &&& y := ⟨_, rfl⟩
      obtain ⟨q, hq⟩ : ∃ q, q = y ||| x := ⟨_, rfl⟩
      rw [← ht] at E2 Hfc
      rw [← hu] at E1 E2
      rw [← hq] at E3 Hs1
      clear hx' hy' hz' ht hu hq e hand
      by_cases ht0 : t = 0
      · have hn0 : ((t : Int) != 0) = false := by simp; omega
        have Hy : Hid (∀ j, j < k + 1 → fcB l j = true) := fun j hj => by
          by_cases hjk : j < k
          · exact hall.out j hjk
          · obtain rfl : j = k := by omega
            rw [Hfc.out, ht0]; rfl
        clear ht0
        go_wp2
        go_roundw
        case rel => exact ⟨k + 1, by omega, by go_num, by rw [Hs1.out], by rw [Hl1.out], Hy, by first | rfl | trivial⟩
        case measure => (simp [intOf] <;> omega)
      · have hn0 : ((t : Int) != 0) = true := by simp; omega
        have Hn : Hid (foB l = false) := foB_no hkl (by rw [Hfc.out]; simpa using ht0)
        clear ht0
        go_wp2
        go_ret
        exact ⟨ret_bool Hn.out.symm, HF.out.below⟩
    · have Hy : Hid (foB l = true) := foB_yes fun i hi => hall.out i (by omega)
      have i1 : (l.length : Int) ≤ (k : Int) := by omega
      go_wp2
      go_ret
      exact ⟨ret_bool Hy.out.symm, HF.out.below⟩
end Go.Proofs.YtmkahbephidmbaaGreat
