/-
  Several texts in one.
-/
import Derived.Test.YticadlkcjhglnaaGreatQnOrlP
import Derived.Test.YticadlkcjhglnaaGreatQnCls
import Derived.Test.YticadlkcjhglnaaGreatQnListS
import Derived.Test.YticadlkcjhglnaaGreatQnGC
import Derived.Test.YticadlkcjhglnaaGreatQnSimS
import Derived.Test.YticadlkcjhglnaaGreatQnChdI
/-
-/
namespace Go.Proofs.YticadlkcjhglnaaGreat
open Go.RowKit
set_option maxRecDepth 100000 in
set_option maxHeartbeats 3200000 in
theorem MaximalCliques_sv {A : Option Addr} {m c : Nat} {r : Nat → Nat} {w : World} (h : GV w A m c r) :
 Calls Tryz.prog 151 #[.agg #[.int .i64 m, .slice A m c]] w fun e w' => ∃ A' c', e = .returned (.slice A' (mqL r m).length c') ∧ ON w.heap.size w' A' c' (mqL r m) ∧ Below w.heap.size w w' := by
 have hn7 := h.vg.n7
 have h128 := two_pow_le hn7
 have hpos := Nat.two_pow_pos m
 have hpc := pow_cast m
 have p1 := pow_shl m hn7
 have HV := Lib.hid h.vg
 have Hfin : Hid (mqK r m (2 ^ m) = mqL r m) := rfl
 obtain ⟨b0, o0, rfl⟩ := h.addr
 obtain ⟨W0, hW0⟩ : ∃ W0 : World, W0 = (w.alloc (Obj.cells #[Value.int IntKind.i64 m, Value.slice (some ⟨b0, o0, none⟩) m c] 26)) := ⟨_, rfl⟩
 have HB0 : Hid (From w W0) := by rw [hW0]; exact From.alloc _ _
 have HG0 : Hid (GBox W0 w.heap.size (some ⟨b0, o0, none⟩) m c r) := by rw [hW0]; exact h.box
 obtain ⟨W, hW⟩ : ∃ W : World, W = W0.alloc (Obj.cells #[] 3) := ⟨_, rfl⟩
 have HRa : Hid (From W0 W) := by rw [hW]; exact From.alloc _ _
 have HO : Hid (ON W0.heap.size W (some ⟨W0.heap.size, 0, none⟩) 0 []) := by rw [hW]; exact ON.nil W0
 have HO1 : Hid (ON W0.heap.size W (some ⟨W0.heap.size, 0, none⟩) 0 (mqK r m 1)) := by rw [mqK_one]; exact HO.out
 have Hl1 : Hid ((mqK r m 1).length = 0) := by show _ = _; rw [mqK_one]; rfl
 have HZ0 : Hid (w.heap.size + 1 = W0.heap.size) := by rw [hW0]; simp [Hid]
 have HW := Lib.hid hW
 have HW0 := Lib.hid hW0
 clear hW hW0 h HO
 go_enter Tryz.func151, Tryz.ntmps151
 go_wp2
 rw [← HW0.out, ← HW.out]
 clear HW HW0
 go_loopw [3, 4] (fun l i wr => ∃ (k : Nat) (A' : Option Addr) (c' : Nat), 1 ≤ k ∧ k ≤ 2 ^ m ∧ i = .int .i64 k ∧ l = .slice A' (mqK r m k).length c' ∧ Hid (ON W0.heap.size wr A' c' (mqK r m k)) ∧ Hid (From W0 wr)) (fun _ i _ => 2 ^ m - (intOf i).toNat)
 case atStart => exact ⟨1, _, 0, Nat.le_refl _, hpos, rfl, by rw [Hl1.out, HZ0.out], HO1, HRa⟩
 case round =>
  clear HO1 Hl1 HRa
  obtain ⟨k, A', c', hk1, hk, rfl, rfl, HO, HR⟩ := hrel
  have HG := Lib.hid (HG0.out.keep HR.out.below)
  have hml := mqK_len r m k
  have e0 := HG.out.c0
  have e1 := HG.out.c1
  go_wp2_with fail
  refine (IsGraph_sv HG.out.gv).mono ?_
  rintro e w1 ⟨rfl, hb1⟩
  clear e0 e1
  replace HR := Lib.hid (HR.out.keep hb1)
  replace HO := Lib.hid (HO.out.keep hb1)
  replace HG := Lib.hid (HG.out.keep hb1)
  clear hb1
  have e0 := HG.out.c0
  have e1 := HG.out.c1
  by_cases hlt : k < 2 ^ m
  ·have i1 : (k : Int) < 2 ^ m := by omega
   have Hfx : Hid (mxK r k m = mxB r m k) := rfl
   go_wp2_with fail
   refine (IsClique_sv HG.out.gv hlt).mono ?_
   rintro e w2 ⟨rfl, hb2⟩
   clear e0 e1
   replace HR := Lib.hid (HR.out.keep hb2)
   replace HO := Lib.hid (HO.out.keep hb2)
   replace HG := Lib.hid (HG.out.keep hb2)
   clear hb2
   have e0 := HG.out.c0
   have e1 := HG.out.c1
   cases hcl : cliq r k
   ·have Hn : Hid (mqK r m (k + 1) = mqK r m k) := mqK_no (by rw [← Hfx.out]; exact mxK_no (j := 0) hcl (Nat.zero_le _))
    clear hcl
    go_wp2
    go_roundw
    case rel => exact ⟨k + 1, _, _, by omega, by omega, by go_num, by rw [Hn.out], by rw [Hn.out]; exact HO, HR⟩
    case measure => simp [intOf]; omega
   have Hz : Hid (mxK r k 0 = true) := hcl
   clear hcl
   go_wp2
   go_loopw [5, 6] (fun b i wz => ∃ v : Nat, v ≤ m ∧ i = .int .i64 v ∧ b = .bool (mxK r k v) ∧ wz = w2) (fun _ i _ => m - (intOf i).toNat)
   case atStart => exact ⟨0, Nat.zero_le _, rfl, by rw [Hz.out], rfl⟩
   case round =>
    obtain ⟨v, hv, rfl, rfl, rfl⟩ := hrel
    by_cases hvm : v < m
    ·have i2 : (v : Int) < (m : Int) := by omega
     have q0 := HG.out.gv.row hvm
     have hr := HV.out.lt128 hvm
     obtain ⟨x, hx⟩ : ∃ x, x = r v := ⟨_, rfl⟩
     rw [← hx] at q0 hr
     have Hst : Hid (mxK r k (v + 1) = (mxK r k v && (k.testBit v || !(x &&& k == k)))) := by rw [hx]; exact rfl
     clear hx
     have E1 := and_one_i64 (k : Int) v (by omega) (by omega)
     rw [Int.toNat_natCast] at E1
     cases hf : mxK r k v
     ·have Hs : Hid (mxK r k (v + 1) = false) := by show _ = _; rw [Hst.out, hf]; rfl
      clear hf
      go_wp2
      go_roundw
      case rel => exact ⟨v + 1, by omega, by go_num, by rw [Hs.out], by first | rfl | trivial⟩
      case measure => (simp [intOf] <;> omega)
     ·cases hb : k.testBit v
      ·rw [hb] at E1
       have E2 := i64_and_nat x k (by omega) (by omega)
       by_cases hx : x &&& k = k
       ·rw [hx] at E2
        have Hs : Hid (mxK r k (v + 1) = false) := by show _ = _; rw [Hst.out, hf, hb, hx]; simp
        clear hf hb hx
        go_wp2
        go_roundw
        case rel => exact ⟨v + 1, by omega, by go_num, by rw [Hs.out], by first | rfl | trivial⟩
        case measure => (simp [intOf] <;> omega)
       ·have Hs : Hid (mxK r k (v + 1) = true) := by show _ = _; rw [Hst.out, hf, hb]; simp [hx]
        obtain ⟨y, hy⟩ : ∃ y, y = x &&& k := ⟨_, rfl⟩
        rw [← hy] at E2 hx
        have hyn : ((y : Int) != (k : Int)) = true := by simp; omega
        clear hf hb hx hy
        go_wp2
        go_roundw
        case rel => exact ⟨v + 1, by omega, by go_num, by rw [Hs.out], by first | rfl | trivial⟩
        case measure => (simp [intOf] <;> omega)
      ·rw [hb] at E1
       have Hs : Hid (mxK r k (v + 1) = true) := by show _ = _; rw [Hst.out, hf, hb]; rfl
       clear hf hb
       go_wp2
       go_roundw
       case rel => exact ⟨v + 1, by omega, by go_num, by rw [Hs.out], by first | rfl | trivial⟩
       case measure => (simp [intOf] <;> omega)
    ·obtain rfl : m = v := by omega
     rw [Hfx.out]
     cases hmx : mxB r m k
     ·have Hn : Hid (mqK r m (k + 1) = mqK r m k) := mqK_no hmx
      clear hmx
      go_wp2
      go_roundw
      case rel => exact ⟨k + 1, _, _, by omega, by omega, by go_num, by rw [Hn.out], by rw [Hn.out]; exact HO, HR⟩
      case measure => simp [intOf]; omega
     ·have Hn : Hid (mqK r m (k + 1) = mqK r m k ++ [k]) := mqK_yes hk1 hmx
      clear hmx
      obtain ⟨T, hT⟩ : ∃ T, T = mqK r m k := ⟨_, rfl⟩
      rw [← hT] at Hn HO hml ⊢
      clear hT
      have hzr := HR.out.below.size
      go_wp2_with (first | (at_builtin; (refine wpList_pushN wr rfl _ _ rfl W0.heap.size wr.heap.size A' c' T HO.out.own hzr k rfl 1 wr.heap.size rfl rfl (by omega) ?_; intro g3 c3 w3 hO3 hb3)))
      have HOn : Hid (ON W0.heap.size w3 (some ⟨g3, 0, none⟩) c3 (T ++ [k])) := ⟨by rw [List.length_append]; exact hO3⟩
      have HRn : Hid (From W0 w3) := ⟨HR.out.below.trans hb3⟩
      clear hO3 hb3
      go_roundw
      case rel => exact ⟨k + 1, _, _, by omega, by omega, by go_num, by rw [Hn.out, List.length_append]; rfl, by rw [Hn.out]; exact HOn, HRn⟩
      case measure => simp [intOf]; omega
  ·have hkm : k = 2 ^ m := by omega
   have i1 : (2 : Int) ^ m ≤ (k : Int) := by omega
   have Hk : Hid (mqK r m k = mqL r m) := by rw [hkm]; exact Hfin.out
   have HBw : Hid (From w w1) := HB0.out.up HR.out
   have hz0 := HB0.out.below.size
   rw [Hk.out] at HO ⊢
   clear hkm hml
   go_wp2
   go_ret
   exact ⟨_, _, rfl, HO.out.mono hz0, HBw.out.below⟩
set_option maxRecDepth 100000 in
set_option maxHeartbeats 3200000 in
theorem l10Con_v {Al : Option Addr} {cl : Nat} {l : List Nat} {w : World} (hl : LN w Al cl l) (hlt : ∀ s ∈ l, s < 128) (hlen : l.length ≤ 1048576) :
 Calls Tryz.prog 182 #[.slice Al l.length cl] w fun e w' => e = .returned (.bool (coB l)) ∧ w = w' := by
 have HL := Lib.hid hl
 have Hlt := Lib.hid hlt
 clear hl hlt
 go_enter Tryz.func182, Tryz.ntmps182
 go_wp2
 go_loopw [3] (fun i wr => ∃ v : Nat, v ≤ 7 ∧ i = .int .i64 v ∧ Hid (∀ u, u < v → bgK l u l.length ≤ 1) ∧ wr = w) (fun i _ => 7 - (intOf i).toNat)
 case atStart => exact ⟨0, Nat.zero_le _, rfl, (fun u hu => absurd hu (by omega)), rfl⟩
 case round =>
  obtain ⟨v, hv, rfl, hall, rfl⟩ := hrel
  obtain ⟨wo, rfl⟩ : ∃ wo : World, wo = wr := ⟨_, rfl⟩
  by_cases hv7 : v < 7
  ·have i1 : (v : Int) < 7 := by omega
   go_wp2
   go_loopw [4, 5] (fun b i wr => ∃ k : Nat, k ≤ l.length ∧ i = .int .i64 k ∧ b = .int .i64 (bgK l v k : Nat) ∧ wr = wo) (fun _ i _ => l.length - (intOf i).toNat)
   case atStart => exact ⟨0, Nat.zero_le _, rfl, rfl, rfl⟩
   case round =>
    obtain ⟨k, hk, rfl, rfl, rfl⟩ := hrel
    have hbl := bgK_le l v k
    have Hb1 : Hid (((l.getD k 0).testBit v = false ∨ (laK l k).testBit v = true) → bgK l v (k + 1) = bgK l v k) := fun h => bgK_no h
    have Hb2 : Hid ((l.getD k 0).testBit v = true → (laK l k).testBit v = false → bgK l v (k + 1) = bgK l v k + 1) := fun h1 h2 => bgK_yes h1 h2
    by_cases hkl : k < l.length
    ·have i2 : (k : Int) < (l.length : Int) := by omega
     obtain ⟨b0, o0, rfl⟩ := HL.out.addr (by omega)
     have p0 := HL.out.at hkl
     have e : l[k] = l.getD k 0 := by simp [List.getD, hkl]
     rw [e] at p0
     have hx : l.getD k 0 < 128 := by rw [← e]; exact Hlt.out _ (List.getElem_mem hkl)
     obtain ⟨x, hx'⟩ : ∃ x, x = l.getD k 0 := ⟨_, rfl⟩
     rw [← hx'] at p0 hx Hb1 Hb2
     have E1 := and_one_i64 (x : Int) v (by omega) (by omega)
     rw [Int.toNat_natCast] at E1
     have s1 : IntKind.i64.wrap (((bgK l v k : Nat) : Int) + 1) = ((bgK l v k + 1 : Nat) : Int) := by rw [Go.IntWalk.i64_in _ (by omega)]; simp
     clear hx' e
     cases hb : x.testBit v
     ·rw [hb] at E1
      have Hs : Hid (bgK l v (k + 1) = bgK l v k) := Hb1.out (.inl hb)
      clear hb
      go_wp2
      go_roundw
      case rel => exact ⟨k + 1, by omega, by go_num, by rw [Hs.out], by first | rfl | trivial⟩
      case measure => (simp [intOf] <;> omega)
     ·rw [hb] at E1
      by_cases hk0 : k = 0
      ·subst hk0
       have Hs : Hid (bgK l v (0 + 1) = bgK l v 0 + 1) := Hb2.out hb (by simp [laK])
       have p4 := p0
       rw [Nat.add_zero] at p4
       clear hb
       go_wp2
       go_roundw
       case rel => exact ⟨1, by omega, by go_num, by show _ = Value.int .i64 ((bgK l v (0 + 1) : Nat) : Int); rw [Hs.out]; first | rfl | exact congrArg (Value.int .i64) s1, by first | rfl | trivial⟩
       case measure => (simp [intOf] <;> omega)
      ·obtain ⟨j, rfl⟩ : ∃ j, k = j + 1 := ⟨k - 1, by omega⟩
       have p3 := HL.out.at (j := j) (by omega)
       have e3 : l[j]'(by omega) = l.getD j 0 := by simp [List.getD, show j < l.length by omega]
       rw [e3] at p3
       have hy : l.getD j 0 < 128 := by rw [← e3]; exact Hlt.out _ (List.getElem_mem _)
       have Hla : Hid (laK l (j + 1) = l.getD j 0) := rfl
       obtain ⟨y, hy'⟩ : ∃ y, y = l.getD j 0 := ⟨_, rfl⟩
       rw [← hy'] at p3 hy Hla
       have E3 := and_one_i64' (y : Int) v (by omega) (by omega)
       rw [Int.toNat_natCast] at E3
       have hk1 : (((j + 1 : Nat) : Int) == 0) = false := by simp; omega
       have s2 : IntKind.i64.wrap (((j + 1 : Nat) : Int) - 1) = (j : Int) := by rw [Go.IntWalk.i64_in _ (by omega)]; omega
       have s4 : wrap64 (((j + 1 : Nat) : Int) - 1) = (j : Int) := by rw [Go.IntWalk.wrap64_in _ (by omega)]; omega
       have i5 : (j : Int) < (l.length : Int) := by omega
       clear hy' e3 hk0
       cases hb3 : y.testBit v
       ·rw [hb3] at E3
        have Hs : Hid (bgK l v (j + 1 + 1) = bgK l v (j + 1) + 1) := Hb2.out hb (by rw [Hla.out]; exact hb3)
        clear hb hb3
        go_wp2
        go_roundw
        case rel => exact ⟨j + 1 + 1, by omega, by go_num, by rw [Hs.out]; first | rfl | exact congrArg (Value.int .i64) s1, by first | rfl | trivial⟩
        case measure => (simp [intOf] <;> omega)
       ·rw [hb3] at E3
        have Hs : Hid (bgK l v (j + 1 + 1) = bgK l v (j + 1)) := Hb1.out (.inr (by rw [Hla.out]; exact hb3))
        clear hb hb3
        go_wp2
        go_roundw
        case rel => exact ⟨j + 1 + 1, by omega, by go_num, by rw [Hs.out], by first | rfl | trivial⟩
        case measure => (simp [intOf] <;> omega)
    ·obtain rfl : l.length = k := by omega
     obtain ⟨B, hB⟩ : ∃ B, B = bgK l v l.length := ⟨_, rfl⟩
     rw [← hB] at hbl ⊢
     by_cases h1 : 1 < B
     ·have i3 : (1 : Int) < (B : Int) := by omega
      have Hn : Hid (coB l = false) := coB_no hv7 (by rw [← hB]; exact h1)
      clear hB h1
      go_wp2
      go_ret
      exact ⟨ret_bool Hn.out.symm, rfl⟩
     ·have i3 : (B : Int) ≤ 1 := by omega
      have Hy : Hid (∀ u, u < v + 1 → bgK l u l.length ≤ 1) := fun u hu => by
       by_cases huv : u < v
       ·exact hall.out u huv
       ·obtain rfl : u = v := by omega
        rw [← hB]; omega
      clear hB h1
      go_wp2
      go_roundw
      case rel => exact ⟨v + 1, by omega, by go_num, Hy, by first | rfl | trivial⟩
      case measure => (simp [intOf] <;> omega)
  ·have Hy : Hid (coB l = true) := coB_yes fun u hu => hall.out u (by omega)
   have i1 : (7 : Int) ≤ (v : Int) := by omega
   go_wp2
   go_ret
   exact ⟨ret_bool Hy.out.symm, rfl⟩
end Go.Proofs.YticadlkcjhglnaaGreat

/-
-/
namespace Go.Proofs.YticadlkcjhglnaaGreat
open Go.RowKit
set_option maxRecDepth 100000 in
set_option maxHeartbeats 1600000 in
theorem EliminationOf_sl (sz : Int) (A : Option Addr) (m c : Nat) (x : Nat → Int) (w : World) (B : Nat) (h : Rd w B A m c x) (hB : B ≤ w.heap.size) (hm : m ≤ 1048576) :
 Calls Tryz.prog 83 #[.agg #[.int .i64 sz, .slice A m c]] w (lsQ w (orG firstS sz m x)) := by
 obtain ⟨W, hW⟩ : ∃ W : World, W = ((w.alloc (Obj.cells #[Value.int IntKind.i64 sz, Value.slice A m c] 26)).alloc (Obj.cells #[] 3)) := ⟨_, rfl⟩
 have HB : Hid (Below w.heap.size w W) := by rw [hW]; exact ((Below.refl _ _).alloc (Nat.le_refl _) _).alloc (by simp) _
 have HZ : Hid (w.heap.size + 2 = W.heap.size) := by rw [hW]; simp [Hid]
 have a0 : w.heap.size < W.heap.size := by have := HZ.out; omega
 have e0 : W.cell? ⟨w.heap.size, 0, none⟩ = some (.int .i64 sz) := by rw [hW]; simp [go_sem]
 have e1 : W.cell? ⟨w.heap.size, 1, none⟩ = some (.slice A m c) := by rw [hW]; simp [go_sem]
 have HG : Hid (W.heap[w.heap.size + 1]? = some (.cells #[] 3 (0, 0))) := by
  rw [hW]
  have := heap_alloc_new (w.alloc (Obj.cells #[Value.int IntKind.i64 sz, Value.slice A m c] 26)) (Obj.cells #[] 3)
  simpa [Hid] using this
 have HK := Lib.hid (h.keep (HB.out.mono hB) (Nat.le_refl _))
 have HW := Lib.hid hW
 clear hW h
 go_enter Tryz.func83, Tryz.ntmps83
 go_wp2_with fail
 rw [← HW.out]
 refine (IsGraph_sany sz A m c x W B HK.out (by omega) hm).mono ?_
 rintro e w1 ⟨rfl, hb1⟩
 have f0 := up hb1 e0 a0
 have f1 := up hb1 e1 a0
 have z1 := hb1.size
 have HB1 : Hid (Below w.heap.size w w1) := HB.out.trans (hb1.mono (by omega))
 have HK1 : Hid (Rd w1 B A m c x) := HK.out.keep (hb1.mono (by omega)) (Nat.le_refl _)
 have HG1 : Hid (w1.heap[w.heap.size + 1]? = some (.cells #[] 3 (0, 0))) := (hb1.block _ (by have := HZ.out; omega)).trans HG.out
 clear hb1 e0 e1 HW HK HB HG
 cases ho : okB sz m x
 ·have hno : Hid (orG firstS sz m x = none) := orG_no ho
  have HON : Hid (ON w.heap.size w1 (some ⟨w.heap.size + 1, 0, none⟩) 0 []) := ⟨.inr ⟨w.heap.size + 1, #[], rfl, by omega, by have := HZ.out; omega, HG1.out, Nat.le_refl _, by unfold maxLen; omega, rfl, fun j hj => absurd hj (by simp)⟩⟩
  clear ho
  go_wp2
  go_ret2
  rw [hno.out]
  exact ⟨_, _, rfl, HON.out, HB1.out⟩
 ·have hok2 : OkG sz m x := by
   refine Classical.byContradiction fun h2 => ?_
   rw [okB_no h2] at ho; cases ho
  obtain ⟨_, es, vg0, _⟩ := hok2
  subst es
  have hn1 := vg0.n1
  have hn7 := vg0.n7
  have h128 := two_pow_le hn7
  have hpos := Nat.two_pow_pos m
  have Hok := Lib.hid ho
  have p1 := pow_shl m hn7
  have p2 := two_pow_int m hn7
  have hall : (2 : Int) ^ m - 1 = ((2 ^ m - 1 : Nat) : Int) := by rw [Int.ofNat_sub hpos]; simp
  have Hall := Lib.hid hall
  have b1 : w.heap.size < w1.heap.size := by omega
  have HO : Hid (Own w1 (w.heap.size + 1) w1.heap.size 3 1 (some ⟨w.heap.size + 1, 0, none⟩) 0 0 (ni [])) :=
   .inr ⟨w.heap.size + 1, #[], rfl, Nat.le_refl _, by have := HZ.out; omega, HG1.out, Nat.le_refl _, by unfold maxLen; omega, rfl, fun j hj => absurd hj (by omega)⟩
  clear ho vg0 hall HG1
  go_wp2
  rw [Hall.out]
  clear p1 p2
  go_loopw [4, 5] (fun l i wr => ∃ (left : Nat) (A' : Option Addr) (c' : Nat) (T : List Nat), l = .slice A' T.length c' ∧ i = .int .i64 left ∧ T.length + left + 1 ≤ 2 ^ m ∧ Hid (Own wr (w.heap.size + 1) wr.heap.size 3 1 A' T.length c' (ni T)) ∧ Hid (redL (firstS (rw_ x)) (2 ^ m - 1) = (redL (firstS (rw_ x)) left).map (T ++ ·)) ∧ Hid (Below (w.heap.size + 1) w1 wr)) (fun _ i _ => (intOf i).toNat)
  case atStart => exact ⟨2 ^ m - 1, _, 0, [], rfl, rfl, by simp; omega, HO, redL_start, Below.refl _ _⟩
  case round =>
   obtain ⟨left, A', c', T, rfl, rfl, hkl, HY, HE, hbr⟩ := hrel
   have zr := hbr.out.size
   have j0 := up hbr.out f0 (by omega)
   have j1 := up hbr.out f1 (by omega)
   by_cases hl0 : left = 0
   ·have hyes : Hid (orG firstS (m : Int) m x = some T) := orG_eq Hok.out (redL_end (by rw [← hl0]; exact HE.out))
    have HON : Hid (ON w.heap.size wr A' c' T) := ⟨HY.out.mono (by omega) (Nat.le_refl _)⟩
    have hle : (left : Int) ≤ 0 := by omega
    clear hl0
    go_wp2
    go_ret2
    rw [hyes.out]
    exact lsQ.yes HON.out (HB1.out.trans (hbr.out.mono (by omega)))
   ·have hgt : (0 : Int) < (left : Int) := by omega
    have hgd : decide (0 < left) = true := by simp; omega
    have Hl0 := Lib.hid hl0
    clear hl0
    go_wp2
    obtain ⟨wo, rfl⟩ : ∃ wo : World, wo = wr := ⟨_, rfl⟩
    go_loopw [6, 7] (fun b i wr => ∃ (t : Nat), t ≤ m ∧ i = .int .i64 ((t : Int) - 1) ∧ ((b = .int .i64 (-1) ∧ Hid (∀ u, t ≤ u → left.testBit u = true → cliq (rw_ x) (rw_ x u &&& left) = false)) ∨ ∃ v : Nat, b = .int .i64 v ∧ v < m ∧ Hid (t ≤ v ∧ left.testBit v = true ∧ cliq (rw_ x) (rw_ x v &&& left) = true ∧ ∀ u, t ≤ u → u < v → left.testBit u = true → cliq (rw_ x) (rw_ x u &&& left) = false)) ∧ Hid (Below wo.heap.size wo wr)) (fun _ i _ => (intOf i + 1).toNat)
    case atStart => exact ⟨m, Nat.le_refl _, rfl, .inl ⟨rfl, fun u hu hb => by have := bit_lt (by omega : left < 2 ^ m) hb; omega⟩, Below.refl _ _⟩
    case round =>
     obtain ⟨t, htm, rfl, hbest, hbw⟩ := hrel
     have zw := hbw.out.size
     have i0 := up hbw.out j0 (by omega)
     have i1 := up hbw.out j1 (by omega)
     by_cases ht0 : t = 0
     ·have hneg : ((t : Int) - 1) < 0 := by omega
      have HYw : Hid (Own wr (w.heap.size + 1) wr.heap.size 3 1 A' T.length c' (ni T)) := (HY.out.keepB hbw.out (Nat.le_refl _)).mono (Nat.le_refl _) zw
      have HBw : Hid (Below (w.heap.size + 1) w1 wr) := hbr.out.trans (hbw.out.mono (by omega))
      rcases hbest with ⟨rfl, hno⟩ | ⟨v, rfl, hvm, hyes⟩
      ·have hf : firstS (rw_ x) left = none := firstS_no fun u _ hb => hno.out u (by omega) hb
       have hno2 : Hid (orG firstS (m : Int) m x = none) := orG_eq Hok.out (redL_stuck Hl0.out hf HE.out)
       have HON : Hid (ON w.heap.size (wr.alloc (Obj.cells #[] 3)) (some ⟨wr.heap.size, 0, none⟩) 0 []) := (ON.nil wr).mono (by omega)
       clear hno hf HE ht0
       go_wp2
       go_ret2
       rw [hno2.out]
       exact ⟨_, _, rfl, HON.out, HB1.out.trans ((HBw.out.mono (by omega)).alloc (by omega) _)⟩
      ·obtain ⟨_, hbit, hcl, hmin⟩ := hyes.out
       have hf : firstS (rw_ x) left = some v := firstS_least (by omega) hbit hcl (fun u hu hb => hmin u (by omega) hu hb)
       have HE2 : Hid (redL (firstS (rw_ x)) (2 ^ m - 1) = (redL (firstS (rw_ x)) (left ^^^ 2 ^ v)).map ((T ++ [v]) ++ ·)) := redL_step hbit hf HE.out
       have hlt := xor_bit_lt hbit
       have hxs := (xor_bit hbit).2
       have hE3 : Hid ((left : Int) - 2 ^ v = ((left ^^^ 2 ^ v : Nat) : Int)) := by
        show _ = _
        have p3 : ((2 ^ v : Nat) : Int) = 2 ^ v := by simp
        rw [← p3]
        omega
       have p1 := pow_shl v (by omega)
       have p2 := two_pow_int v (by omega)
       have hge0 : (0 : Int) ≤ (v : Int) := by omega
       clear hyes hbit hcl hmin hf HE hxs ht0
       go_wp2_with (first | (at_builtin; (refine wpList_pushN wr rfl _ _ rfl (w.heap.size + 1) wr.heap.size A' c' T HYw.out (by omega) v rfl 1 wr.heap.size rfl rfl (by omega) ?_; intro g cap w3 hO2 hb2)))
       have H4 := Lib.hid hO2
       have H5 : Hid (Below (w.heap.size + 1) w1 w3) := HBw.out.trans hb2
       clear hO2 hb2
       go_roundw
       case rel => exact ⟨left ^^^ 2 ^ v, _, _, T ++ [v], by rw [List.length_append]; rfl, congrArg (Value.int .i64) hE3.out, by rw [List.length_append]; simp; omega, by rw [List.length_append]; exact H4.out, HE2, H5⟩
       case measure => simp [intOf] <;> omega
     ·obtain ⟨v, rfl⟩ : ∃ v, t = v + 1 := ⟨t - 1, by omega⟩
      have ev : (((v + 1 : Nat) : Int) - 1) = (v : Int) := by omega
      rw [ev]
      have HBst := Lib.hid hbest
      have hge0 : (0 : Int) ≤ (v : Int) := by omega
      have E1 := and_one_i64 (left : Int) v (by omega) (by omega)
      rw [Int.toNat_natCast] at E1
      have HK2 : Hid (Rd wr B A m c x) := HK1.out.keep ((hbr.out.trans (hbw.out.mono (by omega))).mono (by omega)) (Nat.le_refl _)
      have hleft : left < 2 ^ m := by omega
      have hBw : B ≤ wr.heap.size := by omega
      clear ev ht0 hbest
      cases hbit : left.testBit v
      ·rw [hbit] at E1
       have Hb := Lib.hid hbit
       clear hbit
       go_wp2
       go_roundw
       case rel =>
        refine ⟨v, by omega, rfl, ?_, hbw⟩
        rcases HBst.out with ⟨rfl, hno⟩ | ⟨bv, rfl, hbm, hyes⟩
        ·refine .inl ⟨rfl, fun u hu hb => ?_⟩
         by_cases huv : u = v
         ·subst huv; rw [Hb.out] at hb; cases hb
         ·exact hno.out u (by omega) hb
        ·refine .inr ⟨bv, rfl, hbm, by have := hyes.out.1; omega, hyes.out.2.1, hyes.out.2.2.1, fun u hu hub hb => ?_⟩
         by_cases huv : u = v
         ·subst huv; rw [Hb.out] at hb; cases hb
         ·exact hyes.out.2.2.2 u (by omega) hub hb
       case measure => simp [intOf] <;> omega
      ·rw [hbit] at E1
       have Hb := Lib.hid hbit
       clear hbit
       go_wp2_with fail
       refine (l6Simplicial_any m A c x v left wr B HK2.out hBw Hok.out hleft (by omega)).mono ?_
       rintro e w3 ⟨rfl, hb3⟩
       have HB3 : Hid (Below wo.heap.size wo w3) := hbw.out.trans (hb3.mono zw)
       clear hb3 i0 i1 E1 HK2
       cases hcl : cliq (rw_ x) (rw_ x v &&& left)
       ·have Hc := Lib.hid hcl
        clear hcl
        go_wp2
        refine ⟨⟨v, by omega, rfl, ?_, HB3⟩, by simp [intOf] <;> omega⟩
        rcases HBst.out with ⟨rfl, hno⟩ | ⟨bv, rfl, hbm, hyes⟩
        ·refine .inl ⟨rfl, fun u hu hb => ?_⟩
         by_cases huv : u = v
         ·subst huv; exact Hc.out
         ·exact hno.out u (by omega) hb
        ·refine .inr ⟨bv, rfl, hbm, by have := hyes.out.1; omega, hyes.out.2.1, hyes.out.2.2.1, fun u hu hub hb => ?_⟩
         by_cases huv : u = v
         ·subst huv; exact Hc.out
         ·exact hyes.out.2.2.2 u (by omega) hub hb
       ·have Hc := Lib.hid hcl
        clear hcl
        go_wp2
        refine ⟨⟨v, by omega, rfl, ?_, HB3⟩, by simp [intOf] <;> omega⟩
        exact .inr ⟨v, rfl, by omega, Nat.le_refl _, Hb.out, Hc.out, fun u hu hub _ => by omega⟩
end Go.Proofs.YticadlkcjhglnaaGreat

/-
-/
namespace Go.Proofs.YticadlkcjhglnaaGreat
open Go.RowKit
theorem EliminationOf_sx (sz : Int) (A : Option Addr) (m c : Nat) (x : Nat → Int) (w : World) (B : Nat) (h : Rd w B A m c x) (hB : B ≤ w.heap.size) (hm : m ≤ 1048576) :
 Calls Tryz.prog 83 #[.agg #[.int .i64 sz, .slice A m c]] w fun e w' => ∃ A' n' c', e = .returned (.tuple #[.slice A' n' c', .bool (chB sz m x)]) ∧ Below w.heap.size w w' :=
 (EliminationOf_sl sz A m c x w B h hB hm).mono fun e w' ⟨A', c', he, _, hb⟩ => ⟨A', _, c', by rw [← orG_chB]; exact he, hb⟩
set_option maxHeartbeats 1000000 in
theorem IsChordal_sx (sz : Int) (A : Option Addr) (m c : Nat) (x : Nat → Int) (w : World) (B : Nat) (h : Rd w B A m c x) (hB : B ≤ w.heap.size) (hm : m ≤ 1048576) :
 Calls Tryz.prog 29 #[.agg #[.int .i64 sz, .slice A m c]] w fun e w' => e = .returned (.bool (chB sz m x)) ∧ Below w.heap.size w w' := by
 obtain ⟨W, hW⟩ : ∃ W : World, W = (w.alloc (Obj.cells #[Value.int IntKind.i64 sz, Value.slice A m c] 26)) := ⟨_, rfl⟩
 have HB : Hid (Below w.heap.size w W) := by rw [hW]; exact ((Below.refl _ _).alloc (Nat.le_refl _) _)
 have a0 : w.heap.size < W.heap.size := by rw [hW]; simp
 have HK := Lib.hid (h.keep (HB.out.mono hB) (Nat.le_refl _))
 have HW := Lib.hid hW
 clear hW h
 go_enter Tryz.func29, Tryz.ntmps29
 go_wp2_with fail
 rw [← HW.out]
 clear HW
 refine (EliminationOf_sx sz A m c x W B HK.out (by omega) hm).mono ?_
 rintro e w1 ⟨A', n', c', rfl, hb1⟩
 have HB1 : Hid (Below w.heap.size w w1) := HB.out.trans (hb1.mono (by omega))
 clear hb1 HK HB
 go_wp2
 go_ret
 exact ⟨rfl, HB1.out⟩
end Go.Proofs.YticadlkcjhglnaaGreat
