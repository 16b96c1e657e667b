/-
  Contract: an order by a test of each vertex within what is left, whatever the test is: the program's.
-/
import Derived.Test.YtmkahbephidmbaaQcOrdP
namespace Go.Proofs.Ytmkahbephidmbaa
open Go.RowKit

set_option maxRecDepth 100000 in
set_option maxHeartbeats 3200000 in
theorem isOrderBy_g {fn : FuncId} {caps : Array Value} {p : Nat → Nat → Bool} (hef : Ent fn) (sz : Int) (A : Option Addr) (m c : Nat) (x : Nat → Int) (Al : Option Addr) (n cl : Nat) (l : List Int) (w : World) (h : GA w A m c x) (hl : LI w Al n cl l) (hm : m ≤ 1048576) (hn : n ≤ 1048576)
    (HF : okB sz m x = true → ∀ (d s : Nat) (z : World), d < m → s < 2 ^ m → s.testBit d = true → Below w.heap.size w z → Calls Try.prog fn (#[.int .i64 d, .int .i64 s] ++ caps) z (fun e z' => e = .returned (.bool (p d s)) ∧ Below z.heap.size z z')) :
    Calls Try.prog 25 #[.agg #[.int .i64 sz, .slice A m c], .slice Al n cl, .func (.func fn) #[] caps] w fun e w' => e = .returned (.bool (obG sz m x l p)) ∧ Below w.heap.size w w' := by
  unfold Ent at hef
  have HF := Lib.hid HF
  obtain ⟨W, hW⟩ : ∃ W : World, W = (w.alloc (Obj.cells #[Value.int IntKind.i64 sz, Value.slice A m c] 27)) := ⟨_, rfl⟩
  have HB : Hid (From w W) := by rw [hW]; exact From.alloc _ _
  have HK := Lib.hid (h.keep HB.out.below)
  have HL := Lib.hid (hl.keep HB.out.below)
  have HC : Hid (GC W w.heap.size sz A m c) := by rw [hW]; exact GC.new _ _ _ _ _
  have HW := Lib.hid hW
  have HN := Lib.hid hl.len
  clear hW h hl
  go_enter Try.func25, Try.ntmps25
  have e0 := HC.out.c0
  have e1 := HC.out.c1
  go_wp2_with fail
  rw [← HW.out]
  refine (IsOrder_z sz A m c x Al n cl l W HK.out HL.out hm hn).mono ?_
  rintro e w1 ⟨rfl, hb1⟩
  clear HW
  clear e0 e1
  replace HB := Lib.hid (HB.out.keep hb1)
  replace HK := Lib.hid (HK.out.keep hb1)
  replace HL := Lib.hid (HL.out.keep hb1)
  replace HC := Lib.hid (HC.out.keep hb1)
  clear hb1
  have e0 := HC.out.c0
  have e1 := HC.out.c1
  cases ho : orB sz m x l
  · have Hn : Hid (obG sz m x l p = false) := obG_no ho
    clear ho
    go_wp2
    go_ret
    exact ⟨ret_bool Hn.out.symm, HB.out.below⟩
  obtain ⟨hok, hV, hlen⟩ := orB_parts ho
  obtain ⟨_, es, vg0, _⟩ := okB_ok' hok
  subst es
  have hn7 := vg0.n7
  have h128 := two_pow_le hn7
  have HV := Lib.hid hV
  have Ho := Lib.hid ho
  have HLn := Lib.hid hlen
  have HF2 := Lib.hid (HF.out hok)
  obtain ⟨F, hF⟩ : ∃ F, F = 2 ^ m - 1 := ⟨_, rfl⟩
  have KA : Hid (∀ z : World, Calls Try.prog 30 #[.agg #[.int .i64 m, .slice A m c]] z fun e w' => e = .returned (.int .i64 (F : Nat)) ∧ Below z.heap.size z w') := by rw [hF]; exact fun z => all_any m A c z hn7
  have HF0 : Hid (F = lfN l 0) := hF.trans (lf_zero hV hlen).symm
  clear ho hok hV hlen vg0 hF HF
  go_wp2_with fail
  refine (KA.out _).mono ?_
  rintro e w2 ⟨rfl, hb2⟩
  clear e0 e1
  replace HB := Lib.hid (HB.out.keep hb2)
  replace HK := Lib.hid (HK.out.keep hb2)
  replace HL := Lib.hid (HL.out.keep hb2)
  replace HC := Lib.hid (HC.out.keep hb2)
  clear hb2
  have e0 := HC.out.c0
  have e1 := HC.out.c1
  have HR0 : Hid (From w2 w2) := From.refl w2
  clear e0 e1 KA
  go_wp2
  go_loopw [7, 18] (fun sv iv wr => ∃ k : Nat, k ≤ n ∧ sv = .int .i64 (lfN l k : Nat) ∧ iv = .int .i64 k ∧ Hid (∀ j, j < k → p (l.getD j 0).toNat (lfN l j) = true) ∧ Hid (From w2 wr)) (fun _ iv _ => n - (intOf iv).toNat)
  case atStart => exact ⟨0, Nat.zero_le _, by rw [HF0.out], rfl, (fun j hj => absurd hj (by omega)), HR0⟩
  case round =>
    clear HR0
    obtain ⟨k, hk, rfl, rfl, H1, HR⟩ := hrel
    have HBr := Lib.hid (HB.out.up HR.out)
    by_cases hkn : k < n
    · have i1 : (k : Int) < (n : Int) := by omega
      have HLr := Lib.hid (HL.out.keep HR.out.below)
      obtain ⟨bl, ol, rfl⟩ := HLr.out.addr (by omega)
      have p0 := HLr.out.at hkn
      have hkl : k < l.length := by rw [← HN.out]; exact hkn
      obtain ⟨d, hd, hdm, hbit, hsub, hxor⟩ := lf_at HV.out hkl
      rw [hd] at p0
      have hs := lf_lt (k := k) HV.out
      have KF := Lib.hid (HF2.out d (lfN l k) wr hdm hs hbit HBr.out.below)
      have Hd := Lib.hid hd
      obtain ⟨s, hs'⟩ : ∃ s, s = lfN l k := ⟨_, rfl⟩
      rw [← hs'] at KF hs hxor ⊢
      have Hs := Lib.hid hs'
      have h2d := two_pow_le (n := d) (by omega)
      obtain ⟨z, hz⟩ : ∃ z, z = 2 ^ d := ⟨_, rfl⟩
      have p1 : IntKind.i64.wrap ((2 : Int) ^ d) = (z : Int) := by rw [pow_shl d (by omega), hz]; simp
      have E := i64_andNot_nat s z (by omega) (by omega)
      rw [hz, hxor, ← hz] at E
      obtain ⟨s2, hs2⟩ : ∃ s2, s2 = lfN l (k + 1) := ⟨_, rfl⟩
      rw [← hs2] at E
      have Hs2 := Lib.hid hs2
      clear hd hs' hz hxor hsub hs2 h2d hbit
      cases hp : p d s
      · rw [hp] at KF
        have Hn : Hid (obG (m : Int) m x l p = false) := obG_bad hkl Hd.out (by rw [← Hs.out]; exact hp)
        clear hp
        go_wp2_with fail
        refine KF.out.mono ?_
        rintro e w5 ⟨rfl, hb5⟩
        replace HR := Lib.hid (HR.out.keep hb5)
        replace HBr := Lib.hid (HBr.out.keep hb5)
        clear hb5
        go_wp2
        go_ret
        exact ⟨ret_bool Hn.out.symm, HBr.out.below⟩
      · rw [hp] at KF
        have Hp : Hid (p (l.getD k 0).toNat (lfN l k) = true) := by show _ = _; rw [Hd.out, Int.toNat_natCast, ← Hs.out]; exact hp
        clear hp
        go_wp2_with fail
        refine KF.out.mono ?_
        rintro e w5 ⟨rfl, hb5⟩
        replace HR := Lib.hid (HR.out.keep hb5)
        replace HBr := Lib.hid (HBr.out.keep hb5)
        clear hb5
        go_wp2
        go_roundw
        case rel =>
          refine ⟨k + 1, by omega, by rw [Hs2.out], by go_num, fun j hj => ?_, HR⟩
          by_cases e : j < k
          · exact H1.out j e
          · obtain rfl : j = k := by omega
            exact Hp.out
        case measure => (simp [intOf] <;> omega)
    · obtain rfl : n = k := by omega
      have Hn : Hid (obG (m : Int) m x l p = true) := obG_yes Ho.out fun j hj => H1.out j (by rw [HN.out]; exact hj)
      go_wp2
      go_ret
      exact ⟨ret_bool Hn.out.symm, HBr.out.below⟩
end Go.Proofs.Ytmkahbephidmbaa
