/-
-/
import Derived.Test.YtdpkbfiggbcclaaGreatQkSetG
import Derived.Test.YtdpkbfiggbcclaaGreatQkTake
namespace Go.Proofs.YtdpkbfiggbcclaaGreat
open Go.RowKit
noncomputable def cvA (sz : Int) (m : Nat) (x : Nat → Int) : List Int → Nat → Option Nat
 | [], s => some s
 | a :: l, s => if (clqG sz m x a && decide (s &&& a.toNat = 0)) = true then cvA sz m x l (s ||| a.toNat) else none
noncomputable def icvG (sz : Int) (m : Nat) (x : Nat → Int) (l : List Int) : Bool :=
 match cvA sz m x l 0 with
 | none => false
 | some s => okB sz m x && decide (s = 2 ^ m - 1)
theorem icvG_none {sz : Int} {m : Nat} {x : Nat → Int} {l : List Int} (h : cvA sz m x l 0 = none) : icvG sz m x l = false := by unfold icvG; rw [h]
theorem icvG_some {sz : Int} {m : Nat} {x : Nat → Int} {l : List Int} {s : Nat} (h : cvA sz m x l 0 = some s) : icvG sz m x l = (okB sz m x && decide (s = 2 ^ m - 1)) := by unfold icvG; rw [h]
theorem cvA_no {sz : Int} {m : Nat} {x : Nat → Int} {l : List Int} {a : Int} {s : Nat} (h : (clqG sz m x a && decide (s &&& a.toNat = 0)) = false) : cvA sz m x (a :: l) s = none := by unfold cvA; rw [h]; rfl
theorem cvA_yes {sz : Int} {m : Nat} {x : Nat → Int} {l : List Int} {a : Int} {s : Nat} (h : (clqG sz m x a && decide (s &&& a.toNat = 0)) = true) : cvA sz m x (a :: l) s = cvA sz m x l (s ||| a.toNat) := by rw [cvA, if_pos h]
theorem drop_atZ {l : List Int} {k : Nat} (h : k < l.length) : l.drop k = l.getD k 0 :: l.drop (k + 1) := by
 rw [List.drop_eq_getElem_cons h]
 simp [List.getD, h]
theorem clqG_set {sz : Int} {m : Nat} {x : Nat → Int} {a : Int} (h : clqG sz m x a = true) : okB sz m x = true ∧ sz = m ∧ ∃ k : Nat, a = k ∧ k < 2 ^ m := by
 unfold clqG at h
 rw [Bool.and_eq_true] at h
 exact setB_parts h.1
set_option maxRecDepth 100000 in
set_option maxHeartbeats 3200000 in
theorem IsCliqueCover_i (sz : Int) (A : Option Addr) (m c : Nat) (x : Nat → Int) (Al : Option Addr) (n cl : Nat) (l : List Int) (w : World) (h : GA w A m c x) (hl : LI w Al n cl l) (hm : m ≤ 1048576) (hn : n ≤ 1048576) :
 Calls Tryz.prog 134 #[.agg #[.int .i64 sz, .slice A m c], .slice Al n cl] w fun e w' => e = .returned (.bool (icvG sz m x l)) ∧ Below w.heap.size w w' := by
 obtain ⟨W, hW⟩ : ∃ W : World, W = (w.alloc (Obj.cells #[Value.int IntKind.i64 sz, Value.slice A m c] 28)) := ⟨_, rfl⟩
 have HB : Hid (From w W) := by rw [hW]; exact From.alloc _ _
 have HK := Lib.hid (h.keep HB.out.below)
 have HL := Lib.hid (hl.keep HB.out.below)
 have HC : Hid (GC W w.heap.size sz A m c) := by rw [hW]; exact GC.new _ _ _ _ _
 have HW := Lib.hid hW
 have HN := Lib.hid hl.len
 have HR0 : Hid (From W W) := From.refl W
 have HI0 : Hid (cvA sz m x l 0 = cvA sz m x (l.drop 0) 0) := rfl
 clear hW h hl
 go_enter Tryz.func134, Tryz.ntmps134
 have e0 := HC.out.c0
 have e1 := HC.out.c1
 go_wp2_with fail
 rw [← HW.out]
 clear HW
 go_wp2
 go_loopw [5, 10] (fun sv i wr => ∃ k s : Nat, k ≤ n ∧ s < 128 ∧ i = .int .i64 k ∧ sv = .int .i64 s ∧ Hid (cvA sz m x l 0 = cvA sz m x (l.drop k) s) ∧ Hid (From W wr)) (fun _ i _ => n - (intOf i).toNat)
 case atStart => exact ⟨0, 0, Nat.zero_le _, by omega, rfl, rfl, HI0, HR0⟩
 case round =>
  clear HR0 HI0 e0 e1
  obtain ⟨k, s, hk, hs, rfl, rfl, HI, HR⟩ := hrel
  have HBr := Lib.hid (HB.out.up HR.out)
  have HKr := Lib.hid (HK.out.keep HR.out.below)
  have HCr := Lib.hid (HC.out.keep HR.out.below)
  have HLr := Lib.hid (HL.out.keep HR.out.below)
  have e0 := HCr.out.c0
  have e1 := HCr.out.c1
  by_cases hkn : k < n
  ·have i1 : (k : Int) < (n : Int) := by omega
   obtain ⟨bl, ol, rfl⟩ := HLr.out.addr (by omega)
   have p0 := HLr.out.at hkn
   have hdr := drop_atZ (l := l) (k := k) (by rw [← HN.out]; exact hkn)
   obtain ⟨a, ha⟩ : ∃ a : Int, a = l.getD k 0 := ⟨_, rfl⟩
   rw [← ha] at p0 hdr
   have HI2 : Hid (cvA sz m x l 0 = cvA sz m x (a :: l.drop (k + 1)) s) := by show _ = _; rw [HI.out, hdr]
   clear hdr ha HI
   obtain ⟨q, hq⟩ : ∃ q, q = clqG sz m x a := ⟨_, rfl⟩
   have KQ : Hid (∀ {z : World}, GA z A m c x → Calls Tryz.prog 131 #[.agg #[.int .i64 sz, .slice A m c], .int .i64 a] z fun e w' => e = .returned (.bool q) ∧ Below z.heap.size z w') := by rw [hq]; exact fun h => IsClique_ig sz A m c x a _ h hm
   have HKq := HKr
   have HQ : Hid (CL wr bl (ol + k) (.int .i64 a)) := ⟨p0⟩
   cases q
   ·have Hn : Hid (icvG sz m x l = false) := icvG_none (HI2.out.trans (cvA_no (by rw [← hq]; rfl)))
    clear hq p0
    have e0 := HCr.out.c0
    have e1 := HCr.out.c1
    have p0 := HQ.out.c
    go_wp2_with fail
    refine (KQ.out HKq.out).mono ?_
    rintro e w5 ⟨rfl, hb5⟩
    clear e0 e1 p0
    replace HBr := Lib.hid (HBr.out.keep hb5)
    replace HCr := Lib.hid (HCr.out.keep hb5)
    replace HQ := Lib.hid (HQ.out.keep hb5)
    clear hb5
    have e0 := HCr.out.c0
    have e1 := HCr.out.c1
    have p0 := HQ.out.c
    clear KQ HKq
    go_wp2
    go_ret
    exact ⟨ret_bool Hn.out.symm, HBr.out.below⟩
   ·obtain ⟨ho, es, t, rfl, ht⟩ := clqG_set hq.symm
    have hm7 : m ≤ 7 := by
     obtain ⟨_, _, vg, _⟩ := okB_ok' ho
     exact vg.n7
    have ht128 : t < 128 := Nat.lt_of_lt_of_le ht (two_pow_le hm7)
    have E1 := i64_and_nat s t (by omega) (by omega)
    have E2 := i64_or_nat s t (by omega) (by omega)
    have hor : s ||| t < 128 := Nat.or_lt_two_pow (n := 7) hs ht128
    by_cases hz : s &&& t = 0
    ·have Hy : Hid (cvA sz m x l 0 = cvA sz m x (l.drop (k + 1)) (s ||| t)) := HI2.out.trans (cvA_yes (by rw [← hq, Int.toNat_natCast, hz]; rfl))
     rw [hz] at E1
     obtain ⟨s2, hs2⟩ : ∃ s2, s2 = s ||| t := ⟨_, rfl⟩
     rw [← hs2] at E2 hor Hy
     clear hq p0 hz hs2 ho es ht
     have e0 := HCr.out.c0
     have e1 := HCr.out.c1
     have p0 := HQ.out.c
     go_wp2_with fail
     refine (KQ.out HKq.out).mono ?_
     rintro e w5 ⟨rfl, hb5⟩
     clear e0 e1 p0
     replace HR := Lib.hid (HR.out.keep hb5)
     replace HBr := Lib.hid (HBr.out.keep hb5)
     replace HCr := Lib.hid (HCr.out.keep hb5)
     replace HQ := Lib.hid (HQ.out.keep hb5)
     clear hb5
     have e0 := HCr.out.c0
     have e1 := HCr.out.c1
     have p0 := HQ.out.c
     clear KQ HKq
     go_wp2
     go_roundw
     case rel => exact ⟨k + 1, s2, by omega, hor, by go_num, rfl, Hy, HR⟩
     case measure => (simp [intOf] <;> omega)
    ·have Hn : Hid (icvG sz m x l = false) := icvG_none (HI2.out.trans (cvA_no (by rw [← hq, Int.toNat_natCast, decide_eq_false hz]; rfl)))
     obtain ⟨y, hy⟩ : ∃ y, y = s &&& t := ⟨_, rfl⟩
     rw [← hy] at E1 hz
     have hz2 : ((y : Int) != 0) = true := by simp; omega
     have hz3 : ((y : Int) = 0) = False := by simp; omega
     clear hq p0 hy ho es ht
     have e0 := HCr.out.c0
     have e1 := HCr.out.c1
     have p0 := HQ.out.c
     go_wp2_with fail
     refine (KQ.out HKq.out).mono ?_
     rintro e w5 ⟨rfl, hb5⟩
     clear e0 e1 p0
     replace HBr := Lib.hid (HBr.out.keep hb5)
     replace HCr := Lib.hid (HCr.out.keep hb5)
     replace HQ := Lib.hid (HQ.out.keep hb5)
     clear hb5
     have e0 := HCr.out.c0
     have e1 := HCr.out.c1
     have p0 := HQ.out.c
     clear KQ HKq
     go_wp2
     go_ret
     exact ⟨ret_bool Hn.out.symm, HBr.out.below⟩
  ·obtain rfl : n = k := by omega
   have hdn : l.drop n = [] := List.drop_eq_nil_of_le (by rw [← HN.out]; exact Nat.le_refl _)
   have HI2 : Hid (cvA sz m x l 0 = some s) := by show _ = _; rw [HI.out, hdn]; rfl
   have HG : Hid (icvG sz m x l = (okB sz m x && decide (s = 2 ^ m - 1))) := icvG_some HI2.out
   clear hdn HI HI2 hkn
   go_wp2_with fail
   refine (IsGraph_any sz A m c x wr wr.heap.size HKr.out.rd (Nat.le_refl _) hm).mono ?_
   rintro e w7 ⟨rfl, hb7⟩
   clear e0 e1
   replace HBr := Lib.hid (HBr.out.keep hb7)
   replace HKr := Lib.hid (HKr.out.keep hb7)
   replace HCr := Lib.hid (HCr.out.keep hb7)
   clear hb7
   have e0 := HCr.out.c0
   have e1 := HCr.out.c1
   cases ho : okB sz m x
   ·have Hn : Hid (icvG sz m x l = false) := HG.out.trans (by rw [ho]; rfl)
    clear ho
    go_wp2
    go_ret
    exact ⟨ret_bool Hn.out.symm, HBr.out.below⟩
   obtain ⟨_, es, vg0, _⟩ := okB_ok' ho
   subst es
   have hm7 := vg0.n7
   have Hn : Hid (icvG (m : Int) m x l = decide (s = 2 ^ m - 1)) := HG.out.trans (by rw [ho]; rfl)
   have h128 := two_pow_le hm7
   have hpos := Nat.two_pow_pos m
   have HGv : Hid (GV w7 A m c (rw_ x)) := HKr.out.gv ho
   obtain ⟨F, hF⟩ : ∃ F, F = 2 ^ m - 1 := ⟨_, rfl⟩
   have KA : Hid (Calls Tryz.prog 185 #[.agg #[.int .i64 m, .slice A m c]] w7 fun e w' => e = .returned (.int .i64 (F : Nat)) ∧ Below w7.heap.size w7 w') := by rw [hF]; exact all_v HGv.out
   rw [← hF] at Hn
   clear ho vg0 hF HGv
   go_wp2_with fail
   refine KA.out.mono ?_
   rintro e w8 ⟨rfl, hb8⟩
   clear e0 e1
   replace HBr := Lib.hid (HBr.out.keep hb8)
   replace HKr := Lib.hid (HKr.out.keep hb8)
   replace HCr := Lib.hid (HCr.out.keep hb8)
   clear hb8
   have e0 := HCr.out.c0
   have e1 := HCr.out.c1
   by_cases hsF : s = F
   ·have d1 : ((s : Int) == (F : Int)) = true := by simp; omega
    have Hn2 : Hid (icvG (m : Int) m x l = true) := Hn.out.trans (decide_eq_true hsF)
    clear hsF
    go_wp2
    go_ret
    exact ⟨ret_bool Hn2.out.symm, HBr.out.below⟩
   ·have d1 : ((s : Int) == (F : Int)) = false := by simp; omega
    have Hn2 : Hid (icvG (m : Int) m x l = false) := Hn.out.trans (decide_eq_false hsF)
    clear hsF
    go_wp2
    go_ret
    exact ⟨ret_bool Hn2.out.symm, HBr.out.below⟩
end Go.Proofs.YtdpkbfiggbcclaaGreat
