/-
-/
import Derived.Test.YtfabbohijhjpcaaGreatDoorRcOrnQ
import Derived.Test.YtfabbohijhjpcaaGreatDoorRcPmoI
import Derived.Test.YtfabbohijhjpcaaGreatDoorRcPruI
namespace Go.Proofs.YtfabbohijhjpcaaGreatDoor
open Go.RowKit
set_option maxRecDepth 100000 in
set_option maxHeartbeats 6400000 in
theorem ClassLine_i (s : Int) (A : Option Addr) (m c : Nat) (x : Nat → Int) (w : World) (h : Rd w w.heap.size A m c x) (hm : m ≤ 1048576) (ht : Tb w) :
 Calls Tryz.prog 31 #[.agg #[.int .i64 s, .slice A m c]] w fun e w' => e = .returned (.string (cllB s m x)) ∧ Below w.heap.size w w' := by
 have KG := Lib.hid (fun (z : World) (hz : From w z) => IsGraph_any s A m c x z w.heap.size (h.keep hz.below (Nat.le_refl _)) hz.below.size hm)
 obtain ⟨W, hW⟩ : ∃ W : World, W = (w.alloc (Obj.cells #[Value.int IntKind.i64 s, Value.slice A m c] 26)) := ⟨_, rfl⟩
 have HB : Hid (From w W) := by rw [hW]; exact From.alloc _ _
 have HC : Hid (GC W w.heap.size s A m c) := by rw [hW]; exact GC.new _ _ _ _ _
 have HW := Lib.hid hW
 clear hW
 cases ho : okB s m x
 ·rw [ho] at KG
  have HE : Hid (cllB s m x = ⟨#[]⟩) := cllB_no ho
  clear ho h
  go_enter Tryz.func31, Tryz.ntmps31
  have e0 := HC.out.c0
  have e1 := HC.out.c1
  go_wp2_with fail
  rw [← HW.out]
  refine (KG.out _ HB.out).mono ?_
  rintro e w1 ⟨rfl, hb1⟩
  clear HW
  clear e0 e1
  replace HB := Lib.hid (HB.out.keep hb1)
  replace HC := Lib.hid (HC.out.keep hb1)
  clear hb1
  have e0 := HC.out.c0
  have e1 := HC.out.c1
  go_wp2
  go_ret
  exact ⟨by rw [HE.out]; rfl, HB.out.below⟩
 obtain ⟨_, es, _, _⟩ := okB_ok' ho
 subst es
 have hGA : GA w A m c x := ⟨h⟩
 have HGA := Lib.hid hGA
 have HGV := Lib.hid (hGA.gv ho)
 have hm7 := (hGA.gv ho).vg.n7
 have HT := Lib.hid ht
 have HE : Hid (cllB (m : Int) m x = spJ (clF m x)) := cllB_yes ho
 rw [ho] at KG
 have K1 : Hid (∀ z : World, From w z → Calls Tryz.prog 82 #[.agg #[.int .i64 (m : Int), .slice A m c]] z fun e w' => e = .returned (.bool (otO (rw_ x) m).isSome) ∧ Below z.heap.size z w') := fun z hz => IsComparability_v (HGV.out.keep hz.below)
 have K2 : Hid (∀ z : World, From w z → Calls Tryz.prog 83 #[.agg #[.int .i64 (m : Int), .slice A m c]] z fun e w' => e = .returned (.bool (pmO (rw_ x) m).isSome) ∧ Below z.heap.size z w') := fun z hz => IsPermutationGraph_v (HGV.out.keep hz.below)
 have K3 : Hid (∀ z : World, From w z → Calls Tryz.prog 84 #[.agg #[.int .i64 (m : Int), .slice A m c]] z fun e w' => e = .returned (.bool (plO (rw_ x) m).isSome) ∧ Below z.heap.size z w') := fun z hz => IsHereditary_v (HGV.out.keep hz.below)
 have HFS : Hid ((spJ (clF m x)).size ≤ 1600) := clF_size hm7
 obtain ⟨b1, hb1⟩ : ∃ b, b = (otO (rw_ x) m).isSome := ⟨_, rfl⟩
 obtain ⟨b2, hb2⟩ : ∃ b, b = (pmO (rw_ x) m).isSome := ⟨_, rfl⟩
 obtain ⟨b3, hb3⟩ : ∃ b, b = (plO (rw_ x) m).isSome := ⟨_, rfl⟩
 have HCF : Hid (clF m x = opW b3 clH (opW b2 clP (opW b1 clC (clL m x 9)))) := by show _ = _; rw [hb1, hb2, hb3]; rfl
 rw [← hb1] at K1
 rw [← hb2] at K2
 rw [← hb3] at K3
 clear ho h hGA ht hb1 hb2 hb3
 go_enter Tryz.func31, Tryz.ntmps31
 have e0 := HC.out.c0
 have e1 := HC.out.c1
 go_wp2_with fail
 rw [← HW.out]
 refine (KG.out _ HB.out).mono ?_
 rintro e w2 ⟨rfl, hb2⟩
 clear HW
 clear e0 e1
 replace HB := Lib.hid (HB.out.keep hb2)
 replace HC := Lib.hid (HC.out.keep hb2)
 clear hb2
 have e0 := HC.out.c0
 have e1 := HC.out.c1
 clear KG
 obtain ⟨W2, hW2⟩ : ∃ W2 : World, W2 = (w2.alloc (Obj.cells #[.string clsB] 9)) := ⟨_, rfl⟩
 have hb2 : Below w2.heap.size w2 W2 := by rw [hW2]; exact (Below.refl _ _).alloc (Nat.le_refl _) _
 have HWd : Hid (WB W2 w2.heap.size 1 (clL m x 0)) := by rw [hW2]; exact ⟨(own_texts w2 [clsB] 1 rfl (by omega)).mono (Nat.le_refl _) (by simp)⟩
 have hwlt : w.heap.size < w2.heap.size := HC.out.lt
 have HW2 := Lib.hid hW2
 clear hW2
 unfold clsB at HW2
 go_wp2_with fail
 rw [← HW2.out]
 clear HW2
 clear e0 e1
 replace HB := Lib.hid (HB.out.keep hb2)
 replace HC := Lib.hid (HC.out.keep hb2)
 clear hb2
 have e0 := HC.out.c0
 have e1 := HC.out.c1
 refine (ClassNames_iv W2).mono ?_
 rintro e w3 ⟨A3, c3, rfl, hO3, hb3⟩
 obtain ⟨gn, rfl, hgn, _, hN⟩ := hO3.only (by omega)
 have HN : Hid (NB w3 gn c3) := ⟨hN⟩
 have hne : w2.heap.size ≠ gn := by have := HWd.out.lt; omega
 replace HWd := Lib.hid (HWd.out.keep hb3)
 clear e0 e1
 replace HB := Lib.hid (HB.out.keep hb3)
 replace HC := Lib.hid (HC.out.keep hb3)
 clear hb3 hO3 hN
 have e0 := HC.out.c0
 have e1 := HC.out.c1
 clear e0 e1
 go_wp2
 go_loopw [3, 14] (fun o i wr => ∃ (k g c' : Nat), k ≤ 9 ∧ i = .int .i64 k ∧ o = .slice (some ⟨g, 0, none⟩) (clL m x k).length c' ∧ g ≠ gn ∧ w.heap.size < g ∧ Hid (WB wr g c' (clL m x k)) ∧ Hid (NB wr gn c3) ∧ Hid (GC wr w.heap.size m A m c) ∧ Hid (From w wr)) (fun _ i _ => 9 - (intOf i).toNat)
 case atStart => exact ⟨0, w2.heap.size, 1, Nat.zero_le _, rfl, rfl, hne, hwlt, HWd, HN, HC, HB⟩
 case round =>
  clear HWd HN HC HB hne hwlt
  obtain ⟨k, g, c', hk, rfl, rfl, hne, hwg, HWd, HN, HC, HB⟩ := hrel
  obtain ⟨L, hL⟩ : ∃ L, L = clL m x k := ⟨_, rfl⟩
  have hLl : L.length = k + 1 := by rw [hL]; exact clL_len k
  rw [← hL] at HWd ⊢
  have HL := Lib.hid hL
  have HLl := Lib.hid hLl
  have hL10 : L.length ≤ 10 := by omega
  clear hL hLl
  by_cases hk9 : k < 9
  rotate_left
  ·obtain rfl : k = 9 := by omega
   clear HN hne
   have e0 := HC.out.c0
   have e1 := HC.out.c1
   obtain ⟨M0, hM0⟩ : ∃ M, M = clL m x 9 := ⟨_, rfl⟩
   rw [← hM0] at HL HCF
   clear hM0 HLl
   go_wp2_with fail
   clear e0 e1
   refine (K1.out _ HB.out).mono ?_
   rintro e v1 ⟨rfl, hbv⟩
   replace HWd := Lib.hid (HWd.out.keep hbv)
   replace HC := Lib.hid (HC.out.keep hbv)
   replace HB := Lib.hid (HB.out.keep hbv)
   clear hbv K1
   have hgw := HWd.out.lt
   have hwz := HC.out.lt
   have e0 := HC.out.c0
   have e1 := HC.out.c1
   obtain ⟨M1, hM1⟩ : ∃ M, M = opW b1 clC M0 := ⟨_, rfl⟩
   rw [← hM1] at HCF
   have HM1 := Lib.hid hM1
   clear hM1
   cases b1
   case' false =>
    have HLn : Hid (L = M1) := by show _ = _; rw [HM1.out, opW_no]; exact HL.out
    go_wp2_with fail
    obtain ⟨v, hv⟩ : ∃ v : World, v = v1 := ⟨_, rfl⟩
    rw [← hv] at HWd HC HB ⊢
    replace HL := HLn
    have hLy : L.length ≤ 11 := by omega
    clear hgw hwz HM1 HLn hv e0 e1 hL10
   case' true =>
    have HLn : Hid (L ++ [clC] = M1) := by show _ = _; rw [HM1.out, opW_yes, HL.out]
    go_wp2_with (first | (at_builtin; (refine wpList_pushS v1 rfl _ _ rfl g c' L HWd.out.own hgw clC rfl 1 v1.heap.size rfl rfl (by omega) ?_; intro g7 c7 v hO7 hg7 hl7 hf7; have HC7 : Hid (GC v w.heap.size m A m c) := HC.out.keepF hf7 (.inl (by omega)); have d0 := HC7.out.c0; have d1 := HC7.out.c1)))
    have HB7 : Hid (From w v) := ⟨HB.out.below.trans (hf7.below (by omega) HB.out.below.size)⟩
    have hwg7 : w.heap.size < g7 := by omega
    have HW7 : Hid (WB v g7 c7 (L ++ [clC])) := ⟨by rw [List.length_append]; exact hO7⟩
    have hlen : L.length + 1 = (L ++ [clC]).length := by rw [List.length_append]; rfl
    have hLz : (L ++ [clC]).length ≤ 11 := by rw [List.length_append]; show _ + 1 ≤ _; omega
    rw [hlen]
    clear hO7 hg7 hl7 hf7 HWd hwg HL hgw hwz HC HB e0 e1 d0 d1 HM1 hlen hL10
    obtain ⟨Lx, hLx⟩ : ∃ Lx, Lx = L ++ [clC] := ⟨_, rfl⟩
    rw [← hLx] at HW7 HLn hLz ⊢
    clear hLx
    obtain ⟨L, rfl⟩ : ∃ z, z = Lx := ⟨_, rfl⟩
    obtain ⟨g, rfl⟩ : ∃ z, z = g7 := ⟨_, rfl⟩
    obtain ⟨c', rfl⟩ : ∃ z, z = c7 := ⟨_, rfl⟩
    have HWd := HW7
    have HL := HLn
    have HC := HC7
    have HB := HB7
    have hwg := hwg7
    have hLy := hLz
    clear HW7 HLn HC7 HB7 hwg7 hLz
   all_goals
    have hL11 := hLy
    clear hLy
    refine (K2.out _ HB.out).mono ?_
    rintro e v2 ⟨rfl, hbv⟩
    replace HWd := Lib.hid (HWd.out.keep hbv)
    replace HC := Lib.hid (HC.out.keep hbv)
    replace HB := Lib.hid (HB.out.keep hbv)
    clear hbv K2
    have hgw := HWd.out.lt
    have hwz := HC.out.lt
    have e0 := HC.out.c0
    have e1 := HC.out.c1
    obtain ⟨M2, hM2⟩ : ∃ M, M = opW b2 clP M1 := ⟨_, rfl⟩
    rw [← hM2] at HCF
    have HM2 := Lib.hid hM2
    clear hM2
    cases b2
    case' false =>
     have HLn : Hid (L = M2) := by show _ = _; rw [HM2.out, opW_no]; exact HL.out
     go_wp2_with fail
     obtain ⟨v, hv⟩ : ∃ v : World, v = v2 := ⟨_, rfl⟩
     rw [← hv] at HWd HC HB ⊢
     replace HL := HLn
     have hLy : L.length ≤ 12 := by omega
     clear hgw hwz HM2 HLn hv e0 e1 hL11
    case' true =>
     have HLn : Hid (L ++ [clP] = M2) := by show _ = _; rw [HM2.out, opW_yes, HL.out]
     go_wp2_with (first | (at_builtin; (refine wpList_pushS v2 rfl _ _ rfl g c' L HWd.out.own hgw clP rfl 1 v2.heap.size rfl rfl (by omega) ?_; intro g7 c7 v hO7 hg7 hl7 hf7; have HC7 : Hid (GC v w.heap.size m A m c) := HC.out.keepF hf7 (.inl (by omega)); have d0 := HC7.out.c0; have d1 := HC7.out.c1)))
     have HB7 : Hid (From w v) := ⟨HB.out.below.trans (hf7.below (by omega) HB.out.below.size)⟩
     have hwg7 : w.heap.size < g7 := by omega
     have HW7 : Hid (WB v g7 c7 (L ++ [clP])) := ⟨by rw [List.length_append]; exact hO7⟩
     have hlen : L.length + 1 = (L ++ [clP]).length := by rw [List.length_append]; rfl
     have hLz : (L ++ [clP]).length ≤ 12 := by rw [List.length_append]; show _ + 1 ≤ _; omega
     rw [hlen]
     clear hO7 hg7 hl7 hf7 HWd hwg HL hgw hwz HC HB e0 e1 d0 d1 HM2 hlen hL11
     obtain ⟨Lx, hLx⟩ : ∃ Lx, Lx = L ++ [clP] := ⟨_, rfl⟩
     rw [← hLx] at HW7 HLn hLz ⊢
     clear hLx
     obtain ⟨L, rfl⟩ : ∃ z, z = Lx := ⟨_, rfl⟩
     obtain ⟨g, rfl⟩ : ∃ z, z = g7 := ⟨_, rfl⟩
     obtain ⟨c', rfl⟩ : ∃ z, z = c7 := ⟨_, rfl⟩
     have HWd := HW7
     have HL := HLn
     have HC := HC7
     have HB := HB7
     have hwg := hwg7
     have hLy := hLz
     clear HW7 HLn HC7 HB7 hwg7 hLz
    all_goals
     have hL12 := hLy
     clear hLy
     refine (K3.out _ HB.out).mono ?_
     rintro e v3 ⟨rfl, hbv⟩
     replace HWd := Lib.hid (HWd.out.keep hbv)
     replace HC := Lib.hid (HC.out.keep hbv)
     replace HB := Lib.hid (HB.out.keep hbv)
     clear hbv K3
     have hgw := HWd.out.lt
     have hwz := HC.out.lt
     have e0 := HC.out.c0
     have e1 := HC.out.c1
     obtain ⟨M3, hM3⟩ : ∃ M, M = opW b3 clH M2 := ⟨_, rfl⟩
     rw [← hM3] at HCF
     have HM3 := Lib.hid hM3
     clear hM3
     cases b3
     case' false =>
      have HLn : Hid (L = M3) := by show _ = _; rw [HM3.out, opW_no]; exact HL.out
      go_wp2_with fail
      obtain ⟨v, hv⟩ : ∃ v : World, v = v3 := ⟨_, rfl⟩
      rw [← hv] at HWd HC HB ⊢
      replace HL := HLn
      have hLy : L.length ≤ 13 := by omega
      clear hgw hwz HM3 HLn hv e0 e1 hL12
     case' true =>
      have HLn : Hid (L ++ [clH] = M3) := by show _ = _; rw [HM3.out, opW_yes, HL.out]
      go_wp2_with (first | (at_builtin; (refine wpList_pushS v3 rfl _ _ rfl g c' L HWd.out.own hgw clH rfl 1 v3.heap.size rfl rfl (by omega) ?_; intro g7 c7 v hO7 hg7 hl7 hf7; have HC7 : Hid (GC v w.heap.size m A m c) := HC.out.keepF hf7 (.inl (by omega)); have d0 := HC7.out.c0; have d1 := HC7.out.c1)))
      have HB7 : Hid (From w v) := ⟨HB.out.below.trans (hf7.below (by omega) HB.out.below.size)⟩
      have hwg7 : w.heap.size < g7 := by omega
      have HW7 : Hid (WB v g7 c7 (L ++ [clH])) := ⟨by rw [List.length_append]; exact hO7⟩
      have hlen : L.length + 1 = (L ++ [clH]).length := by rw [List.length_append]; rfl
      have hLz : (L ++ [clH]).length ≤ 13 := by rw [List.length_append]; show _ + 1 ≤ _; omega
      rw [hlen]
      clear hO7 hg7 hl7 hf7 HWd hwg HL hgw hwz HC HB e0 e1 d0 d1 HM3 hlen hL12
      obtain ⟨Lx, hLx⟩ : ∃ Lx, Lx = L ++ [clH] := ⟨_, rfl⟩
      rw [← hLx] at HW7 HLn hLz ⊢
      clear hLx
      obtain ⟨L, rfl⟩ : ∃ z, z = Lx := ⟨_, rfl⟩
      obtain ⟨g, rfl⟩ : ∃ z, z = g7 := ⟨_, rfl⟩
      obtain ⟨c', rfl⟩ : ∃ z, z = c7 := ⟨_, rfl⟩
      have HWd := HW7
      have HL := HLn
      have HC := HC7
      have HB := HB7
      have hwg := hwg7
      have hLy := hLz
      clear HW7 HLn HC7 HB7 hwg7 hLz
     all_goals
      have hL14 := hLy
      have HSz : Hid ((spJ L).size ≤ 1600) := by show _ ≤ _; rw [HL.out, ← HCF.out]; exact HFS.out
      have KJ := Lib.hid (HWd.out.join (by omega) (by have := HSz.out; omega))
      refine KJ.out.mono ?_
      rintro e v9 ⟨rfl, hb9⟩
      replace HB := Lib.hid (HB.out.keep hb9)
      have HR : Hid (spJ L = cllB (m : Int) m x) := by show _ = _; rw [HE.out, HCF.out, HL.out]
      clear hb9 KJ
      go_wp2
      go_ret
      exact ⟨by rw [← HR.out]; rfl, HB.out.below⟩
  have i1 : (k : Int) < (9 : Int) := by omega
  have q0 := HN.out.cell hk9
  have e0 := HC.out.c0
  have e1 := HC.out.c1
  have KO : Hid (∀ z : World, From w z → Calls Tryz.prog 80 #[.agg #[.int .i64 (m : Int), .slice A m c], .string (nm k)] z (lsQ z (obO (m : Int) m x (nm k).toList))) := fun z hz => ObstacleFor_i (m : Int) A m c x (nm k) z (HGA.out.keep hz.below) hm
  have hNs := nm_size k
  have HWy : Hid (∀ l, obO (m : Int) m x (nm k).toList = some l → clW m x k = ⟨#[45]⟩ ++ nm k ++ ⟨#[40]⟩ ++ nuB (fun i => ((l.getD i 0 : Nat) : Int)) l.length ++ ⟨#[41]⟩ ∧ l.length ≤ 7 ∧ ∀ i, i < l.length → I64 ((l.getD i 0 : Nat) : Int)) := fun l hl => ⟨clW_yes hl, (ob_I64 hm7 hl).1, (ob_I64 hm7 hl).2⟩
  have HWn : Hid (obO (m : Int) m x (nm k).toList = none → clW m x k = ⟨#[43]⟩ ++ nm k) := fun hl => clW_no hl
  obtain ⟨o, hoo⟩ : ∃ o, o = obO (m : Int) m x (nm k).toList := ⟨_, rfl⟩
  rw [← hoo] at KO HWy HWn
  obtain ⟨N, hN⟩ : ∃ N, N = nm k := ⟨_, rfl⟩
  rw [← hN] at q0 KO HWy HWn hNs
  clear hoo hN
  have hgn : gn < wr.heap.size := HN.out.lt
  rcases o with _ | l
  ·have HX : Hid (clL m x (k + 1) = L ++ [⟨#[43]⟩ ++ N]) := by show _ = _; rw [clL_succ, ← HL.out, HWn.out rfl]
   have gd : ¬ 9223372036854775807 < 1 + N.size := by omega
   go_wp2_with fail
   refine (KO.out _ HB.out).mono ?_
   rintro e w5 ⟨A5, c5, rfl, _, hb5⟩
   replace HWd := Lib.hid (HWd.out.keep hb5)
   replace HN := Lib.hid (HN.out.keep hb5)
   replace HC := Lib.hid (HC.out.keep hb5)
   replace HB := Lib.hid (HB.out.keep hb5)
   have hgw := HWd.out.lt
   have hgn5 := HN.out.lt
   have hwz := HC.out.lt
   clear KO q0 e0 e1 hb5 hgn
   go_wp2_with (first | (at_builtin; (refine wpList_pushS w5 rfl _ _ rfl g c' L HWd.out.own hgw ((⟨#[43]⟩ : ByteArray) ++ N) rfl 1 w5.heap.size rfl rfl (by omega) ?_; intro g7 c7 w7 hO7 hg7 hl7 hf7)))
   have HWd7 : Hid (WB w7 g7 c7 (clL m x (k + 1))) := by rw [HX.out]; exact ⟨by rw [List.length_append]; exact hO7⟩
   have HN7 : Hid (NB w7 gn c3) := HN.out.keepF hf7 (fun h => hne h.symm)
   have HC7 : Hid (GC w7 w.heap.size m A m c) := HC.out.keepF hf7 (.inl (by omega))
   have HB7 : Hid (From w w7) := ⟨HB.out.below.trans (hf7.below (by omega) HB.out.below.size)⟩
   have hne7 : g7 ≠ gn := by omega
   have hwg7 : w.heap.size < g7 := by omega
   clear hO7 hg7 hl7 hf7 HWd HN HC HB
   go_wp2
   go_roundw
   case rel => exact ⟨k + 1, g7, c7, by omega, by go_num, by rw [HX.out, List.length_append]; rfl, hne7, hwg7, HWd7, HN7, HC7, HB7⟩
   case measure => (simp [intOf] <;> omega)
  ·obtain ⟨h1, h2, h3⟩ := HWy.out l rfl
   have H3 := Lib.hid h3
   obtain ⟨P, hP⟩ : ∃ P, P = nuB (fun i => ((l.getD i 0 : Nat) : Int)) l.length := ⟨_, rfl⟩
   have hPs : P.size ≤ 158 := by rw [hP]; have := nuB_size (X := fun i => ((l.getD i 0 : Nat) : Int)) (n := l.length) h3; omega
   rw [← hP] at h1
   have HX : Hid (clL m x (k + 1) = L ++ [⟨#[45]⟩ ++ N ++ ⟨#[40]⟩ ++ P ++ ⟨#[41]⟩]) := by show _ = _; rw [clL_succ, ← HL.out, h1]
   have KN : Hid (∀ (z : World) (A' : Option Addr) (c' : Nat), From w z → ON w.heap.size z A' c' l → Calls Tryz.prog 81 #[.slice A' l.length c'] z fun e w' => e = .returned (.string P) ∧ Below z.heap.size z w') := fun z A' c' hz hl => by
    rw [hP]
    exact numbersText_i A' l.length c' (fun i => ((l.getD i 0 : Nat) : Int)) z hl.ln.rd H3.out (by omega) (HT.out.keep hz.below)
   clear h1 h3 hP HWy HWn
   obtain ⟨S, hS⟩ : ∃ S : ByteArray, S = (⟨#[45]⟩ : ByteArray) ++ N ++ ⟨#[40]⟩ ++ P ++ ⟨#[41]⟩ := ⟨_, rfl⟩
   rw [← hS] at HX
   replace hS := hS.symm
   have gd1 : ¬ 9223372036854775807 < 1 + N.size := by omega
   have gd2 : ¬ 9223372036854775807 < 1 + N.size + 1 := by omega
   have gd3 : ¬ 9223372036854775807 < 1 + N.size + 1 + P.size := by omega
   have gd4 : ¬ 9223372036854775807 < 1 + N.size + 1 + P.size + 1 := by omega
   have hzr : w.heap.size ≤ wr.heap.size := HB.out.below.size
   go_wp2_with fail
   refine (KO.out _ HB.out).mono ?_
   rintro e w5 ⟨A5, c5, rfl, ho5, hb5⟩
   replace HWd := Lib.hid (HWd.out.keep hb5)
   replace HN := Lib.hid (HN.out.keep hb5)
   replace HC := Lib.hid (HC.out.keep hb5)
   replace HB := Lib.hid (HB.out.keep hb5)
   have HO5 : Hid (ON w.heap.size w5 A5 c5 l) := ho5.mono hzr
   clear KO q0 e0 e1 hb5 hgn ho5
   go_wp2_with fail
   refine (KN.out _ _ _ HB.out HO5.out).mono ?_
   rintro e w6 ⟨rfl, hb6⟩
   replace HWd := Lib.hid (HWd.out.keep hb6)
   replace HN := Lib.hid (HN.out.keep hb6)
   replace HC := Lib.hid (HC.out.keep hb6)
   replace HB := Lib.hid (HB.out.keep hb6)
   have hgw := HWd.out.lt
   have hgn5 := HN.out.lt
   have hwz := HC.out.lt
   clear KN hb6 HO5
   go_wp2_with (first | (at_builtin; (refine wpList_pushS w6 rfl _ _ rfl g c' L HWd.out.own hgw S rfl 1 w6.heap.size rfl rfl (by omega) ?_; intro g7 c7 w7 hO7 hg7 hl7 hf7)))
   have HWd7 : Hid (WB w7 g7 c7 (clL m x (k + 1))) := by rw [HX.out]; exact ⟨by rw [List.length_append]; exact hO7⟩
   have HN7 : Hid (NB w7 gn c3) := HN.out.keepF hf7 (fun h => hne h.symm)
   have HC7 : Hid (GC w7 w.heap.size m A m c) := HC.out.keepF hf7 (.inl (by omega))
   have HB7 : Hid (From w w7) := ⟨HB.out.below.trans (hf7.below (by omega) HB.out.below.size)⟩
   have hne7 : g7 ≠ gn := by omega
   have hwg7 : w.heap.size < g7 := by omega
   clear hO7 hg7 hl7 hf7 HWd HN HC HB
   go_wp2
   go_roundw
   case rel => exact ⟨k + 1, g7, c7, by omega, by go_num, by rw [HX.out, List.length_append]; rfl, hne7, hwg7, HWd7, HN7, HC7, HB7⟩
   case measure => (simp [intOf] <;> omega)
end Go.Proofs.YtfabbohijhjpcaaGreatDoor
