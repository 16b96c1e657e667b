/-
  Contracts: lists of numbers and of edges as text, the reference's way.
-/
import Derived.Test.YtncjfgebolikoaaDoorQwNumS
import Derived.Test.YtncjfgebolikoaaDoorQwNumI
import Derived.Laws.Closers25b
namespace Go.Proofs.YtncjfgebolikoaaDoor
open Go.RowKit

theorem app_nil (b : ByteArray) : b ++ (⟨#[]⟩ : ByteArray) = b := Go.WideShapes.bytes_inj (by rw [dataApp]; simp)

set_option maxRecDepth 100000 in
set_option maxHeartbeats 3200000 in
theorem l33Numbers_s (A : Option Addr) (n c : Nat) (X : Nat → Int) (w : World) (h : Rd w w.heap.size A n c X) (hI : ∀ j, j < n → I64 (X j)) (hn : n ≤ 1048576) :
    Calls Tryd.prog 34 #[.slice A n c] w fun e w' => e = .returned (.string (nmB X n)) ∧ Below w.heap.size w w' := by
  have HL : Hid (∀ z : World, Below w.heap.size w z → Rd z z.heap.size A n c X) := fun z hz => h.keep hz hz.size
  have HI := Lib.hid hI
  clear h hI
  go_enter Tryd.func34, Tryd.ntmps34
  go_wp2
  go_loopw [3, 4] (fun s i wr => ∃ (k : Nat) (S : ByteArray), k ≤ n ∧ i = .int .i64 k ∧ s = .string S ∧ S.size ≤ 22 * k ∧ Hid (S = cmJ (fun j => itB (X j)) k) ∧ Hid (Below w.heap.size w wr)) (fun _ i _ => n - (intOf i).toNat)
  case atStart => exact ⟨0, _, Nat.zero_le _, rfl, rfl, Nat.zero_le _, rfl, Below.refl _ _⟩
  case round =>
    obtain ⟨k, S, hk, rfl, rfl, hS, HS, HB⟩ := hrel
    by_cases hlt : k < n
    · have i1 : (k : Int) < (n : Int) := by omega
      obtain ⟨b, o, rfl, hb, hc⟩ := (HL.out wr HB.out).2 (by omega)
      have q0 := hc k hlt
      have KF := Lib.hid (FormatInt_sa (X k) (HI.out k hlt) wr)
      have hP := itB_size (HI.out k hlt)
      have H1 : Hid (k = 0 → cmJ (fun j => itB (X j)) (k + 1) = S ++ itB (X k)) := fun h => by rw [cmJ_one _ h, HS.out]
      have H2 : Hid (k ≠ 0 → cmJ (fun j => itB (X j)) (k + 1) = S ++ ⟨#[44]⟩ ++ itB (X k)) := fun h => by rw [cmJ_more _ h, HS.out]
      clear hc HS
      obtain ⟨y, hy⟩ : ∃ y, y = X k := ⟨_, rfl⟩
      rw [← hy] at q0 KF hP H1 H2
      obtain ⟨P, hPP⟩ : ∃ P, P = itB y := ⟨_, rfl⟩
      rw [← hPP] at KF hP H1 H2
      clear hy hPP
      have hs : S.size ≤ 23068672 := by omega
      by_cases h0 : k = 0
      · have i3 : (k : Int) ≤ (0 : Int) := by omega
        have HJ := Lib.hid (H1.out h0)
        have h7 : ¬ 9223372036854775807 < S.size + P.size := by omega
        have Hsz : Hid ((S ++ P).size ≤ 22 * (k + 1)) := by show _ ≤ _; rw [ByteArray.size_append]; omega
        clear H1 H2 h0
        go_wp2_with fail
        refine KF.out.mono ?_
        rintro e w1 ⟨rfl, hb1⟩
        have HB1 : Hid (Below w.heap.size w w1) := HB.out.trans (hb1.mono HB.out.size)
        clear hb1 HB KF q0
        go_wp2
        go_roundw
        case rel => exact ⟨k + 1, _, by omega, by go_num, rfl, Hsz.out, HJ.out.symm, HB1⟩
        case measure => (simp [intOf] <;> omega)
      · have i3 : (0 : Int) < (k : Int) := by omega
        have HJ := Lib.hid (H2.out h0)
        have h7 : ¬ 9223372036854775807 < (S ++ ⟨#[44]⟩).size + P.size := by rw [ByteArray.size_append]; show ¬ _ < S.size + 1 + _; omega
        have Hsz : Hid ((S ++ ⟨#[44]⟩ ++ P).size ≤ 22 * (k + 1)) := by show _ ≤ _; rw [ByteArray.size_append, ByteArray.size_append]; show S.size + 1 + _ ≤ _; omega
        clear H1 H2 h0
        go_wp2_with fail
        refine KF.out.mono ?_
        rintro e w1 ⟨rfl, hb1⟩
        have HB1 : Hid (Below w.heap.size w w1) := HB.out.trans (hb1.mono HB.out.size)
        clear hb1 HB KF q0
        go_wp2
        go_roundw
        case rel => exact ⟨k + 1, _, by omega, by go_num, rfl, Hsz.out, HJ.out.symm, HB1⟩
        case measure => (simp [intOf] <;> omega)
    · have i1 : (n : Int) ≤ (k : Int) := by omega
      obtain rfl : k = n := by omega
      by_cases he : S.toList = []
      · have HO : Hid (nmB X k = ⟨#[110, 111, 110, 101]⟩) := by show noB _ = _; rw [← HS.out]; exact noB_yes he
        have hbe : S.toList.isEmpty = true := by rw [he]; rfl
        clear he
        go_wp2
        go_ret
        exact ⟨by rw [HO.out]; rfl, HB.out⟩
      · have HO : Hid (nmB X k = S) := by show noB _ = _; rw [← HS.out]; exact noB_no he
        have hbe : S.toList.isEmpty = false := by rw [List.isEmpty_eq_false_iff]; exact he
        clear he
        go_wp2
        go_ret
        exact ⟨by rw [HO.out]; rfl, HB.out⟩

set_option maxRecDepth 100000 in
set_option maxHeartbeats 3200000 in
theorem l33Edges_s (A : Option Addr) (c : Nat) (D : List Dsc) (w : World) (h : RdD w w.heap.size A c D) (hI : ∀ d ∈ D, ∀ z ∈ d.2.2, I64 z) (hn : D.length ≤ 1048576) (htt : tot D ≤ 1048576) :
    Calls Tryd.prog 35 #[.slice A D.length c] w fun e w' => e = .returned (.string (edB (lists D))) ∧ Below w.heap.size w w' := by
  have HL : Hid (∀ z : World, Below w.heap.size w z → RdD z z.heap.size A c D) := fun z hz => h.keep hz hz.size
  have HI := Lib.hid hI
  have HTT := Lib.hid htt
  obtain ⟨n, hnn⟩ : ∃ n, n = D.length := ⟨_, rfl⟩
  have Hn := Lib.hid hnn
  have hED := edB_eq (lists D)
  have hll : (lists D).length = n := by rw [hnn]; simp [lists]
  rw [hll] at hED
  have HED := Lib.hid hED
  rw [← hnn] at hn ⊢
  clear h hI htt hnn hED hll
  go_enter Tryd.func35, Tryd.ntmps35
  go_wp2
  go_loopw [3, 4] (fun s i wr => ∃ (k : Nat) (S : ByteArray), k ≤ n ∧ i = .int .i64 k ∧ s = .string S ∧ S.size ≤ 22020097 * k ∧ Hid (S = cmJ (erT (lists D)) k) ∧ Hid (Below w.heap.size w wr)) (fun _ i _ => n - (intOf i).toNat)
  case atStart => exact ⟨0, _, Nat.zero_le _, rfl, rfl, Nat.zero_le _, rfl, Below.refl _ _⟩
  case round =>
    obtain ⟨k, S, hk, rfl, rfl, hS, HS, HB⟩ := hrel
    by_cases hlt : k < n
    · have i1 : (k : Int) < (n : Int) := by omega
      have hkD : k < D.length := by rw [← Hn.out]; exact hlt
      have hR := HL.out wr HB.out
      obtain ⟨b, o, rfl, hb, hc⟩ := hR.1.2 (by omega)
      obtain ⟨_, hm, hdv⟩ := dvs_atE hkD
      have q0 := (hc k hkD).trans (congrArg some hdv)
      have Q0 : Hid (∀ z : World, Below w.heap.size w z → z.cell? ⟨b, o + k, none⟩ = some (dv (D.getD k (none, 0, [])))) := fun z hz => by
        obtain ⟨b3, o3, e3, _, hc3⟩ := (HL.out z hz).1.2 (by omega)
        cases e3
        exact (hc3 k hkD).trans (congrArg some hdv)
      have HR2 : Hid (∀ z : World, Below w.heap.size w z → _) := fun z hz => (HL.out z hz).2 _ hm
      have HI2 : Hid (∀ j, j < (D.getD k (none, 0, [])).2.2.length → I64 ((D.getD k (none, 0, [])).2.2.getD j 0)) := fun j hj => HI.out _ hm _ (getD_in hj)
      have hrl := tot_atD hkD
      have hTT := HTT.out
      have hla := lists_atD D k
      have HP : Hid (erT (lists D) k = dgJ (fun i => (D.getD k (none, 0, [])).2.2.getD i 0) (D.getD k (none, 0, [])).2.2.length) := by show _ = _; unfold erT; rw [hla]
      have hml : (D.getD k (none, 0, [])).2.2.length ≤ 1048576 := by omega
      obtain ⟨d, hd⟩ : ∃ d, d = D.getD k (none, 0, []) := ⟨_, rfl⟩
      rw [← hd] at q0 Q0 HR2 HI2 HP hml
      obtain ⟨da, dc, dl⟩ := d
      simp only [dv] at q0 Q0 HR2 HI2 HP hml
      obtain ⟨m, hm2⟩ : ∃ m, m = dl.length := ⟨_, rfl⟩
      simp only [← hm2] at q0 Q0 HR2 HI2 HP hml
      have H1 : Hid (k = 0 → cmJ (erT (lists D)) (k + 1) = S ++ dgJ (fun i => dl.getD i 0) m) := fun h => by rw [cmJ_one _ h, HS.out, ← HP.out]
      have H2 : Hid (k ≠ 0 → cmJ (erT (lists D)) (k + 1) = S ++ ⟨#[44]⟩ ++ dgJ (fun i => dl.getD i 0) m) := fun h => by rw [cmJ_more _ h, HS.out, ← HP.out]
      clear hc hR hm hdv hrl hTT hla hd hm2 HP HS
      have hs : S.size ≤ 23089745231872 := by omega
      by_cases h0 : k = 0
      · have i3 : (k : Int) ≤ (0 : Int) := by omega
        have i4 : decide (0 < k) = false := decide_eq_false (by omega)
        have HJ := Lib.hid (H1.out h0)
        obtain ⟨Sb, hSb⟩ : ∃ Sb, Sb = S := ⟨_, rfl⟩
        have hsb : Sb.size ≤ 22020097 * k + 1 := by rw [hSb]; omega
        rw [← hSb] at HJ
        have HSb := Lib.hid hSb
        clear H1 H2 h0 hSb
        go_wp2
        try rw [← HSb.out]
        obtain ⟨wo, rfl⟩ : ∃ wo : World, wo = wr := ⟨_, rfl⟩
        go_loopw [3, 5] (fun s i wr => ∃ (u : Nat) (S2 : ByteArray), u ≤ m ∧ i = .int .i64 u ∧ s = .string S2 ∧ S2.size ≤ 22020097 * k + 1 + 21 * u ∧ Hid (S2 = Sb ++ dgJ (fun i => dl.getD i 0) u) ∧ Hid (Below w.heap.size w wr)) (fun _ i _ => m - (intOf i).toNat)
        case atStart => exact ⟨0, _, Nat.zero_le _, rfl, rfl, by omega, by show _ = _; exact (app_nil Sb).symm, HB⟩
        case round =>
          clear HB q0
          obtain ⟨u, S2, hu, rfl, rfl, hS2, HS2, HB⟩ := hrel
          have q0 := Q0.out _ HB.out
          by_cases hlu : u < m
          · have i2 : (u : Int) < (m : Int) := by omega
            obtain ⟨b2, o2, rfl, hb2, hc2⟩ := (HR2.out _ HB.out).2 (by omega)
            have q1 := hc2 u hlu
            dsimp only at q1
            have KF := Lib.hid (FormatInt_sa (dl.getD u 0) (HI2.out u hlu) wr)
            have hP := itB_size (HI2.out u hlu)
            have HS3 : Hid (S2 ++ itB (dl.getD u 0) = Sb ++ dgJ (fun i => dl.getD i 0) (u + 1)) := by show _ = Sb ++ (dgJ _ u ++ _); rw [HS2.out, ByteArray.append_assoc]
            clear hc2 HS2
            obtain ⟨y, hy⟩ : ∃ y, y = dl.getD u 0 := ⟨_, rfl⟩
            rw [← hy] at q1 KF hP HS3
            obtain ⟨P, hPP⟩ : ∃ P, P = itB y := ⟨_, rfl⟩
            rw [← hPP] at KF hP HS3
            clear hy hPP
            have h7 : ¬ 9223372036854775807 < S2.size + P.size := by omega
            have Hsz : Hid ((S2 ++ P).size ≤ 22020097 * k + 1 + 21 * (u + 1)) := by show _ ≤ _; rw [ByteArray.size_append]; omega
            go_wp2_with fail
            refine KF.out.mono ?_
            rintro e w1 ⟨rfl, hb1⟩
            have HB1 : Hid (Below w.heap.size w w1) := HB.out.trans (hb1.mono HB.out.size)
            clear hb1 HB KF q0 q1
            go_wp2
            go_roundw
            case rel => exact ⟨u + 1, _, by omega, by go_num, rfl, Hsz.out, HS3, HB1⟩
            case measure => (simp [intOf] <;> omega)
          · have i2 : (m : Int) ≤ (u : Int) := by omega
            obtain rfl : u = m := by omega
            have HS3 : Hid (S2 = cmJ (erT (lists D)) (k + 1)) := by show _ = _; rw [HS2.out, HJ.out]
            have Hsz : Hid (S2.size ≤ 22020097 * (k + 1)) := by show _ ≤ _; omega
            clear HS2
            go_wp2
            go_roundw
            case rel => exact ⟨k + 1, S2, by omega, by go_num, rfl, Hsz.out, HS3, HB⟩
            case measure => (simp [intOf] <;> omega)
      · have i3 : (0 : Int) < (k : Int) := by omega
        have i4 : decide (0 < k) = true := decide_eq_true (by omega)
        have HJ := Lib.hid (H2.out h0)
        obtain ⟨Sb, hSb⟩ : ∃ Sb, Sb = S ++ ⟨#[44]⟩ := ⟨_, rfl⟩
        have hsb : Sb.size ≤ 22020097 * k + 1 := by rw [hSb]; rw [ByteArray.size_append]; show S.size + 1 ≤ _; omega
        rw [← hSb] at HJ
        have HSb := Lib.hid hSb
        clear H1 H2 h0 hSb
        go_wp2
        try rw [← HSb.out]
        obtain ⟨wo, rfl⟩ : ∃ wo : World, wo = wr := ⟨_, rfl⟩
        go_loopw [3, 5] (fun s i wr => ∃ (u : Nat) (S2 : ByteArray), u ≤ m ∧ i = .int .i64 u ∧ s = .string S2 ∧ S2.size ≤ 22020097 * k + 1 + 21 * u ∧ Hid (S2 = Sb ++ dgJ (fun i => dl.getD i 0) u) ∧ Hid (Below w.heap.size w wr)) (fun _ i _ => m - (intOf i).toNat)
        case atStart => exact ⟨0, _, Nat.zero_le _, rfl, rfl, by omega, by show _ = _; exact (app_nil Sb).symm, HB⟩
        case round =>
          clear HB q0
          obtain ⟨u, S2, hu, rfl, rfl, hS2, HS2, HB⟩ := hrel
          have q0 := Q0.out _ HB.out
          by_cases hlu : u < m
          · have i2 : (u : Int) < (m : Int) := by omega
            obtain ⟨b2, o2, rfl, hb2, hc2⟩ := (HR2.out _ HB.out).2 (by omega)
            have q1 := hc2 u hlu
            dsimp only at q1
            have KF := Lib.hid (FormatInt_sa (dl.getD u 0) (HI2.out u hlu) wr)
            have hP := itB_size (HI2.out u hlu)
            have HS3 : Hid (S2 ++ itB (dl.getD u 0) = Sb ++ dgJ (fun i => dl.getD i 0) (u + 1)) := by show _ = Sb ++ (dgJ _ u ++ _); rw [HS2.out, ByteArray.append_assoc]
            clear hc2 HS2
            obtain ⟨y, hy⟩ : ∃ y, y = dl.getD u 0 := ⟨_, rfl⟩
            rw [← hy] at q1 KF hP HS3
            obtain ⟨P, hPP⟩ : ∃ P, P = itB y := ⟨_, rfl⟩
            rw [← hPP] at KF hP HS3
            clear hy hPP
            have h7 : ¬ 9223372036854775807 < S2.size + P.size := by omega
            have Hsz : Hid ((S2 ++ P).size ≤ 22020097 * k + 1 + 21 * (u + 1)) := by show _ ≤ _; rw [ByteArray.size_append]; omega
            go_wp2_with fail
            refine KF.out.mono ?_
            rintro e w1 ⟨rfl, hb1⟩
            have HB1 : Hid (Below w.heap.size w w1) := HB.out.trans (hb1.mono HB.out.size)
            clear hb1 HB KF q0 q1
            go_wp2
            go_roundw
            case rel => exact ⟨u + 1, _, by omega, by go_num, rfl, Hsz.out, HS3, HB1⟩
            case measure => (simp [intOf] <;> omega)
          · have i2 : (m : Int) ≤ (u : Int) := by omega
            obtain rfl : u = m := by omega
            have HS3 : Hid (S2 = cmJ (erT (lists D)) (k + 1)) := by show _ = _; rw [HS2.out, HJ.out]
            have Hsz : Hid (S2.size ≤ 22020097 * (k + 1)) := by show _ ≤ _; omega
            clear HS2
            go_wp2
            go_roundw
            case rel => exact ⟨k + 1, S2, by omega, by go_num, rfl, Hsz.out, HS3, HB⟩
            case measure => (simp [intOf] <;> omega)
    · have i1 : (n : Int) ≤ (k : Int) := by omega
      obtain rfl : k = n := by omega
      by_cases he : S.toList = []
      · have HO : Hid (edB (lists D) = ⟨#[110, 111, 110, 101]⟩) := by show _ = _; rw [HED.out, ← HS.out]; exact noB_yes he
        have hbe : S.toList.isEmpty = true := by rw [he]; rfl
        clear he
        go_wp2
        go_ret
        exact ⟨by rw [HO.out]; rfl, HB.out⟩
      · have HO : Hid (edB (lists D) = S) := by show _ = _; rw [HED.out, ← HS.out]; exact noB_no he
        have hbe : S.toList.isEmpty = false := by rw [List.isEmpty_eq_false_iff]; exact he
        clear he
        go_wp2
        go_ret
        exact ⟨by rw [HO.out]; rfl, HB.out⟩
end Go.Proofs.YtncjfgebolikoaaDoor
