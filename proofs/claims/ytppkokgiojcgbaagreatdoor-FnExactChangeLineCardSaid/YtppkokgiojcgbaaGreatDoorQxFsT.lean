/-
  Several texts in one.
-/
import Derived.Test.YtppkokgiojcgbaaGreatDoorQxFmU
import Derived.Test.YtppkokgiojcgbaaGreatDoorQxGB
import Derived.Laws.Closers25b
/-
-/
namespace Go.Proofs.YtppkokgiojcgbaaGreatDoor
open Go.RowKit
set_option maxRecDepth 100000 in
set_option maxHeartbeats 2000000 in
theorem listed_i (g c : Nat) (L : List ByteArray) (J : ByteArray) (w : World) (lo : Nat) (h : Own w lo w.heap.size 9 1 (some ⟨g, 0, none⟩) L.length c (stL L)) (hJ : Lib.join (L.map (·.data.toList)) [44] = J.data.toList) (hl : L.length ≤ 1048576) (hs : J.size ≤ 140737488355328) :
 Calls Tryz.prog 116 #[.slice (some ⟨g, 0, none⟩) L.length c] w fun e w' => e = .returned (.string (noB J)) ∧ Below w.heap.size w w' := by
 have KJ : Hid (Calls Tryz.prog 86 #[.slice (some ⟨g, 0, none⟩) L.length c, .string ⟨#[44]⟩] w fun e w' => e = .returned (.string J) ∧ Below w.heap.size w w') := by
  have hg : g < w.heap.size := by
   rcases h.at_block with h2 | ⟨g2, h2, _, h3⟩
   ·cases h2
   ·cases h2; exact h3
  have K := join_any g 0 c L ⟨#[44]⟩ w (fun j x hx => by
   obtain ⟨hj, hx2⟩ := List.getElem?_eq_some_iff.1 hx
   obtain ⟨g2, e2, _, _, _, hc, _⟩ := h.at_ (by omega)
   cases e2
   rw [Nat.zero_add, hc j (by omega)]
   unfold stL
   simp [List.getD, hx]) hg (by omega) h.le (by
    show (Lib.join (L.map (·.data.toList)) [44]).length ≤ _
    rw [hJ]
    have : J.data.toList.length = J.size := by simp
    omega)
  refine K.mono fun e w' ⟨he, hb⟩ => ⟨?_, hb⟩
  rw [he]
  show Ending.returned (.string ⟨(Lib.join (L.map (·.data.toList)) [44]).toArray⟩) = _
  rw [hJ]
 clear h hJ hs
 have hl0 : (0 : Int) ≤ (L.length : Int) := by omega
 by_cases hn : J.toList = []
 ·have HJ := Lib.hid (noB_yes hn)
  have hb : J.toList.isEmpty = true := by rw [hn]; rfl
  clear hn
  go_enter Tryz.func116, Tryz.ntmps116
  go_wp2_with fail
  refine KJ.out.mono ?_
  rintro e w1 ⟨rfl, hb1⟩
  have HB1 := Lib.hid hb1
  clear hb1
  go_wp2
  go_ret
  exact ⟨by rw [HJ.out]; rfl, HB1.out⟩
 ·have HJ := Lib.hid (noB_no hn)
  have hb : J.toList.isEmpty = false := by rw [List.isEmpty_eq_false_iff]; exact hn
  clear hn
  go_enter Tryz.func116, Tryz.ntmps116
  go_wp2_with fail
  refine KJ.out.mono ?_
  rintro e w1 ⟨rfl, hb1⟩
  have HB1 := Lib.hid hb1
  clear hb1
  go_wp2
  go_ret
  exact ⟨by rw [HJ.out]; rfl, HB1.out⟩
set_option maxRecDepth 100000 in
set_option maxHeartbeats 3200000 in
theorem digits_i (A : Option Addr) (n c : Nat) (X : Nat → Int) (w : World) (h : Rd w w.heap.size A n c X) (hI : ∀ j, j < n → I64 (X j)) (hn : n ≤ 1048576) (ht : Tb w) :
 Calls Tryz.prog 112 #[.slice A n c] w fun e w' => e = .returned (.string (dgJ X n)) ∧ Below w.heap.size w w' := by
 have HL : Hid (∀ z : World, Below w.heap.size w z → Rd z z.heap.size A n c X) := fun z hz => h.keep hz hz.size
 have HI := Lib.hid hI
 have HT := Lib.hid ht
 clear h hI ht
 go_enter Tryz.func112, Tryz.ntmps112
 go_wp2
 go_loopw [3, 8] (fun s i wr => ∃ (k : Nat) (S : ByteArray), k ≤ n ∧ i = .int .i64 k ∧ s = .string S ∧ S.size ≤ 21 * k ∧ Hid (S = dgJ X k) ∧ Hid (Below w.heap.size w wr)) (fun _ i _ => n - (intOf i).toNat)
 case atStart => exact ⟨0, _, Nat.zero_le _, rfl, rfl, Nat.zero_le _, rfl, Below.refl _ _⟩
 case round =>
  obtain ⟨k, S, hk, rfl, rfl, hS, HS, HB⟩ := hrel
  by_cases hlt : k < n
  ·have i1 : (k : Int) < (n : Int) := by omega
   obtain ⟨b, o, rfl, hb, hc⟩ := (HL.out wr HB.out).2 (by omega)
   have q0 := hc k hlt
   have KF := Lib.hid (FormatInt_ia (X k) (HI.out k hlt) wr (HT.out.keep HB.out))
   have hP := itB_size (HI.out k hlt)
   have HJ : Hid (dgJ X (k + 1) = S ++ itB (X k)) := by show _ = _; rw [HS.out]; rfl
   clear hc HS
   obtain ⟨y, hy⟩ : ∃ y, y = X k := ⟨_, rfl⟩
   rw [← hy] at q0 KF hP HJ
   obtain ⟨P, hPP⟩ : ∃ P, P = itB y := ⟨_, rfl⟩
   rw [← hPP] at KF hP HJ
   clear hy hPP
   have h7 : ¬ 9223372036854775807 < S.size + P.size := by omega
   have Hsz : Hid ((S ++ P).size ≤ 21 * (k + 1)) := by show _ ≤ _; rw [ByteArray.size_append]; omega
   go_wp2_with fail
   refine KF.out.mono ?_
   rintro e w1 ⟨rfl, hb1⟩
   have HB1 : Hid (Below w.heap.size w w1) := HB.out.trans (hb1.mono HB.out.size)
   clear hb1 HB KF q0
   go_wp2
   go_roundw
   case rel => exact ⟨k + 1, _, by omega, by go_num, rfl, Hsz.out, HJ.out.symm, HB1⟩
   case measure => (simp [intOf] <;> omega)
  ·have i1 : (n : Int) ≤ (k : Int) := by omega
   obtain rfl : k = n := by omega
   go_wp2
   go_ret
   exact ⟨by rw [← HS.out]; rfl, HB.out⟩
def erT (L : List (List Int)) (j : Nat) : ByteArray := dgJ (fun i => (L.getD j []).getD i 0) (L.getD j []).length
theorem edB_eq (L : List (List Int)) : edB L = noB (cmJ (erT L) L.length) := rfl
theorem lists_atD (D : List Dsc) (j : Nat) : (lists D).getD j [] = (D.getD j (none, 0, [])).2.2 := by
 unfold lists
 by_cases h : j < D.length
 ·simp [List.getD, h]
 ·simp [List.getD, List.getElem?_eq_none (Nat.le_of_not_lt h)]
theorem getD_in {l : List Int} {j : Nat} (h : j < l.length) : l.getD j 0 ∈ l := by
 have : l.getD j 0 = l[j] := by simp [List.getD, h]
 rw [this]; exact List.getElem_mem h
theorem dvs_atE {D : List Dsc} {j : Nat} (h : j < D.length) : D[j]? = some (D.getD j (none, 0, [])) ∧ D.getD j (none, 0, []) ∈ D ∧ dvs D j = dv (D.getD j (none, 0, [])) := by
 have e : D[j]? = some (D.getD j (none, 0, [])) := by simp [List.getD, h]
 exact ⟨e, List.mem_of_getElem? e, rfl⟩
theorem tot_atD {D : List Dsc} {k : Nat} (h : k < D.length) : (D.getD k (none, 0, [])).2.2.length ≤ tot D := by
 have h3 := tot_take_le D (k + 1)
 rw [take_at (dvs_atE h).1, tot_snoc] at h3
 omega
theorem erT_size {D : List Dsc} (hI : ∀ d ∈ D, ∀ z ∈ d.2.2, I64 z) (ht : tot D ≤ 1048576) {j : Nat} (h : j < D.length) : (erT (lists D) j).size ≤ 22020096 := by
 unfold erT
 rw [lists_atD]
 have h1 := tot_atD h
 have h2 := dgJ_size (X := fun i => (D.getD j (none, 0, [])).2.2.getD i 0) (D.getD j (none, 0, [])).2.2.length (fun i hi => hI _ (dvs_atE h).2.1 _ (getD_in hi))
 omega
set_option maxRecDepth 100000 in
set_option maxHeartbeats 3200000 in
theorem edgesText_i (A : Option Addr) (c : Nat) (D : List Dsc) (w : World) (h : RdD w w.heap.size A c D) (hI : ∀ d ∈ D, ∀ z ∈ d.2.2, I64 z) (hn : D.length ≤ 1048576) (htt : tot D ≤ 1048576) (ht : Tb w) :
 Calls Tryz.prog 57 #[.slice A D.length c] w fun e w' => e = .returned (.string (edB (lists D))) ∧ Below w.heap.size w w' := by
 have HL : Hid (∀ z : World, Below w.heap.size w z → RdD z z.heap.size A c D) := fun z hz => h.keep hz hz.size
 have HI := Lib.hid hI
 have HT := Lib.hid ht
 have HTT := Lib.hid htt
 obtain ⟨n, hnn⟩ : ∃ n, n = D.length := ⟨_, rfl⟩
 have Hn := Lib.hid hnn
 have hED := edB_eq (lists D)
 have hll : (lists D).length = n := by rw [hnn]; simp [lists]
 rw [hll] at hED
 have HED := Lib.hid hED
 rw [← hnn] at hn ⊢
 clear h hI ht htt hnn hED hll
 go_enter Tryz.func57, Tryz.ntmps57
 go_wp2
 go_loopw [3, 9] (fun l i wr => ∃ (k g c' : Nat), k ≤ n ∧ i = .int .i64 k ∧ l = .slice (some ⟨g, 0, none⟩) k c' ∧ Hid (Own wr w.heap.size wr.heap.size 9 1 (some ⟨g, 0, none⟩) k c' (stL (cmL (erT (lists D)) k))) ∧ Hid (Below w.heap.size w wr)) (fun _ i _ => n - (intOf i).toNat)
 case atStart => exact ⟨0, w.heap.size, 0, Nat.zero_le _, rfl, rfl, stL_own0 w, (Below.refl _ _).alloc (Nat.le_refl _) _⟩
 case round =>
  obtain ⟨k, g, c', hk, rfl, rfl, HO, HB⟩ := hrel
  by_cases hlt : k < n
  ·have i1 : (k : Int) < (n : Int) := by omega
   have hkD : k < D.length := by rw [← Hn.out]; exact hlt
   have hR := HL.out wr HB.out
   obtain ⟨b, o, rfl, hb, hc⟩ := hR.1.2 (by omega)
   obtain ⟨_, hm, hdv⟩ := dvs_atE hkD
   have q0 := (hc k hkD).trans (congrArg some hdv)
   have hrow := hR.2 _ hm
   have hrl := tot_atD hkD
   have hTT := HTT.out
   have hla := lists_atD D k
   have KF := Lib.hid (digits_i _ _ _ _ wr hrow (fun j hj => HI.out _ hm _ (getD_in hj)) (by omega) (HT.out.keep HB.out))
   have HP : Hid (erT (lists D) k = dgJ (fun i => (D.getD k (none, 0, [])).2.2.getD i 0) (D.getD k (none, 0, [])).2.2.length) := by show _ = _; unfold erT; rw [hla]
   obtain ⟨d, hd⟩ : ∃ d, d = D.getD k (none, 0, []) := ⟨_, rfl⟩
   rw [← hd] at q0 KF HP
   obtain ⟨da, dc, dl⟩ := d
   simp only [dv] at q0 KF
   obtain ⟨m, hm2⟩ : ∃ m, m = dl.length := ⟨_, rfl⟩
   simp only [← hm2] at q0 KF HP
   clear hc hR hrow hm hdv hrl hTT hla hd hm2
   obtain ⟨T, hT⟩ : ∃ T, T = cmL (erT (lists D)) k := ⟨_, rfl⟩
   obtain ⟨P, hPP⟩ : ∃ P, P = dgJ (fun i => dl.getD i 0) m := ⟨_, rfl⟩
   rw [← hPP] at KF HP
   have HTT2 : Hid (cmL (erT (lists D)) (k + 1) = T ++ [P]) := by rw [hT, ← HP.out]; exact cmL_succ _ _
   have HTl : Hid (T.length = k) := by show _ = _; rw [hT]; exact cmL_len _ _
   rw [← hT] at HO
   clear hT hPP HP
   go_wp2_with fail
   refine KF.out.mono ?_
   rintro e w1 ⟨rfl, hb1⟩
   have HB1 : Hid (Below w.heap.size w w1) := HB.out.trans (hb1.mono HB.out.size)
   have hz1 := HB1.out.size
   have HX : Hid (Own (w1.alloc (Obj.cells #[.string P] 9)) w.heap.size w1.heap.size 9 1 (some ⟨g, 0, none⟩) k c' (stL (T ++ [P]))) := ((((HO.out.keepB hb1 (Nat.le_refl _)).mono (Nat.le_refl _) hb1.size)).alloc _).congr (fun j hj => (stL_left (by rw [HTl.out]; omega)).symm)
   have HXn : Hid (∀ i, i < 1 → (#[Value.string P] : Array Value)[i]? = some (stL (T ++ [P]) (k * 1 + i))) := by rw [← HTl.out]; exact stL_news
   clear hb1 HO HB KF q0
   go_wp2_with (first | (at_builtin; (refine wpList_push (w1.alloc (Obj.cells #[.string P] 9)) rfl _ _ _ rfl 9 _ 1 16 Tryz.underlying92 info_string rfl (by omega) w.heap.size _ (some ⟨g, 0, none⟩) k c' (stL (T ++ [P])) rfl HX.out (by simp; omega) w1.heap.size #[.string P] 9 (0, 0) 1 (heap_alloc_new w1 _) rfl rfl HXn.out (by simp [Value.oneCell']) (by omega) (by omega) ?_; intro g3 c3 w3 hp)))
   have HO3 : Hid (Own w3 w.heap.size w3.heap.size 9 1 (some ⟨g3, 0, none⟩) (k + 1) c3 (stL (cmL (erT (lists D)) (k + 1)))) := by rw [HTT2.out]; exact hp.own
   have HB3 : Hid (Below w.heap.size w w3) := (HB1.out.alloc hz1 _).trans hp.below
   clear hp HX HXn
   go_roundw
   case rel => exact ⟨k + 1, g3, c3, by omega, by go_num, rfl, HO3, HB3⟩
   case measure => (simp [intOf] <;> omega)
  ·have i1 : (n : Int) ≤ (k : Int) := by omega
   obtain rfl : k = n := by omega
   have hl := cmL_len (erT (lists D)) k
   have KL : Hid (Calls Tryz.prog 116 #[.slice (some ⟨g, 0, none⟩) k c'] wr fun e w' => e = .returned (.string (edB (lists D))) ∧ Below wr.heap.size wr w') := by
    have hs := cmJ_size (T := erT (lists D)) (M := 22020096) k (fun j hj => erT_size HI.out HTT.out (by rw [← Hn.out]; exact hj))
    have K := listed_i g c' (cmL (erT (lists D)) k) (cmJ (erT (lists D)) k) wr w.heap.size (by rw [hl]; exact HO.out) (cmJ_join _ k) (by rw [hl]; omega) (by omega)
    rw [hl, ← HED.out] at K
    exact K
   clear hl HO
   go_wp2_with fail
   refine KL.out.mono ?_
   rintro e w2 ⟨rfl, hb2⟩
   have HB2 : Hid (Below w.heap.size w w2) := HB.out.trans (hb2.mono HB.out.size)
   clear hb2
   go_wp2
   go_ret
   exact ⟨rfl, HB2.out⟩
end Go.Proofs.YtppkokgiojcgbaaGreatDoor

/-
-/
namespace Go.Proofs.YtppkokgiojcgbaaGreatDoor
open Go.RowKit
theorem app_nil (b : ByteArray) : b ++ (⟨#[]⟩ : ByteArray) = b := Go.WideShapes.bytes_inj (by rw [dataApp]; simp)
set_option maxRecDepth 100000 in
set_option maxHeartbeats 3200000 in
theorem l33Edges_s (A : Option Addr) (c : Nat) (D : List Dsc) (w : World) (h : RdD w w.heap.size A c D) (hI : ∀ d ∈ D, ∀ z ∈ d.2.2, I64 z) (hn : D.length ≤ 1048576) (htt : tot D ≤ 1048576) :
 Calls Tryz.prog 51 #[.slice A D.length c] w fun e w' => e = .returned (.string (edB (lists D))) ∧ Below w.heap.size w w' := by
 have HL : Hid (∀ z : World, Below w.heap.size w z → RdD z z.heap.size A c D) := fun z hz => h.keep hz hz.size
 have HI := Lib.hid hI
 have HTT := Lib.hid htt
 obtain ⟨n, hnn⟩ : ∃ n, n = D.length := ⟨_, rfl⟩
 have Hn := Lib.hid hnn
 have hED := edB_eq (lists D)
 have hll : (lists D).length = n := by rw [hnn]; simp [lists]
 rw [hll] at hED
 have HED := Lib.hid hED
 rw [← hnn] at hn ⊢
 clear h hI htt hnn hED hll
 go_enter Tryz.func51, Tryz.ntmps51
 go_wp2
 go_loopw [3, 4] (fun s i wr => ∃ (k : Nat) (S : ByteArray), k ≤ n ∧ i = .int .i64 k ∧ s = .string S ∧ S.size ≤ 22020097 * k ∧ Hid (S = cmJ (erT (lists D)) k) ∧ Hid (Below w.heap.size w wr)) (fun _ i _ => n - (intOf i).toNat)
 case atStart => exact ⟨0, _, Nat.zero_le _, rfl, rfl, Nat.zero_le _, rfl, Below.refl _ _⟩
 case round =>
  obtain ⟨k, S, hk, rfl, rfl, hS, HS, HB⟩ := hrel
  by_cases hlt : k < n
  ·have i1 : (k : Int) < (n : Int) := by omega
   have hkD : k < D.length := by rw [← Hn.out]; exact hlt
   have hR := HL.out wr HB.out
   obtain ⟨b, o, rfl, hb, hc⟩ := hR.1.2 (by omega)
   obtain ⟨_, hm, hdv⟩ := dvs_atE hkD
   have q0 := (hc k hkD).trans (congrArg some hdv)
   have Q0 : Hid (∀ z : World, Below w.heap.size w z → z.cell? ⟨b, o + k, none⟩ = some (dv (D.getD k (none, 0, [])))) := fun z hz => by
    obtain ⟨b3, o3, e3, _, hc3⟩ := (HL.out z hz).1.2 (by omega)
    cases e3
    exact (hc3 k hkD).trans (congrArg some hdv)
   have HR2 : Hid (∀ z : World, Below w.heap.size w z → _) := fun z hz => (HL.out z hz).2 _ hm
   have HI2 : Hid (∀ j, j < (D.getD k (none, 0, [])).2.2.length → I64 ((D.getD k (none, 0, [])).2.2.getD j 0)) := fun j hj => HI.out _ hm _ (getD_in hj)
   have hrl := tot_atD hkD
   have hTT := HTT.out
   have hla := lists_atD D k
   have HP : Hid (erT (lists D) k = dgJ (fun i => (D.getD k (none, 0, [])).2.2.getD i 0) (D.getD k (none, 0, [])).2.2.length) := by show _ = _; unfold erT; rw [hla]
   have hml : (D.getD k (none, 0, [])).2.2.length ≤ 1048576 := by omega
   obtain ⟨d, hd⟩ : ∃ d, d = D.getD k (none, 0, []) := ⟨_, rfl⟩
   rw [← hd] at q0 Q0 HR2 HI2 HP hml
   obtain ⟨da, dc, dl⟩ := d
   simp only [dv] at q0 Q0 HR2 HI2 HP hml
   obtain ⟨m, hm2⟩ : ∃ m, m = dl.length := ⟨_, rfl⟩
   simp only [← hm2] at q0 Q0 HR2 HI2 HP hml
   have H1 : Hid (k = 0 → cmJ (erT (lists D)) (k + 1) = S ++ dgJ (fun i => dl.getD i 0) m) := fun h => by rw [cmJ_one _ h, HS.out, ← HP.out]
   have H2 : Hid (k ≠ 0 → cmJ (erT (lists D)) (k + 1) = S ++ ⟨#[44]⟩ ++ dgJ (fun i => dl.getD i 0) m) := fun h => by rw [cmJ_more _ h, HS.out, ← HP.out]
   clear hc hR hm hdv hrl hTT hla hd hm2 HP HS
   have hs : S.size ≤ 23089745231872 := by omega
   by_cases h0 : k = 0
   ·have i3 : (k : Int) ≤ (0 : Int) := by omega
    have i4 : decide (0 < k) = false := decide_eq_false (by omega)
    have HJ := Lib.hid (H1.out h0)
    obtain ⟨Sb, hSb⟩ : ∃ Sb, Sb = S := ⟨_, rfl⟩
    have hsb : Sb.size ≤ 22020097 * k + 1 := by rw [hSb]; omega
    rw [← hSb] at HJ
    have HSb := Lib.hid hSb
    clear H1 H2 h0 hSb
    go_wp2
    try rw [← HSb.out]
    obtain ⟨wo, rfl⟩ : ∃ wo : World, wo = wr := ⟨_, rfl⟩
    go_loopw [3, 5] (fun s i wr => ∃ (u : Nat) (S2 : ByteArray), u ≤ m ∧ i = .int .i64 u ∧ s = .string S2 ∧ S2.size ≤ 22020097 * k + 1 + 21 * u ∧ Hid (S2 = Sb ++ dgJ (fun i => dl.getD i 0) u) ∧ Hid (Below w.heap.size w wr)) (fun _ i _ => m - (intOf i).toNat)
    case atStart => exact ⟨0, _, Nat.zero_le _, rfl, rfl, by omega, by show _ = _; exact (app_nil Sb).symm, HB⟩
    case round =>
     clear HB q0
     obtain ⟨u, S2, hu, rfl, rfl, hS2, HS2, HB⟩ := hrel
     have q0 := Q0.out _ HB.out
     by_cases hlu : u < m
     ·have i2 : (u : Int) < (m : Int) := by omega
      obtain ⟨b2, o2, rfl, hb2, hc2⟩ := (HR2.out _ HB.out).2 (by omega)
      have q1 := hc2 u hlu
      dsimp only at q1
      have KF := Lib.hid (FormatInt_sa (dl.getD u 0) (HI2.out u hlu) wr)
      have hP := itB_size (HI2.out u hlu)
      have HS3 : Hid (S2 ++ itB (dl.getD u 0) = Sb ++ dgJ (fun i => dl.getD i 0) (u + 1)) := by show _ = Sb ++ (dgJ _ u ++ _); rw [HS2.out, ByteArray.append_assoc]
      clear hc2 HS2
      obtain ⟨y, hy⟩ : ∃ y, y = dl.getD u 0 := ⟨_, rfl⟩
      rw [← hy] at q1 KF hP HS3
      obtain ⟨P, hPP⟩ : ∃ P, P = itB y := ⟨_, rfl⟩
      rw [← hPP] at KF hP HS3
      clear hy hPP
      have h7 : ¬ 9223372036854775807 < S2.size + P.size := by omega
      have Hsz : Hid ((S2 ++ P).size ≤ 22020097 * k + 1 + 21 * (u + 1)) := by show _ ≤ _; rw [ByteArray.size_append]; omega
      go_wp2_with fail
      refine KF.out.mono ?_
      rintro e w1 ⟨rfl, hb1⟩
      have HB1 : Hid (Below w.heap.size w w1) := HB.out.trans (hb1.mono HB.out.size)
      clear hb1 HB KF q0 q1
      go_wp2
      go_roundw
      case rel => exact ⟨u + 1, _, by omega, by go_num, rfl, Hsz.out, HS3, HB1⟩
      case measure => (simp [intOf] <;> omega)
     ·have i2 : (m : Int) ≤ (u : Int) := by omega
      obtain rfl : u = m := by omega
      have HS3 : Hid (S2 = cmJ (erT (lists D)) (k + 1)) := by show _ = _; rw [HS2.out, HJ.out]
      have Hsz : Hid (S2.size ≤ 22020097 * (k + 1)) := by show _ ≤ _; omega
      clear HS2
      go_wp2
      go_roundw
      case rel => exact ⟨k + 1, S2, by omega, by go_num, rfl, Hsz.out, HS3, HB⟩
      case measure => (simp [intOf] <;> omega)
   ·have i3 : (0 : Int) < (k : Int) := by omega
    have i4 : decide (0 < k) = true := decide_eq_true (by omega)
    have HJ := Lib.hid (H2.out h0)
    obtain ⟨Sb, hSb⟩ : ∃ Sb, Sb = S ++ ⟨#[44]⟩ := ⟨_, rfl⟩
    have hsb : Sb.size ≤ 22020097 * k + 1 := by rw [hSb]; rw [ByteArray.size_append]; show S.size + 1 ≤ _; omega
    rw [← hSb] at HJ
    have HSb := Lib.hid hSb
    clear H1 H2 h0 hSb
    go_wp2
    try rw [← HSb.out]
    obtain ⟨wo, rfl⟩ : ∃ wo : World, wo = wr := ⟨_, rfl⟩
    go_loopw [3, 5] (fun s i wr => ∃ (u : Nat) (S2 : ByteArray), u ≤ m ∧ i = .int .i64 u ∧ s = .string S2 ∧ S2.size ≤ 22020097 * k + 1 + 21 * u ∧ Hid (S2 = Sb ++ dgJ (fun i => dl.getD i 0) u) ∧ Hid (Below w.heap.size w wr)) (fun _ i _ => m - (intOf i).toNat)
    case atStart => exact ⟨0, _, Nat.zero_le _, rfl, rfl, by omega, by show _ = _; exact (app_nil Sb).symm, HB⟩
    case round =>
     clear HB q0
     obtain ⟨u, S2, hu, rfl, rfl, hS2, HS2, HB⟩ := hrel
     have q0 := Q0.out _ HB.out
     by_cases hlu : u < m
     ·have i2 : (u : Int) < (m : Int) := by omega
      obtain ⟨b2, o2, rfl, hb2, hc2⟩ := (HR2.out _ HB.out).2 (by omega)
      have q1 := hc2 u hlu
      dsimp only at q1
      have KF := Lib.hid (FormatInt_sa (dl.getD u 0) (HI2.out u hlu) wr)
      have hP := itB_size (HI2.out u hlu)
      have HS3 : Hid (S2 ++ itB (dl.getD u 0) = Sb ++ dgJ (fun i => dl.getD i 0) (u + 1)) := by show _ = Sb ++ (dgJ _ u ++ _); rw [HS2.out, ByteArray.append_assoc]
      clear hc2 HS2
      obtain ⟨y, hy⟩ : ∃ y, y = dl.getD u 0 := ⟨_, rfl⟩
      rw [← hy] at q1 KF hP HS3
      obtain ⟨P, hPP⟩ : ∃ P, P = itB y := ⟨_, rfl⟩
      rw [← hPP] at KF hP HS3
      clear hy hPP
      have h7 : ¬ 9223372036854775807 < S2.size + P.size := by omega
      have Hsz : Hid ((S2 ++ P).size ≤ 22020097 * k + 1 + 21 * (u + 1)) := by show _ ≤ _; rw [ByteArray.size_append]; omega
      go_wp2_with fail
      refine KF.out.mono ?_
      rintro e w1 ⟨rfl, hb1⟩
      have HB1 : Hid (Below w.heap.size w w1) := HB.out.trans (hb1.mono HB.out.size)
      clear hb1 HB KF q0 q1
      go_wp2
      go_roundw
      case rel => exact ⟨u + 1, _, by omega, by go_num, rfl, Hsz.out, HS3, HB1⟩
      case measure => (simp [intOf] <;> omega)
     ·have i2 : (m : Int) ≤ (u : Int) := by omega
      obtain rfl : u = m := by omega
      have HS3 : Hid (S2 = cmJ (erT (lists D)) (k + 1)) := by show _ = _; rw [HS2.out, HJ.out]
      have Hsz : Hid (S2.size ≤ 22020097 * (k + 1)) := by show _ ≤ _; omega
      clear HS2
      go_wp2
      go_roundw
      case rel => exact ⟨k + 1, S2, by omega, by go_num, rfl, Hsz.out, HS3, HB⟩
      case measure => (simp [intOf] <;> omega)
  ·have i1 : (n : Int) ≤ (k : Int) := by omega
   obtain rfl : k = n := by omega
   by_cases he : S.toList = []
   ·have HO : Hid (edB (lists D) = ⟨#[110, 111, 110, 101]⟩) := by show _ = _; rw [HED.out, ← HS.out]; exact noB_yes he
    have hbe : S.toList.isEmpty = true := by rw [he]; rfl
    clear he
    go_wp2
    go_ret
    exact ⟨by rw [HO.out]; rfl, HB.out⟩
   ·have HO : Hid (edB (lists D) = S) := by show _ = _; rw [HED.out, ← HS.out]; exact noB_no he
    have hbe : S.toList.isEmpty = false := by rw [List.isEmpty_eq_false_iff]; exact he
    clear he
    go_wp2
    go_ret
    exact ⟨by rw [HO.out]; rfl, HB.out⟩
end Go.Proofs.YtppkokgiojcgbaaGreatDoor

/-
-/
namespace Go.Proofs.YtppkokgiojcgbaaGreatDoor
open Go.RowKit
theorem itB_size1 {d : Nat} (h : d < 10) : (itB (d : Int)).size = 1 := by rw [itB_dg h]; rfl
theorem FormatInt_sb (d : Nat) (h : d < 10) (w : World) : Calls Tryz.prog 49 #[.int .i64 d] w fun e w' => e = .returned (.string (itB d)) ∧ Below w.heap.size w w' := FormatInt_sm d (by omega) (by omega) w
structure EdO (w : World) (lo : Nat) (A : Option Addr) (c : Nat) (D : List Dsc) : Prop where
 own : OwnD w lo w.heap.size A c D
theorem EdO.keep {w w' : World} {lo : Nat} {A : Option Addr} {c : Nat} {D : List Dsc} (h : EdO w lo A c D) (hb : Below w.heap.size w w') : EdO w' lo A c D := ⟨(h.own.keepB hb (Nat.le_refl _)).mono (Nat.le_refl _) hb.size⟩
end Go.Proofs.YtppkokgiojcgbaaGreatDoor

/-
-/
namespace Go.Proofs.YtppkokgiojcgbaaGreatDoor
open Go.RowKit
def fsT (s : Nat) : ByteArray := if s = 0 then ⟨#[45]⟩ else dgJ (fun j => (((listN s).getD j 0 : Nat) : Int)) (listN s).length
theorem fsT_zero : fsT 0 = ⟨#[45]⟩ := if_pos rfl
theorem fsT_pos {s : Nat} (h : s ≠ 0) : fsT s = dgJ (fun j => (((listN s).getD j 0 : Nat) : Int)) (listN s).length := if_neg h
theorem lnI {s j : Nat} (h : j < (listN s).length) : (listN s).getD j 0 < 7 := by
 have e : (listN s).getD j 0 = (listN s)[j] := by simp [List.getD, h]
 rw [e]; exact (listN_at h).1
theorem fsT_size (s : Nat) : (fsT s).size ≤ 147 := by
 unfold fsT
 split
 ·show 1 ≤ 147; omega
 ·have h1 := dgJ_size (X := fun j => (((listN s).getD j 0 : Nat) : Int)) (listN s).length (fun j hj => by have := lnI hj; exact ⟨by omega, by omega⟩)
  have := listN_len s
  omega
theorem listN_some {s : Nat} (h : s ≠ 0) (hs : s < 128) : (listN s).length ≠ 0 := by
 intro h0
 have hall : ∀ j, j < 7 → s.testBit j = false := by
  intro j hj
  cases hb : s.testBit j
  ·rfl
  ·have hm : j ∈ listN s := mem_listN.2 ⟨hj, hb⟩
   rw [List.length_eq_zero_iff.1 h0] at hm
   cases hm
 refine h (Nat.eq_of_testBit_eq fun j => ?_)
 rw [Nat.zero_testBit]
 by_cases hj : j < 7
 ·exact hall j hj
 ·exact Nat.testBit_lt_two_pow (Nat.lt_of_lt_of_le hs (Nat.le_trans (show 128 ≤ 2 ^ 7 by decide) (Nat.pow_le_pow_right (by omega) (by omega))))
theorem dgJ_pos {X : Nat → Int} {n : Nat} (h : n ≠ 0) : (dgJ X n).toList.isEmpty = false := by
 obtain ⟨k, rfl⟩ : ∃ k, n = k + 1 := ⟨n - 1, by omega⟩
 have hi : 0 < (itB (X k)).size := by
  show 0 < (Lib.itoa (X k)).toArray.size
  unfold Lib.itoa
  split
  ·simp
  ·rw [List.size_toArray, Lib.decDigits_length]; exact Lib.nDigits_pos _
 rw [List.isEmpty_eq_false_iff]
 intro h2
 have := congrArg List.length h2
 rw [ByteArray.toList_eq] at this
 have h3 : (dgJ X k ++ itB (X k)).size = 0 := by
  have : (dgJ X (k + 1)).size = 0 := by simpa using this
  exact this
 rw [ByteArray.size_append] at h3
 omega
set_option maxRecDepth 100000 in
set_option maxHeartbeats 2000000 in
theorem FormatSet_i (s : Nat) (hs : s < 128) (w : World) (ht : Tb w) :
 Calls Tryz.prog 54 #[.int .i64 s] w fun e w' => e = .returned (.string (fsT s)) ∧ Below w.heap.size w w' := by
 by_cases h0 : s = 0
 ·subst h0
  have HO := Lib.hid fsT_zero
  go_enter Tryz.func54, Tryz.ntmps54
  go_wp2
  go_ret
  exact ⟨by rw [HO.out]; rfl, Below.refl _ _⟩
 ·have HO := Lib.hid (fsT_pos h0)
  have hz : ((s : Int) == 0) = false := by rw [beq_eq_false_iff_ne]; omega
  have KL := Lib.hid (ListOf_i s hs w)
  have HT := Lib.hid ht
  have hl := listN_len s
  clear ht
  go_enter Tryz.func54, Tryz.ntmps54
  go_wp2_with fail
  refine KL.out.mono ?_
  rintro e w1 ⟨A, c, rfl, hO, hb1⟩
  have KD := Lib.hid (digits_i A (listN s).length c (fun j => (((listN s).getD j 0 : Nat) : Int)) w1 (Own.rd hO) (fun j hj => by have := lnI hj; exact ⟨by omega, by omega⟩) (by omega) (HT.out.keep hb1))
  have HB := Lib.hid hb1
  clear hO hb1 h0 hl
  go_wp2_with fail
  refine KD.out.mono ?_
  rintro e w2 ⟨rfl, hb2⟩
  have HB2 : Hid (Below w.heap.size w w2) := HB.out.trans (hb2.mono HB.out.size)
  clear hb2
  go_wp2
  go_ret
  exact ⟨by rw [HO.out]; rfl, HB2.out⟩
set_option maxRecDepth 100000 in
set_option maxHeartbeats 3200000 in
theorem FormatSet_s (s : Nat) (hs : s < 128) (w : World) :
 Calls Tryz.prog 48 #[.int .i64 s] w fun e w' => e = .returned (.string (fsT s)) ∧ Below w.heap.size w w' := by
 have KL := Lib.hid (ListOf_s s hs w)
 have h0 : (0 : Int) ≤ s := by omega
 have h1 : (s : Int) ≤ 127 := by omega
 have HI : Hid (∀ j, j < (listN s).length → (listN s).getD j 0 < 7) := fun j hj => lnI hj
 have HO : Hid ((listN s).length = 0 → fsT s = ⟨#[45]⟩) := fun h => by
  by_cases hz : s = 0
  ·rw [hz]; exact fsT_zero
  ·exact absurd h (listN_some hz hs)
 have HP : Hid ((listN s).length ≠ 0 → fsT s = dgJ (fun j => (((listN s).getD j 0 : Nat) : Int)) (listN s).length) := fun h => by
  by_cases hz : s = 0
  ·subst hz; exact absurd rfl h
  ·exact fsT_pos hz
 have hl := listN_len s
 clear hs
 go_enter Tryz.func48, Tryz.ntmps48
 go_wp2_with fail
 refine KL.out.mono ?_
 rintro e w1 ⟨A, c, rfl, hO, hb1⟩
 have HL : Hid (∀ z, Below w1.heap.size w1 z → Rd z z.heap.size A (listN s).length c (fun j => (((listN s).getD j 0 : Nat) : Int))) := fun z hz => (Own.rd hO).keep hz hz.size
 have HB := Lib.hid hb1
 obtain ⟨L, hL⟩ : ∃ L, L = listN s := ⟨_, rfl⟩
 obtain ⟨n, hn⟩ : ∃ n, n = L.length := ⟨_, rfl⟩
 rw [← hL] at HL HI HO HP hl ⊢
 rw [← hn] at HL HI HO HP hl ⊢
 clear hO hb1 hL hn KL
 go_wp2
 go_loopw [4, 5] (fun t i wr => ∃ (k : Nat) (S : ByteArray), k ≤ n ∧ i = .int .i64 k ∧ t = .string S ∧ S.size = k ∧ Hid (S = dgJ (fun j => ((L.getD j 0 : Nat) : Int)) k) ∧ Hid (Below w1.heap.size w1 wr)) (fun _ i _ => n - (intOf i).toNat)
 case atStart => exact ⟨0, _, Nat.zero_le _, rfl, rfl, rfl, rfl, Below.refl _ _⟩
 case round =>
  obtain ⟨k, S, hk, rfl, rfl, hS, HS, HB1⟩ := hrel
  by_cases hlt : k < n
  ·have i1 : (k : Int) < (n : Int) := by omega
   obtain ⟨b, o, rfl, hb, hc⟩ := (HL.out wr HB1.out).2 (by omega)
   have q0 := hc k hlt
   dsimp only at q0
   have hv := HI.out k hlt
   have HJ : Hid (S ++ itB ((L.getD k 0 : Nat) : Int) = dgJ (fun j => ((L.getD j 0 : Nat) : Int)) (k + 1)) := by show _ = _; rw [HS.out]; rfl
   obtain ⟨v, hvv⟩ : ∃ v, v = L.getD k 0 := ⟨_, rfl⟩
   rw [← hvv] at q0 hv HJ
   have KF := Lib.hid (FormatInt_sb v (by omega) wr)
   have hp := itB_size1 (d := v) (by omega)
   obtain ⟨P, hP⟩ : ∃ P, P = itB (v : Int) := ⟨_, rfl⟩
   rw [← hP] at KF hp HJ
   clear hc hvv hP HS
   have h7 : ¬ 9223372036854775807 < S.size + P.size := by omega
   have Hsz : Hid ((S ++ P).size = k + 1) := by show _ = _; rw [ByteArray.size_append]; omega
   clear hS hp
   go_wp2_with fail
   refine KF.out.mono ?_
   rintro e w2 ⟨rfl, hb2⟩
   have HB2 : Hid (Below w1.heap.size w1 w2) := HB1.out.trans (hb2.mono HB1.out.size)
   clear hb2 HB1 KF q0
   go_wp2
   go_roundw
   case rel => exact ⟨k + 1, _, by omega, by go_num, rfl, Hsz.out, HJ.out, HB2⟩
   case measure => (simp [intOf] <;> omega)
  ·have i1 : (n : Int) ≤ (k : Int) := by omega
   obtain rfl : k = n := by omega
   have HBr : Hid (Below w.heap.size w wr) := HB.out.trans (HB1.out.mono HB.out.size)
   by_cases hz : k = 0
   ·have HX := Lib.hid (HO.out hz)
    have he : S.toList.isEmpty = true := by
     have hs0 : S = ⟨#[]⟩ := by rw [HS.out, hz]; rfl
     rw [hs0, ByteArray.toList_eq]; rfl
    clear hz hS
    go_wp2_with fail
    refine (l3Fine_yes (s : Int) wr h0 h1).mono ?_
    rintro e w2 ⟨rfl, rfl⟩
    go_wp2
    go_ret
    exact ⟨by rw [HX.out]; rfl, HBr.out⟩
   ·have HX := Lib.hid (HP.out hz)
    have he : S.toList.isEmpty = false := by rw [HS.out]; exact dgJ_pos hz
    clear hz hS
    go_wp2
    go_ret
    exact ⟨by rw [HX.out, ← HS.out]; rfl, HBr.out⟩
end Go.Proofs.YtppkokgiojcgbaaGreatDoor
