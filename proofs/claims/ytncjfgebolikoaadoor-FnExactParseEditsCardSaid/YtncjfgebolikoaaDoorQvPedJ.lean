/-
  Contract: the program's ParseEdits.
-/
import Derived.Test.YtncjfgebolikoaaDoorQvPedI
namespace Go.Proofs.YtncjfgebolikoaaDoor
open Go.RowKit

set_option maxRecDepth 100000 in
set_option maxHeartbeats 3200000 in
theorem ParseEdits_i (s : ByteArray) (m : Int) (w : World) (hs : s.size ≤ 1048576) (hm : w.cell? ⟨laySplit_ren.g 1, 0, none⟩ = some (.int .i64 m)) (hg : laySplit_ren.g 1 < w.heap.size) :
    Calls Tryd.prog 17 #[.string s] w fun e w' => ∃ A' c', e = .returned (.tuple #[.slice A' (peN s) c', .bool (peB s)]) ∧ Own w' w.heap.size w'.heap.size 49 3 A' (peN s) c' (eds (peA s) (peV s) (peU s)) ∧ Below w.heap.size w w' := by
  by_cases e0 : s.toList = [110, 111, 110, 101]
  · obtain ⟨hN, hB⟩ := pe_none e0
    have HN := Lib.hid hN
    have HBo := Lib.hid hB
    clear hN hB hm
    go_enter Tryd.func17, Tryd.ntmps17
    go_wp2
    go_ret2
    exact ⟨some ⟨w.heap.size, 0, none⟩, 0, by rw [HN.out, HBo.out]; rfl, by rw [HN.out]; exact own_newE w _ _ _, (Below.refl _ _).alloc (Nat.le_refl _) _⟩
  have Hyes : Hid (peOk s → peN s = (peW s).length ∧ peB s = true) := pe_yes e0
  have Hno : Hid (¬ peOk s → peN s = 0 ∧ peB s = false) := pe_no e0
  have KS := Lib.hid (split_any s m (w.alloc (Obj.cells #[] 49)) (by omega) ((World.cell?_alloc_lt w _ ⟨laySplit_ren.g 1, 0, none⟩ hg).trans hm))
  have hcnt := spB_count s
  have hcell := fun j => @spB_cell s (w.alloc (Obj.cells #[] 49)) j
  have hlen : (peW s).length ≤ 1048577 := by
    have := Lib.countB_le ⟨#[44]⟩ (by decide) s.size s (Nat.le_refl _)
    omega
  obtain ⟨n, hn⟩ : ∃ n, n = (peW s).length := ⟨_, rfl⟩
  have Hn : Hid (n = (peW s).length) := hn
  rw [hcnt] at KS
  rw [← hn] at KS hcell hlen
  clear hm hg hcnt hn
  obtain ⟨W1, hW1⟩ : ∃ W1 : World, W1 = (w.alloc (Obj.cells #[] 49)).alloc (.cells ((spB s).map Value.string).toArray 9) := ⟨_, rfl⟩
  have HO0 : Hid (Own W1 w.heap.size (w.heap.size + 1) 49 3 (some ⟨w.heap.size, 0, none⟩) 0 0 (eds (peA s) (peV s) (peU s))) := by rw [hW1]; exact ((own_newE w _ _ _).alloc _).mono (Nat.le_refl _) (by simp)
  have HB0 : Hid (Below w.heap.size w W1) := by rw [hW1]; exact ((Below.refl _ _).alloc (Nat.le_refl _) _).alloc (by simp) _
  have hq : (w.alloc (Obj.cells #[] 49)).heap.size = w.heap.size + 1 := by simp
  have hq1 : w.heap.size + 1 < W1.heap.size := by rw [hW1]; simp
  have HC : Hid (∀ j, j < n → W1.cell? ⟨w.heap.size + 1, j, none⟩ = some (.string ((spB s).getD j ⟨#[]⟩))) := fun j hj => by rw [hW1, ← hq]; exact hcell j hj
  have KS' : Hid (Calls Tryd.prog 48 #[.string s, .string ⟨#[44]⟩] (w.alloc (Obj.cells #[] 49)) fun e w' => e = .returned (.slice (some ⟨w.heap.size + 1, 0, none⟩) n n) ∧ w' = W1) := by
    rw [hW1, ← hq]; exact KS.out
  clear KS hcell hq hW1
  have e1 : (s.toList == [110, 111, 110, 101]) = false := beq_eq_false_iff_ne.2 e0
  go_enter Tryd.func17, Tryd.ntmps17
  go_wp2_with fail
  refine KS'.out.mono ?_
  rintro e w' ⟨rfl, rfl⟩
  clear KS'
  have HW3 : Hid (∀ j, j < n → ((spB s).getD j ⟨#[]⟩).size = ((peW s).getD j []).length) := fun j hj => by rw [← spB_at]; simp
  go_wp2
  go_loopw [4, 14] (fun l i wr => ∃ (k : Nat) (A' : Option Addr) (c' g : Nat), k ≤ n ∧ i = .int .i64 k ∧ l = .slice A' k c' ∧ A' = some ⟨g, 0, none⟩ ∧ w.heap.size ≤ g ∧ g ≠ w.heap.size + 1 ∧ g < wr.heap.size ∧ w.heap.size + 1 < wr.heap.size ∧ Hid (∀ j, j < k → ((spB s).getD j ⟨#[]⟩).size = 3) ∧ Hid (Own wr g (g + 1) 49 3 (some ⟨g, 0, none⟩) k c' (eds (peA s) (peV s) (peU s))) ∧ Hid (Below w.heap.size w wr) ∧ Hid (∀ j, j < n → wr.cell? ⟨w.heap.size + 1, j, none⟩ = some (.string ((spB s).getD j ⟨#[]⟩)))) (fun _ i _ => n - (intOf i).toNat)
  case atStart => exact ⟨0, _, 0, w.heap.size, Nat.zero_le _, rfl, rfl, rfl, Nat.le_refl _, by omega, by omega, hq1, (fun j hj => absurd hj (by omega)), HO0, HB0, HC⟩
  case round =>
    clear HO0 HB0 HC
    obtain ⟨k, A', c', g, hk, rfl, rfl, rfl, hg1, hg2, hg3, hq2, hall, HO, HB, HC⟩ := hrel
    by_cases hlt : k < n
    · have i1 : (k : Int) < (n : Int) := by omega
      have q0 := HC.out k hlt
      have hPk := spB_at s k
      have hP3 := HW3.out k hlt
      obtain ⟨P, hP⟩ : ∃ P, P = (spB s).getD k ⟨#[]⟩ := ⟨_, rfl⟩
      rw [← hP] at q0 hPk hP3
      have HP := Lib.hid hP
      clear hP
      by_cases h3 : P.size = 3
      · have h3' : ((P.size : Int) == 3) = true := by rw [h3]; rfl
        obtain ⟨ha, hv, hu⟩ := pe_word hPk h3
        have p0 : 0 < P.size := by omega
        have p1 : 1 < P.size := by omega
        have p2 : 2 < P.size := by omega
        have b1 := P[1].toNat_lt
        have b2 := P[2].toNat_lt
        have Hall2 : Hid (∀ j, j < k + 1 → ((spB s).getD j ⟨#[]⟩).size = 3) := fun j hj => by
          by_cases hjk : j < k
          · exact hall.out j hjk
          · obtain rfl : j = k := by omega
            rw [← HP.out]; exact h3
        have HX : Hid (Own ((wr.alloc (Obj.cells #[.bool ((P[0].toNat : Int) == 43), .int .i64 (IntKind.i64.wrap (IntKind.i64.wrap (P[1].toNat : Int) - 48)), .int .i64 (IntKind.i64.wrap (IntKind.i64.wrap (P[2].toNat : Int) - 48))] 49)).drew) g (g + 1) 49 3 (some ⟨g, 0, none⟩) k c' (eds (peA s) (peV s) (peU s))) := (HO.out.alloc _).drew
        have HXn : Hid (∀ i, i < 3 → (#[Value.bool ((P[0].toNat : Int) == 43), Value.int .i64 (IntKind.i64.wrap (IntKind.i64.wrap (P[1].toNat : Int) - 48)), Value.int .i64 (IntKind.i64.wrap (IntKind.i64.wrap (P[2].toNat : Int) - 48))] : Array Value)[i]? = some (eds (peA s) (peV s) (peU s) (k * 3 + i))) := eds_news ha (hv.trans (wrB _).symm) (hu.trans (wrB _).symm)
        clear ha hv hu hall HO hP3 hPk
        go_wp2
        go_region_law
          (first
            | (refine step_push _ (by rfl) _ _ _ (by rfl) 49 _ 3 24 Tryd.underlying25 info_edit rfl (by omega) g _ (some ⟨g, 0, none⟩) k c' (eds (peA s) (peV s) (peU s)) (by rfl) HX.out (by simp; omega) wr.heap.size #[.bool ((P[0].toNat : Int) == 43), .int .i64 (IntKind.i64.wrap (IntKind.i64.wrap (P[1].toNat : Int) - 48)), .int .i64 (IntKind.i64.wrap (IntKind.i64.wrap (P[2].toNat : Int) - 48))] 49 (0, 0) 1 (heap_alloc_new wr _) (by rfl) rfl HXn.out (by simp [Value.oneCell']) (by omega) (by omega) ?_; intro g6 cap w6 hp))
        all_goals
          obtain ⟨hp1, hp2, hp3, hp4⟩ := hp.caged
          have hf : Fr g (g + 1) wr w6 := (((Fr.refl g (g + 1) wr).alloc _).drew).trans hp4
          have hg6 : g6 = g ∨ wr.heap.size ≤ g6 := hp2.imp id (fun h => by rw [h]; show wr.heap.size ≤ (wr.alloc _).heap.size; simp)
          have hz6 := hf.size
          have HO6 := Lib.hid hp1
          have HB6 : Hid (Below w.heap.size w w6) := HB.out.trans (hf.below hg1 HB.out.size)
          have HC6 : Hid (∀ j, j < n → w6.cell? ⟨w.heap.size + 1, j, none⟩ = some (.string ((spB s).getD j ⟨#[]⟩))) := fun j hj => (hf.cell (p := ⟨w.heap.size + 1, j, none⟩) (by show w.heap.size + 1 < _; omega) (by show w.heap.size + 1 < g ∨ g + 1 ≤ w.heap.size + 1; omega)).trans (HC.out j hj)
          clear hp hp1 hp2 hp4 hf HX HXn HB HC b1 b2 q0
          go_wp2
          go_roundw
          case rel => exact ⟨k + 1, _, cap, g6, by omega, by go_num, rfl, rfl, by omega, by omega, hp3, by omega, Hall2, HO6, HB6, HC6⟩
          case measure => (simp [intOf] <;> omega)
      · have h3' : ((P.size : Int) == 3) = false := by rw [beq_eq_false_iff_ne]; omega
        obtain ⟨hN, hBo⟩ := Hno.out (peOk_len (j := k) (by rw [← Hn.out]; exact hlt) (by rw [← hP3]; exact h3))
        have HN := Lib.hid hN
        have HBo := Lib.hid hBo
        clear hN hBo h3 hP3 hPk
        go_wp2
        go_ret2
        exact ⟨none, 0, by rw [HN.out, HBo.out]; rfl, by rw [HN.out]; exact own_nilE _ _ _ _ _ _, HB.out⟩
    · have i1 : (n : Int) ≤ (k : Int) := by omega
      obtain rfl : k = n := by omega
      have KF := Lib.hid (FormatEdits_i (some ⟨g, 0, none⟩) k c' (peA s) (peV s) (peU s) wr ⟨(HO.out.mono (Nat.le_refl _) (show g + 1 ≤ wr.heap.size by omega)).rdE⟩ (by omega))
      obtain ⟨F, hF⟩ : ∃ F, F = fmO k (peA s) (peV s) (peU s) := ⟨_, rfl⟩
      have h3 : ∀ x ∈ peW s, x.length = 3 := by
        intro x hx
        obtain ⟨j, hj, e⟩ := List.mem_iff_getElem.1 hx
        have hj2 : j < k := by rw [Hn.out]; exact hj
        have := hall.out j hj2
        rw [HW3.out j hj2] at this
        simpa [List.getD, hj, e] using this
      have Hok : Hid (F = s → peOk s) := fun e => ⟨h3, by rw [← Hn.out, ← hF]; exact e⟩
      have Hnot : Hid (F ≠ s → ¬ peOk s) := fun e hh => e (by rw [hF, Hn.out]; exact hh.2)
      rw [← hF] at KF
      clear h3 hF
      by_cases hFs : F = s
      · obtain ⟨hN, hBo⟩ := Hyes.out (Hok.out hFs)
        have HN := Lib.hid hN
        have HBo := Lib.hid hBo
        clear hN hBo
        subst hFs
        clear Hno Hnot Hyes Hok
        go_wp2_with fail
        refine KF.out.mono ?_
        rintro e w2 ⟨rfl, hb2⟩
        have HB2 : Hid (Below w.heap.size w w2) := HB.out.trans (hb2.mono HB.out.size)
        have hz2 := hb2.size
        have HO2 : Hid (Own w2 w.heap.size w2.heap.size 49 3 (some ⟨g, 0, none⟩) k c' (eds (peA F) (peV F) (peU F))) := (HO.out.keepB hb2 hg3).mono hg1 (by omega)
        clear hb2 HO HB HC
        go_wp2
        go_ret2
        exact ⟨some ⟨g, 0, none⟩, c', by rw [HN.out, HBo.out, ← Hn.out]; rfl, by rw [HN.out, ← Hn.out]; exact HO2.out, HB2.out⟩
      · obtain ⟨hN, hBo⟩ := Hno.out (Hnot.out hFs)
        have HN := Lib.hid hN
        have HBo := Lib.hid hBo
        have e5 : (F.toList == s.toList) = false := beq_eq_false_iff_ne.2 (fun h => hFs (Go.WideShapes.bytes_inj (by rw [← ByteArray.toList_eq, ← ByteArray.toList_eq]; exact h)))
        clear hN hBo Hno Hnot Hyes Hok
        go_wp2_with fail
        refine KF.out.mono ?_
        rintro e w2 ⟨rfl, hb2⟩
        have HB2 : Hid (Below w.heap.size w w2) := HB.out.trans (hb2.mono HB.out.size)
        clear hb2 HO HB HC
        go_wp2
        go_ret2
        exact ⟨none, 0, by rw [HN.out, HBo.out]; rfl, by rw [HN.out]; exact own_nilE _ _ _ _ _ _, HB2.out⟩
end Go.Proofs.YtncjfgebolikoaaDoor
