/-
  Contract: the reference's ParseEdits.
-/
import Derived.Test.YtncjfgebolikoaaDoorQvPedI
namespace Go.Proofs.YtncjfgebolikoaaDoor
open Go.RowKit

set_option maxRecDepth 100000 in
set_option maxHeartbeats 3200000 in
theorem ParseEdits_s (s : ByteArray) (w : World) (hs : s.size ≤ 1048576) :
    Calls Tryd.prog 16 #[.string s] w fun e w' => ∃ A' c', e = .returned (.tuple #[.slice A' (peN s) c', .bool (peB s)]) ∧ Own w' w.heap.size w'.heap.size 49 3 A' (peN s) c' (eds (peA s) (peV s) (peU s)) ∧ Below w.heap.size w w' := by
  by_cases e0 : s.toList = [110, 111, 110, 101]
  · obtain ⟨hN, hB⟩ := pe_none e0
    have HN := Lib.hid hN
    have HBo := Lib.hid hB
    clear hN hB
    go_enter Tryd.func16, Tryd.ntmps16
    go_wp2
    go_ret2
    exact ⟨some ⟨w.heap.size, 0, none⟩, 0, by rw [HN.out, HBo.out]; rfl, by rw [HN.out]; exact own_newE w _ _ _, (Below.refl _ _).alloc (Nat.le_refl _) _⟩
  have Hyes : Hid (peOk s → peN s = (peW s).length ∧ peB s = true) := pe_yes e0
  have Hno : Hid (¬ peOk s → peN s = 0 ∧ peB s = false) := pe_no e0
  have e1 : (s.toList == [110, 111, 110, 101]) = false := beq_eq_false_iff_ne.2 e0
  have Hnone : Hid ((⟨#[110, 111, 110, 101]⟩ : ByteArray).toList = [110, 111, 110, 101]) := by rw [ByteArray.toList_eq]; rfl
  go_enter Tryd.func16, Tryd.ntmps16
  go_wp2_with fail
  refine (l2Cut_s s _ hs).mono ?_
  rintro e w1 ⟨D, A1, c1, hD, rfl, hO1, hb1⟩
  have HB0 : Hid (Below w.heap.size w w1) := ((Below.refl _ _).alloc (Nat.le_refl _) _).trans (hb1.mono (by simp))
  have HO0 : Hid (Own w1 w.heap.size (w.heap.size + 1) 49 3 (some ⟨w.heap.size, 0, none⟩) 0 0 (eds (peA s) (peV s) (peU s))) := ((own_newE w _ _ _).keepB hb1 (Nat.le_refl _)).mono (Nat.le_refl _) (by simp)
  have hDl : D.length = (peW s).length := by
    have := congrArg List.length hD
    rwa [List.length_map] at this
  have HD : Hid (∀ j, (D.getD j ⟨#[]⟩).data.toList = (peW s).getD j []) := fun j => by
    show _ = (cutA 44 [] s.data.toList).getD j []
    rw [← hD]
    by_cases hj : j < D.length
    · simp [List.getD, hj]
    · simp [List.getD, List.getElem?_eq_none (Nat.le_of_not_lt hj)]
  have hq : (w.alloc (Obj.cells #[] 49)).heap.size = w.heap.size + 1 := by simp
  obtain ⟨gD, rfl, hgD1, hgD2, _, hcD, _⟩ := hO1.at_ (by have := peW_pos s; omega)
  rw [hq] at hgD1
  obtain ⟨n, hn⟩ : ∃ n, n = (peW s).length := ⟨_, rfl⟩
  have Hn : Hid (n = (peW s).length) := hn
  rw [← hn] at hDl
  have hlen : n ≤ 1048577 := by
    have := cutA_length 44 s.data.toList []
    have h2 : s.data.toList.length = s.size := by simp
    have h3 : n = (cutA 44 [] s.data.toList).length := hn
    omega
  have HC : Hid (∀ j, j < n → w1.cell? ⟨gD, j, none⟩ = some (.string (D.getD j ⟨#[]⟩))) := fun j hj => by rw [hcD j (by omega)]; rfl
  have HW3 : Hid (∀ j, j < n → (D.getD j ⟨#[]⟩).size = ((peW s).getD j []).length) := fun j hj => by rw [← HD.out]; simp
  rw [hDl]
  clear hO1 hcD hb1 hq hDl hD hn
  go_wp2
  go_loopw [4, 6] (fun l i wr => ∃ (k : Nat) (A' : Option Addr) (c' g : Nat), k ≤ n ∧ i = .int .i64 k ∧ l = .slice A' k c' ∧ A' = some ⟨g, 0, none⟩ ∧ w.heap.size ≤ g ∧ g ≠ gD ∧ g < wr.heap.size ∧ gD < wr.heap.size ∧ (k ≠ 0 → s.size ≤ 60) ∧ Hid (∀ j, j < k → (D.getD j ⟨#[]⟩).size = 3) ∧ Hid (Own wr g (g + 1) 49 3 (some ⟨g, 0, none⟩) k c' (eds (peA s) (peV s) (peU s))) ∧ Hid (Below w.heap.size w wr) ∧ Hid (∀ j, j < n → wr.cell? ⟨gD, j, none⟩ = some (.string (D.getD j ⟨#[]⟩)))) (fun _ i _ => n - (intOf i).toNat)
  case atStart => exact ⟨0, _, 0, w.heap.size, Nat.zero_le _, rfl, rfl, rfl, Nat.le_refl _, by omega, by omega, hgD2, by omega, (fun j hj => absurd hj (by omega)), HO0, HB0, HC⟩
  case round =>
    clear HO0 HB0 HC
    obtain ⟨k, A', c', g, hk, rfl, rfl, rfl, hg1, hg2, hg3, hq2, h60, hall, HO, HB, HC⟩ := hrel
    by_cases hlt : k < n
    · have i1 : (k : Int) < (n : Int) := by omega
      by_cases hl : s.size ≤ 60
      · have i2 : (s.size : Int) ≤ 60 := by omega
        have q0 := HC.out k hlt
        have hPk := HD.out k
        have hP3 := HW3.out k hlt
        obtain ⟨P, hP⟩ : ∃ P, P = D.getD k ⟨#[]⟩ := ⟨_, rfl⟩
        rw [← hP] at q0 hPk hP3
        have HP := Lib.hid hP
        clear hP
        by_cases h3 : P.size = 3
        · have p0 : 0 < P.size := by omega
          have p1 : 1 < P.size := by omega
          have p2 : 2 < P.size := by omega
          have h3' : ((P.size : Int) != 3) = false := by rw [h3]; rfl
          obtain ⟨ha, hv, hu⟩ := pe_word hPk h3
          have b1 := P[1].toNat_lt
          have b2 := P[2].toNat_lt
          have Hall2 : Hid (∀ j, j < k + 1 → (D.getD j ⟨#[]⟩).size = 3) := fun j hj => by
            by_cases hjk : j < k
            · exact hall.out j hjk
            · obtain rfl : j = k := by omega
              rw [← HP.out]; exact h3
          have HX : Hid (Own ((wr.alloc (Obj.cells #[.bool ((P[0].toNat : Int) == 43), .int .i64 (IntKind.i64.wrap (IntKind.i64.wrap (P[1].toNat : Int) - 48)), .int .i64 (IntKind.i64.wrap (IntKind.i64.wrap (P[2].toNat : Int) - 48))] 49)).drew) g (g + 1) 49 3 (some ⟨g, 0, none⟩) k c' (eds (peA s) (peV s) (peU s))) := (HO.out.alloc _).drew
          have HXn : Hid (∀ i, i < 3 → (#[Value.bool ((P[0].toNat : Int) == 43), Value.int .i64 (IntKind.i64.wrap (IntKind.i64.wrap (P[1].toNat : Int) - 48)), Value.int .i64 (IntKind.i64.wrap (IntKind.i64.wrap (P[2].toNat : Int) - 48))] : Array Value)[i]? = some (eds (peA s) (peV s) (peU s) (k * 3 + i))) := eds_news ha (hv.trans (wrB _).symm) (hu.trans (wrB _).symm)
          have hx0 : ((peW s).getD k []).getD 0 0 = P[0] := by
            rw [← hPk]
            simp [List.getD, p0]
            rfl
          clear ha hv hu hall hP3 hPk
          by_cases t1 : P[0] = 43
          · have u1 : ((P[0].toNat : Int) != 43) = false := by rw [t1]; rfl
            have Ht := Lib.hid t1
            clear t1 hx0
            go_wp2
            have S0 : Hid (wr.drew.cell? ⟨gD, k, none⟩ = some (.string P)) := q0
            have S1 : Hid (((wr.alloc (Obj.cells #[.bool ((P[0].toNat : Int) == 43), .int .i64 (IntKind.i64.wrap (IntKind.i64.wrap (P[1].toNat : Int) - 48)), .int .i64 (IntKind.i64.wrap (IntKind.i64.wrap (P[2].toNat : Int) - 48))] 49)).drew).cell? ⟨gD, k, none⟩ = some (.string P)) := (World.cell?_alloc_lt wr _ ⟨gD, k, none⟩ hq2).trans q0
            go_region_held3 (fun z => z.cell? ⟨gD, k, none⟩ = some (.string P))
              (first | exact S0.out | exact S1.out | exact ((((Fr.refl g (g + 1) wr).alloc _).drew).trans hp.caged.2.2.2 |>.cell (p := ⟨gD, k, none⟩) hq2 (by show gD < g ∨ g + 1 ≤ gD; omega)).trans q0 | fail)
              (first
                | (refine step_push _ (by rfl) _ _ _ (by rfl) 49 _ 3 24 Tryd.underlying25 info_edit rfl (by omega) g _ (some ⟨g, 0, none⟩) k c' (eds (peA s) (peV s) (peU s)) (by rfl) HX.out (by simp; omega) wr.heap.size #[.bool ((P[0].toNat : Int) == 43), .int .i64 (IntKind.i64.wrap (IntKind.i64.wrap (P[1].toNat : Int) - 48)), .int .i64 (IntKind.i64.wrap (IntKind.i64.wrap (P[2].toNat : Int) - 48))] 49 (0, 0) 1 (heap_alloc_new wr _) (by rfl) rfl HXn.out (by simp [Value.oneCell']) (by omega) (by omega) ?_; intro g6 cap w6 hp))
            all_goals
              obtain ⟨hp1, hp2, hp3, hp4⟩ := hp.caged
              have hf : Fr g (g + 1) wr w6 := (((Fr.refl g (g + 1) wr).alloc _).drew).trans hp4
              have hg6 : g6 = g ∨ wr.heap.size ≤ g6 := hp2.imp id (fun h => by rw [h]; show wr.heap.size ≤ (wr.alloc _).heap.size; simp)
              have hz6 := hf.size
              have HO6 := Lib.hid hp1
              have HB6 : Hid (Below w.heap.size w w6) := HB.out.trans (hf.below hg1 HB.out.size)
              have HC6 : Hid (∀ j, j < n → w6.cell? ⟨gD, j, none⟩ = some (.string (D.getD j ⟨#[]⟩))) := fun j hj => (hf.cell (p := ⟨gD, j, none⟩) (by show gD < _; omega) (by show gD < g ∨ g + 1 ≤ gD; omega)).trans (HC.out j hj)
              clear hp hp1 hp2 hp4 hf HX HXn HB HC b1 b2 q0
              go_wp2
              go_roundw
              case rel => exact ⟨k + 1, _, cap, g6, by omega, by go_num, rfl, rfl, by omega, by omega, hp3, by omega, fun _ => hl, Hall2, HO6, HB6, HC6⟩
              case measure => (simp [intOf] <;> omega)
          by_cases t2 : P[0] = 45
          · have u1 : ((P[0].toNat : Int) != 43) = true := by rw [t2]; rfl
            have u2 : ((P[0].toNat : Int) != 45) = false := by rw [t2]; rfl
            clear t1 t2 hx0
            go_wp2
            have S0 : Hid (wr.drew.cell? ⟨gD, k, none⟩ = some (.string P)) := q0
            have S1 : Hid (((wr.alloc (Obj.cells #[.bool ((P[0].toNat : Int) == 43), .int .i64 (IntKind.i64.wrap (IntKind.i64.wrap (P[1].toNat : Int) - 48)), .int .i64 (IntKind.i64.wrap (IntKind.i64.wrap (P[2].toNat : Int) - 48))] 49)).drew).cell? ⟨gD, k, none⟩ = some (.string P)) := (World.cell?_alloc_lt wr _ ⟨gD, k, none⟩ hq2).trans q0
            go_region_held3 (fun z => z.cell? ⟨gD, k, none⟩ = some (.string P))
              (first | exact S0.out | exact S1.out | exact ((((Fr.refl g (g + 1) wr).alloc _).drew).trans hp.caged.2.2.2 |>.cell (p := ⟨gD, k, none⟩) hq2 (by show gD < g ∨ g + 1 ≤ gD; omega)).trans q0 | fail)
              (first
                | (refine step_push _ (by rfl) _ _ _ (by rfl) 49 _ 3 24 Tryd.underlying25 info_edit rfl (by omega) g _ (some ⟨g, 0, none⟩) k c' (eds (peA s) (peV s) (peU s)) (by rfl) HX.out (by simp; omega) wr.heap.size #[.bool ((P[0].toNat : Int) == 43), .int .i64 (IntKind.i64.wrap (IntKind.i64.wrap (P[1].toNat : Int) - 48)), .int .i64 (IntKind.i64.wrap (IntKind.i64.wrap (P[2].toNat : Int) - 48))] 49 (0, 0) 1 (heap_alloc_new wr _) (by rfl) rfl HXn.out (by simp [Value.oneCell']) (by omega) (by omega) ?_; intro g6 cap w6 hp))
            all_goals
              obtain ⟨hp1, hp2, hp3, hp4⟩ := hp.caged
              have hf : Fr g (g + 1) wr w6 := (((Fr.refl g (g + 1) wr).alloc _).drew).trans hp4
              have hg6 : g6 = g ∨ wr.heap.size ≤ g6 := hp2.imp id (fun h => by rw [h]; show wr.heap.size ≤ (wr.alloc _).heap.size; simp)
              have hz6 := hf.size
              have HO6 := Lib.hid hp1
              have HB6 : Hid (Below w.heap.size w w6) := HB.out.trans (hf.below hg1 HB.out.size)
              have HC6 : Hid (∀ j, j < n → w6.cell? ⟨gD, j, none⟩ = some (.string (D.getD j ⟨#[]⟩))) := fun j hj => (hf.cell (p := ⟨gD, j, none⟩) (by show gD < _; omega) (by show gD < g ∨ g + 1 ≤ gD; omega)).trans (HC.out j hj)
              clear hp hp1 hp2 hp4 hf HX HXn HB HC b1 b2 q0
              go_wp2
              go_roundw
              case rel => exact ⟨k + 1, _, cap, g6, by omega, by go_num, rfl, rfl, by omega, by omega, hp3, by omega, fun _ => hl, Hall2, HO6, HB6, HC6⟩
              case measure => (simp [intOf] <;> omega)
          have u1 : ((P[0].toNat : Int) != 43) = true := by
            rw [bne_iff_ne]; intro h; refine t1 (UInt8.toNat_inj.1 ?_); show _ = 43; omega
          have u2 : ((P[0].toNat : Int) != 45) = true := by
            rw [bne_iff_ne]; intro h; refine t2 (UInt8.toNat_inj.1 ?_); show _ = 45; omega
          obtain ⟨hN, hBo⟩ := Hno.out (peOk_sign (j := k) (by rw [← Hn.out]; exact hlt) (by rw [hx0]; exact t1) (by rw [hx0]; exact t2))
          clear t1 t2 hx0 HX HXn HO
          have HN := Lib.hid hN
          have HBo := Lib.hid hBo
          have hzB := HB.out.size
          clear hN hBo
          go_wp2
          go_ret2
          exact ⟨some ⟨wr.heap.size, 0, none⟩, 0, by rw [HN.out, HBo.out]; rfl, by rw [HN.out]; exact (own_newE wr _ _ _).mono hzB (Nat.le_refl _), HB.out.alloc hzB _⟩
        · have h3' : ((P.size : Int) != 3) = true := by rw [bne_iff_ne]; omega
          obtain ⟨hN, hBo⟩ := Hno.out (peOk_len (j := k) (by rw [← Hn.out]; exact hlt) (by rw [← hP3]; exact h3))
          clear h3 hP3 hPk HO
          have HN := Lib.hid hN
          have HBo := Lib.hid hBo
          have hzB := HB.out.size
          clear hN hBo
          go_wp2
          go_ret2
          exact ⟨some ⟨wr.heap.size, 0, none⟩, 0, by rw [HN.out, HBo.out]; rfl, by rw [HN.out]; exact (own_newE wr _ _ _).mono hzB (Nat.le_refl _), HB.out.alloc hzB _⟩
      · have i2 : (60 : Int) < (s.size : Int) := by omega
        obtain rfl : k = 0 := by
          rcases Nat.eq_zero_or_pos k with h | h
          · exact h
          · exact absurd (h60 (by omega)) hl
        obtain ⟨hN, hBo⟩ := Hno.out (peOk_long (by omega))
        have HN := Lib.hid hN
        have HBo := Lib.hid hBo
        have KF := Lib.hid (FormatEdits_s (some ⟨g, 0, none⟩) 0 c' (peA s) (peV s) (peU s) wr ⟨(HO.out.mono (Nat.le_refl _) (show g + 1 ≤ wr.heap.size by omega)).rdE⟩ (by omega))
        rw [fmO_none] at KF
        have e5 : ((⟨#[110, 111, 110, 101]⟩ : ByteArray).toList == s.toList) = false := by
          rw [Hnone.out, beq_eq_false_iff_ne]
          exact fun h => e0 h.symm
        obtain ⟨F, hF⟩ : ∃ F : ByteArray, F = ⟨#[110, 111, 110, 101]⟩ := ⟨_, rfl⟩
        rw [← hF] at KF e5
        clear hF hN hBo Hno Hyes Hnone HO h60 hall
        go_wp2_with fail
        refine KF.out.mono ?_
        rintro e w2 ⟨rfl, hb2⟩
        have HB2 : Hid (Below w.heap.size w w2) := HB.out.trans (hb2.mono HB.out.size)
        have hz2 := HB2.out.size
        clear hb2 HB HC
        go_wp2
        go_ret2
        exact ⟨some ⟨w2.heap.size, 0, none⟩, 0, by rw [HN.out, HBo.out]; rfl, by rw [HN.out]; exact (own_newE w2 _ _ _).mono hz2 (Nat.le_refl _), HB2.out.alloc hz2 _⟩
    · have i1 : (n : Int) ≤ (k : Int) := by omega
      obtain rfl : k = n := by omega
      have KF := Lib.hid (FormatEdits_s (some ⟨g, 0, none⟩) k c' (peA s) (peV s) (peU s) wr ⟨(HO.out.mono (Nat.le_refl _) (show g + 1 ≤ wr.heap.size by omega)).rdE⟩ (by omega))
      obtain ⟨F, hF⟩ : ∃ F, F = fmO k (peA s) (peV s) (peU s) := ⟨_, rfl⟩
      have h3 : ∀ x ∈ peW s, x.length = 3 := by
        intro x hx
        obtain ⟨j, hj, e⟩ := List.mem_iff_getElem.1 hx
        have hj2 : j < k := by rw [Hn.out]; exact hj
        have := hall.out j hj2
        rw [HW3.out j hj2] at this
        simpa [List.getD, hj, e] using this
      have Hok : Hid (F = s → peOk s) := fun e => ⟨h3, by rw [← Hn.out, ← hF]; exact e⟩
      have Hnot : Hid (F ≠ s → ¬ peOk s) := fun e hh => e (by rw [hF, Hn.out]; exact hh.2)
      rw [← hF] at KF
      clear h3 hF
      by_cases hFs : F = s
      · obtain ⟨hN, hBo⟩ := Hyes.out (Hok.out hFs)
        have HN := Lib.hid hN
        have HBo := Lib.hid hBo
        clear hN hBo
        subst hFs
        clear Hno Hnot Hyes Hok
        go_wp2_with fail
        refine KF.out.mono ?_
        rintro e w2 ⟨rfl, hb2⟩
        have HB2 : Hid (Below w.heap.size w w2) := HB.out.trans (hb2.mono HB.out.size)
        have hz2 := hb2.size
        have HO2 : Hid (Own w2 w.heap.size w2.heap.size 49 3 (some ⟨g, 0, none⟩) k c' (eds (peA F) (peV F) (peU F))) := (HO.out.keepB hb2 hg3).mono hg1 (by omega)
        clear hb2 HO HB HC
        go_wp2
        go_ret2
        exact ⟨some ⟨g, 0, none⟩, c', by rw [HN.out, HBo.out, ← Hn.out]; rfl, by rw [HN.out, ← Hn.out]; exact HO2.out, HB2.out⟩
      · obtain ⟨hN, hBo⟩ := Hno.out (Hnot.out hFs)
        have HN := Lib.hid hN
        have HBo := Lib.hid hBo
        have e5 : (F.toList == s.toList) = false := beq_eq_false_iff_ne.2 (fun h => hFs (Go.WideShapes.bytes_inj (by rw [← ByteArray.toList_eq, ← ByteArray.toList_eq]; exact h)))
        clear hN hBo Hno Hnot Hyes Hok
        go_wp2_with fail
        refine KF.out.mono ?_
        rintro e w2 ⟨rfl, hb2⟩
        have HB2 : Hid (Below w.heap.size w w2) := HB.out.trans (hb2.mono HB.out.size)
        have hz2 := HB2.out.size
        clear hb2 HO HB HC
        go_wp2
        go_ret2
        exact ⟨some ⟨w2.heap.size, 0, none⟩, 0, by rw [HN.out, HBo.out]; rfl, by rw [HN.out]; exact (own_newE w2 _ _ _).mono hz2 (Nat.le_refl _), HB2.out.alloc hz2 _⟩
end Go.Proofs.YtncjfgebolikoaaDoor
