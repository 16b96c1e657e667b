/-
  Contract: a minimal fill, of the reference.
-/
import Derived.Test.YtnnlmdenffnjbaaMinI
namespace Go.Proofs.Ytnnlmdenffnjbaa
open Go.RowKit

set_option maxRecDepth 100000 in
set_option maxHeartbeats 6400000 in
theorem MinimalFill_s (sz : Int) (A : Option Addr) (m c : Nat) (x : Nat → Int) (w : World) (h : GA w A m c x) (hm : m ≤ 1048576) :
    Calls Try.prog 43 #[.agg #[.int .i64 sz, .slice A m c]] w fun e w' => ∃ A' c' D, e = .returned (.tuple #[.slice A' D.length c', .bool (lxB sz m x 0)]) ∧ lists D = miL sz m x ∧ OwnD w' w.heap.size w'.heap.size A' c' D ∧ Below w.heap.size w w' := by
  obtain ⟨W, hW⟩ : ∃ W : World, W = (w.alloc (Obj.cells #[Value.int IntKind.i64 sz, Value.slice A m c] 28)) := ⟨_, rfl⟩
  have HB : Hid (From w W) := by rw [hW]; exact From.alloc _ _
  have HK := Lib.hid (h.keep HB.out.below)
  have HC : Hid (GC W w.heap.size sz A m c) := by rw [hW]; exact GC.new _ _ _ _ _
  have HW := Lib.hid hW
  clear hW h
  go_enter Try.func43, Try.ntmps43
  have e0 := HC.out.c0
  have e1 := HC.out.c1
  go_wp2_with fail
  rw [← HW.out]
  refine (LexOrder_s sz A m c x 0 W HK.out hm).mono ?_
  rintro e w1 ⟨A1, c1, rfl, hO1, hb1⟩
  clear HW
  clear e0 e1
  replace HB := Lib.hid (HB.out.keep hb1)
  replace HK := Lib.hid (HK.out.keep hb1)
  replace HC := Lib.hid (HC.out.keep hb1)
  clear hb1
  have e0 := HC.out.c0
  have e1 := HC.out.c1
  cases hb : lxB sz m x 0
  · have HM := Lib.hid (miL_no hb)
    have Hb := Lib.hid hb
    have z1 := HB.out.below.size
    clear hb hO1
    go_wp2
    go_ret2
    exact ⟨_, 0, [], by rw [Hb.out]; rfl, HM.out.symm, OwnD.none_ _ _ _ _ z1 (by simp) (heap_alloc_new _ _), (HB.out.alloc_ _).below⟩
  · have HM := Lib.hid (miL_yes hb)
    have Hb := Lib.hid hb
    have HLE := Lib.hid (lxL_yes hb)
    have hb' := hb
    unfold lxB at hb'
    rw [Bool.and_eq_true] at hb'
    obtain ⟨_, es, vg0, _⟩ := okB_ok' hb'.2
    subst es
    have hn1 := vg0.n1
    have hn7 := vg0.n7
    have hlen : (lxL (m : Int) m x 0).length = m := by rw [HLE.out]; exact lexN_len hn1
    obtain ⟨L, hL⟩ : ∃ L, L = lxL (m : Int) m x 0 := ⟨_, rfl⟩
    rw [← hL] at hlen hO1 HM ⊢
    have hlen1 : L.length ≤ 7 := by omega
    have hL0 : L ≠ [] := fun e => by rw [e] at hlen; simp at hlen; omega
    have HL0 := Lib.hid hL0
    have HO1 : Hid (LN w1 A1 c1 L) := hO1.ln
    have h2 := fofL_two (sz := (m : Int)) (x := x) (l := ci L.reverse) hn7
    obtain ⟨R, hR⟩ : ∃ R, R = fofL (m : Int) m x (ci L.reverse) := ⟨_, rfl⟩
    rw [← hR] at HM h2
    have HR := Lib.hid hR
    have HRt := Lib.hid h2.2
    have hR21 := h2.1
    have Hlr : Hid (L.reverse.length = L.length) := List.length_reverse
    clear hb hb' vg0 hlen hL hO1 hL0 h2 hR HLE
    have e0 := HC.out.c0
    have e1 := HC.out.c1
    have HSC : Hid (∀ z : World, Below w1.heap.size w1 z → (Below w1.heap.size w1 z ∧ z.cell? ⟨w.heap.size, 0, none⟩ = some (.int .i64 m) ∧ z.cell? ⟨w.heap.size, 1, none⟩ = some (.slice A m c))) := fun z hz => ⟨hz, up_ hz e0, up_ hz e1⟩
    have HZ1 : Hid (Below w1.heap.size w1 w1.drew) := (Below.refl _ _).drew
    have HS1 := Lib.hid (HSC.out _ HZ1.out)
    have K1 := Lib.hid (l6Reverse_s A1 c1 L w1.drew (HO1.out.keep HZ1.out) HL0.out (by omega))
    have K2 : Hid (∀ (z : World) (A' : Option Addr) (c' : Nat), Below w1.heap.size w1 z → LN z A' c' L.reverse → Calls Try.prog 72 #[.agg #[.int .i64 m, .slice A m c], .slice A' L.length c'] z fun e w' => ∃ A' c' D t, e = .returned (.tuple #[.slice A' D.length c', .bool t]) ∧ lists D = R ∧ OwnD w' z.heap.size w'.heap.size A' c' D ∧ Below z.heap.size z w') := fun z A' c' hz hl => by
      have := FillOf_s m A m c x A' L.reverse.length c' (ci L.reverse) z (HK.out.keep hz) hl.li hm (by rw [Hlr.out]; omega)
      rw [Hlr.out, ← HR.out] at this
      exact this.mono fun _ _ ⟨A', c', D, h1, h2⟩ => ⟨A', c', D, _, h1, h2⟩
    clear e0 e1
    go_wp2
    go_region_held3 (fun z => Below w1.heap.size w1 z ∧ z.cell? ⟨w.heap.size, 0, none⟩ = some (.int .i64 m) ∧ z.cell? ⟨w.heap.size, 1, none⟩ = some (.slice A m c))
      (first | exact HS1.out | assumption | exact HSC.out _ hz3 | exact HSC.out _ (bl_trans HZ1.out hb2) | fail)
      (first | (go_at_call 129; ((with_reducible refine K1.out.mono ?_); rintro e w2 ⟨A2, c2, rfl, hO2, hb2⟩)) | (go_at_call 72; ((with_reducible refine (K2.out _ _ _ (bl_trans HZ1.out hb2) hO2.ln).mono ?_); rintro e w3 ⟨A3, c3, D0, t0, rfl, hD0, hO3, hb3⟩; have hz3 := bl_trans (bl_trans HZ1.out hb2) hb3)))
    have z1 := HB.out.below.size
    have z3 : w.heap.size ≤ w2.heap.size := Nat.le_trans z1 (Nat.le_trans HZ1.out.size hb2.size)
    have HF : Hid (From w1 w3) := ⟨hz3⟩
    have HD0 := Lib.hid hD0
    have HO3 : Hid (OD w.heap.size w3 A3 c3 D0) := ⟨hO3.mono z3 (Nat.le_refl _), Nat.le_trans z3 hb3.size⟩
    have hl0 : D0.length ≤ 21 := by rw [← lists_len, hD0]; exact hR21
    clear hD0 hO2 hO3 hb2 hb3 hz3 K1 K2 HSC HZ1 HS1 z3
    go_wp2
    go_loopw [6, 8] (fun s t wr => ∃ (A' : Option Addr) (c' : Nat) (D : List Dsc) (b : Bool), s = .slice A' D.length c' ∧ t = .bool b ∧ D.length ≤ 21 ∧ Hid (b = true → mfL m m x (lists D) = mfL m m x R) ∧ Hid (b = false → lists D = miL m m x) ∧ Hid (∀ e ∈ lists D, e.length = 2) ∧ Hid (OD w.heap.size wr A' c' D) ∧ Hid (From w1 wr)) (fun s t _ => match s, t with | .slice _ n _, .bool b => 2 * n + b.toNat | _, _ => 0)
    case atStart => exact ⟨A3, c3, D0, true, rfl, rfl, hl0, (fun _ => by rw [HD0.out]), (fun h => by cases h), by rw [HD0.out]; exact HRt.out, HO3, HF⟩
    case round =>
      clear HO3 HF HD0 hl0
      obtain ⟨A', c', D, b, rfl, rfl, hl, HE, HE0, HT, HO, HF⟩ := hrel
      cases b
      · have HBr := Lib.hid (HB.out.keep HF.out.below)
        have HFin : Hid (lists D = miL m m x) := HE0.out rfl
        go_wp2
        go_ret2
        exact ⟨A', c', D, by rw [Hb.out]; rfl, HFin.out, HO.out.own, HBr.out.below⟩
      have HE1 : Hid (mfL m m x (lists D) = mfL m m x R) := HE.out rfl
      clear HE0 HE
      have HE := HE1
      clear HE1
      have Hlist := Lib.hid (lists_len D)
      obtain ⟨n0, hn0⟩ : ∃ n0, n0 = D.length := ⟨_, rfl⟩
      have Hn0 := Lib.hid hn0
      obtain ⟨S0, hS0⟩ : ∃ S0, S0 = lists D := ⟨_, rfl⟩
      have HS0 := Lib.hid hS0
      have hn21 : n0 ≤ 21 := by omega
      rw [← hn0] at Hlist ⊢
      rw [← hS0] at HE HT Hlist
      clear hn0 hS0 hl
      go_wp2
      go_loopw [6, 8, 9] (fun s t i wz => ∃ (k : Nat) (A' : Option Addr) (c' : Nat) (D : List Dsc) (b : Bool), s = .slice A' D.length c' ∧ t = .bool b ∧ i = .int .i64 ((k : Int) - 1) ∧ k ≤ D.length ∧ D.length ≤ n0 ∧ Hid (b = decide (D.length < n0)) ∧ Hid (mrK m m x k (lists D) = mrK m m x n0 S0) ∧ Hid (∀ e ∈ lists D, e.length = 2) ∧ Hid (OD w.heap.size wz A' c' D) ∧ Hid (From w1 wz)) (fun _ _ i _ => (intOf i + 1).toNat)
      case atStart => exact ⟨n0, A', c', D, false, by rw [Hn0.out], rfl, rfl, by rw [Hn0.out]; exact Nat.le_refl _, by rw [Hn0.out]; exact Nat.le_refl _, by rw [Hn0.out]; exact (decide_eq_false (Nat.lt_irrefl _)).symm, by rw [← HS0.out]; exact rfl, by rw [← HS0.out]; exact HT.out, HO, HF⟩
      case round =>
        clear HO HF
        obtain ⟨k, A', c', D, b, rfl, rfl, rfl, hk, hl, Hbn, HE2, HT2, HO, HF⟩ := hrel
        by_cases hk0 : 0 < k
        · obtain ⟨j, hj⟩ : ∃ j, j + 1 = k := ⟨k - 1, by omega⟩
          subst hj
          have hji : ((j + 1 : Nat) : Int) - 1 = (j : Int) := by omega
          rw [hji]
          have hle : (D.eraseIdx j).length ≤ D.length := List.length_eraseIdx_le ..
          have hle2 : j ≤ (D.eraseIdx j).length := by rw [List.length_eraseIdx_of_lt (by omega)]; omega
          have hle3 : (D.eraseIdx j).length < n0 := by rw [List.length_eraseIdx_of_lt (by omega)]; omega
          have Hle : Hid ((D.eraseIdx j).length = j + (D.length - (j + 1))) := by show _ = _; rw [List.length_eraseIdx_of_lt (by omega)]; omega
          have Hli := Lib.hid (lists_erase D j)
          have HTe : Hid (∀ e ∈ lists (D.eraseIdx j), e.length = 2) := fun e he => HT2.out e (by rw [Hli.out] at he; exact List.mem_of_mem_eraseIdx he)
          have htot : tot (D.eraseIdx j) ≤ 1048576 := by rw [tot_two HTe.out]; omega
          obtain ⟨bb, o, rfl, hbb, _⟩ := HO.out.ld.rd.1.2 (by omega)
          have hcc := HO.out.ld.rd.1.1
          have i0 : (0 : Int) ≤ (j : Int) := by omega
          have i1 : (j : Int) < (D.length : Int) := by omega
          have i2 : (j : Int) ≤ (c' : Int) := by omega
          have i3 : IntKind.i64.wrap ((j : Int) + 1) = (j : Int) + 1 := Go.IntWalk.i64_in _ (by omega)
          have i4 : (0 : Int) ≤ (j : Int) + 1 := by omega
          have i5 : (j : Int) + 1 ≤ (D.length : Int) := by omega
          have i6 : ((j : Int) + 1).toNat = j + 1 := by omega
          have H1 := Lib.hid (HO.out.ld.pre (i := j) (by omega))
          have HZ1 : Hid (Below wr.heap.size wr wr.drew) := (Below.refl _ _).drew
          have OneD : ∀ t, (dvs D t).oneCell' = true := dvs_one D
          have HOne := Lib.hid OneD
          have HOne2 : Hid (∀ t, ((fun t => dvs D (j + 1 + t)) t).oneCell' = true) := fun t => dvs_one D _
          have OA : Hid (Own ((wr.alloc (Obj.cells #[] 22)).drew) wr.heap.size (wr.heap.size + 1) 22 1 (some ⟨wr.heap.size, 0, none⟩) 0 0 (fun _ => .slice none 0 0)) := (own_empty wr _ _ (Nat.le_refl _) (Nat.lt_succ_self _) _).drew
          have ZA : Hid (Below wr.heap.size wr ((wr.alloc (Obj.cells #[] 22)).drew)) := bl_drew (bl_alloc (Below.refl _ _))
          have Hj := Lib.hid hji
          clear hji OneD
          by_cases hic : j + 1 < c'
          case' pos =>
            have H2 : Hid (LV wr (some ⟨bb, o + (j + 1), none⟩) (D.length - (j + 1)) (c' - (j + 1)) (fun t => dvs D (j + 1 + t))) := HO.out.ld.post (by omega) hic
            have hci : (c' = j + 1) = False := by simp; omega
            clear hic hbb
          case' neg =>
            have hz0 : D.length - (j + 1) = 0 := by omega
            have H2 : Hid (LV wr (some ⟨bb, o, none⟩) (D.length - (j + 1)) (c' - (j + 1)) (fun t => dvs D (j + 1 + t))) := ⟨⟨by omega, fun h => by omega⟩⟩
            have hci : (c' = j + 1) = True := by simp; omega
            clear hic hbb hz0
          all_goals
            go_wp2
            go_region_held3 (fun z => Below wr.heap.size wr z)
              (first | exact HZ1.out | exact ZA.out | assumption | exact hz6 | exact hz5 | fail)
              (first
              | ((refine step_appendW _ (by rfl) _ _ (by rfl) (by rfl) OA.out (by rfl) (H1.out.keep ZA.out).rd HOne.out ZA.out.size (by omega) (by omega) j (Nat.zero_add j) ?_; intro A5 c5 w5 hO5 hb5 hg5 ha5; have hz5 := ZA.out.trans hb5; clear ha5 hg5))
              | ((refine step_appendW _ (by rfl) _ _ (by rfl) (by rfl) hO5 (by rfl) (H2.out.keep hz5).rd HOne2.out hz5.size (by omega) (by omega) (j + (D.length - (j + 1))) rfl ?_; intro A6 c6 w6 hO6 hb6 hg6 ha6; have hz6 := hz5.trans hb6; clear ha6 hg6))
              | fail)
            have hO7 : Own w6 wr.heap.size w6.heap.size 22 1 A6 (j + (D.length - (j + 1))) c6 (thenV j (dvs D) (fun t => dvs D (j + 1 + t))) := by
              exact hO6.congr (fun t ht => by unfold thenV; by_cases h : t < j <;> simp [h])
            have HO6 : Hid (OD w.heap.size w6 A6 c6 (D.eraseIdx j)) := OD.erase (HO.out.keep hz6) (by omega) (hO7.mono HO.out.le (Nat.le_refl _))
            have HOr : Hid (OD w.heap.size w6 (some ⟨bb, o, none⟩) c' D) := HO.out.keep hz6
            have HF6 := Lib.hid (HF.out.keep hz6)
            have HK6 := Lib.hid (HK.out.keep HF6.out.below)
            have HC6 := Lib.hid (HC.out.keep HF6.out.below)
            have e0 := HC6.out.c0
            have e1 := HC6.out.c1
            rw [← Hle.out]
            clear hO5 hO6 hO7 hb5 hb6 hz5 hz6 OA ZA H1 H2 HOne HOne2 HZ1 hci i0 i1 i2 i3 i4 i5 i6 HO HF
            go_wp2_with fail
            refine (AddAll_s m A m c x A6 c6 (D.eraseIdx j) w6 w6.heap.size HK6.out.rd HO6.out.ld.rd (Nat.le_refl _) hm (by omega) htot _ rfl).mono ?_
            rintro e w7 ⟨A7, c7, rfl, hO7, hb7⟩
            have HO7 := Lib.hid hO7
            have HF7 := Lib.hid (HF6.out.keep hb7)
            have HO67 := Lib.hid (HO6.out.keep hb7)
            have HOr7 := Lib.hid (HOr.out.keep hb7)
            clear hO7 hb7 e0 e1 HK6 HC6 HO6 HOr
            have hN : aaN (m : Int) m x (lists (D.eraseIdx j)) ≤ m := aaN_le
            obtain ⟨W8, hW8⟩ : ∃ W8 : World, W8 = w7.alloc (Obj.cells #[.int .i64 (aaZ (m : Int) m x (lists (D.eraseIdx j))), .slice A7 (aaN (m : Int) m x (lists (D.eraseIdx j))) c7] 28) := ⟨_, rfl⟩
            have hb8 : Below w7.heap.size w7 W8 := by rw [hW8]; exact (Below.refl _ _).alloc (Nat.le_refl _) _
            have HR8 : Hid (Rd W8 W8.heap.size A7 (aaN (m : Int) m x (lists (D.eraseIdx j))) c7 (aaX (m : Int) m x (lists (D.eraseIdx j)))) := by
              rw [hW8]
              exact HO7.out.rd.keep ((Below.refl _ _).alloc (Nat.le_refl _) _) (by simp)
            have HF8 := Lib.hid (HF7.out.keep hb8)
            have HO8 := Lib.hid (HO67.out.keep hb8)
            have HOr8 := Lib.hid (HOr7.out.keep hb8)
            have HW8 := Lib.hid hW8
            clear hW8 hb8 HO7 HF7 HO67 HOr7
            go_wp2_with fail
            rw [← HW8.out]
            clear HW8
            refine (IsChordal_s _ A7 _ c7 _ W8 W8.heap.size HR8.out (Nat.le_refl _) (by omega)).mono ?_
            rintro e w9 ⟨rfl, hb9⟩
            have HF9 := Lib.hid (HF8.out.keep hb9)
            have HO9 := Lib.hid (HO8.out.keep hb9)
            have HOr9 := Lib.hid (HOr8.out.keep hb9)
            have he : chB (aaZ (m : Int) m x (lists (D.eraseIdx j))) (aaN (m : Int) m x (lists (D.eraseIdx j))) (aaX (m : Int) m x (lists (D.eraseIdx j))) = fiB (m : Int) m x (lists (D.eraseIdx j)) := rfl
            rw [he, Hli.out]
            clear he hb9 HR8 HF8 HO8 HOr8
            cases hf : fiB (m : Int) m x ((lists D).eraseIdx j)
            · have Hst := Lib.hid (mrK_no hf)
              clear hf
              go_wp2
              go_roundw
              case rel => exact ⟨j, some ⟨bb, o, none⟩, c', D, b, rfl, rfl, rfl, by omega, hl, Hbn, by rw [← HE2.out, Hst.out]; exact rfl, HT2, HOr9, HF9⟩
              case measure => (simp [intOf] <;> omega)
            · have Hst := Lib.hid (mrK_yes hf)
              have Hd : Hid (true = decide ((D.eraseIdx j).length < n0)) := (decide_eq_true hle3).symm
              clear hf
              go_wp2
              go_roundw
              case rel => exact ⟨j, A6, c6, D.eraseIdx j, true, rfl, rfl, rfl, hle2, by omega, Hd, by rw [← HE2.out, Hst.out, Hli.out]; exact rfl, HTe, HO9, HF9⟩
              case measure => (simp [intOf] <;> omega)
        · obtain rfl : k = 0 := by omega
          have hji : ((0 : Nat) : Int) - 1 = -1 := rfl
          rw [hji]
          have HZ : Hid (lists D = mrK m m x n0 S0) := HE2.out
          clear hji HE2
          have Hyes : Hid (b = true → mfL m m x (lists D) = mfL m m x R) := fun hb => by
            rw [Hbn.out, decide_eq_true_eq] at hb
            rw [← HE.out, mfL_more (L := S0), Hlist.out, ← HZ.out]
            rw [Hlist.out, ← HZ.out, lists_len]
            exact hb
          have Hno : Hid (b = false → lists D = miL m m x) := fun hb => by
            rw [Hbn.out, decide_eq_false_iff_not] at hb
            have heq : D.length = n0 := by omega
            have hR : lists D = S0 := by
              rw [HZ.out]
              refine mrK_same n0 S0 (by rw [Hlist.out]; exact Nat.le_refl _) ?_
              rw [← HZ.out, lists_len, heq, Hlist.out]
            rw [HM.out, ← HE.out, mfL_done, hR]
            rw [Hlist.out, ← HZ.out, lists_len, heq]
            omega
          have hms : 2 * D.length + b.toNat < 2 * n0 + 1 := by
            have hb := Hbn.out
            cases b
            · show 2 * D.length + 0 < _; omega
            · have := of_decide_eq_true hb.symm
              show 2 * D.length + 1 < _; omega
          go_wp2
          go_roundw
          case rel => exact ⟨A', c', D, b, rfl, rfl, by omega, Hyes, Hno, HT2, HO, HF⟩
          case measure => simp; omega
end Go.Proofs.Ytnnlmdenffnjbaa
