/-
  Several texts in one.
-/
import Derived.Test.YtppkokgiojcgbaaGreatDoorQxJoinS
import Derived.Test.YtppkokgiojcgbaaGreatDoorQxMinI
import Derived.Test.YtppkokgiojcgbaaGreatDoorQxGC
import Derived.Test.YtppkokgiojcgbaaGreatDoorQxGA
/-
-/
namespace Go.Proofs.YtppkokgiojcgbaaGreatDoor
open Go.RowKit
set_option maxRecDepth 100000 in
set_option maxHeartbeats 6400000 in
theorem MinimalFill_s (sz : Int) (A : Option Addr) (m c : Nat) (x : Nat → Int) (w : World) (h : GA w A m c x) (hm : m ≤ 1048576) :
 Calls Tryz.prog 47 #[.agg #[.int .i64 sz, .slice A m c]] w fun e w' => ∃ A' c' D, e = .returned (.tuple #[.slice A' D.length c', .bool (lxB sz m x 0)]) ∧ lists D = miL sz m x ∧ OwnD w' w.heap.size w'.heap.size A' c' D ∧ Below w.heap.size w w' := by
 obtain ⟨W, hW⟩ : ∃ W : World, W = (w.alloc (Obj.cells #[Value.int IntKind.i64 sz, Value.slice A m c] 29)) := ⟨_, rfl⟩
 have HB : Hid (From w W) := by rw [hW]; exact From.alloc _ _
 have HK := Lib.hid (h.keep HB.out.below)
 have HC : Hid (GC W w.heap.size sz A m c) := by rw [hW]; exact GC.new _ _ _ _ _
 have HW := Lib.hid hW
 clear hW h
 go_enter Tryz.func47, Tryz.ntmps47
 have e0 := HC.out.c0
 have e1 := HC.out.c1
 go_wp2_with fail
 rw [← HW.out]
 refine (LexOrder_s sz A m c x 0 W HK.out hm).mono ?_
 rintro e w1 ⟨A1, c1, rfl, hO1, hb1⟩
 clear HW
 clear e0 e1
 replace HB := Lib.hid (HB.out.keep hb1)
 replace HK := Lib.hid (HK.out.keep hb1)
 replace HC := Lib.hid (HC.out.keep hb1)
 clear hb1
 have e0 := HC.out.c0
 have e1 := HC.out.c1
 cases hb : lxB sz m x 0
 ·have HM := Lib.hid (miL_no hb)
  have Hb := Lib.hid hb
  have z1 := HB.out.below.size
  clear hb hO1
  go_wp2
  go_ret2
  exact ⟨_, 0, [], by rw [Hb.out]; rfl, HM.out.symm, OwnD.none_ _ _ _ _ z1 (by simp) (heap_alloc_new _ _), (HB.out.alloc_ _).below⟩
 ·have HM := Lib.hid (miL_yes hb)
  have Hb := Lib.hid hb
  have HLE := Lib.hid (lxL_yes hb)
  have hb' := hb
  unfold lxB at hb'
  rw [Bool.and_eq_true] at hb'
  obtain ⟨_, es, vg0, _⟩ := okB_ok' hb'.2
  subst es
  have hn1 := vg0.n1
  have hn7 := vg0.n7
  have hlen : (lxL (m : Int) m x 0).length = m := by rw [HLE.out]; exact lexN_len hn1
  obtain ⟨L, hL⟩ : ∃ L, L = lxL (m : Int) m x 0 := ⟨_, rfl⟩
  rw [← hL] at hlen hO1 HM ⊢
  have hlen1 : L.length ≤ 7 := by omega
  have hL0 : L ≠ [] := fun e => by rw [e] at hlen; simp at hlen; omega
  have HL0 := Lib.hid hL0
  have HO1 : Hid (LN w1 A1 c1 L) := hO1.ln
  have h2 := fofL_two (sz := (m : Int)) (x := x) (l := ci L.reverse) hn7
  obtain ⟨R, hR⟩ : ∃ R, R = fofL (m : Int) m x (ci L.reverse) := ⟨_, rfl⟩
  rw [← hR] at HM h2
  have HR := Lib.hid hR
  have HRt := Lib.hid h2.2
  have hR21 := h2.1
  have Hlr : Hid (L.reverse.length = L.length) := List.length_reverse
  clear hb hb' vg0 hlen hL hO1 hL0 h2 hR HLE
  have e0 := HC.out.c0
  have e1 := HC.out.c1
  have HSC : Hid (∀ z : World, Below w1.heap.size w1 z → (Below w1.heap.size w1 z ∧ z.cell? ⟨w.heap.size, 0, none⟩ = some (.int .i64 m) ∧ z.cell? ⟨w.heap.size, 1, none⟩ = some (.slice A m c))) := fun z hz => ⟨hz, up_ hz e0, up_ hz e1⟩
  have HZ1 : Hid (Below w1.heap.size w1 w1.drew) := (Below.refl _ _).drew
  have HS1 := Lib.hid (HSC.out _ HZ1.out)
  have K1 := Lib.hid (l6Reverse_s A1 c1 L w1.drew (HO1.out.keep HZ1.out) HL0.out (by omega))
  have K2 : Hid (∀ (z : World) (A' : Option Addr) (c' : Nat), Below w1.heap.size w1 z → LN z A' c' L.reverse → Calls Tryz.prog 98 #[.agg #[.int .i64 m, .slice A m c], .slice A' L.length c'] z fun e w' => ∃ A' c' D t, e = .returned (.tuple #[.slice A' D.length c', .bool t]) ∧ lists D = R ∧ OwnD w' z.heap.size w'.heap.size A' c' D ∧ Below z.heap.size z w') := fun z A' c' hz hl => by
   have := FillOf_s m A m c x A' L.reverse.length c' (ci L.reverse) z (HK.out.keep hz) hl.li hm (by rw [Hlr.out]; omega)
   rw [Hlr.out, ← HR.out] at this
   exact this.mono fun _ _ ⟨A', c', D, h1, h2⟩ => ⟨A', c', D, _, h1, h2⟩
  clear e0 e1
  go_wp2
  go_region_held3 (fun z => Below w1.heap.size w1 z ∧ z.cell? ⟨w.heap.size, 0, none⟩ = some (.int .i64 m) ∧ z.cell? ⟨w.heap.size, 1, none⟩ = some (.slice A m c))
   (first | exact HS1.out | assumption | exact HSC.out _ hz3 | exact HSC.out _ (bl_trans HZ1.out hb2) | fail)
   (first | (go_at_call 99; ((with_reducible refine K1.out.mono ?_); rintro e w2 ⟨A2, c2, rfl, hO2, hb2⟩)) | (go_at_call 98; ((with_reducible refine (K2.out _ _ _ (bl_trans HZ1.out hb2) hO2.ln).mono ?_); rintro e w3 ⟨A3, c3, D0, t0, rfl, hD0, hO3, hb3⟩; have hz3 := bl_trans (bl_trans HZ1.out hb2) hb3)))
  have z1 := HB.out.below.size
  have z3 : w.heap.size ≤ w2.heap.size := Nat.le_trans z1 (Nat.le_trans HZ1.out.size hb2.size)
  have HF : Hid (From w1 w3) := ⟨hz3⟩
  have HD0 := Lib.hid hD0
  have HO3 : Hid (OD w.heap.size w3 A3 c3 D0) := ⟨hO3.mono z3 (Nat.le_refl _), Nat.le_trans z3 hb3.size⟩
  have hl0 : D0.length ≤ 21 := by rw [← lists_len, hD0]; exact hR21
  clear hD0 hO2 hO3 hb2 hb3 hz3 K1 K2 HSC HZ1 HS1 z3
  go_wp2
  go_loopw [6, 8] (fun s t wr => ∃ (A' : Option Addr) (c' : Nat) (D : List Dsc) (b : Bool), s = .slice A' D.length c' ∧ t = .bool b ∧ D.length ≤ 21 ∧ Hid (b = true → mfL m m x (lists D) = mfL m m x R) ∧ Hid (b = false → lists D = miL m m x) ∧ Hid (∀ e ∈ lists D, e.length = 2) ∧ Hid (OD w.heap.size wr A' c' D) ∧ Hid (From w1 wr)) (fun s t _ => match s, t with | .slice _ n _, .bool b => 2 * n + b.toNat | _, _ => 0)
  case atStart => exact ⟨A3, c3, D0, true, rfl, rfl, hl0, (fun _ => by rw [HD0.out]), (fun h => by cases h), by rw [HD0.out]; exact HRt.out, HO3, HF⟩
  case round =>
   clear HO3 HF HD0 hl0
   obtain ⟨A', c', D, b, rfl, rfl, hl, HE, HE0, HT, HO, HF⟩ := hrel
   cases b
   ·have HBr := Lib.hid (HB.out.keep HF.out.below)
    have HFin : Hid (lists D = miL m m x) := HE0.out rfl
    go_wp2
    go_ret2
    exact ⟨A', c', D, by rw [Hb.out]; rfl, HFin.out, HO.out.own, HBr.out.below⟩
   have HE1 : Hid (mfL m m x (lists D) = mfL m m x R) := HE.out rfl
   clear HE0 HE
   have HE := HE1
   clear HE1
   have Hlist := Lib.hid (lists_len D)
   obtain ⟨n0, hn0⟩ : ∃ n0, n0 = D.length := ⟨_, rfl⟩
   have Hn0 := Lib.hid hn0
   obtain ⟨S0, hS0⟩ : ∃ S0, S0 = lists D := ⟨_, rfl⟩
   have HS0 := Lib.hid hS0
   have hn21 : n0 ≤ 21 := by omega
   rw [← hn0] at Hlist ⊢
   rw [← hS0] at HE HT Hlist
   clear hn0 hS0 hl
   go_wp2
   go_loopw [6, 8, 9] (fun s t i wz => ∃ (k : Nat) (A' : Option Addr) (c' : Nat) (D : List Dsc) (b : Bool), s = .slice A' D.length c' ∧ t = .bool b ∧ i = .int .i64 ((k : Int) - 1) ∧ k ≤ D.length ∧ D.length ≤ n0 ∧ Hid (b = decide (D.length < n0)) ∧ Hid (mrK m m x k (lists D) = mrK m m x n0 S0) ∧ Hid (∀ e ∈ lists D, e.length = 2) ∧ Hid (OD w.heap.size wz A' c' D) ∧ Hid (From w1 wz)) (fun _ _ i _ => (intOf i + 1).toNat)
   case atStart => exact ⟨n0, A', c', D, false, by rw [Hn0.out], rfl, rfl, by rw [Hn0.out]; exact Nat.le_refl _, by rw [Hn0.out]; exact Nat.le_refl _, by rw [Hn0.out]; exact (decide_eq_false (Nat.lt_irrefl _)).symm, by rw [← HS0.out]; exact rfl, by rw [← HS0.out]; exact HT.out, HO, HF⟩
   case round =>
    clear HO HF
    obtain ⟨k, A', c', D, b, rfl, rfl, rfl, hk, hl, Hbn, HE2, HT2, HO, HF⟩ := hrel
    by_cases hk0 : 0 < k
    ·obtain ⟨j, hj⟩ : ∃ j, j + 1 = k := ⟨k - 1, by omega⟩
     subst hj
     have hji : ((j + 1 : Nat) : Int) - 1 = (j : Int) := by omega
     rw [hji]
     have hle : (D.eraseIdx j).length ≤ D.length := List.length_eraseIdx_le ..
     have hle2 : j ≤ (D.eraseIdx j).length := by rw [List.length_eraseIdx_of_lt (by omega)]; omega
     have hle3 : (D.eraseIdx j).length < n0 := by rw [List.length_eraseIdx_of_lt (by omega)]; omega
     have Hle : Hid ((D.eraseIdx j).length = j + (D.length - (j + 1))) := by show _ = _; rw [List.length_eraseIdx_of_lt (by omega)]; omega
     have Hli := Lib.hid (lists_erase D j)
     have HTe : Hid (∀ e ∈ lists (D.eraseIdx j), e.length = 2) := fun e he => HT2.out e (by rw [Hli.out] at he; exact List.mem_of_mem_eraseIdx he)
     have htot : tot (D.eraseIdx j) ≤ 1048576 := by rw [tot_two HTe.out]; omega
     obtain ⟨bb, o, rfl, hbb, _⟩ := HO.out.ld.rd.1.2 (by omega)
     have hcc := HO.out.ld.rd.1.1
     have i0 : (0 : Int) ≤ (j : Int) := by omega
     have i1 : (j : Int) < (D.length : Int) := by omega
     have i2 : (j : Int) ≤ (c' : Int) := by omega
     have i3 : IntKind.i64.wrap ((j : Int) + 1) = (j : Int) + 1 := Go.IntWalk.i64_in _ (by omega)
     have i4 : (0 : Int) ≤ (j : Int) + 1 := by omega
     have i5 : (j : Int) + 1 ≤ (D.length : Int) := by omega
     have i6 : ((j : Int) + 1).toNat = j + 1 := by omega
     have H1 := Lib.hid (HO.out.ld.pre (i := j) (by omega))
     have HZ1 : Hid (Below wr.heap.size wr wr.drew) := (Below.refl _ _).drew
     have OneD : ∀ t, (dvs D t).oneCell' = true := dvs_one D
     have HOne := Lib.hid OneD
     have HOne2 : Hid (∀ t, ((fun t => dvs D (j + 1 + t)) t).oneCell' = true) := fun t => dvs_one D _
     have OA : Hid (Own ((wr.alloc (Obj.cells #[] 22)).drew) wr.heap.size (wr.heap.size + 1) 22 1 (some ⟨wr.heap.size, 0, none⟩) 0 0 (fun _ => .slice none 0 0)) := (own_empty wr _ _ (Nat.le_refl _) (Nat.lt_succ_self _) _).drew
     have ZA : Hid (Below wr.heap.size wr ((wr.alloc (Obj.cells #[] 22)).drew)) := bl_drew (bl_alloc (Below.refl _ _))
     have Hj := Lib.hid hji
     clear hji OneD
     by_cases hic : j + 1 < c'
     case' pos =>
      have H2 : Hid (LV wr (some ⟨bb, o + (j + 1), none⟩) (D.length - (j + 1)) (c' - (j + 1)) (fun t => dvs D (j + 1 + t))) := HO.out.ld.post (by omega) hic
      have hci : (c' = j + 1) = False := by simp; omega
      clear hic hbb
     case' neg =>
      have hz0 : D.length - (j + 1) = 0 := by omega
      have H2 : Hid (LV wr (some ⟨bb, o, none⟩) (D.length - (j + 1)) (c' - (j + 1)) (fun t => dvs D (j + 1 + t))) := ⟨⟨by omega, fun h => by omega⟩⟩
      have hci : (c' = j + 1) = True := by simp; omega
      clear hic hbb hz0
     all_goals
      go_wp2
      go_region_held3 (fun z => Below wr.heap.size wr z)
       (first | exact HZ1.out | exact ZA.out | assumption | exact hz6 | exact hz5 | fail)
       (first
       | ((refine step_appendW _ (by rfl) _ _ (by rfl) (by rfl) OA.out (by rfl) (H1.out.keep ZA.out).rd HOne.out ZA.out.size (by omega) (by omega) j (Nat.zero_add j) ?_; intro A5 c5 w5 hO5 hb5 hg5 ha5; have hz5 := ZA.out.trans hb5; clear ha5 hg5))
       | ((refine step_appendW _ (by rfl) _ _ (by rfl) (by rfl) hO5 (by rfl) (H2.out.keep hz5).rd HOne2.out hz5.size (by omega) (by omega) (j + (D.length - (j + 1))) rfl ?_; intro A6 c6 w6 hO6 hb6 hg6 ha6; have hz6 := hz5.trans hb6; clear ha6 hg6))
       | fail)
      have hO7 : Own w6 wr.heap.size w6.heap.size 22 1 A6 (j + (D.length - (j + 1))) c6 (thenV j (dvs D) (fun t => dvs D (j + 1 + t))) := by
       exact hO6.congr (fun t ht => by unfold thenV; by_cases h : t < j <;> simp [h])
      have HO6 : Hid (OD w.heap.size w6 A6 c6 (D.eraseIdx j)) := OD.erase (HO.out.keep hz6) (by omega) (hO7.mono HO.out.le (Nat.le_refl _))
      have HOr : Hid (OD w.heap.size w6 (some ⟨bb, o, none⟩) c' D) := HO.out.keep hz6
      have HF6 := Lib.hid (HF.out.keep hz6)
      have HK6 := Lib.hid (HK.out.keep HF6.out.below)
      have HC6 := Lib.hid (HC.out.keep HF6.out.below)
      have e0 := HC6.out.c0
      have e1 := HC6.out.c1
      rw [← Hle.out]
      clear hO5 hO6 hO7 hb5 hb6 hz5 hz6 OA ZA H1 H2 HOne HOne2 HZ1 hci i0 i1 i2 i3 i4 i5 i6 HO HF
      go_wp2_with fail
      refine (AddAll_s m A m c x A6 c6 (D.eraseIdx j) w6 w6.heap.size HK6.out.rd HO6.out.ld.rd (Nat.le_refl _) hm (by omega) htot _ rfl).mono ?_
      rintro e w7 ⟨A7, c7, rfl, hO7, hb7⟩
      have HO7 := Lib.hid hO7
      have HF7 := Lib.hid (HF6.out.keep hb7)
      have HO67 := Lib.hid (HO6.out.keep hb7)
      have HOr7 := Lib.hid (HOr.out.keep hb7)
      clear hO7 hb7 e0 e1 HK6 HC6 HO6 HOr
      have hN : aaN (m : Int) m x (lists (D.eraseIdx j)) ≤ m := aaN_le
      obtain ⟨W8, hW8⟩ : ∃ W8 : World, W8 = w7.alloc (Obj.cells #[.int .i64 (aaZ (m : Int) m x (lists (D.eraseIdx j))), .slice A7 (aaN (m : Int) m x (lists (D.eraseIdx j))) c7] 29) := ⟨_, rfl⟩
      have hb8 : Below w7.heap.size w7 W8 := by rw [hW8]; exact (Below.refl _ _).alloc (Nat.le_refl _) _
      have HR8 : Hid (Rd W8 W8.heap.size A7 (aaN (m : Int) m x (lists (D.eraseIdx j))) c7 (aaX (m : Int) m x (lists (D.eraseIdx j)))) := by
       rw [hW8]
       exact HO7.out.rd.keep ((Below.refl _ _).alloc (Nat.le_refl _) _) (by simp)
      have HF8 := Lib.hid (HF7.out.keep hb8)
      have HO8 := Lib.hid (HO67.out.keep hb8)
      have HOr8 := Lib.hid (HOr7.out.keep hb8)
      have HW8 := Lib.hid hW8
      clear hW8 hb8 HO7 HF7 HO67 HOr7
      go_wp2_with fail
      rw [← HW8.out]
      clear HW8
      refine (IsChordal_sx _ A7 _ c7 _ W8 W8.heap.size HR8.out (Nat.le_refl _) (by omega)).mono ?_
      rintro e w9 ⟨rfl, hb9⟩
      have HF9 := Lib.hid (HF8.out.keep hb9)
      have HO9 := Lib.hid (HO8.out.keep hb9)
      have HOr9 := Lib.hid (HOr8.out.keep hb9)
      have he : chB (aaZ (m : Int) m x (lists (D.eraseIdx j))) (aaN (m : Int) m x (lists (D.eraseIdx j))) (aaX (m : Int) m x (lists (D.eraseIdx j))) = fiB (m : Int) m x (lists (D.eraseIdx j)) := rfl
      rw [he, Hli.out]
      clear he hb9 HR8 HF8 HO8 HOr8
      cases hf : fiB (m : Int) m x ((lists D).eraseIdx j)
      ·have Hst := Lib.hid (mrK_no hf)
       clear hf
       go_wp2
       go_roundw
       case rel => exact ⟨j, some ⟨bb, o, none⟩, c', D, b, rfl, rfl, rfl, by omega, hl, Hbn, by rw [← HE2.out, Hst.out]; exact rfl, HT2, HOr9, HF9⟩
       case measure => (simp [intOf] <;> omega)
      ·have Hst := Lib.hid (mrK_yes hf)
       have Hd : Hid (true = decide ((D.eraseIdx j).length < n0)) := (decide_eq_true hle3).symm
       clear hf
       go_wp2
       go_roundw
       case rel => exact ⟨j, A6, c6, D.eraseIdx j, true, rfl, rfl, rfl, hle2, by omega, Hd, by rw [← HE2.out, Hst.out, Hli.out]; exact rfl, HTe, HO9, HF9⟩
       case measure => (simp [intOf] <;> omega)
    ·obtain rfl : k = 0 := by omega
     have hji : ((0 : Nat) : Int) - 1 = -1 := rfl
     rw [hji]
     have HZ : Hid (lists D = mrK m m x n0 S0) := HE2.out
     clear hji HE2
     have Hyes : Hid (b = true → mfL m m x (lists D) = mfL m m x R) := fun hb => by
      rw [Hbn.out, decide_eq_true_eq] at hb
      rw [← HE.out, mfL_more (L := S0), Hlist.out, ← HZ.out]
      rw [Hlist.out, ← HZ.out, lists_len]
      exact hb
     have Hno : Hid (b = false → lists D = miL m m x) := fun hb => by
      rw [Hbn.out, decide_eq_false_iff_not] at hb
      have heq : D.length = n0 := by omega
      have hR : lists D = S0 := by
       rw [HZ.out]
       refine mrK_same n0 S0 (by rw [Hlist.out]; exact Nat.le_refl _) ?_
       rw [← HZ.out, lists_len, heq, Hlist.out]
      rw [HM.out, ← HE.out, mfL_done, hR]
      rw [Hlist.out, ← HZ.out, lists_len, heq]
      omega
     have hms : 2 * D.length + b.toNat < 2 * n0 + 1 := by
      have hb := Hbn.out
      cases b
      ·show 2 * D.length + 0 < _; omega
      ·have := of_decide_eq_true hb.symm
       show 2 * D.length + 1 < _; omega
     go_wp2
     go_roundw
     case rel => exact ⟨A', c', D, b, rfl, rfl, by omega, Hyes, Hno, HT2, HO, HF⟩
     case measure => simp; omega
end Go.Proofs.YtppkokgiojcgbaaGreatDoor

/-
-/
namespace Go.Proofs.YtppkokgiojcgbaaGreatDoor
open Go.RowKit
section
variable {sz : Int} {m : Nat} {x : Nat → Int}
theorem mrK_mem : ∀ (k : Nat) (L : List (List Int)) {e : List Int}, e ∈ mrK sz m x k L → e ∈ L
 | 0, _, _, h => h
 | k + 1, L, e, h => by
   rw [mrK] at h
   have := mrK_mem k _ h
   split at this
   ·exact List.mem_of_mem_eraseIdx this
   ·exact this
theorem mfL_in : ∀ (n : Nat) (L : List (List Int)), L.length ≤ n → (mfL sz m x L).length ≤ L.length ∧ ∀ e ∈ mfL sz m x L, e ∈ L := by
 intro n
 induction n with
 | zero =>
   intro L h
   rw [mfL_done (by omega)]
   exact ⟨Nat.le_refl _, fun e he => he⟩
 | succ n ih =>
   intro L h
   by_cases hl : (mrK sz m x L.length L).length < L.length
   ·rw [mfL_more hl]
    have := ih (mrK sz m x L.length L) (by omega)
    exact ⟨by omega, fun e he => mrK_mem _ _ (this.2 e he)⟩
   ·rw [mfL_done hl]
    exact ⟨Nat.le_refl _, fun e he => he⟩
theorem miL_two : (miL sz m x).length ≤ 21 ∧ ∀ e ∈ miL sz m x, e.length = 2 := by
 cases h : lxB sz m x 0
 ·rw [miL_no h]; exact ⟨Nat.zero_le _, fun e he => by cases he⟩
 ·rw [miL_yes h]
  unfold lxB at h
  rw [Bool.and_eq_true] at h
  obtain ⟨_, es, vg0, _⟩ := okB_ok' h.2
  have h2 := fofL_two (sz := sz) (x := x) (l := ci (lxL sz m x 0).reverse) vg0.n7
  have h3 := mfL_in (sz := sz) (m := m) (x := x) _ (fofL sz m x (ci (lxL sz m x 0).reverse)) (Nat.le_refl _)
  exact ⟨by omega, fun e he => h2.2 e (h3.2 e he)⟩
end
end Go.Proofs.YtppkokgiojcgbaaGreatDoor

/-
-/
namespace Go.Proofs.YtppkokgiojcgbaaGreatDoor
theorem sub_pow_bit {a u : Nat} (h : a.testBit u = true) : a - 2 ^ u = a ^^^ 2 ^ u ∧ 2 ^ u ≤ a := by
 have h1 : (a ^^^ 2 ^ u).testBit u = false := by rw [Nat.testBit_xor, h, Nat.testBit_two_pow_self]; rfl
 have h2 := add_pow_bit h1
 have h3 : (a ^^^ 2 ^ u) ^^^ 2 ^ u = a := by rw [Nat.xor_assoc, Nat.xor_self, Nat.xor_zero]
 rw [h3] at h2
 generalize 2 ^ u = p at *
 omega
noncomputable def reB (sz : Int) (m : Nat) (x : Nat → Int) (v u : Int) : Bool := okB sz m x && decide (0 ≤ v ∧ v < sz ∧ 0 ≤ u ∧ u < sz ∧ v ≠ u) && ((x v.toNat).toNat.testBit u.toNat)
noncomputable def reX (sz : Int) (m : Nat) (x : Nat → Int) (v u : Int) : Nat → Int := if reB sz m x v u = true then fun j => ((addN (fun i => (x i).toNat) v.toNat u.toNat j : Nat) : Int) else x
theorem reX_no {sz : Int} {m : Nat} {x : Nat → Int} {v u : Int} (h : reB sz m x v u = false) : reX sz m x v u = x := by unfold reX; rw [h]; rfl
theorem reB_parts {sz : Int} {m : Nat} {x : Nat → Int} {v u : Int} (h : reB sz m x v u = true) : okB sz m x = true ∧ (0 ≤ v ∧ v < sz ∧ 0 ≤ u ∧ u < sz ∧ v ≠ u) ∧ (x v.toNat).toNat.testBit u.toNat = true := by
 unfold reB at h
 simp only [Bool.and_eq_true, decide_eq_true_eq] at h
 exact ⟨h.1.1, h.1.2, h.2⟩
theorem reB_val {m : Nat} {x : Nat → Int} {n k : Nat} (h : okB m m x = true) (hn : n < m) (hk : k < m) : reB m m x n k = (x n).toNat.testBit k := by
 obtain ⟨r, _, vg, hx⟩ := okB_ok' h
 unfold reB
 rw [h, Int.toNat_natCast, Int.toNat_natCast]
 by_cases hne : n = k
 ·subst hne
  rw [hx n hn, Int.toNat_natCast, vg.irr n hn]; simp
 ·rw [decide_eq_true (⟨by omega, by omega, by omega, by omega, by omega⟩ : 0 ≤ (n : Int) ∧ (n : Int) < m ∧ 0 ≤ (k : Int) ∧ (k : Int) < m ∧ (n : Int) ≠ k)]
  simp
theorem reB_out {m : Nat} {x : Nat → Int} {v u : Int} (h : ¬(0 ≤ v ∧ v < m ∧ 0 ≤ u ∧ u < m)) : reB m m x v u = false := by
 cases hb : reB m m x v u
 ·rfl
 ·obtain ⟨_, ⟨h1, h2, h3, h4, h5⟩, h6⟩ := reB_parts hb
  exact absurd ⟨h1, h2, h3, h4⟩ h
noncomputable def apB (a : Bool) (sz : Int) (m : Nat) (x : Nat → Int) (v u : Int) : Bool := if a then aeB sz m x v u else reB sz m x v u
noncomputable def apX (a : Bool) (sz : Int) (m : Nat) (x : Nat → Int) (v u : Int) : Nat → Int := if a then aeX sz m x v u else reX sz m x v u
section
variable {sz : Int} {m : Nat} {x y : Nat → Int} {n k r : Nat} {a : Nat → Bool} {v u : Nat → Int}
end
end Go.Proofs.YtppkokgiojcgbaaGreatDoor

/-
-/
namespace Go.Proofs.YtppkokgiojcgbaaGreatDoor
open Go.RowKit
set_option maxRecDepth 100000 in
set_option maxHeartbeats 1600000 in
theorem RemoveEdge_s (sz : Int) (A : Option Addr) (m c : Nat) (x : Nat → Int) (v u : Int) (w : World) (B : Nat) (h : Rd w B A m c x) (hB : B ≤ w.heap.size) (hm : m ≤ 1048576) :
 Calls Tryz.prog 123 #[.agg #[.int .i64 sz, .slice A m c], .int .i64 v, .int .i64 u] w fun e w' => ∃ A' c', e = .returned (.tuple #[.agg #[.int .i64 sz, .slice A' m c'], .bool (reB sz m x v u)]) ∧ Own w' (w.heap.size + 2) w'.heap.size 3 1 A' m c' (fun j => .int .i64 (reX sz m x v u j)) ∧ Below w.heap.size w w' := by
 obtain ⟨W, hW⟩ : ∃ W : World, W = ((w.alloc (Obj.cells #[Value.int IntKind.i64 sz, Value.slice A m c] 29)).alloc (Obj.cells #[Value.int IntKind.i64 0, Value.slice none 0 0] 29)) := ⟨_, rfl⟩
 have HB : Hid (Below w.heap.size w W) := by rw [hW]; exact ((Below.refl _ _).alloc (Nat.le_refl _) _).alloc (by simp) _
 have HZ : Hid (w.heap.size + 2 = W.heap.size) := by rw [hW]; simp [Hid]
 have e0 : W.cell? ⟨w.heap.size, 0, none⟩ = some (.int .i64 sz) := by rw [hW]; simp [go_sem]
 have e1 : W.cell? ⟨w.heap.size, 1, none⟩ = some (.slice A m c) := by rw [hW]; simp [go_sem]
 have e2 : W.cell? ⟨w.heap.size + 1, 0, none⟩ = some (.int .i64 0) := by rw [hW]; simp [go_sem]
 have e3 : W.cell? ⟨w.heap.size + 1, 1, none⟩ = some (.slice none 0 0) := by rw [hW]; simp [go_sem]
 have e4 : W.frozen? ⟨w.heap.size + 1, 0, none⟩ = false := by rw [hW]; simp [go_sem]
 have e5 : W.frozen? ⟨w.heap.size + 1, 1, none⟩ = false := by rw [hW]; simp [go_sem]
 have HK := Lib.hid (h.keep (HB.out.mono hB) (Nat.le_refl _))
 have HW := Lib.hid hW
 clear hW h
 go_enter Tryz.func123, Tryz.ntmps123
 go_wp2_with fail
 rw [← HW.out]
 refine (l2Copy_any sz A m c x W B HK.out (by have := HZ.out; omega) hm).mono ?_
 rintro e w1 ⟨A', c', rfl, hO, hb1⟩
 have f0 := up hb1 e0 (by have := HZ.out; omega)
 have f1 := up hb1 e1 (by have := HZ.out; omega)
 have f2 := up hb1 e2 (by have := HZ.out; omega)
 have f3 := up hb1 e3 (by have := HZ.out; omega)
 have f4 := upf hb1 e4 (by have := HZ.out; omega)
 have f5 := upf hb1 e5 (by have := HZ.out; omega)
 have z1 := hb1.size
 have zz0 : w.heap.size < w1.heap.size := by have := HZ.out; omega
 have zz1 : w.heap.size + 1 < w1.heap.size := by have := HZ.out; omega
 have HO1 := Lib.hid hO
 have HB1 := Lib.hid hb1
 obtain ⟨W2, hW2⟩ : ∃ W2 : World, W2 = (w1.alloc (Obj.cells #[Value.int IntKind.i64 sz, Value.slice A' m c'] 29)) := ⟨_, rfl⟩
 have hb2 : Below w1.heap.size w1 W2 := by rw [hW2]; exact ((Below.refl _ _).alloc (Nat.le_refl _) _)
 have z2 : w1.heap.size < W2.heap.size := by rw [hW2]; simp
 have g0 := up hb2 f0 zz0
 have g1 := up hb2 f1 zz0
 have g2 := up hb2 f2 zz1
 have g3 := up hb2 f3 zz1
 have g4 := upf hb2 f4 zz1
 have g5 := upf hb2 f5 zz1
 have g6 : W2.cell? ⟨w1.heap.size, 0, none⟩ = some (.int .i64 sz) := by rw [hW2]; simp [go_sem]
 have g7 : W2.cell? ⟨w1.heap.size, 1, none⟩ = some (.slice A' m c') := by rw [hW2]; simp [go_sem]
 have HB2 := Lib.hid hb2
 have HW2 := Lib.hid hW2
 have HK2 : Hid (Rd W2 W2.heap.size A m c x) := HK.out.keep ((HB1.out.trans (HB2.out.mono z1)).mono (by have := HZ.out; omega)) (by have := HZ.out; omega)
 have HO2 : Hid (Own W2 (W.heap.size + 2) w1.heap.size 3 1 A' m c' (fun j => .int .i64 (x j))) := HO1.out.keepB HB2.out (Nat.le_refl _)
 clear hO hb1 HW e0 e1 e2 e3 e4 e5 hb2 hW2
 go_wp2_with fail
 rw [← HW2.out]
 clear HW2 f0 f1 f2 f3 f4 f5
 refine (l2Pair_any sz A m c x v u W2 W2.heap.size HK2.out (Nat.le_refl _) hm).mono ?_
 rintro e w3 ⟨rfl, hb3⟩
 have z3 := hb3.size
 have yy0 : w.heap.size < W2.heap.size := by omega
 have yy1 : w.heap.size + 1 < W2.heap.size := by omega
 have i0 := up hb3 g0 yy0
 have i1 := up hb3 g1 yy0
 have i2 := up hb3 g2 yy1
 have i3 := up hb3 g3 yy1
 have i4 := upf hb3 g4 yy1
 have i5 := upf hb3 g5 yy1
 have i6 := up hb3 g6 z2
 have i7 := up hb3 g7 z2
 have HO3 : Hid (Own w3 (W.heap.size + 2) w1.heap.size 3 1 A' m c' (fun j => .int .i64 (x j))) := HO2.out.keepB hb3 (by omega)
 have HK3 : Hid (Rd w3 w3.heap.size A m c x) := HK2.out.keep hb3 z3
 have HB3 : Hid (Below w.heap.size w w3) := HB.out.trans ((HB1.out.trans ((HB2.out.trans (hb3.mono (by omega))).mono z1)).mono (by have := HZ.out; omega))
 have xx0 : w.heap.size < w3.heap.size := by omega
 have xx1 : w.heap.size + 1 < w3.heap.size := by omega
 have xx2 : w1.heap.size < w3.heap.size := by omega
 clear g0 g1 g2 g3 g4 g5 g6 g7 hb3 HO1 HO2 HK HK2 HB1 HB2 HB yy0 yy1
 obtain ⟨t, ht⟩ : ∃ t, t = prB sz m x v u := ⟨_, rfl⟩
 rw [← ht]
 have Ht := Lib.hid ht
 clear ht
 cases t
 ·have hno : Hid (reB sz m x v u = false) := by
   show _ = _
   cases hb : reB sz m x v u
   ·rfl
   ·obtain ⟨ho, ⟨h1, h2, h3, h4, h5⟩, h6⟩ := reB_parts hb
    have := Ht.out
    unfold prB at this
    rw [ho, decide_eq_true (⟨h1, h3, h2, h4, h5⟩ : 0 ≤ v ∧ 0 ≤ u ∧ v < sz ∧ u < sz ∧ v ≠ u)] at this
    cases this
  clear Ht
  go_wp2
  have F : Fr (w.heap.size + 1) (w.heap.size + 2) w3 _ := ((Fr.refl _ _ w3).setCell (p := ⟨w.heap.size + 1, 0, none⟩) (Nat.le_refl _) (Nat.lt_succ_self _) (Value.int IntKind.i64 sz)).setCell (p := ⟨w.heap.size + 1, 1, none⟩) (Nat.le_refl _) (Nat.lt_succ_self _) (Value.slice A' m c')
  have O1 := ((HO3.out.keep F (.inr (by have := HZ.out; omega))).mono (lo' := w.heap.size + 2) (by have := HZ.out; omega) (Nat.le_trans (by omega) F.size))
  exact bodyPost_ret (v := .tuple #[.agg #[.int .i64 sz, .slice A' m c'], .bool false]) (by simp [results, Tryz.results123, go_sem, *]) rfl ⟨A', c', by rw [hno.out], O1.congr (fun j hj => by rw [reX_no hno.out]), HB3.out.trans (F.below (by omega) (by omega))⟩
 ·have Hok : Hid (okB sz m x = true) := by
   show _ = _
   have := Ht.out
   unfold prB at this
   cases ho : okB sz m x
   ·rw [ho] at this; cases this
   ·rfl
  obtain ⟨h1, h3, h2, h4, h5⟩ : 0 ≤ v ∧ 0 ≤ u ∧ v < sz ∧ u < sz ∧ v ≠ u := by
   have := Ht.out
   unfold prB at this
   rw [Hok.out] at this
   simpa using this
  obtain ⟨n, rfl⟩ := Int.eq_ofNat_of_zero_le h1
  obtain ⟨k, rfl⟩ := Int.eq_ofNat_of_zero_le h3
  obtain ⟨r, es, vg, hx⟩ := okB_ok' Hok.out
  subst es
  have hn1 := vg.n1
  have hn7 := vg.n7
  have HX := Lib.hid hx
  have HV := Lib.hid vg
  have Hne : Hid (n ≠ k) := by show n ≠ k; omega
  obtain ⟨b, o, rfl, hb, hc⟩ := HK3.out.pos (by omega)
  have q0 := hc n (by omega)
  have q1 : 0 ≤ x n := by have := HX.out n (by omega); omega
  have q2 : x n < 16777216 := by have := HX.out n (by omega); have := HV.out.lt128 (v := n) (by omega); omega
  clear hx vg hc Ht h5
  go_wp2_with fail
  refine (l2Edge_any (m : Int) b o m c w3 n k (x n) q0 hb (by omega) q1 q2 (by omega)).mono ?_
  rintro e w4 ⟨rfl, hb4⟩
  have z4 := hb4.size
  have j2 := up hb4 i2 xx1
  have j3 := up hb4 i3 xx1
  have j4 := upf hb4 i4 xx1
  have j5 := upf hb4 i5 xx1
  have j6 := up hb4 i6 xx2
  have j7 := up hb4 i7 xx2
  have HO4 : Hid (Own w4 (W.heap.size + 2) w1.heap.size 3 1 A' m c' (fun j => .int .i64 (x j))) := HO3.out.keepB hb4 (by omega)
  have HB4 : Hid (Below w.heap.size w w4) := HB3.out.trans (hb4.mono (by omega))
  have ww1 : w.heap.size + 1 < w4.heap.size := by omega
  have ww2 : w1.heap.size < w4.heap.size := by omega
  clear i0 i1 i2 i3 i4 i5 i6 i7 HO3 HB3 HK3 hb4 q0 hb
  by_cases ht : (x n).toNat.testBit k = true
  ·rw [ht]
   have hyes : Hid (reB (m : Int) m x n k = true) := by
    show _ = _
    unfold reB
    rw [Hok.out, decide_eq_true (⟨by omega, by omega, by omega, by omega, by have := Hne.out; omega⟩ : 0 ≤ (n : Int) ∧ (n : Int) < m ∧ 0 ≤ (k : Int) ∧ (k : Int) < m ∧ (n : Int) ≠ k)]
    simp [ht]
   have ht1 : (r n).testBit k = true := by rw [HX.out n (by omega), Int.toNat_natCast] at ht; exact ht
   have ht2 : (r k).testBit n = true := by rw [← HV.out.sym n k (by omega) (by omega)]; exact ht1
   have hx128 : ∀ j, j < m → r j < 128 := fun j hj => HV.out.lt128 hj
   obtain ⟨g, rfl, hg1, hg2, hOc⟩ := HO4.out.only (by omega)
   have HO5 : Hid (Own w4 g (g + 1) 3 1 (some ⟨g, 0, none⟩) m c' (fun j => .int .i64 (r j : Int))) := hOc.congr (fun j hj => by rw [HX.out j (by omega)])
   obtain ⟨g', e1, _, _, hg3, hcg, hfg⟩ := HO5.out.at_ (by omega)
   simp only [Option.some.injEq, Addr.mk.injEq, and_true] at e1
   subst e1
   have c1 := hcg n (by omega)
   have c2 := hcg k (by omega)
   have s1 : wrap64 ((r n : Int) - 2 ^ k) = ((r n ^^^ 2 ^ k : Nat) : Int) := by
    obtain ⟨e, e0⟩ := sub_pow_bit ht1
    have h2 := two_pow_int k (by omega)
    have h3 := hx128 n (by omega)
    rw [← e]
    have e2 : ((r n - 2 ^ k : Nat) : Int) = (r n : Int) - 2 ^ k := by rw [Int.ofNat_sub e0]; simp
    rw [e2]
    have e4 : ((2 ^ k : Nat) : Int) ≤ (r n : Int) := Int.ofNat_le.2 e0
    have e3 : ((2 ^ k : Nat) : Int) = 2 ^ k := by simp
    exact Go.IntWalk.wrap64_in ((r n : Int) - 2 ^ k) (by omega)
   have s2 : wrap64 ((r k : Int) - 2 ^ n) = ((r k ^^^ 2 ^ n : Nat) : Int) := by
    obtain ⟨e, e0⟩ := sub_pow_bit ht2
    have h2 := two_pow_int n (by omega)
    have h3 := hx128 k (by omega)
    rw [← e]
    have e2 : ((r k - 2 ^ n : Nat) : Int) = (r k : Int) - 2 ^ n := by rw [Int.ofNat_sub e0]; simp
    rw [e2]
    have e4 : ((2 ^ n : Nat) : Int) ≤ (r k : Int) := Int.ofNat_le.2 e0
    have e3 : ((2 ^ n : Nat) : Int) = 2 ^ n := by simp
    exact Go.IntWalk.wrap64_in ((r k : Int) - 2 ^ n) (by omega)
   have f1 := hfg n
   have f2 := hfg k
   have p1 := pow_shl n (by omega)
   have p2 := pow_shl k (by omega)
   have i1 : (n : Int) < (m : Int) := by omega
   have i2 : (k : Int) < (m : Int) := by omega
   have HX128 := Lib.hid hx128
   have HXK : Hid (∀ j, j < m → x j = (r j : Int)) := HX.out
   clear HO4 hOc hcg hfg HX HV hx128 ht ht1 ht2 q1 q2
   go_wp2
   go_region
   have hgn : g ≠ w1.heap.size := by omega
   have hgm : g ≠ w.heap.size + 1 := by have := HZ.out; omega
   have hne2 : (k = n) = False := by have := Hne.out; simp; omega
   have hne3 : (n = k) = False := by have := Hne.out; simp; omega
   go_wp2
   go_region
   obtain ⟨W5, hW5⟩ : ∃ W5 : World, W5 = ((w4.setCell ⟨g, n, none⟩ (.int .i64 ((r n ^^^ 2 ^ k : Nat) : Int))).setCell ⟨g, k, none⟩ (.int .i64 ((r k ^^^ 2 ^ n : Nat) : Int))).drew.drew := ⟨_, rfl⟩
   have O5 : Hid (Own W5 g (g + 1) 3 1 (some ⟨g, 0, none⟩) m c' (fun j => .int .i64 (addN r n k j))) := by
    rw [hW5]
    refine ((((HO5.out.set_ n _).set_ k _).drew).drew).congr (fun j hj => ?_)
    have hne := Hne.out
    unfold addN
    by_cases h1 : j = k
    ·subst h1; rw [if_pos rfl, if_neg (fun e => hne e.symm), if_pos rfl]
    ·rw [if_neg h1]
     by_cases h2 : j = n
     ·subst h2; rw [if_pos rfl, if_pos rfl]
     ·rw [if_neg h2, if_neg h2, if_neg h1]
   have F5 : Fr g (g + 1) w4 W5 := by rw [hW5]; exact (((Fr.refl _ _ w4).setCell (p := ⟨g, n, none⟩) (Nat.le_refl _) (Nat.lt_succ_self _) _).setCell (p := ⟨g, k, none⟩) (Nat.le_refl _) (Nat.lt_succ_self _) _).drew.drew
   have hgl : g < w1.heap.size := hg2
   have hgh : w.heap.size + 2 ≤ g := by have := HZ.out; omega
   have l2 := frC F5 j2 ww1 (by omega)
   have l3 := frC F5 j3 ww1 (by omega)
   have l4 := frZ F5 j4 ww1 (by omega)
   have l5 := frZ F5 j5 ww1 (by omega)
   have l6 := frC F5 j6 ww2 (by omega)
   have l7 := frC F5 j7 ww2 (by omega)
   have z5 := F5.size
   have HB5 : Hid (Below w.heap.size w W5) := HB4.out.trans (F5.below (by omega) (by omega))
   rw [← hW5]
   have HXr : Hid (∀ j, j < m → reX (m : Int) m x n k j = (addN r n k j : Int)) := by
    intro j hj
    unfold reX
    rw [hyes.out]
    simp only [if_true]
    unfold addN
    simp only [Int.toNat_natCast, HXK.out j hj]
   clear hW5 F5 j2 j3 j4 j5 j6 j7 c1 c2 s1 s2 f1 f2 p1 p2 HB4 HO5 hne2 hne3 hgn hgm
   go_wp2
   have F : Fr (w.heap.size + 1) (w.heap.size + 2) W5 _ := ((Fr.refl _ _ W5).setCell (p := ⟨w.heap.size + 1, 0, none⟩) (Nat.le_refl _) (Nat.lt_succ_self _) (Value.int IntKind.i64 m)).setCell (p := ⟨w.heap.size + 1, 1, none⟩) (Nat.le_refl _) (Nat.lt_succ_self _) (Value.slice (some ⟨g, 0, none⟩) m c')
   have O1 := ((O5.out.keep F (.inr hgh)).mono (lo' := w.heap.size + 2) hgh (Nat.le_trans (by omega) F.size))
   exact bodyPost_ret (v := .tuple #[.agg #[.int .i64 m, .slice (some ⟨g, 0, none⟩) m c'], .bool true]) (by simp [results, Tryz.results123, go_sem, *]) rfl ⟨some ⟨g, 0, none⟩, c', by rw [hyes.out], O1.congr (fun j hj => by rw [HXr.out j (by omega)]), HB5.out.trans (F.below (by omega) (by omega))⟩
  ·rw [Bool.not_eq_true] at ht
   rw [ht]
   have hno : Hid (reB (m : Int) m x n k = false) := by
    show _ = _
    cases hb : reB (m : Int) m x n k
    ·rfl
    ·have := (reB_parts hb).2.2; simp [ht] at this
   clear ht
   go_wp2
   have F : Fr (w.heap.size + 1) (w.heap.size + 2) w4 _ := ((Fr.refl _ _ w4).setCell (p := ⟨w.heap.size + 1, 0, none⟩) (Nat.le_refl _) (Nat.lt_succ_self _) (Value.int IntKind.i64 m)).setCell (p := ⟨w.heap.size + 1, 1, none⟩) (Nat.le_refl _) (Nat.lt_succ_self _) (Value.slice A' m c')
   have O1 := ((HO4.out.keep F (.inr (by have := HZ.out; omega))).mono (lo' := w.heap.size + 2) (by have := HZ.out; omega) (Nat.le_trans (by omega) F.size))
   exact bodyPost_ret (v := .tuple #[.agg #[.int .i64 m, .slice A' m c'], .bool false]) (by simp [results, Tryz.results123, go_sem, *]) rfl ⟨A', c', by rw [hno.out], O1.congr (fun j hj => by rw [reX_no hno.out]), HB4.out.trans (F.below (by omega) (by omega))⟩
end Go.Proofs.YtppkokgiojcgbaaGreatDoor
