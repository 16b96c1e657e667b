/-
  Several texts in one.
-/
import Derived.Test.YtppkokgiojcgbaaGreatDoorQxMinFillS
import Derived.Test.YtppkokgiojcgbaaGreatDoorQxThoB
import Derived.Test.YtppkokgiojcgbaaGreatDoorQxLexS
import Derived.Test.YtppkokgiojcgbaaGreatDoorQxLexP
/-
-/
namespace Go.Proofs.YtppkokgiojcgbaaGreatDoor
section
variable {sz : Int} {m : Nat} {x : Nat → Int}
noncomputable def mrK (sz : Int) (m : Nat) (x : Nat → Int) : Nat → List (List Int) → List (List Int)
 | 0, L => L
 | k + 1, L => mrK sz m x k (if fiB sz m x (L.eraseIdx k) = true then L.eraseIdx k else L)
theorem mrK_len : ∀ (k : Nat) (L : List (List Int)), (mrK sz m x k L).length ≤ L.length
 | 0, _ => Nat.le_refl _
 | k + 1, L => by
   rw [mrK]
   refine Nat.le_trans (mrK_len k _) ?_
   split
   ·exact List.length_eraseIdx_le ..
   ·exact Nat.le_refl _
theorem mrK_same : ∀ (k : Nat) (L : List (List Int)), k ≤ L.length → (mrK sz m x k L).length = L.length → mrK sz m x k L = L
 | 0, _, _, _ => rfl
 | k + 1, L, hk, h => by
   rw [mrK] at h ⊢
   split at h
   ·rename_i hf
    have h1 := mrK_len (sz := sz) (m := m) (x := x) k (L.eraseIdx k)
    rw [List.length_eraseIdx_of_lt (by omega)] at h1
    omega
   ·rename_i hf
    rw [if_neg hf]
    exact mrK_same k L (by omega) h
noncomputable def mfL (sz : Int) (m : Nat) (x : Nat → Int) (L : List (List Int)) : List (List Int) :=
 if (mrK sz m x L.length L).length < L.length then mfL sz m x (mrK sz m x L.length L) else L
termination_by L.length
theorem mfL_more {L : List (List Int)} (h : (mrK sz m x L.length L).length < L.length) : mfL sz m x L = mfL sz m x (mrK sz m x L.length L) := by
 rw [mfL, if_pos h]
theorem mfL_done {L : List (List Int)} (h : ¬(mrK sz m x L.length L).length < L.length) : mfL sz m x L = L := by
 rw [mfL, if_neg h]
theorem mrK_yes {k : Nat} {L : List (List Int)} (h : fiB sz m x (L.eraseIdx k) = true) : mrK sz m x (k + 1) L = mrK sz m x k (L.eraseIdx k) := by rw [mrK, if_pos h]
theorem mrK_no {k : Nat} {L : List (List Int)} (h : fiB sz m x (L.eraseIdx k) = false) : mrK sz m x (k + 1) L = mrK sz m x k L := by rw [mrK, if_neg (by simp [h])]
end
noncomputable def miL (sz : Int) (m : Nat) (x : Nat → Int) : List (List Int) := if lxB sz m x 0 = true then mfL sz m x (fofL sz m x (ci (lxL sz m x 0).reverse)) else []
theorem miL_no {sz : Int} {m : Nat} {x : Nat → Int} (h : lxB sz m x 0 = false) : miL sz m x = [] := by unfold miL; rw [h]; rfl
theorem miL_yes {sz : Int} {m : Nat} {x : Nat → Int} (h : lxB sz m x 0 = true) : miL sz m x = mfL sz m x (fofL sz m x (ci (lxL sz m x 0).reverse)) := by unfold miL; rw [h]; rfl
end Go.Proofs.YtppkokgiojcgbaaGreatDoor

/-
-/
namespace Go.Proofs.YtppkokgiojcgbaaGreatDoor
open Go.RowKit
structure OD (lo : Nat) (w : World) (A : Option Addr) (c : Nat) (D : List Dsc) : Prop where
 own : OwnD w lo w.heap.size A c D
 le : lo ≤ w.heap.size
section
variable {lo : Nat} {w w' : World} {A A' : Option Addr} {c c' i : Nat} {D : List Dsc}
theorem OD.keep (h : OD lo w A c D) (hb : Below w.heap.size w w') : OD lo w' A c D := ⟨(h.own.keepB hb (Nat.le_refl _)).mono (Nat.le_refl _) hb.size, Nat.le_trans h.le hb.size⟩
theorem OD.ld (h : OD lo w A c D) : LD w A c D := ⟨h.own.rdD⟩
theorem OD.drew (h : OD lo w A c D) : OD lo w.drew A c D := ⟨h.own.drew, h.le⟩
theorem OD.erase (h : OD lo w' A c D) (hi : i < D.length) (hO : Own w' lo w'.heap.size 22 1 A' (i + (D.length - (i + 1))) c' (thenV i (dvs D) (fun j => dvs D (i + 1 + j)))) : OD lo w' A' c' (D.eraseIdx i) := by
 have hl : (D.eraseIdx i).length = i + (D.length - (i + 1)) := by rw [List.length_eraseIdx_of_lt hi]; omega
 refine ⟨⟨?_, fun d hd => h.own.2.1 d (List.mem_of_mem_eraseIdx hd), ?_⟩, h.le⟩
 ·rw [hl]
  refine hO.congr (fun j hj => ?_)
  unfold thenV dvs
  rw [getD_erase]
  by_cases hj2 : j < i
  ·rw [if_pos hj2, if_pos hj2]
  ·rw [if_neg hj2, if_neg hj2]
   show dv (D.getD (i + 1 + (j - i)) _) = _
   rw [show i + 1 + (j - i) = j + 1 by omega]
 ·exact h.own.2.2.sublist (List.eraseIdx_sublist _ _)
end
set_option maxRecDepth 100000 in
set_option maxHeartbeats 1600000 in
theorem withoutEdge_o (lo : Nat) (A : Option Addr) (c : Nat) (D : List Dsc) (i : Nat) (w : World) (h : OD lo w A c D) (hi : i < D.length) (hd : D.length ≤ 1048576) :
 Calls Tryz.prog 110 #[.slice A D.length c, .int .i64 i] w fun e w' => ∃ A' c', e = .returned (.slice A' (D.eraseIdx i).length c') ∧ OD lo w' A' c' (D.eraseIdx i) ∧ Below w.heap.size w w' := by
 have hl : (D.eraseIdx i).length = i + (D.length - (i + 1)) := by rw [List.length_eraseIdx_of_lt hi]; omega
 rw [hl]
 obtain ⟨b, o, rfl, hb, _⟩ := h.ld.rd.1.2 (by omega)
 have hc := h.ld.rd.1.1
 have H := Lib.hid h
 have H1 := Lib.hid (h.ld.pre (i := i) (by omega))
 obtain ⟨n, hn⟩ : ∃ n, n = D.length := ⟨_, rfl⟩
 have i1 : (0 : Int) ≤ (i : Int) := by omega
 have i2 : (i : Int) ≤ (c : Int) := by omega
 have i3 : IntKind.i64.wrap ((i : Int) + 1) = (i : Int) + 1 := Go.IntWalk.i64_in _ (by omega)
 have i4 : (0 : Int) ≤ (i : Int) + 1 := by omega
 have i5 : (i : Int) + 1 ≤ (D.length : Int) := by omega
 have i6 : ((i : Int) + 1).toNat = i + 1 := by omega
 have HZ1 : Hid (Below w.heap.size w w.drew) := (Below.refl _ _).drew
 have post : ∀ (A2 : Option Addr) (c2 : Nat), LV w A2 (D.length - (i + 1)) c2 (fun j => dvs D (i + 1 + j)) → ∀ W : World, Below w.heap.size w W → W.cell? ⟨w.heap.size, 0, none⟩ = some (.slice (some ⟨b, o, none⟩) i c) → W.cell? ⟨w.heap.size, 1, none⟩ = some (.slice A2 (D.length - (i + 1)) c2) → Calls Tryz.prog 166 #[.slice (some ⟨w.heap.size, 0, none⟩) 2 2] W fun e w' => ∃ A' c', e = .returned (.slice A' (i + (D.length - (i + 1))) c') ∧ OD lo w' A' c' (D.eraseIdx i) ∧ Below w.heap.size w w' := by
  intro A2 c2 h2 W hb q0 q1
  refine (Concat_i w.heap.size (some ⟨b, o, none⟩) A2 i (D.length - (i + 1)) c c2 _ _ W q0 q1 (H1.out.keep hb) (h2.keep hb) (dvs_one D) (fun _ => dvs_one D _) (by omega) (by omega)).mono ?_
  rintro e w' ⟨A', c', he, hO, hb2⟩
  exact ⟨A', c', he, OD.erase ((H.out.keep hb).keep hb2) hi (hO.mono (Nat.le_trans H.out.le hb.size) (Nat.le_refl _)), bl_trans hb hb2⟩
 have HP := Lib.hid post
 by_cases hic : i + 1 < c
 ·have H2 := Lib.hid (h.ld.post hi hic)
  have hci : (c = i + 1) = False := by simp; omega
  have KC : Hid (∀ W : World, W = (w.alloc (Obj.cells #[.slice (some ⟨b, o, none⟩) i c, .slice (some ⟨b, o + (i + 1), none⟩) (D.length - (i + 1)) (c - (i + 1))] 72)).drew → _) := fun W hW => HP.out _ _ H2.out W (by rw [hW]; exact bl_drew (bl_alloc (Below.refl _ _))) (by rw [hW]; simp [go_sem]) (by rw [hW]; simp [go_sem])
  clear h post hi hic
  go_enter Tryz.func110, Tryz.ntmps110
  go_wp2
  go_region_held3 (fun z => Below w.heap.size w z)
   (first | exact HZ1.out | assumption | exact bl_alloc HZ1.out | fail)
   (first | (go_at_call 166; ((with_reducible refine (KC.out _ rfl).mono ?_); rintro e w1 ⟨A', c', rfl, hL, hb⟩)))
  have HL := Lib.hid hL
  have HB := Lib.hid hb
  clear hL hb
  go_wp2
  go_ret
  exact ⟨A', c', rfl, HL.out, HB.out⟩
 ·have hci : (c = i + 1) = True := by simp; omega
  have hz : D.length - (i + 1) = 0 := by omega
  have H2 : Hid (LV w (some ⟨b, o, none⟩) (D.length - (i + 1)) (c - (i + 1)) (fun j => dvs D (i + 1 + j))) := ⟨⟨by omega, fun h => by omega⟩⟩
  have KC : Hid (∀ W : World, W = (w.alloc (Obj.cells #[.slice (some ⟨b, o, none⟩) i c, .slice (some ⟨b, o, none⟩) (D.length - (i + 1)) (c - (i + 1))] 72)).drew → _) := fun W hW => HP.out _ _ H2.out W (by rw [hW]; exact bl_drew (bl_alloc (Below.refl _ _))) (by rw [hW]; simp [go_sem]) (by rw [hW]; simp [go_sem])
  clear h post hi hic hz
  go_enter Tryz.func110, Tryz.ntmps110
  go_wp2
  go_region_held3 (fun z => Below w.heap.size w z)
   (first | exact HZ1.out | assumption | exact bl_alloc HZ1.out | fail)
   (first | (go_at_call 166; ((with_reducible refine (KC.out _ rfl).mono ?_); rintro e w1 ⟨A', c', rfl, hL, hb⟩)))
  have HL := Lib.hid hL
  have HB := Lib.hid hb
  clear hL hb
  go_wp2
  go_ret
  exact ⟨A', c', rfl, HL.out, HB.out⟩
theorem fofL_two {sz : Int} {m : Nat} {x : Nat → Int} {l : List Int} (hm : m ≤ 7) : (fofL sz m x l).length ≤ 21 ∧ ∀ e ∈ fofL sz m x l, e.length = 2 := by
 unfold fofL
 split
 ·refine ⟨Nat.le_trans (List.length_filter_le ..) (edAll_len hm), fun e he => ?_⟩
  have h1 := (List.mem_filter.1 he).1
  unfold edAll at h1
  obtain ⟨p, _, rfl⟩ := List.mem_map.1 h1
  rfl
 ·exact ⟨Nat.zero_le _, fun e he => by cases he⟩
theorem tot_two {D : List Dsc} (h : ∀ e ∈ lists D, e.length = 2) : tot D = 2 * D.length := by
 unfold tot
 induction D with
 | nil => rfl
 | cons d D ih =>
   have h1 : d.2.2.length = 2 := h d.2.2 (by simp [lists])
   have h2 := ih (fun e he => h e (by simp only [lists, List.map_cons, List.mem_cons] at he ⊢; exact .inr he))
   simp only [List.map_cons, List.sum_cons, List.length_cons, h1, h2]
   omega
theorem lists_len (D : List Dsc) : (lists D).length = D.length := by unfold lists; rw [List.length_map]
set_option maxRecDepth 100000 in
set_option maxHeartbeats 3200000 in
theorem MinimalFill_i (sz : Int) (A : Option Addr) (m c : Nat) (x : Nat → Int) (w : World) (h : GA w A m c x) (hm : m ≤ 1048576) :
 Calls Tryz.prog 53 #[.agg #[.int .i64 sz, .slice A m c]] w fun e w' => ∃ A' c' D, e = .returned (.tuple #[.slice A' D.length c', .bool (lxB sz m x 0)]) ∧ lists D = miL sz m x ∧ OwnD w' w.heap.size w'.heap.size A' c' D ∧ Below w.heap.size w w' := by
 obtain ⟨W, hW⟩ : ∃ W : World, W = (w.alloc (Obj.cells #[Value.int IntKind.i64 sz, Value.slice A m c] 29)) := ⟨_, rfl⟩
 have HB : Hid (From w W) := by rw [hW]; exact From.alloc _ _
 have HK := Lib.hid (h.keep HB.out.below)
 have HC : Hid (GC W w.heap.size sz A m c) := by rw [hW]; exact GC.new _ _ _ _ _
 have HW := Lib.hid hW
 clear hW h
 go_enter Tryz.func53, Tryz.ntmps53
 have e0 := HC.out.c0
 have e1 := HC.out.c1
 go_wp2_with fail
 rw [← HW.out]
 refine (LexOrder_i sz A m c x 0 W HK.out hm).mono ?_
 rintro e w1 ⟨A1, c1, rfl, hO1, hb1⟩
 clear HW
 clear e0 e1
 replace HB := Lib.hid (HB.out.keep hb1)
 replace HK := Lib.hid (HK.out.keep hb1)
 replace HC := Lib.hid (HC.out.keep hb1)
 clear hb1
 have e0 := HC.out.c0
 have e1 := HC.out.c1
 cases hb : lxB sz m x 0
 ·have HM := Lib.hid (miL_no hb)
  have Hb := Lib.hid hb
  clear hb hO1
  go_wp2
  go_ret2
  exact ⟨none, 0, [], by rw [Hb.out]; rfl, HM.out.symm, OwnD.nil_ _ _ _, HB.out.below⟩
 ·have HM := Lib.hid (miL_yes hb)
  have Hb := Lib.hid hb
  have HLE := Lib.hid (lxL_yes hb)
  have hb' := hb
  unfold lxB at hb'
  rw [Bool.and_eq_true] at hb'
  obtain ⟨_, es, vg0, _⟩ := okB_ok' hb'.2
  subst es
  have hn1 := vg0.n1
  have hn7 := vg0.n7
  have hlen : (lxL (m : Int) m x 0).length = m := by rw [HLE.out]; exact lexN_len hn1
  obtain ⟨L, hL⟩ : ∃ L, L = lxL (m : Int) m x 0 := ⟨_, rfl⟩
  rw [← hL] at hlen hO1 HM ⊢
  have hlen1 : L.length ≤ 7 := by omega
  have hL0 : L ≠ [] := fun e => by rw [e] at hlen; simp at hlen; omega
  have HL0 := Lib.hid hL0
  have HO1 : Hid (LN w1 A1 c1 L) := hO1.ln
  have h2 := fofL_two (sz := (m : Int)) (x := x) (l := ci L.reverse) hn7
  obtain ⟨R, hR⟩ : ∃ R, R = fofL (m : Int) m x (ci L.reverse) := ⟨_, rfl⟩
  rw [← hR] at HM h2
  have HR := Lib.hid hR
  have HRt := Lib.hid h2.2
  have hR21 := h2.1
  have Hlr : Hid (L.reverse.length = L.length) := List.length_reverse
  clear hb hb' vg0 hlen hL hO1 hL0 h2 hR HLE
  have e0 := HC.out.c0
  have e1 := HC.out.c1
  have HSC : Hid (∀ z : World, Below w1.heap.size w1 z → (Below w1.heap.size w1 z ∧ z.cell? ⟨w.heap.size, 0, none⟩ = some (.int .i64 m) ∧ z.cell? ⟨w.heap.size, 1, none⟩ = some (.slice A m c))) := fun z hz => ⟨hz, up_ hz e0, up_ hz e1⟩
  have HZ1 : Hid (Below w1.heap.size w1 w1.drew) := (Below.refl _ _).drew
  have HS1 := Lib.hid (HSC.out _ HZ1.out)
  have K1 := Lib.hid (reversed_i A1 c1 L w1.drew (HO1.out.keep HZ1.out) HL0.out (by omega))
  have K2 : Hid (∀ (z : World) (A' : Option Addr) (c' : Nat), Below w1.heap.size w1 z → LN z A' c' L.reverse → Calls Tryz.prog 108 #[.agg #[.int .i64 m, .slice A m c], .slice A' L.length c'] z fun e w' => ∃ A' c' D t, e = .returned (.tuple #[.slice A' D.length c', .bool t]) ∧ lists D = R ∧ OwnD w' z.heap.size w'.heap.size A' c' D ∧ Below z.heap.size z w') := fun z A' c' hz hl => by
   have := FillOf_i m A m c x A' L.reverse.length c' (ci L.reverse) z (HK.out.keep hz) hl.li hm (by rw [Hlr.out]; omega)
   rw [Hlr.out, ← HR.out] at this
   exact this.mono fun _ _ ⟨A', c', D, h1, h2⟩ => ⟨A', c', D, _, h1, h2⟩
  clear e0 e1
  go_wp2
  go_region_held3 (fun z => Below w1.heap.size w1 z ∧ z.cell? ⟨w.heap.size, 0, none⟩ = some (.int .i64 m) ∧ z.cell? ⟨w.heap.size, 1, none⟩ = some (.slice A m c))
   (first | exact HS1.out | assumption | exact HSC.out _ hz3 | exact HSC.out _ (bl_trans HZ1.out hb2) | fail)
   (first | (go_at_call 109; ((with_reducible refine K1.out.mono ?_); rintro e w2 ⟨A2, c2, rfl, hO2, hb2⟩)) | (go_at_call 108; ((with_reducible refine (K2.out _ _ _ (bl_trans HZ1.out hb2) hO2.ln).mono ?_); rintro e w3 ⟨A3, c3, D0, t0, rfl, hD0, hO3, hb3⟩; have hz3 := bl_trans (bl_trans HZ1.out hb2) hb3)))
  have z1 := HB.out.below.size
  have z3 : w.heap.size ≤ w2.heap.size := Nat.le_trans z1 (Nat.le_trans HZ1.out.size hb2.size)
  have HF : Hid (From w1 w3) := ⟨hz3⟩
  have HD0 := Lib.hid hD0
  have HO3 : Hid (OD w.heap.size w3 A3 c3 D0) := ⟨hO3.mono z3 (Nat.le_refl _), Nat.le_trans z3 hb3.size⟩
  have hl0 : D0.length ≤ 21 := by rw [← lists_len, hD0]; exact hR21
  clear hD0 hO2 hO3 hb2 hb3 hz3 K1 K2 HSC HZ1 HS1 z3
  go_wp2
  go_loopw [6] (fun s wr => ∃ (A' : Option Addr) (c' : Nat) (D : List Dsc), s = .slice A' D.length c' ∧ D.length ≤ 21 ∧ Hid (mfL m m x (lists D) = mfL m m x R) ∧ Hid (∀ e ∈ lists D, e.length = 2) ∧ Hid (OD w.heap.size wr A' c' D) ∧ Hid (From w1 wr)) (fun s _ => match s with | .slice _ n _ => n | _ => 0)
  case atStart => exact ⟨A3, c3, D0, rfl, hl0, by rw [HD0.out]; exact rfl, by rw [HD0.out]; exact HRt.out, HO3, HF⟩
  case round =>
   clear HO3 HF HD0 hl0
   obtain ⟨A', c', D, rfl, hl, HE, HT, HO, HF⟩ := hrel
   have Hlist := Lib.hid (lists_len D)
   obtain ⟨n0, hn0⟩ : ∃ n0, n0 = D.length := ⟨_, rfl⟩
   have Hn0 := Lib.hid hn0
   obtain ⟨S0, hS0⟩ : ∃ S0, S0 = lists D := ⟨_, rfl⟩
   have HS0 := Lib.hid hS0
   have hn21 : n0 ≤ 21 := by omega
   rw [← hn0] at Hlist ⊢
   rw [← hS0] at HE HT Hlist
   clear hn0 hS0 hl
   go_wp2
   go_loopw [6, 9] (fun s i wz => ∃ (k : Nat) (A' : Option Addr) (c' : Nat) (D : List Dsc), s = .slice A' D.length c' ∧ i = .int .i64 ((k : Int) - 1) ∧ k ≤ D.length ∧ D.length ≤ n0 ∧ Hid (mrK m m x k (lists D) = mrK m m x n0 S0) ∧ Hid (∀ e ∈ lists D, e.length = 2) ∧ Hid (OD w.heap.size wz A' c' D) ∧ Hid (From w1 wz)) (fun _ i _ => (intOf i + 1).toNat)
   case atStart => exact ⟨n0, A', c', D, by rw [Hn0.out], rfl, by rw [Hn0.out]; exact Nat.le_refl _, by rw [Hn0.out]; exact Nat.le_refl _, by rw [← HS0.out]; exact rfl, by rw [← HS0.out]; exact HT.out, HO, HF⟩
   case round =>
    clear HO HF
    obtain ⟨k, A', c', D, rfl, rfl, hk, hl, HE2, HT2, HO, HF⟩ := hrel
    by_cases hk0 : 0 < k
    ·obtain ⟨j, hj⟩ : ∃ j, j + 1 = k := ⟨k - 1, by omega⟩
     subst hj
     have hji : ((j + 1 : Nat) : Int) - 1 = (j : Int) := by omega
     rw [hji]
     have i1 : (0 : Int) ≤ (j : Int) := by omega
     have hle : (D.eraseIdx j).length ≤ D.length := List.length_eraseIdx_le ..
     have hle2 : j ≤ (D.eraseIdx j).length := by rw [List.length_eraseIdx_of_lt (by omega)]; omega
     have Hli := Lib.hid (lists_erase D j)
     have HTe : Hid (∀ e ∈ lists (D.eraseIdx j), e.length = 2) := fun e he => HT2.out e (by rw [Hli.out] at he; exact List.mem_of_mem_eraseIdx he)
     have htot : tot (D.eraseIdx j) ≤ 1048576 := by rw [tot_two HTe.out]; omega
     have HBr := Lib.hid (HB.out.keep HF.out.below)
     have HKr := Lib.hid (HK.out.keep HF.out.below)
     have HCr := Lib.hid (HC.out.keep HF.out.below)
     have Hj := Lib.hid hji
     clear hji
     have e0 := HCr.out.c0
     have e1 := HCr.out.c1
     go_wp2_with fail
     refine (withoutEdge_o w.heap.size A' c' D j wr HO.out (by omega) (by omega)).mono ?_
     rintro e w2 ⟨A5, c5, rfl, hO5, hb2⟩
     clear e0 e1
     replace HF := Lib.hid (HF.out.keep hb2)
     replace HKr := Lib.hid (HKr.out.keep hb2)
     replace HCr := Lib.hid (HCr.out.keep hb2)
     replace HO := Lib.hid (HO.out.keep hb2)
     clear hb2
     have e0 := HCr.out.c0
     have e1 := HCr.out.c1
     have HO5 := Lib.hid hO5
     clear hO5
     go_wp2_with fail
     refine (fills_i m A m c x A5 c5 (D.eraseIdx j) _ HKr.out.rd HO5.out.ld hm (by omega) htot).mono ?_
     rintro e w3 ⟨rfl, hb3⟩
     clear e0 e1
     replace HF := Lib.hid (HF.out.keep hb3)
     replace HKr := Lib.hid (HKr.out.keep hb3)
     replace HCr := Lib.hid (HCr.out.keep hb3)
     replace HO := Lib.hid (HO.out.keep hb3)
     replace HO5 := Lib.hid (HO5.out.keep hb3)
     clear hb3
     have e0 := HCr.out.c0
     have e1 := HCr.out.c1
     rw [Hli.out]
     cases hf : fiB (m : Int) m x ((lists D).eraseIdx j)
     ·have Hst := Lib.hid (mrK_no hf)
      clear hf
      go_wp2
      go_roundw
      case rel => exact ⟨j, A', c', D, rfl, rfl, by omega, hl, by rw [← HE2.out, Hst.out]; exact rfl, HT2, HO, HF⟩
      case measure => (simp [intOf] <;> omega)
     ·have Hst := Lib.hid (mrK_yes hf)
      clear hf
      go_wp2
      go_roundw
      case rel => exact ⟨j, A5, c5, D.eraseIdx j, rfl, rfl, hle2, by omega, by rw [← HE2.out, Hst.out, Hli.out]; exact rfl, HTe, HO5, HF⟩
      case measure => (simp [intOf] <;> omega)
    ·obtain rfl : k = 0 := by omega
     have hji : ((0 : Nat) : Int) - 1 = -1 := rfl
     rw [hji]
     have HZ : Hid (lists D = mrK m m x n0 S0) := HE2.out
     clear hji HE2
     by_cases heq : D.length = n0
     ·have hR : lists D = S0 := by
       rw [HZ.out]
       refine mrK_same n0 S0 (by rw [Hlist.out]; exact Nat.le_refl _) ?_
       rw [← HZ.out, lists_len, heq, Hlist.out]
      have HFin : Hid (lists D = miL m m x) := by
       show _ = _
       rw [HM.out, ← HE.out, mfL_done, hR]
       rw [Hlist.out, ← HZ.out, lists_len, heq]
       omega
      have HBr := Lib.hid (HB.out.keep HF.out.below)
      have i1 : ((D.length : Int) == (n0 : Int)) = true := by rw [heq]; simp
      clear heq hR
      go_wp2
      go_ret2
      exact ⟨A', c', D, by rw [Hb.out]; rfl, HFin.out, HO.out.own, HBr.out.below⟩
     ·have HE3 : Hid (mfL m m x (lists D) = mfL m m x R) := by
       show _ = _
       rw [← HE.out, mfL_more (L := S0), Hlist.out, ← HZ.out]
       rw [Hlist.out, ← HZ.out, lists_len]
       omega
      have i1 : ((D.length : Int) == (n0 : Int)) = false := by simp; omega
      have hlt : D.length < n0 := by omega
      clear heq
      go_wp2
      go_roundw
      case rel => exact ⟨A', c', D, rfl, by omega, HE3, HT2, HO, HF⟩
      case measure => simp; omega
end Go.Proofs.YtppkokgiojcgbaaGreatDoor
