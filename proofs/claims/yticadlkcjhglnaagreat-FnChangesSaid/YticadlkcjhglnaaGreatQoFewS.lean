/-
  Several texts in one.
-/
import Derived.Test.YticadlkcjhglnaaGreatQoDrwA
import Derived.Test.YticadlkcjhglnaaGreatQoMinI
import Derived.Test.YticadlkcjhglnaaGreatQoLexP
/-
-/
namespace Go.Proofs.YticadlkcjhglnaaGreat
open Go.RowKit
set_option maxHeartbeats 6400000
set_option maxRecDepth 100000 in
theorem MinimalFill_s (sz : Int) (A : Option Addr) (m c : Nat) (x : Nat → Int) (w : World) (h : GA w A m c x) (hm : m ≤ 1048576) :
 Calls Tryz.prog 25 #[.agg #[.int .i64 sz, .slice A m c]] w fun e w' => ∃ A' c' D, e = .returned (.tuple #[.slice A' D.length c', .bool (lxB sz m x 0)]) ∧ lists D = miL sz m x ∧ OwnD w' w.heap.size w'.heap.size A' c' D ∧ Below w.heap.size w w' := by
 obtain ⟨W, hW, HB, HK, HC⟩ := gaW sz h;have HW := hh_ hW;clear hW h;go_enter Tryz.func25, Tryz.ntmps25;obtain ⟨e0, e1⟩ := gc_ HC;go_wp2_with fail
 rw [← HW.out];refine (LexOrder_s sz A m c x 0 W HK hm).mono ?_;rintro e w1 ⟨A1, c1, rfl, hO1, hb1⟩;clear HW;clear e0 e1;obtain ⟨HB, HK, HC, e0, e1⟩ := kC_ HB HK HC hb1;clear hb1;cases hb : lxB sz m x 0
 ·have HM := hh_ (miL_no hb);have Hb := hh_ hb;have z1 := HB.below.size;clear hb hO1;go_wp2;go_ret2;exact ⟨_, 0, [], by rw [Hb.out]; rfl, HM.symm, OwnD.none_ _ _ _ _ z1 (by simp) (heap_alloc_new _ _), (HB.alloc_ _).below⟩
 ·have HM := hh_ (miL_yes hb);have Hb := hh_ hb;have HLE := hh_ (lxL_yes hb);have hb' := hb;unfold lxB at hb';rw [Bool.and_eq_true] at hb';obtain ⟨_, es, vg0, _⟩ := okB_ok' hb'.2;subst es;have hn1 := vg0.n1;have hn7 := vg0.n7;have hlen : (lxL (m : Int) m x 0).length = m := by rw [HLE.out]; exact lexN_len hn1
  obtain ⟨L, hL⟩ : ∃ L, L = lxL (m : Int) m x 0 := ⟨_, rfl⟩;rw [← hL] at hlen hO1 HM ⊢;have hlen1 : L.length ≤ 7 := by omega
  have hL0 : L ≠ [] := fun e => by rw [e] at hlen; simp at hlen; omega
  have HL0 := hh_ hL0;have HO1 : Hid (LN w1 A1 c1 L) := hO1.ln;have h2 := fofL_two (sz := (m : Int)) (x := x) (l := ci L.reverse) hn7;obtain ⟨R, hR⟩ : ∃ R, R = fofL (m : Int) m x (ci L.reverse) := ⟨_, rfl⟩;rw [← hR] at HM h2;have HR := hh_ hR;have HRt := hh_ h2.2;have hR21 := h2.1;have Hlr : Hid (L.reverse.length = L.length) := List.length_reverse;clear hb hb' vg0 hlen hL hO1 hL0 h2 hR HLE;obtain ⟨e0, e1⟩ := gc_ HC;have HSC : Hid (∀ z : World, Below w1.heap.size w1 z → (Below w1.heap.size w1 z ∧ z.cell? ⟨w.heap.size, 0, none⟩ = some (.int .i64 m) ∧ z.cell? ⟨w.heap.size, 1, none⟩ = some (.slice A m c))) := fun z hz => ⟨hz, up_ hz e0, up_ hz e1⟩
  have HZ1 : Hid (Below w1.heap.size w1 w1.drew) := br_.drew;have HS1 := hh_ (HSC.out _ HZ1.out);have K1 := hh_ (l6Reverse_s A1 c1 L w1.drew (HO1.keep HZ1.out) HL0.out (by omega));have K2 : Hid (∀ (z : World) (A' : Option Addr) (c' : Nat), Below w1.heap.size w1 z → LN z A' c' L.reverse → Calls Tryz.prog 77 #[.agg #[.int .i64 m, .slice A m c], .slice A' L.length c'] z fun e w' => ∃ A' c' D t, e = .returned (.tuple #[.slice A' D.length c', .bool t]) ∧ lists D = R ∧ OwnD w' z.heap.size w'.heap.size A' c' D ∧ Below z.heap.size z w') := fun z A' c' hz hl => by
   have := FillOf_s m A m c x A' L.reverse.length c' (ci L.reverse) z (HK.keep hz) hl.li hm (by rw [Hlr.out]; omega);rw [Hlr.out, ← HR.out] at this;exact this.mono fun _ _ ⟨A', c', D, h1, h2⟩ => ⟨A', c', D, _, h1, h2⟩
  clear e0 e1;go_wp2;go_region_held3 (fun z => Below w1.heap.size w1 z ∧ z.cell? ⟨w.heap.size, 0, none⟩ = some (.int .i64 m) ∧ z.cell? ⟨w.heap.size, 1, none⟩ = some (.slice A m c))
   (first | exact HS1.out | assumption | exact HSC.out _ hz3 | exact HSC.out _ (bl_trans HZ1.out hb2) | fail)
   (first | (go_at_call 78; ((with_reducible refine K1.out.mono ?_); rintro e w2 ⟨A2, c2, rfl, hO2, hb2⟩)) | (go_at_call 77; ((with_reducible refine (K2.out _ _ _ (bl_trans HZ1.out hb2) hO2.ln).mono ?_); rintro e w3 ⟨A3, c3, D0, t0, rfl, hD0, hO3, hb3⟩; have hz3 := bl_trans (bl_trans HZ1.out hb2) hb3)))
  have z1 := HB.below.size;have z3 : w.heap.size ≤ w2.heap.size := Nat.le_trans z1 (Nat.le_trans HZ1.size hb2.size);have HF : Hid (From w1 w3) := ⟨hz3⟩;have HD0 := hh_ hD0;have HO3 : Hid (OD w.heap.size w3 A3 c3 D0) := ⟨hO3.mono z3 nr_, Nat.le_trans z3 hb3.size⟩;have hl0 : D0.length ≤ 21 := by rw [← lists_len, hD0]; exact hR21
  clear hD0 hO2 hO3 hb2 hb3 hz3 K1 K2 HSC HZ1 HS1 z3;go_wp2;go_loopw [6, 8] (fun s t wr => ∃ (A' : Option Addr) (c' : Nat) (D : List Dsc) (b : Bool), s = .slice A' D.length c' ∧ t = .bool b ∧ D.length ≤ 21 ∧ Hid (b = true → mfL m m x (lists D) = mfL m m x R) ∧ Hid (b = false → lists D = miL m m x) ∧ Hid (∀ e ∈ lists D, e.length = 2) ∧ Hid (OD w.heap.size wr A' c' D) ∧ Hid (From w1 wr)) (fun s t _ => match s, t with | .slice _ n _, .bool b => 2 * n + b.toNat | _, _ => 0);case atStart => exact ⟨A3, c3, D0, true, rfl, rfl, hl0, (fun _ => by rw [HD0.out]), (fun h => by cases h), by rw [HD0.out]; exact HRt.out, HO3, HF⟩
  case round =>
   clear HO3 HF HD0 hl0;obtain ⟨A', c', D, b, rfl, rfl, hl, HE, HE0, HT, HO, HF⟩ := hrel;cases b
   ·have HBr := hh_ (HB.keep HF.below);have HFin : Hid (lists D = miL m m x) := HE0.out rfl;go_wp2;go_ret2;exact ⟨A', c', D, by rw [Hb.out]; rfl, HFin.out, HO.own, HBr.below⟩
   have HE1 : Hid (mfL m m x (lists D) = mfL m m x R) := HE.out rfl;clear HE0 HE;have HE := HE1;clear HE1;have Hlist := hh_ (lists_len D);obtain ⟨n0, hn0⟩ : ∃ n0, n0 = D.length := ⟨_, rfl⟩;have Hn0 := hh_ hn0;obtain ⟨S0, hS0⟩ : ∃ S0, S0 = lists D := ⟨_, rfl⟩;have HS0 := hh_ hS0;have hn21 : n0 ≤ 21 := by omega
   rw [← hn0] at Hlist ⊢;rw [← hS0] at HE HT Hlist;clear hn0 hS0 hl;go_wp2;go_loopw [6, 8, 9] (fun s t i wz => ∃ (k : Nat) (A' : Option Addr) (c' : Nat) (D : List Dsc) (b : Bool), s = .slice A' D.length c' ∧ t = .bool b ∧ i = .int .i64 ((k : Int) - 1) ∧ k ≤ D.length ∧ D.length ≤ n0 ∧ Hid (b = decide (D.length < n0)) ∧ Hid (mrK m m x k (lists D) = mrK m m x n0 S0) ∧ Hid (∀ e ∈ lists D, e.length = 2) ∧ Hid (OD w.heap.size wz A' c' D) ∧ Hid (From w1 wz)) (fun _ _ i _ => (intOf i + 1).toNat);case atStart => exact ⟨n0, A', c', D, false, by rw [Hn0.out], rfl, rfl, by rw [Hn0.out]; exact nr_, by rw [Hn0.out]; exact nr_, by rw [Hn0.out]; exact (decide_eq_false (Nat.lt_irrefl _)).symm, by rw [← HS0.out]; exact rfl, by rw [← HS0.out]; exact HT.out, HO, HF⟩
   case round =>
    clear HO HF;obtain ⟨k, A', c', D, b, rfl, rfl, rfl, hk, hl, Hbn, HE2, HT2, HO, HF⟩ := hrel;by_cases hk0 : 0 < k
    ·obtain ⟨j, hj⟩ : ∃ j, j + 1 = k := ⟨k - 1, by omega⟩;subst hj;have hji : ((j + 1 : Nat) : Int) - 1 = (j : Int) := by omega
     rw [hji];have hle : (D.eraseIdx j).length ≤ D.length := List.length_eraseIdx_le ..;have hle2 : j ≤ (D.eraseIdx j).length := by rw [List.length_eraseIdx_of_lt (by omega)]; omega
     have hle3 : (D.eraseIdx j).length < n0 := by rw [List.length_eraseIdx_of_lt (by omega)]; omega
     have Hle : Hid ((D.eraseIdx j).length = j + (D.length - (j + 1))) := by show _ = _; rw [List.length_eraseIdx_of_lt (by omega)]; omega
     have Hli := hh_ (lists_erase D j);have HTe : Hid (∀ e ∈ lists (D.eraseIdx j), e.length = 2) := fun e he => HT2.out e (by rw [Hli.out] at he; exact List.mem_of_mem_eraseIdx he)
     have htot : tot (D.eraseIdx j) ≤ 1048576 := by rw [tot_two HTe.out]; omega
     obtain ⟨bb, o, rfl, hbb, _⟩ := HO.ld.rd.1.2 (by omega);have hcc := HO.ld.rd.1.1;have i0 : (0 : Int) ≤ j := by omega
     have i1 : (j : Int) < D.length := by omega
     have i2 : (j : Int) ≤ (c' : Int) := by omega
     have i3 : IntKind.i64.wrap ((j : Int) + 1) = (j : Int) + 1 := Go.IntWalk.i64_in _ (by omega);have i4 : (0 : Int) ≤ j + 1 := by omega
     have i5 : (j : Int) + 1 ≤ (D.length : Int) := by omega
     have i6 : ((j : Int) + 1).toNat = j + 1 := by omega
     have H1 := hh_ (HO.ld.pre (i := j) (by omega));have HZ1 : Hid (Below wr.heap.size wr wr.drew) := br_.drew;have OneD : ∀ t, (dvs D t).oneCell' = true := dvs_one D;have HOne := hh_ OneD;have HOne2 : Hid (∀ t, ((fun t => dvs D (j + 1 + t)) t).oneCell' = true) := fun t => dvs_one D _
     have OA : Hid (Own ((wr.alloc (Obj.cells #[] 24)).drew) wr.heap.size (wr.heap.size + 1) 24 1 (some ⟨wr.heap.size, 0, none⟩) 0 0 (fun _ => .slice none 0 0)) := (own_empty wr _ _ nr_ (Nat.lt_succ_self _) _).drew;have ZA : Hid (Below wr.heap.size wr ((wr.alloc (Obj.cells #[] 24)).drew)) := bl_drew (bl_alloc br_);have Hj := hh_ hji;clear hji OneD;by_cases hic : j + 1 < c'
     case' pos =>
      have H2 : Hid (LV wr (some ⟨bb, o + (j + 1), none⟩) (D.length - (j + 1)) (c' - (j + 1)) (fun t => dvs D (j + 1 + t))) := HO.ld.post (by omega) hic;have hci : (c' = j + 1) = False := by simp; omega
      clear hic hbb
     case' neg =>
      have hz0 : D.length - (j + 1) = 0 := by omega
      have H2 : Hid (LV wr (some ⟨bb, o, none⟩) (D.length - (j + 1)) (c' - (j + 1)) (fun t => dvs D (j + 1 + t))) := ⟨⟨by omega, fun h => by omega⟩⟩;have hci : (c' = j + 1) = True := by simp; omega
      clear hic hbb hz0
     all_goals
      go_wp2;go_region_held3 (fun z => Below wr.heap.size wr z)
       (first | exact HZ1.out | exact ZA.out | assumption | exact hz6 | exact hz5 | fail)
       (first
       | ((refine step_appendW _ (by rfl) _ _ (by rfl) (by rfl) OA.out (by rfl) (H1.keep ZA.out).rd HOne.out ZA.size (by omega) (by omega) j (Nat.zero_add j) ?_; intro A5 c5 w5 hO5 hb5 hg5 ha5; have hz5 := ZA.trans hb5; clear ha5 hg5))
       | ((refine step_appendW _ (by rfl) _ _ (by rfl) (by rfl) hO5 (by rfl) (H2.keep hz5).rd HOne2.out hz5.size (by omega) (by omega) (j + (D.length - (j + 1))) rfl ?_; intro A6 c6 w6 hO6 hb6 hg6 ha6; have hz6 := hz5.trans hb6; clear ha6 hg6))
       | fail)
      have hO7 : Own w6 wr.heap.size w6.heap.size 24 1 A6 (j + (D.length - (j + 1))) c6 (thenV j (dvs D) (fun t => dvs D (j + 1 + t))) := by
       exact hO6.congr (fun t ht => by unfold thenV; by_cases h : t < j <;> simp [h])
      have HO6 : Hid (OD w.heap.size w6 A6 c6 (D.eraseIdx j)) := OD.erase (HO.keep hz6) (by omega) (hO7.mono HO.le nr_);have HOr : Hid (OD w.heap.size w6 (some ⟨bb, o, none⟩) c' D) := HO.keep hz6;have HF6 := hh_ (HF.keep hz6);have HK6 := hh_ (HK.keep HF6.below);have HC6 := hh_ (HC.keep HF6.below);have e0 := HC6.c0;have e1 := HC6.c1;rw [← Hle.out];clear hO5 hO6 hO7 hb5 hb6 hz5 hz6 OA ZA H1 H2 HOne HOne2 HZ1 hci i0 i1 i2 i3 i4 i5 i6 HO HF;go_wp2_with fail
      refine (AddAll_s m A m c x A6 c6 (D.eraseIdx j) w6 w6.heap.size HK6.rd HO6.ld.rd nr_ hm (by omega) htot _ rfl).mono ?_;rintro e w7 ⟨A7, c7, rfl, hO7, hb7⟩;have HO7 := hh_ hO7;have HF7 := hh_ (HF6.keep hb7);have HO67 := hh_ (HO6.keep hb7);have HOr7 := hh_ (HOr.keep hb7);clear hO7 hb7 e0 e1 HK6 HC6 HO6 HOr;have hN : aaN (m : Int) m x (lists (D.eraseIdx j)) ≤ m := aaN_le;obtain ⟨W8, hW8⟩ : ∃ W8, W8 = w7.alloc (Obj.cells #[.int .i64 (aaZ (m : Int) m x (lists (D.eraseIdx j))), .slice A7 (aaN (m : Int) m x (lists (D.eraseIdx j))) c7] 26) := ⟨_, rfl⟩;have hb8 : Below w7.heap.size w7 W8 := by rw [hW8]; exact br_.alloc nr_ _
      have HR8 : Hid (Rd W8 W8.heap.size A7 (aaN (m : Int) m x (lists (D.eraseIdx j))) c7 (aaX (m : Int) m x (lists (D.eraseIdx j)))) := by
       rw [hW8];exact HO7.rd.keep (br_.alloc nr_ _) (by simp)
      have HF8 := hh_ (HF7.keep hb8);have HO8 := hh_ (HO67.keep hb8);have HOr8 := hh_ (HOr7.keep hb8);have HW8 := hh_ hW8;clear hW8 hb8 HO7 HF7 HO67 HOr7;go_wp2_with fail
      rw [← HW8.out];clear HW8;refine (IsChordal_sx _ A7 _ c7 _ W8 W8.heap.size HR8.out nr_ (by omega)).mono ?_;rintro e w9 ⟨rfl, hb9⟩;have HF9 := hh_ (HF8.keep hb9);have HO9 := hh_ (HO8.keep hb9);have HOr9 := hh_ (HOr8.keep hb9);have he : chB (aaZ (m : Int) m x (lists (D.eraseIdx j))) (aaN (m : Int) m x (lists (D.eraseIdx j))) (aaX (m : Int) m x (lists (D.eraseIdx j))) = fiB (m : Int) m x (lists (D.eraseIdx j)) := rfl;rw [he, Hli.out];clear he hb9 HR8 HF8 HO8 HOr8;cases hf : fiB (m : Int) m x ((lists D).eraseIdx j)
      ·have Hst := hh_ (mrK_no hf);clear hf;go_wp2;go_roundw;case rel => exact ⟨j, some ⟨bb, o, none⟩, c', D, b, rfl, rfl, rfl, by omega, hl, Hbn, by rw [← HE2.out, Hst.out]; exact rfl, HT2, HOr9, HF9⟩
       case measure => (simp [intOf] <;> omega)
      ·have Hst := hh_ (mrK_yes hf);have Hd : Hid (true = decide ((D.eraseIdx j).length < n0)) := (decide_eq_true hle3).symm;clear hf;go_wp2;go_roundw;case rel => exact ⟨j, A6, c6, D.eraseIdx j, true, rfl, rfl, rfl, hle2, by omega, Hd, by rw [← HE2.out, Hst.out, Hli.out]; exact rfl, HTe, HO9, HF9⟩
       case measure => (simp [intOf] <;> omega)
    ·obtain rfl : k = 0 := by omega
     have hji : ((0 : Nat) : Int) - 1 = -1 := rfl;rw [hji];have HZ : Hid (lists D = mrK m m x n0 S0) := HE2.out;clear hji HE2;have Hyes : Hid (b = true → mfL m m x (lists D) = mfL m m x R) := fun hb => by
      rw [Hbn.out, decide_eq_true_eq] at hb;rw [← HE.out, mfL_more (L := S0), Hlist.out, ← HZ.out];rw [Hlist.out, ← HZ.out, lists_len];exact hb
     have Hno : Hid (b = false → lists D = miL m m x) := fun hb => by
      rw [Hbn.out, decide_eq_false_iff_not] at hb;have heq : D.length = n0 := by omega
      have hR : lists D = S0 := by
       rw [HZ.out];refine mrK_same n0 S0 (by rw [Hlist.out]; exact nr_) ?_;rw [← HZ.out, lists_len, heq, Hlist.out]
      rw [HM.out, ← HE.out, mfL_done, hR];rw [Hlist.out, ← HZ.out, lists_len, heq];omega
     have hms : 2 * D.length + b.toNat < 2 * n0 + 1 := by
      have hb := Hbn.out;cases b
      ·show 2 * D.length + 0 < _; omega
      ·have := of_decide_eq_true hb.symm;show 2 * D.length + 1 < _; omega
     go_wp2;go_roundw;case rel => exact ⟨A', c', D, b, rfl, rfl, by omega, Hyes, Hno, HT2, HO, HF⟩
     case measure => simp; omega
section
variable {sz : Int} {m : Nat} {x : Nat → Int}
theorem mrK_mem : ∀ (k : Nat) (L : List (List Int)) {e : List Int}, e ∈ mrK sz m x k L → e ∈ L
 | 0, _, _, h => h
 | k + 1, L, e, h => by
   rw [mrK] at h
   have := mrK_mem k _ h
   split at this
   ·exact List.mem_of_mem_eraseIdx this
   ·exact this
theorem mfL_in : ∀ (n : Nat) (L : List (List Int)), L.length ≤ n → (mfL sz m x L).length ≤ L.length ∧ ∀ e ∈ mfL sz m x L, e ∈ L := by
 intro n;induction n with
 | zero =>
   intro L h;rw [mfL_done (by omega)];exact ⟨nr_, fun e he => he⟩
 | succ n ih =>
   intro L h;by_cases hl : (mrK sz m x L.length L).length < L.length
   ·rw [mfL_more hl];have := ih (mrK sz m x L.length L) (by omega);exact ⟨by omega, fun e he => mrK_mem _ _ (this.2 e he)⟩
   ·rw [mfL_done hl];exact ⟨nr_, fun e he => he⟩
theorem miL_two : (miL sz m x).length ≤ 21 ∧ ∀ e ∈ miL sz m x, e.length = 2 := by
 cases h : lxB sz m x 0
 ·rw [miL_no h]; exact ⟨Nat.zero_le _, fun e he => by cases he⟩
 ·rw [miL_yes h];unfold lxB at h;rw [Bool.and_eq_true] at h;obtain ⟨_, es, vg0, _⟩ := okB_ok' h.2;have h2 := fofL_two (sz := sz) (x := x) (l := ci (lxL sz m x 0).reverse) vg0.n7;have h3 := mfL_in (sz := sz) (m := m) (x := x) _ (fofL sz m x (ci (lxL sz m x 0).reverse)) nr_;exact ⟨by omega, fun e he => h2.2 e (h3.2 e he)⟩
end
set_option maxHeartbeats 3200000
set_option maxRecDepth 100000 in
theorem FewestFill_s (sz : Int) (A : Option Addr) (m c : Nat) (x : Nat → Int) (w : World) (h : GA w A m c x) (hm : m ≤ 1048576) :
 Calls Tryz.prog 44 #[.agg #[.int .i64 sz, .slice A m c]] w fun e w' => e = .returned (.int .i64 (ffI sz m x)) ∧ Below w.heap.size w w' := by
 obtain ⟨W, hW, HB, HK, HC⟩ := gaW sz h;have HW := hh_ hW;clear hW h;go_enter Tryz.func44, Tryz.ntmps44;obtain ⟨e0, e1⟩ := gc_ HC;go_wp2_with fail
 rw [← HW.out];refine (IsGraph_sany sz A m c x W W.heap.size HK.rd nr_ hm).mono ?_;rintro e w1 ⟨rfl, hb1⟩;clear HW;clear e0 e1;obtain ⟨HB, HK, HC, e0, e1⟩ := kC_ HB HK HC hb1;clear hb1;cases ho : okB sz m x
 ·have hf : Hid (ffI sz m x = -1) := ffI_no ho;clear ho;go_wp2;go_ret;exact ⟨ret_int hf.symm, HB.below⟩
 ·obtain ⟨_, es, vg0, hx0⟩ := okB_ok' ho;subst es;have hn1 := vg0.n1;have hn7 := vg0.n7;have HG : Hid (GV w1 A m c (rw_ x)) := HK.gv ho;have Ho := hh_ ho;clear ho vg0 hx0;by_cases h5 : 5 < m
  ·have hf : Hid (ffI m m x = -1) := ffI_big (by omega);have i1 : (5 : Int) < m := by omega
   clear h5;go_wp2;go_ret;exact ⟨ret_int hf.symm, HB.below⟩
  ·have hm5 : m ≤ 5 := by omega
   have i1 : (m : Int) ≤ 5 := by omega
   clear h5;go_wp2_with fail
   refine (EdgesOf_s m A m c _ _ _ HG.rd nr_ hm).mono ?_;rintro e w2 ⟨A0, c0, D0, rfl, hD0, hO0, hb2⟩;clear e0 e1;replace HB := hh_ (HB.keep hb2);replace HC := hh_ (HC.keep hb2);replace HG := hh_ (HG.keep hb2);clear hb2;obtain ⟨e0, e1⟩ := gc_ HC;have hl21 := edges_len hD0;clear hD0 hO0;go_wp2_with fail
   refine (l30Orders_s m _ hm5).mono ?_;rintro e w3 ⟨A2, c2, D, rfl, hD, hO, hb3⟩;clear e0 e1;replace HB := hh_ (HB.keep hb3);replace HC := hh_ (HC.keep hb3);replace HG := hh_ (HG.keep hb3);clear hb3;obtain ⟨e0, e1⟩ := gc_ HC;have HD := hh_ hD;have HO := hh_ hO;have HDl := hh_ (nl_len hD);have hDl3 : D.length ≤ 3125 := by
    have h1 := nl_len hD;have h2 := Nat.le_trans (ordN_len m m) (pow5 hm5 hm5);omega
   have zw3 := HB.below.size;obtain ⟨b0, hb0⟩ : ∃ b0 : Nat, b0 = D0.length + 30 := ⟨_, rfl⟩;have Hb0 : Hid ((D0.length : Int) + 30 = (b0 : Int)) := by show _ = _; omega
   have hf : Hid (ffI m m x = mnF (pfN m (rw_ x)) b0 (ordN m m)) := by show _ = _; rw [ffI_yes Ho.out hm5]; exact (ffN_eq hn7 (by omega)).symm
   have hb0' : b0 ≤ 51 := by omega
   clear hD hO hb0;go_wp2;go_loopw [3, 5] (fun b i wr => ∃ (k : Nat) (a : Nat), k ≤ D.length ∧ i = .int .i64 k ∧ b = .int .i64 a ∧ a ≤ 51 ∧ Hid (mnF (pfN m (rw_ x)) b0 ((ordN m m).take k) = (a : Int)) ∧ Hid (From w3 wr)) (fun _ i _ => D.length - (intOf i).toNat);case atStart => exact ⟨0, b0, Nat.zero_le _, rfl, by rw [← Hb0.out], hb0', rfl, From.refl _⟩
   case round =>
    obtain ⟨k, a, hk, rfl, rfl, ha, hA, HF⟩ := hrel;have HBr := hh_ (HB.keep HF.below);have HCr := hh_ (HC.keep HF.below);have HGr := hh_ (HG.keep HF.below);have HOr := HO.keepB HF.below nr_;by_cases hlt : k < D.length
    ·have hkL : k < (ordN m m).length := by have := HDl.out; omega
     obtain ⟨l, hl⟩ : ∃ l, l = (ordN m m).getD k [] := ⟨_, rfl⟩;have hlm : l ∈ ordN m m := by rw [hl]; simp [List.getD, hkL]
     have hlk := (mem_ordN.1 hlm).1;obtain ⟨g, Ad, cd, rfl, hg, q0, hLN⟩ := nl_at HOr HF.below.size HD.out hlt;rw [← hl] at q0 hLN;have HLN := hh_ hLN;have hl5 : l.length ≤ 5 := by omega
     obtain ⟨y, hy⟩ : ∃ y : Nat, y = (fofL (m : Int) m (fun v => (rw_ x v : Int)) (ci l)).length := ⟨_, rfl⟩;have hy21 : y ≤ 21 := by have := (pfN_le (r := rw_ x) (l := l) hn7).2; rw [hy]; unfold pfN at this; unfold ci; omega
     have Hnext : Hid (mnF (pfN m (rw_ x)) b0 ((ordN m m).take (k + 1)) = min (a : Int) (y : Int)) := by
      show _ = _;rw [List.take_succ_eq_append_getElem hkL, mnF_one, hA.out, hy];have : (ordN m m)[k] = l := by rw [hl]; simp [List.getD, hkL]
      rw [this]; rfl
     have HY := hh_ hy;have KF : Hid (∀ z : World, Below wr.heap.size wr z → Calls Tryz.prog 77 #[.agg #[.int .i64 m, .slice A m c], .slice Ad l.length cd] z fun e w' => ∃ (A' : Option Addr) (c' : Nat) (D5 : List Dsc) (t : Bool), e = .returned (.tuple #[.slice A' D5.length c', .bool t]) ∧ D5.length = y ∧ Below z.heap.size z w') := fun z hz =>
      (FillOf_s m A m c (fun v => (rw_ x v : Int)) Ad l.length cd (ci l) z ⟨(HGr.keep hz).rd⟩ (HLN.keep hz).li hm (by omega)).mono fun _ _ ⟨A', c', D5, h1, h2, _, h4⟩ => ⟨A', c', D5, _, h1, by rw [HY.out, ← h2, lists, List.length_map], h4⟩
     have i2 : (k : Int) < D.length := by omega
     clear hkL hl hlm hlk hLN hy HOr;have e0 := HCr.c0;have e1 := HCr.c1;obtain ⟨HSC, HZ0, HS1⟩ := hsc3 e0 e1 q0;have KR1 : Hid (∀ z : World, Below wr.heap.size wr z → _) := fun z hz => KF.out z hz
     go_wp2;go_region_held3 (fun z => Below wr.heap.size wr z ∧ z.cell? ⟨w.heap.size, 0, none⟩ = some (.int .i64 m) ∧ z.cell? ⟨w.heap.size, 1, none⟩ = some (.slice A m c) ∧ z.cell? ⟨g, k, none⟩ = some (.slice Ad l.length cd))
      (first | exact HS1.out | assumption | exact HSC.out _ hz4 | fail)
      (first | (go_at_call 77; ((with_reducible refine (KR1.out _ HZ0.out).mono ?_); rintro e w4 ⟨A5, c5, D5, t, rfl, hD5, hb4⟩; have hz4 := bl_trans HZ0.out hb4)))
     clear e0 e1;replace HCr := hh_ (HCr.keep hz4);replace HF := hh_ (HF.keep hz4);clear hb4 hz4 HSC HZ0 HS1 KR1;have e0 := HCr.c0;have e1 := HCr.c1;go_wp2;go_roundw;case rel => exact ⟨k + 1, if y < a then y else a, by omega, by go_num, by split <;> rfl, by split <;> omega, by show _ = _; rw [Hnext.out]; split <;> omega, HF⟩
     case measure => simp [intOf]; omega
    ·obtain rfl : k = D.length := by omega
     have hfin : Hid ((a : Int) = ffI m m x) := by
      have := hA.out;rw [HDl.out, List.take_length] at this;show _ = _;rw [hf.out, this]
     clear HOr;go_wp2;go_ret;exact ⟨ret_int hfin.out, HBr.below⟩
end Go.Proofs.YticadlkcjhglnaaGreat
