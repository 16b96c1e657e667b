/-
  Contract: the program's FormatClaim.
-/
import Derived.Test.YtncjfgebolikoaaDoorQwFcP
import Derived.Test.YtncjfgebolikoaaDoorQwPushS
namespace Go.Proofs.YtncjfgebolikoaaDoor
open Go.RowKit

/-- The claim's box and the words so far. -/
structure FW (w0 : World) (K : Int) (k : Clm) (w : World) (g c n : Nat) (L : List ByteArray) : Prop where
  from_ : From w0 w
  box : CB w w0.heap.size K k
  own : Own w (w0.heap.size + 1) w.heap.size 9 1 (some ⟨g, 0, none⟩) n c (stL L)
theorem FW.lt {w0 w : World} {K : Int} {k : Clm} {g c n : Nat} {L : List ByteArray} (h : FW w0 K k w g c n L) : w0.heap.size < w.heap.size := h.box.lt
theorem FW.keep {w0 w w' : World} {K : Int} {k : Clm} {g c n : Nat} {L : List ByteArray} (h : FW w0 K k w g c n L) (hb : Below w.heap.size w w') : FW w0 K k w' g c n L :=
  ⟨h.from_.keep hb, h.box.keep hb, (h.own.keepB hb (Nat.le_refl _)).mono (Nat.le_refl _) hb.size⟩
theorem CB.keepL {w w' : World} {B q : Nat} {K : Int} {k : Clm} (h : CB w q K k) (hb : Below B w w') (hq : q < B) : CB w' q K k :=
  ⟨(hb.cell (p := ⟨q, 0, none⟩) hq).trans h.c0, (hb.cell (p := ⟨q, 1, none⟩) hq).trans h.c1, (hb.cell (p := ⟨q, 2, none⟩) hq).trans h.c2, (hb.cell (p := ⟨q, 3, none⟩) hq).trans h.c3, (hb.cell (p := ⟨q, 4, none⟩) hq).trans h.c4, (hb.cell (p := ⟨q, 5, none⟩) hq).trans h.c5, (hb.cell (p := ⟨q, 6, none⟩) hq).trans h.c6⟩
theorem FW.next {w0 w w' : World} {K : Int} {k : Clm} {g c n g' c' n' : Nat} {L L' : List ByteArray} (h : FW w0 K k w g c n L) (o : Obj) (hb : Below (w0.heap.size + 1) (w.alloc o) w') (ho : Own w' (w0.heap.size + 1) w'.heap.size 9 1 (some ⟨g', 0, none⟩) n' c' (stL L')) : FW w0 K k w' g' c' n' L' := by
  have hb2 : Below (w0.heap.size + 1) w w' := ((Below.refl _ _).alloc h.lt _).trans hb
  exact ⟨⟨h.from_.below.trans (hb2.mono (Nat.le_succ _))⟩, h.box.keepL hb2 (Nat.lt_succ_self _), ho⟩

set_option maxRecDepth 100000 in
set_option maxHeartbeats 3200000 in
theorem FormatClaim_in (k : Clm) (w : World) (h : RdK w w.heap.size k) (hs : SmK k) (hno : ¬ ((1 ≤ k.K ∧ k.K ≤ 6) ∧ okB k.s k.n0 k.x0 = true)) :
    Calls Tryd.prog 14 #[.agg #[.int .i64 k.K, .int .i64 k.s, .slice k.A0 k.n0 k.c0, .string k.t, .slice k.A1 k.n1 k.c1, .slice k.A2 k.n2 k.c2, .slice k.A3 k.D.length k.c3]] w fun e w' => e = .returned (.string (fcB k)) ∧ Below w.heap.size w w' := by
  obtain ⟨W, hW⟩ : ∃ W : World, W = (w.alloc (Obj.cells #[.int .i64 k.K, .int .i64 k.s, .slice k.A0 k.n0 k.c0, .string k.t, .slice k.A1 k.n1 k.c1, .slice k.A2 k.n2 k.c2, .slice k.A3 k.D.length k.c3] 39)) := ⟨_, rfl⟩
  have HB : Hid (From w W) := by rw [hW]; exact From.alloc _ _
  have HC : Hid (CB W w.heap.size k.K k) := by rw [hW]; exact CB.new _ _ _
  have HR : Hid (∀ z, Below w.heap.size w z → RdK z z.heap.size k) := fun z hz => h.keep hz hz.size
  have HW := Lib.hid hW
  obtain ⟨s0, s1, s2, s3, s4, s5⟩ := hs
  clear hW h
  have HO := Lib.hid (fcB_no hno)
  have KI : Hid (∀ z, Below w.heap.size w z → _) := fun z hz => IsGraph_any k.s k.A0 k.n0 k.c0 k.x0 z z.heap.size (HR.out z hz).1 (Nat.le_refl _) s0
  by_cases hr : 1 ≤ k.K ∧ k.K ≤ 6
  · have ho : okB k.s k.n0 k.x0 = false := by
      cases h : okB k.s k.n0 k.x0
      · rfl
      · exact absurd ⟨hr, h⟩ hno
    rw [ho] at KI
    clear hno ho HR
    go_enter Tryd.func14, Tryd.ntmps14
    have b0 := HC.out.c0
    have b1 := HC.out.c1
    have b2 := HC.out.c2
    go_wp2_with fail
    rw [← HW.out]
    refine (within_yes k.K 1 6 _ hr.1 hr.2).mono ?_
    rintro e w' ⟨rfl, rfl⟩
    clear HW
    go_wp2_with fail
    refine (KI.out W HB.out.below).mono ?_
    rintro e w1 ⟨rfl, hb1⟩
    clear b0 b1 b2
    replace HB := Lib.hid (HB.out.keep hb1)
    replace HC := Lib.hid (HC.out.keep hb1)
    clear hb1
    have b0 := HC.out.c0
    have b1 := HC.out.c1
    have b2 := HC.out.c2
    go_wp2
    go_ret
    exact ⟨by rw [HO.out]; rfl, HB.out.below⟩
  · have hr2 : k.K < 1 ∨ 6 < k.K := by omega
    clear hno HR hr KI
    go_enter Tryd.func14, Tryd.ntmps14
    have b0 := HC.out.c0
    have b1 := HC.out.c1
    have b2 := HC.out.c2
    go_wp2_with fail
    rw [← HW.out]
    refine (within_no k.K 1 6 _ hr2).mono ?_
    rintro e w' ⟨rfl, rfl⟩
    clear HW
    go_wp2
    go_ret
    exact ⟨by rw [HO.out]; rfl, HB.out.below⟩

set_option maxRecDepth 100000 in
set_option maxHeartbeats 3200000 in
theorem FormatClaim_i1 (k : Clm) (w : World) (h : RdK w w.heap.size k) (hs : SmK k) (hI : I64K k) (ht : Tb w) (hK : k.K = 1) (hyes : (1 ≤ k.K ∧ k.K ≤ 6) ∧ okB k.s k.n0 k.x0 = true) :
    Calls Tryd.prog 14 #[.agg #[.int .i64 1, .int .i64 k.s, .slice k.A0 k.n0 k.c0, .string k.t, .slice k.A1 k.n1 k.c1, .slice k.A2 k.n2 k.c2, .slice k.A3 k.D.length k.c3]] w fun e w' => e = .returned (.string (fcB k)) ∧ Below w.heap.size w w' := by
  obtain ⟨W, hW⟩ : ∃ W : World, W = (w.alloc (Obj.cells #[.int .i64 1, .int .i64 k.s, .slice k.A0 k.n0 k.c0, .string k.t, .slice k.A1 k.n1 k.c1, .slice k.A2 k.n2 k.c2, .slice k.A3 k.D.length k.c3] 39)) := ⟨_, rfl⟩
  have HB : Hid (From w W) := by rw [hW]; exact From.alloc _ _
  have HC : Hid (CB W w.heap.size 1 k) := by rw [hW]; exact CB.new _ _ _
  have HR : Hid (∀ z, Below w.heap.size w z → RdK z z.heap.size k) := fun z hz => h.keep hz hz.size
  have HW := Lib.hid hW
  obtain ⟨s0, s1, s2, s3, s4, s5⟩ := hs
  clear hW h
  have HT := Lib.hid ht
  clear ht
  have HY : Hid (fcB k = fcY k) := fcB_yes hyes
  have HHd : Hid (fcH k = cwB 1 ++ ⟨#[32]⟩ ++ fgB k.s k.n0 k.x0) := by show _ = _; unfold fcH; rw [hK]
  have hwsz := cwB_size (K := 1) (by omega)
  have hgsz := fgB_size (s := k.s) (m := k.n0) (x := k.x0)
  have hg2 := fgB_some hyes.2
  have KG : Hid (∀ z, Below w.heap.size w z → _) := fun z hz => FormatGraph_i k.s k.A0 k.n0 k.c0 k.x0 z (HR.out z hz).1 s0
  have KW : Hid (∀ z : World, _) := fun z => ClaimWord_iy 1 (by omega) z
  have HX := Lib.hid (fcY_1 hK)
  have KN1 : Hid (∀ z, Below w.heap.size w z → _) := fun z hz => numbersText_i k.A1 k.n1 k.c1 k.x1 z (HR.out z hz).2.1 hI.1 s2 (HT.out.keep hz)
  have z1 := nmB_size hI.1
  have KN2 : Hid (∀ z, Below w.heap.size w z → _) := fun z hz => numbersText_i k.A2 k.n2 k.c2 k.x2 z (HR.out z hz).2.2.1 hI.2.1 s3 (HT.out.keep hz)
  have z2 := nmB_size hI.2.1
  have KI : Hid (∀ z, Below w.heap.size w z → _) := fun z hz => IsGraph_any k.s k.A0 k.n0 k.c0 k.x0 z z.heap.size (HR.out z hz).1 (Nat.le_refl _) s0
  rw [hyes.2] at KI
  obtain ⟨G, hG⟩ : ∃ X, X = fgB k.s k.n0 k.x0 := ⟨_, rfl⟩
  rw [← hG] at KG hgsz hg2 HHd
  obtain ⟨Wd, hWd⟩ : ∃ X, X = cwB 1 := ⟨_, rfl⟩
  rw [← hWd] at KW hwsz HHd
  obtain ⟨Hd, hHd⟩ : ∃ X, X = fcH k := ⟨_, rfl⟩
  rw [← hHd] at HHd HX
  obtain ⟨N1, hN1⟩ : ∃ X, X = nmB k.x1 k.n1 := ⟨_, rfl⟩
  rw [← hN1] at KN1 z1 HX
  obtain ⟨N2, hN2⟩ : ∃ X, X = nmB k.x2 k.n2 := ⟨_, rfl⟩
  rw [← hN2] at KN2 z2 HX
  have HE2 : Hid (fcB k = fcY k) := HY.out
  clear HY hG hWd hHd hN1 hN2
  have HJ : Hid (Lib.join (([Wd, G, ⟨#[111, 102]⟩, k.t, ⟨#[98, 121]⟩, N1, ⟨#[97, 110, 100]⟩, N2] : List ByteArray).map (·.data.toList)) [32] = (fcB k).data.toList) := by show _ = _; rw [HE2.out, HX.out, HHd.out]; simp [Lib.join_cons, Lib.joinTail]
  have a1 : (⟨#[32]⟩ : ByteArray).size = 1 := rfl
  have a2 : (⟨#[32, 111, 102, 32]⟩ : ByteArray).size = 4 := rfl
  have a3 : (⟨#[32, 98, 121, 32]⟩ : ByteArray).size = 4 := rfl
  have a4 : (⟨#[32, 97, 110, 100, 32]⟩ : ByteArray).size = 5 := rfl
  have HJs : Hid ((fcB k).size ≤ 140737488355328) := by show _ ≤ _; rw [HE2.out, HX.out, HHd.out]; simp only [ByteArray.size_append]; omega
  clear hyes hI HR hwsz hgsz hg2 a1 a2 a3 a4 z1 z2 HX HHd
  go_enter Tryd.func14, Tryd.ntmps14
  have b0 := HC.out.c0
  have b1 := HC.out.c1
  have b2 := HC.out.c2
  go_wp2_with fail
  rw [← HW.out]
  refine (within_yes 1 1 6 _ (by decide) (by decide)).mono ?_
  rintro e w' ⟨rfl, rfl⟩
  clear HW
  go_wp2_with fail
  refine (KI.out W HB.out.below).mono ?_
  rintro e w1 ⟨rfl, hb1⟩
  clear b0 b1 b2
  replace HB := Lib.hid (HB.out.keep hb1)
  replace HC := Lib.hid (HC.out.keep hb1)
  clear hb1
  have b0 := HC.out.c0
  have b1 := HC.out.c1
  have b2 := HC.out.c2
  go_wp2
  have HSC : Hid (∀ z : World, Below w1.heap.size w1 z → (Below w1.heap.size w1 z ∧ z.cell? ⟨w.heap.size, 0, none⟩ = some (.int .i64 1) ∧ z.cell? ⟨w.heap.size, 1, none⟩ = some (.int .i64 k.s) ∧ z.cell? ⟨w.heap.size, 2, none⟩ = some (.slice k.A0 k.n0 k.c0))) := fun z hz => ⟨hz, up_ hz b0, up_ hz b1, up_ hz b2⟩
  have HZ0 : Hid (Below w1.heap.size w1 w1.drew) := (Below.refl _ _).drew
  have HS1 := Lib.hid (HSC.out _ HZ0.out)
  have KR1 : Hid (∀ z : World, Below w1.heap.size w1 z → _) := fun z hz => KW.out z
  have KR2 : Hid (∀ z : World, Below w1.heap.size w1 z → _) := fun z hz => KG.out z (HB.out.below.trans (hz.mono HB.out.below.size))
  go_region_held3 (fun z => Below w1.heap.size w1 z ∧ z.cell? ⟨w.heap.size, 0, none⟩ = some (.int .i64 1) ∧ z.cell? ⟨w.heap.size, 1, none⟩ = some (.int .i64 k.s) ∧ z.cell? ⟨w.heap.size, 2, none⟩ = some (.slice k.A0 k.n0 k.c0))
    (first | exact HS1.out | assumption | exact HSC.out _ hz3 | exact HSC.out _ hz2 | exact HSC.out _ (bl_alloc hz3) | fail)
    (first | (go_at_call 40; ((with_reducible refine (KR1.out _ HZ0.out).mono ?_); rintro e w2 ⟨rfl, hb2⟩; have hz2 := bl_trans HZ0.out hb2)) | (go_at_call 41; ((with_reducible refine (KR2.out _ hz2).mono ?_); rintro e w3 ⟨rfl, hb3⟩; have hz3 := bl_trans hz2 hb3)))
  clear b0 b1 b2
  replace HB := Lib.hid (HB.out.keep hz3)
  replace HC := Lib.hid (HC.out.keep hz3)
  clear hb2 hz2 hb3 hz3 HSC HZ0 HS1 KR1 KR2
  have b0 := HC.out.c0
  have b1 := HC.out.c1
  have b2 := HC.out.c2
  obtain ⟨v0, hv0⟩ : ∃ z : World, z = w3.alloc (Obj.cells #[.string Wd, .string G] 9) := ⟨_, rfl⟩
  have HF : Hid (FW w 1 k v0 w3.heap.size 2 2 [Wd, G]) := by
    rw [hv0]
    exact ⟨HB.out.alloc_ _, HC.out.keep ((Below.refl _ _).alloc (Nat.le_refl _) _), (own_texts w3 [Wd, G] 2 rfl (by omega)).mono HC.out.lt (Nat.le_refl _)⟩
  rw [← hv0]
  obtain ⟨g0, hg0⟩ : ∃ g, g = w3.heap.size := ⟨_, rfl⟩
  rw [← hg0] at HF ⊢
  clear hv0 hg0 b0 b1 b2 HB HC KW KG KI
  have b0 := HF.out.box.c0
  have b1 := HF.out.box.c1
  have b2 := HF.out.box.c2
  have b3 := HF.out.box.c3
  have b4 := HF.out.box.c4
  have b5 := HF.out.box.c5
  have b6 := HF.out.box.c6
  go_wp2_with (first | (at_builtin; (refine wpList_pushSs (v0.alloc (Obj.cells #[.string ⟨#[111, 102]⟩, .string k.t] 9)) rfl _ _ rfl (w.heap.size + 1) _ (some ⟨g0, 0, none⟩) 2 2 4 2 [Wd, G] [⟨#[111, 102]⟩, k.t] rfl rfl rfl (by omega) (by omega) rfl (HF.out.own.alloc _) (by have := HF.out.lt; simp; omega) v0.heap.size 2 (heap_alloc_new v0 _) rfl ?_; intro g1 c1 v1 ho1 hb1; refine Hid.out ?_)))
  refine Lib.hid ?_
  clear b0 b1 b2 b3 b4 b5 b6
  replace HF := Lib.hid (HF.out.next _ hb1 ho1)
  clear ho1 hb1
  have b0 := HF.out.box.c0
  have b1 := HF.out.box.c1
  have b2 := HF.out.box.c2
  have b3 := HF.out.box.c3
  have b4 := HF.out.box.c4
  have b5 := HF.out.box.c5
  have b6 := HF.out.box.c6
  go_wp2_with fail
  refine (KN1.out v1 HF.out.from_.below).mono ?_
  rintro e u2 ⟨rfl, hu2⟩
  clear b0 b1 b2 b3 b4 b5 b6
  replace HF := Lib.hid (HF.out.keep hu2)
  clear hu2
  have b0 := HF.out.box.c0
  have b1 := HF.out.box.c1
  have b2 := HF.out.box.c2
  have b3 := HF.out.box.c3
  have b4 := HF.out.box.c4
  have b5 := HF.out.box.c5
  have b6 := HF.out.box.c6
  go_wp2_with (first | (at_builtin; (refine wpList_pushSs (u2.alloc (Obj.cells #[.string ⟨#[98, 121]⟩, .string N1] 9)) rfl _ _ rfl (w.heap.size + 1) _ (some ⟨g1, 0, none⟩) 4 2 6 c1 [Wd, G, ⟨#[111, 102]⟩, k.t] [⟨#[98, 121]⟩, N1] rfl rfl rfl (by omega) (by omega) rfl (HF.out.own.alloc _) (by have := HF.out.lt; simp; omega) u2.heap.size 2 (heap_alloc_new u2 _) rfl ?_; intro g2 c2 v2 ho2 hb2; refine Hid.out ?_)))
  refine Lib.hid ?_
  clear b0 b1 b2 b3 b4 b5 b6
  replace HF := Lib.hid (HF.out.next _ hb2 ho2)
  clear ho2 hb2
  have b0 := HF.out.box.c0
  have b1 := HF.out.box.c1
  have b2 := HF.out.box.c2
  have b3 := HF.out.box.c3
  have b4 := HF.out.box.c4
  have b5 := HF.out.box.c5
  have b6 := HF.out.box.c6
  go_wp2_with fail
  refine (KN2.out v2 HF.out.from_.below).mono ?_
  rintro e u3 ⟨rfl, hu3⟩
  clear b0 b1 b2 b3 b4 b5 b6
  replace HF := Lib.hid (HF.out.keep hu3)
  clear hu3
  have b0 := HF.out.box.c0
  have b1 := HF.out.box.c1
  have b2 := HF.out.box.c2
  have b3 := HF.out.box.c3
  have b4 := HF.out.box.c4
  have b5 := HF.out.box.c5
  have b6 := HF.out.box.c6
  go_wp2_with (first | (at_builtin; (refine wpList_pushSs (u3.alloc (Obj.cells #[.string ⟨#[97, 110, 100]⟩, .string N2] 9)) rfl _ _ rfl (w.heap.size + 1) _ (some ⟨g2, 0, none⟩) 6 2 8 c2 [Wd, G, ⟨#[111, 102]⟩, k.t, ⟨#[98, 121]⟩, N1] [⟨#[97, 110, 100]⟩, N2] rfl rfl rfl (by omega) (by omega) rfl (HF.out.own.alloc _) (by have := HF.out.lt; simp; omega) u3.heap.size 2 (heap_alloc_new u3 _) rfl ?_; intro g3 c3 v3 ho3 hb3; refine Hid.out ?_)))
  refine Lib.hid ?_
  clear b0 b1 b2 b3 b4 b5 b6
  replace HF := Lib.hid (HF.out.next _ hb3 ho3)
  clear ho3 hb3
  have b0 := HF.out.box.c0
  have b1 := HF.out.box.c1
  have b2 := HF.out.box.c2
  have b3 := HF.out.box.c3
  have b4 := HF.out.box.c4
  have b5 := HF.out.box.c5
  have b6 := HF.out.box.c6
  have KJ := Lib.hid (join_own g3 8 c3 [Wd, G, ⟨#[111, 102]⟩, k.t, ⟨#[98, 121]⟩, N1, ⟨#[97, 110, 100]⟩, N2] (fcB k) ⟨#[32]⟩ v3 (w.heap.size + 1) rfl HF.out.own HJ.out (by omega) HJs.out)
  go_wp2_with fail
  refine KJ.out.mono ?_
  rintro e z1 ⟨rfl, hz1⟩
  have HB := Lib.hid (HF.out.from_.keep hz1)
  clear hz1 b0 b1 b2 b3 b4 b5 b6
  go_wp2
  go_ret
  exact ⟨rfl, HB.out.below⟩

set_option maxRecDepth 100000 in
set_option maxHeartbeats 3200000 in
theorem FormatClaim_i2 (k : Clm) (w : World) (h : RdK w w.heap.size k) (hs : SmK k) (hI : I64K k) (ht : Tb w) (hK : k.K = 2) (hyes : (1 ≤ k.K ∧ k.K ≤ 6) ∧ okB k.s k.n0 k.x0 = true) :
    Calls Tryd.prog 14 #[.agg #[.int .i64 2, .int .i64 k.s, .slice k.A0 k.n0 k.c0, .string k.t, .slice k.A1 k.n1 k.c1, .slice k.A2 k.n2 k.c2, .slice k.A3 k.D.length k.c3]] w fun e w' => e = .returned (.string (fcB k)) ∧ Below w.heap.size w w' := by
  obtain ⟨W, hW⟩ : ∃ W : World, W = (w.alloc (Obj.cells #[.int .i64 2, .int .i64 k.s, .slice k.A0 k.n0 k.c0, .string k.t, .slice k.A1 k.n1 k.c1, .slice k.A2 k.n2 k.c2, .slice k.A3 k.D.length k.c3] 39)) := ⟨_, rfl⟩
  have HB : Hid (From w W) := by rw [hW]; exact From.alloc _ _
  have HC : Hid (CB W w.heap.size 2 k) := by rw [hW]; exact CB.new _ _ _
  have HR : Hid (∀ z, Below w.heap.size w z → RdK z z.heap.size k) := fun z hz => h.keep hz hz.size
  have HW := Lib.hid hW
  obtain ⟨s0, s1, s2, s3, s4, s5⟩ := hs
  clear hW h
  have HT := Lib.hid ht
  clear ht
  have HY : Hid (fcB k = fcY k) := fcB_yes hyes
  have HHd : Hid (fcH k = cwB 2 ++ ⟨#[32]⟩ ++ fgB k.s k.n0 k.x0) := by show _ = _; unfold fcH; rw [hK]
  have hwsz := cwB_size (K := 2) (by omega)
  have hgsz := fgB_size (s := k.s) (m := k.n0) (x := k.x0)
  have hg2 := fgB_some hyes.2
  have KG : Hid (∀ z, Below w.heap.size w z → _) := fun z hz => FormatGraph_i k.s k.A0 k.n0 k.c0 k.x0 z (HR.out z hz).1 s0
  have KW : Hid (∀ z : World, _) := fun z => ClaimWord_iy 2 (by omega) z
  have HX := Lib.hid (fcY_2 hK)
  have KN1 : Hid (∀ z, Below w.heap.size w z → _) := fun z hz => numbersText_i k.A1 k.n1 k.c1 k.x1 z (HR.out z hz).2.1 hI.1 s2 (HT.out.keep hz)
  have z1 := nmB_size hI.1
  have KI : Hid (∀ z, Below w.heap.size w z → _) := fun z hz => IsGraph_any k.s k.A0 k.n0 k.c0 k.x0 z z.heap.size (HR.out z hz).1 (Nat.le_refl _) s0
  rw [hyes.2] at KI
  obtain ⟨G, hG⟩ : ∃ X, X = fgB k.s k.n0 k.x0 := ⟨_, rfl⟩
  rw [← hG] at KG hgsz hg2 HHd
  obtain ⟨Wd, hWd⟩ : ∃ X, X = cwB 2 := ⟨_, rfl⟩
  rw [← hWd] at KW hwsz HHd
  obtain ⟨Hd, hHd⟩ : ∃ X, X = fcH k := ⟨_, rfl⟩
  rw [← hHd] at HHd HX
  obtain ⟨N1, hN1⟩ : ∃ X, X = nmB k.x1 k.n1 := ⟨_, rfl⟩
  rw [← hN1] at KN1 z1 HX
  have HE2 : Hid (fcB k = fcY k) := HY.out
  clear HY hG hWd hHd hN1
  have HJ : Hid (Lib.join (([Wd, G, ⟨#[111, 102]⟩, k.t, ⟨#[98, 121]⟩, N1] : List ByteArray).map (·.data.toList)) [32] = (fcB k).data.toList) := by show _ = _; rw [HE2.out, HX.out, HHd.out]; simp [Lib.join_cons, Lib.joinTail]
  have a1 : (⟨#[32]⟩ : ByteArray).size = 1 := rfl
  have a2 : (⟨#[32, 111, 102, 32]⟩ : ByteArray).size = 4 := rfl
  have a3 : (⟨#[32, 98, 121, 32]⟩ : ByteArray).size = 4 := rfl
  have a4 : (⟨#[32, 97, 110, 100, 32]⟩ : ByteArray).size = 5 := rfl
  have HJs : Hid ((fcB k).size ≤ 140737488355328) := by show _ ≤ _; rw [HE2.out, HX.out, HHd.out]; simp only [ByteArray.size_append]; omega
  clear hyes hI HR hwsz hgsz hg2 a1 a2 a3 a4 z1 HX HHd
  go_enter Tryd.func14, Tryd.ntmps14
  have b0 := HC.out.c0
  have b1 := HC.out.c1
  have b2 := HC.out.c2
  go_wp2_with fail
  rw [← HW.out]
  refine (within_yes 2 1 6 _ (by decide) (by decide)).mono ?_
  rintro e w' ⟨rfl, rfl⟩
  clear HW
  go_wp2_with fail
  refine (KI.out W HB.out.below).mono ?_
  rintro e w1 ⟨rfl, hb1⟩
  clear b0 b1 b2
  replace HB := Lib.hid (HB.out.keep hb1)
  replace HC := Lib.hid (HC.out.keep hb1)
  clear hb1
  have b0 := HC.out.c0
  have b1 := HC.out.c1
  have b2 := HC.out.c2
  go_wp2
  have HSC : Hid (∀ z : World, Below w1.heap.size w1 z → (Below w1.heap.size w1 z ∧ z.cell? ⟨w.heap.size, 0, none⟩ = some (.int .i64 2) ∧ z.cell? ⟨w.heap.size, 1, none⟩ = some (.int .i64 k.s) ∧ z.cell? ⟨w.heap.size, 2, none⟩ = some (.slice k.A0 k.n0 k.c0))) := fun z hz => ⟨hz, up_ hz b0, up_ hz b1, up_ hz b2⟩
  have HZ0 : Hid (Below w1.heap.size w1 w1.drew) := (Below.refl _ _).drew
  have HS1 := Lib.hid (HSC.out _ HZ0.out)
  have KR1 : Hid (∀ z : World, Below w1.heap.size w1 z → _) := fun z hz => KW.out z
  have KR2 : Hid (∀ z : World, Below w1.heap.size w1 z → _) := fun z hz => KG.out z (HB.out.below.trans (hz.mono HB.out.below.size))
  go_region_held3 (fun z => Below w1.heap.size w1 z ∧ z.cell? ⟨w.heap.size, 0, none⟩ = some (.int .i64 2) ∧ z.cell? ⟨w.heap.size, 1, none⟩ = some (.int .i64 k.s) ∧ z.cell? ⟨w.heap.size, 2, none⟩ = some (.slice k.A0 k.n0 k.c0))
    (first | exact HS1.out | assumption | exact HSC.out _ hz3 | exact HSC.out _ hz2 | exact HSC.out _ (bl_alloc hz3) | fail)
    (first | (go_at_call 40; ((with_reducible refine (KR1.out _ HZ0.out).mono ?_); rintro e w2 ⟨rfl, hb2⟩; have hz2 := bl_trans HZ0.out hb2)) | (go_at_call 41; ((with_reducible refine (KR2.out _ hz2).mono ?_); rintro e w3 ⟨rfl, hb3⟩; have hz3 := bl_trans hz2 hb3)))
  clear b0 b1 b2
  replace HB := Lib.hid (HB.out.keep hz3)
  replace HC := Lib.hid (HC.out.keep hz3)
  clear hb2 hz2 hb3 hz3 HSC HZ0 HS1 KR1 KR2
  have b0 := HC.out.c0
  have b1 := HC.out.c1
  have b2 := HC.out.c2
  obtain ⟨v0, hv0⟩ : ∃ z : World, z = w3.alloc (Obj.cells #[.string Wd, .string G] 9) := ⟨_, rfl⟩
  have HF : Hid (FW w 2 k v0 w3.heap.size 2 2 [Wd, G]) := by
    rw [hv0]
    exact ⟨HB.out.alloc_ _, HC.out.keep ((Below.refl _ _).alloc (Nat.le_refl _) _), (own_texts w3 [Wd, G] 2 rfl (by omega)).mono HC.out.lt (Nat.le_refl _)⟩
  rw [← hv0]
  obtain ⟨g0, hg0⟩ : ∃ g, g = w3.heap.size := ⟨_, rfl⟩
  rw [← hg0] at HF ⊢
  clear hv0 hg0 b0 b1 b2 HB HC KW KG KI
  have b0 := HF.out.box.c0
  have b1 := HF.out.box.c1
  have b2 := HF.out.box.c2
  have b3 := HF.out.box.c3
  have b4 := HF.out.box.c4
  have b5 := HF.out.box.c5
  have b6 := HF.out.box.c6
  go_wp2_with (first | (at_builtin; (refine wpList_pushSs (v0.alloc (Obj.cells #[.string ⟨#[111, 102]⟩, .string k.t] 9)) rfl _ _ rfl (w.heap.size + 1) _ (some ⟨g0, 0, none⟩) 2 2 4 2 [Wd, G] [⟨#[111, 102]⟩, k.t] rfl rfl rfl (by omega) (by omega) rfl (HF.out.own.alloc _) (by have := HF.out.lt; simp; omega) v0.heap.size 2 (heap_alloc_new v0 _) rfl ?_; intro g1 c1 v1 ho1 hb1; refine Hid.out ?_)))
  refine Lib.hid ?_
  clear b0 b1 b2 b3 b4 b5 b6
  replace HF := Lib.hid (HF.out.next _ hb1 ho1)
  clear ho1 hb1
  have b0 := HF.out.box.c0
  have b1 := HF.out.box.c1
  have b2 := HF.out.box.c2
  have b3 := HF.out.box.c3
  have b4 := HF.out.box.c4
  have b5 := HF.out.box.c5
  have b6 := HF.out.box.c6
  go_wp2_with fail
  refine (KN1.out v1 HF.out.from_.below).mono ?_
  rintro e u2 ⟨rfl, hu2⟩
  clear b0 b1 b2 b3 b4 b5 b6
  replace HF := Lib.hid (HF.out.keep hu2)
  clear hu2
  have b0 := HF.out.box.c0
  have b1 := HF.out.box.c1
  have b2 := HF.out.box.c2
  have b3 := HF.out.box.c3
  have b4 := HF.out.box.c4
  have b5 := HF.out.box.c5
  have b6 := HF.out.box.c6
  go_wp2_with (first | (at_builtin; (refine wpList_pushSs (u2.alloc (Obj.cells #[.string ⟨#[98, 121]⟩, .string N1] 9)) rfl _ _ rfl (w.heap.size + 1) _ (some ⟨g1, 0, none⟩) 4 2 6 c1 [Wd, G, ⟨#[111, 102]⟩, k.t] [⟨#[98, 121]⟩, N1] rfl rfl rfl (by omega) (by omega) rfl (HF.out.own.alloc _) (by have := HF.out.lt; simp; omega) u2.heap.size 2 (heap_alloc_new u2 _) rfl ?_; intro g2 c2 v2 ho2 hb2; refine Hid.out ?_)))
  refine Lib.hid ?_
  clear b0 b1 b2 b3 b4 b5 b6
  replace HF := Lib.hid (HF.out.next _ hb2 ho2)
  clear ho2 hb2
  have b0 := HF.out.box.c0
  have b1 := HF.out.box.c1
  have b2 := HF.out.box.c2
  have b3 := HF.out.box.c3
  have b4 := HF.out.box.c4
  have b5 := HF.out.box.c5
  have b6 := HF.out.box.c6
  have KJ := Lib.hid (join_own g2 6 c2 [Wd, G, ⟨#[111, 102]⟩, k.t, ⟨#[98, 121]⟩, N1] (fcB k) ⟨#[32]⟩ v2 (w.heap.size + 1) rfl HF.out.own HJ.out (by omega) HJs.out)
  go_wp2_with fail
  refine KJ.out.mono ?_
  rintro e z1 ⟨rfl, hz1⟩
  have HB := Lib.hid (HF.out.from_.keep hz1)
  clear hz1 b0 b1 b2 b3 b4 b5 b6
  go_wp2
  go_ret
  exact ⟨rfl, HB.out.below⟩

set_option maxRecDepth 100000 in
set_option maxHeartbeats 3200000 in
theorem FormatClaim_i3 (k : Clm) (w : World) (h : RdK w w.heap.size k) (hs : SmK k) (hI : I64K k) (ht : Tb w) (hK : k.K = 3) (hyes : (1 ≤ k.K ∧ k.K ≤ 6) ∧ okB k.s k.n0 k.x0 = true) :
    Calls Tryd.prog 14 #[.agg #[.int .i64 3, .int .i64 k.s, .slice k.A0 k.n0 k.c0, .string k.t, .slice k.A1 k.n1 k.c1, .slice k.A2 k.n2 k.c2, .slice k.A3 k.D.length k.c3]] w fun e w' => e = .returned (.string (fcB k)) ∧ Below w.heap.size w w' := by
  obtain ⟨W, hW⟩ : ∃ W : World, W = (w.alloc (Obj.cells #[.int .i64 3, .int .i64 k.s, .slice k.A0 k.n0 k.c0, .string k.t, .slice k.A1 k.n1 k.c1, .slice k.A2 k.n2 k.c2, .slice k.A3 k.D.length k.c3] 39)) := ⟨_, rfl⟩
  have HB : Hid (From w W) := by rw [hW]; exact From.alloc _ _
  have HC : Hid (CB W w.heap.size 3 k) := by rw [hW]; exact CB.new _ _ _
  have HR : Hid (∀ z, Below w.heap.size w z → RdK z z.heap.size k) := fun z hz => h.keep hz hz.size
  have HW := Lib.hid hW
  obtain ⟨s0, s1, s2, s3, s4, s5⟩ := hs
  clear hW h
  have HT := Lib.hid ht
  clear ht
  have HY : Hid (fcB k = fcY k) := fcB_yes hyes
  have HHd : Hid (fcH k = cwB 3 ++ ⟨#[32]⟩ ++ fgB k.s k.n0 k.x0) := by show _ = _; unfold fcH; rw [hK]
  have hwsz := cwB_size (K := 3) (by omega)
  have hgsz := fgB_size (s := k.s) (m := k.n0) (x := k.x0)
  have hg2 := fgB_some hyes.2
  have KG : Hid (∀ z, Below w.heap.size w z → _) := fun z hz => FormatGraph_i k.s k.A0 k.n0 k.c0 k.x0 z (HR.out z hz).1 s0
  have KW : Hid (∀ z : World, _) := fun z => ClaimWord_iy 3 (by omega) z
  have HX := Lib.hid (fcY_3 (k := k) (by omega) (by omega) (by omega))
  have KN1 : Hid (∀ z, Below w.heap.size w z → _) := fun z hz => numbersText_i k.A1 k.n1 k.c1 k.x1 z (HR.out z hz).2.1 hI.1 s2 (HT.out.keep hz)
  have z1 := nmB_size hI.1
  have KN2 : Hid (∀ z, Below w.heap.size w z → _) := fun z hz => numbersText_i k.A2 k.n2 k.c2 k.x2 z (HR.out z hz).2.2.1 hI.2.1 s3 (HT.out.keep hz)
  have z2 := nmB_size hI.2.1
  have KI : Hid (∀ z, Below w.heap.size w z → _) := fun z hz => IsGraph_any k.s k.A0 k.n0 k.c0 k.x0 z z.heap.size (HR.out z hz).1 (Nat.le_refl _) s0
  rw [hyes.2] at KI
  obtain ⟨G, hG⟩ : ∃ X, X = fgB k.s k.n0 k.x0 := ⟨_, rfl⟩
  rw [← hG] at KG hgsz hg2 HHd
  obtain ⟨Wd, hWd⟩ : ∃ X, X = cwB 3 := ⟨_, rfl⟩
  rw [← hWd] at KW hwsz HHd
  obtain ⟨Hd, hHd⟩ : ∃ X, X = fcH k := ⟨_, rfl⟩
  rw [← hHd] at HHd HX
  obtain ⟨N1, hN1⟩ : ∃ X, X = nmB k.x1 k.n1 := ⟨_, rfl⟩
  rw [← hN1] at KN1 z1 HX
  obtain ⟨N2, hN2⟩ : ∃ X, X = nmB k.x2 k.n2 := ⟨_, rfl⟩
  rw [← hN2] at KN2 z2 HX
  have HE2 : Hid (fcB k = fcY k) := HY.out
  clear HY hG hWd hHd hN1 hN2
  have HJ : Hid (Lib.join (([Wd, G, ⟨#[98, 121]⟩, N1, ⟨#[97, 110, 100]⟩, N2] : List ByteArray).map (·.data.toList)) [32] = (fcB k).data.toList) := by show _ = _; rw [HE2.out, HX.out, HHd.out]; simp [Lib.join_cons, Lib.joinTail]
  have a1 : (⟨#[32]⟩ : ByteArray).size = 1 := rfl
  have a2 : (⟨#[32, 111, 102, 32]⟩ : ByteArray).size = 4 := rfl
  have a3 : (⟨#[32, 98, 121, 32]⟩ : ByteArray).size = 4 := rfl
  have a4 : (⟨#[32, 97, 110, 100, 32]⟩ : ByteArray).size = 5 := rfl
  have HJs : Hid ((fcB k).size ≤ 140737488355328) := by show _ ≤ _; rw [HE2.out, HX.out, HHd.out]; simp only [ByteArray.size_append]; omega
  clear hyes hI HR hwsz hgsz hg2 a1 a2 a3 a4 z1 z2 HX HHd
  go_enter Tryd.func14, Tryd.ntmps14
  have b0 := HC.out.c0
  have b1 := HC.out.c1
  have b2 := HC.out.c2
  go_wp2_with fail
  rw [← HW.out]
  refine (within_yes 3 1 6 _ (by decide) (by decide)).mono ?_
  rintro e w' ⟨rfl, rfl⟩
  clear HW
  go_wp2_with fail
  refine (KI.out W HB.out.below).mono ?_
  rintro e w1 ⟨rfl, hb1⟩
  clear b0 b1 b2
  replace HB := Lib.hid (HB.out.keep hb1)
  replace HC := Lib.hid (HC.out.keep hb1)
  clear hb1
  have b0 := HC.out.c0
  have b1 := HC.out.c1
  have b2 := HC.out.c2
  go_wp2
  have HSC : Hid (∀ z : World, Below w1.heap.size w1 z → (Below w1.heap.size w1 z ∧ z.cell? ⟨w.heap.size, 0, none⟩ = some (.int .i64 3) ∧ z.cell? ⟨w.heap.size, 1, none⟩ = some (.int .i64 k.s) ∧ z.cell? ⟨w.heap.size, 2, none⟩ = some (.slice k.A0 k.n0 k.c0))) := fun z hz => ⟨hz, up_ hz b0, up_ hz b1, up_ hz b2⟩
  have HZ0 : Hid (Below w1.heap.size w1 w1.drew) := (Below.refl _ _).drew
  have HS1 := Lib.hid (HSC.out _ HZ0.out)
  have KR1 : Hid (∀ z : World, Below w1.heap.size w1 z → _) := fun z hz => KW.out z
  have KR2 : Hid (∀ z : World, Below w1.heap.size w1 z → _) := fun z hz => KG.out z (HB.out.below.trans (hz.mono HB.out.below.size))
  go_region_held3 (fun z => Below w1.heap.size w1 z ∧ z.cell? ⟨w.heap.size, 0, none⟩ = some (.int .i64 3) ∧ z.cell? ⟨w.heap.size, 1, none⟩ = some (.int .i64 k.s) ∧ z.cell? ⟨w.heap.size, 2, none⟩ = some (.slice k.A0 k.n0 k.c0))
    (first | exact HS1.out | assumption | exact HSC.out _ hz3 | exact HSC.out _ hz2 | exact HSC.out _ (bl_alloc hz3) | fail)
    (first | (go_at_call 40; ((with_reducible refine (KR1.out _ HZ0.out).mono ?_); rintro e w2 ⟨rfl, hb2⟩; have hz2 := bl_trans HZ0.out hb2)) | (go_at_call 41; ((with_reducible refine (KR2.out _ hz2).mono ?_); rintro e w3 ⟨rfl, hb3⟩; have hz3 := bl_trans hz2 hb3)))
  clear b0 b1 b2
  replace HB := Lib.hid (HB.out.keep hz3)
  replace HC := Lib.hid (HC.out.keep hz3)
  clear hb2 hz2 hb3 hz3 HSC HZ0 HS1 KR1 KR2
  have b0 := HC.out.c0
  have b1 := HC.out.c1
  have b2 := HC.out.c2
  obtain ⟨v0, hv0⟩ : ∃ z : World, z = w3.alloc (Obj.cells #[.string Wd, .string G] 9) := ⟨_, rfl⟩
  have HF : Hid (FW w 3 k v0 w3.heap.size 2 2 [Wd, G]) := by
    rw [hv0]
    exact ⟨HB.out.alloc_ _, HC.out.keep ((Below.refl _ _).alloc (Nat.le_refl _) _), (own_texts w3 [Wd, G] 2 rfl (by omega)).mono HC.out.lt (Nat.le_refl _)⟩
  rw [← hv0]
  obtain ⟨g0, hg0⟩ : ∃ g, g = w3.heap.size := ⟨_, rfl⟩
  rw [← hg0] at HF ⊢
  clear hv0 hg0 b0 b1 b2 HB HC KW KG KI
  have b0 := HF.out.box.c0
  have b1 := HF.out.box.c1
  have b2 := HF.out.box.c2
  have b3 := HF.out.box.c3
  have b4 := HF.out.box.c4
  have b5 := HF.out.box.c5
  have b6 := HF.out.box.c6
  go_wp2_with fail
  refine (KN1.out v0 HF.out.from_.below).mono ?_
  rintro e u1 ⟨rfl, hu1⟩
  clear b0 b1 b2 b3 b4 b5 b6
  replace HF := Lib.hid (HF.out.keep hu1)
  clear hu1
  have b0 := HF.out.box.c0
  have b1 := HF.out.box.c1
  have b2 := HF.out.box.c2
  have b3 := HF.out.box.c3
  have b4 := HF.out.box.c4
  have b5 := HF.out.box.c5
  have b6 := HF.out.box.c6
  go_wp2_with (first | (at_builtin; (refine wpList_pushSs (u1.alloc (Obj.cells #[.string ⟨#[98, 121]⟩, .string N1] 9)) rfl _ _ rfl (w.heap.size + 1) _ (some ⟨g0, 0, none⟩) 2 2 4 2 [Wd, G] [⟨#[98, 121]⟩, N1] rfl rfl rfl (by omega) (by omega) rfl (HF.out.own.alloc _) (by have := HF.out.lt; simp; omega) u1.heap.size 2 (heap_alloc_new u1 _) rfl ?_; intro g1 c1 v1 ho1 hb1; refine Hid.out ?_)))
  refine Lib.hid ?_
  clear b0 b1 b2 b3 b4 b5 b6
  replace HF := Lib.hid (HF.out.next _ hb1 ho1)
  clear ho1 hb1
  have b0 := HF.out.box.c0
  have b1 := HF.out.box.c1
  have b2 := HF.out.box.c2
  have b3 := HF.out.box.c3
  have b4 := HF.out.box.c4
  have b5 := HF.out.box.c5
  have b6 := HF.out.box.c6
  go_wp2_with fail
  refine (KN2.out v1 HF.out.from_.below).mono ?_
  rintro e u2 ⟨rfl, hu2⟩
  clear b0 b1 b2 b3 b4 b5 b6
  replace HF := Lib.hid (HF.out.keep hu2)
  clear hu2
  have b0 := HF.out.box.c0
  have b1 := HF.out.box.c1
  have b2 := HF.out.box.c2
  have b3 := HF.out.box.c3
  have b4 := HF.out.box.c4
  have b5 := HF.out.box.c5
  have b6 := HF.out.box.c6
  go_wp2_with (first | (at_builtin; (refine wpList_pushSs (u2.alloc (Obj.cells #[.string ⟨#[97, 110, 100]⟩, .string N2] 9)) rfl _ _ rfl (w.heap.size + 1) _ (some ⟨g1, 0, none⟩) 4 2 6 c1 [Wd, G, ⟨#[98, 121]⟩, N1] [⟨#[97, 110, 100]⟩, N2] rfl rfl rfl (by omega) (by omega) rfl (HF.out.own.alloc _) (by have := HF.out.lt; simp; omega) u2.heap.size 2 (heap_alloc_new u2 _) rfl ?_; intro g2 c2 v2 ho2 hb2; refine Hid.out ?_)))
  refine Lib.hid ?_
  clear b0 b1 b2 b3 b4 b5 b6
  replace HF := Lib.hid (HF.out.next _ hb2 ho2)
  clear ho2 hb2
  have b0 := HF.out.box.c0
  have b1 := HF.out.box.c1
  have b2 := HF.out.box.c2
  have b3 := HF.out.box.c3
  have b4 := HF.out.box.c4
  have b5 := HF.out.box.c5
  have b6 := HF.out.box.c6
  have KJ := Lib.hid (join_own g2 6 c2 [Wd, G, ⟨#[98, 121]⟩, N1, ⟨#[97, 110, 100]⟩, N2] (fcB k) ⟨#[32]⟩ v2 (w.heap.size + 1) rfl HF.out.own HJ.out (by omega) HJs.out)
  go_wp2_with fail
  refine KJ.out.mono ?_
  rintro e z1 ⟨rfl, hz1⟩
  have HB := Lib.hid (HF.out.from_.keep hz1)
  clear hz1 b0 b1 b2 b3 b4 b5 b6
  go_wp2
  go_ret
  exact ⟨rfl, HB.out.below⟩

set_option maxRecDepth 100000 in
set_option maxHeartbeats 3200000 in
theorem FormatClaim_i4 (k : Clm) (w : World) (h : RdK w w.heap.size k) (hs : SmK k) (hI : I64K k) (ht : Tb w) (hK : k.K = 4) (hyes : (1 ≤ k.K ∧ k.K ≤ 6) ∧ okB k.s k.n0 k.x0 = true) :
    Calls Tryd.prog 14 #[.agg #[.int .i64 4, .int .i64 k.s, .slice k.A0 k.n0 k.c0, .string k.t, .slice k.A1 k.n1 k.c1, .slice k.A2 k.n2 k.c2, .slice k.A3 k.D.length k.c3]] w fun e w' => e = .returned (.string (fcB k)) ∧ Below w.heap.size w w' := by
  obtain ⟨W, hW⟩ : ∃ W : World, W = (w.alloc (Obj.cells #[.int .i64 4, .int .i64 k.s, .slice k.A0 k.n0 k.c0, .string k.t, .slice k.A1 k.n1 k.c1, .slice k.A2 k.n2 k.c2, .slice k.A3 k.D.length k.c3] 39)) := ⟨_, rfl⟩
  have HB : Hid (From w W) := by rw [hW]; exact From.alloc _ _
  have HC : Hid (CB W w.heap.size 4 k) := by rw [hW]; exact CB.new _ _ _
  have HR : Hid (∀ z, Below w.heap.size w z → RdK z z.heap.size k) := fun z hz => h.keep hz hz.size
  have HW := Lib.hid hW
  obtain ⟨s0, s1, s2, s3, s4, s5⟩ := hs
  clear hW h
  have HT := Lib.hid ht
  clear ht
  have HY : Hid (fcB k = fcY k) := fcB_yes hyes
  have HHd : Hid (fcH k = cwB 4 ++ ⟨#[32]⟩ ++ fgB k.s k.n0 k.x0) := by show _ = _; unfold fcH; rw [hK]
  have hwsz := cwB_size (K := 4) (by omega)
  have hgsz := fgB_size (s := k.s) (m := k.n0) (x := k.x0)
  have hg2 := fgB_some hyes.2
  have KG : Hid (∀ z, Below w.heap.size w z → _) := fun z hz => FormatGraph_i k.s k.A0 k.n0 k.c0 k.x0 z (HR.out z hz).1 s0
  have KW : Hid (∀ z : World, _) := fun z => ClaimWord_iy 4 (by omega) z
  have HX := Lib.hid (fcY_3 (k := k) (by omega) (by omega) (by omega))
  have KN1 : Hid (∀ z, Below w.heap.size w z → _) := fun z hz => numbersText_i k.A1 k.n1 k.c1 k.x1 z (HR.out z hz).2.1 hI.1 s2 (HT.out.keep hz)
  have z1 := nmB_size hI.1
  have KN2 : Hid (∀ z, Below w.heap.size w z → _) := fun z hz => numbersText_i k.A2 k.n2 k.c2 k.x2 z (HR.out z hz).2.2.1 hI.2.1 s3 (HT.out.keep hz)
  have z2 := nmB_size hI.2.1
  have KI : Hid (∀ z, Below w.heap.size w z → _) := fun z hz => IsGraph_any k.s k.A0 k.n0 k.c0 k.x0 z z.heap.size (HR.out z hz).1 (Nat.le_refl _) s0
  rw [hyes.2] at KI
  obtain ⟨G, hG⟩ : ∃ X, X = fgB k.s k.n0 k.x0 := ⟨_, rfl⟩
  rw [← hG] at KG hgsz hg2 HHd
  obtain ⟨Wd, hWd⟩ : ∃ X, X = cwB 4 := ⟨_, rfl⟩
  rw [← hWd] at KW hwsz HHd
  obtain ⟨Hd, hHd⟩ : ∃ X, X = fcH k := ⟨_, rfl⟩
  rw [← hHd] at HHd HX
  obtain ⟨N1, hN1⟩ : ∃ X, X = nmB k.x1 k.n1 := ⟨_, rfl⟩
  rw [← hN1] at KN1 z1 HX
  obtain ⟨N2, hN2⟩ : ∃ X, X = nmB k.x2 k.n2 := ⟨_, rfl⟩
  rw [← hN2] at KN2 z2 HX
  have HE2 : Hid (fcB k = fcY k) := HY.out
  clear HY hG hWd hHd hN1 hN2
  have HJ : Hid (Lib.join (([Wd, G, ⟨#[98, 121]⟩, N1, ⟨#[97, 110, 100]⟩, N2] : List ByteArray).map (·.data.toList)) [32] = (fcB k).data.toList) := by show _ = _; rw [HE2.out, HX.out, HHd.out]; simp [Lib.join_cons, Lib.joinTail]
  have a1 : (⟨#[32]⟩ : ByteArray).size = 1 := rfl
  have a2 : (⟨#[32, 111, 102, 32]⟩ : ByteArray).size = 4 := rfl
  have a3 : (⟨#[32, 98, 121, 32]⟩ : ByteArray).size = 4 := rfl
  have a4 : (⟨#[32, 97, 110, 100, 32]⟩ : ByteArray).size = 5 := rfl
  have HJs : Hid ((fcB k).size ≤ 140737488355328) := by show _ ≤ _; rw [HE2.out, HX.out, HHd.out]; simp only [ByteArray.size_append]; omega
  clear hyes hI HR hwsz hgsz hg2 a1 a2 a3 a4 z1 z2 HX HHd
  go_enter Tryd.func14, Tryd.ntmps14
  have b0 := HC.out.c0
  have b1 := HC.out.c1
  have b2 := HC.out.c2
  go_wp2_with fail
  rw [← HW.out]
  refine (within_yes 4 1 6 _ (by decide) (by decide)).mono ?_
  rintro e w' ⟨rfl, rfl⟩
  clear HW
  go_wp2_with fail
  refine (KI.out W HB.out.below).mono ?_
  rintro e w1 ⟨rfl, hb1⟩
  clear b0 b1 b2
  replace HB := Lib.hid (HB.out.keep hb1)
  replace HC := Lib.hid (HC.out.keep hb1)
  clear hb1
  have b0 := HC.out.c0
  have b1 := HC.out.c1
  have b2 := HC.out.c2
  go_wp2
  have HSC : Hid (∀ z : World, Below w1.heap.size w1 z → (Below w1.heap.size w1 z ∧ z.cell? ⟨w.heap.size, 0, none⟩ = some (.int .i64 4) ∧ z.cell? ⟨w.heap.size, 1, none⟩ = some (.int .i64 k.s) ∧ z.cell? ⟨w.heap.size, 2, none⟩ = some (.slice k.A0 k.n0 k.c0))) := fun z hz => ⟨hz, up_ hz b0, up_ hz b1, up_ hz b2⟩
  have HZ0 : Hid (Below w1.heap.size w1 w1.drew) := (Below.refl _ _).drew
  have HS1 := Lib.hid (HSC.out _ HZ0.out)
  have KR1 : Hid (∀ z : World, Below w1.heap.size w1 z → _) := fun z hz => KW.out z
  have KR2 : Hid (∀ z : World, Below w1.heap.size w1 z → _) := fun z hz => KG.out z (HB.out.below.trans (hz.mono HB.out.below.size))
  go_region_held3 (fun z => Below w1.heap.size w1 z ∧ z.cell? ⟨w.heap.size, 0, none⟩ = some (.int .i64 4) ∧ z.cell? ⟨w.heap.size, 1, none⟩ = some (.int .i64 k.s) ∧ z.cell? ⟨w.heap.size, 2, none⟩ = some (.slice k.A0 k.n0 k.c0))
    (first | exact HS1.out | assumption | exact HSC.out _ hz3 | exact HSC.out _ hz2 | exact HSC.out _ (bl_alloc hz3) | fail)
    (first | (go_at_call 40; ((with_reducible refine (KR1.out _ HZ0.out).mono ?_); rintro e w2 ⟨rfl, hb2⟩; have hz2 := bl_trans HZ0.out hb2)) | (go_at_call 41; ((with_reducible refine (KR2.out _ hz2).mono ?_); rintro e w3 ⟨rfl, hb3⟩; have hz3 := bl_trans hz2 hb3)))
  clear b0 b1 b2
  replace HB := Lib.hid (HB.out.keep hz3)
  replace HC := Lib.hid (HC.out.keep hz3)
  clear hb2 hz2 hb3 hz3 HSC HZ0 HS1 KR1 KR2
  have b0 := HC.out.c0
  have b1 := HC.out.c1
  have b2 := HC.out.c2
  obtain ⟨v0, hv0⟩ : ∃ z : World, z = w3.alloc (Obj.cells #[.string Wd, .string G] 9) := ⟨_, rfl⟩
  have HF : Hid (FW w 4 k v0 w3.heap.size 2 2 [Wd, G]) := by
    rw [hv0]
    exact ⟨HB.out.alloc_ _, HC.out.keep ((Below.refl _ _).alloc (Nat.le_refl _) _), (own_texts w3 [Wd, G] 2 rfl (by omega)).mono HC.out.lt (Nat.le_refl _)⟩
  rw [← hv0]
  obtain ⟨g0, hg0⟩ : ∃ g, g = w3.heap.size := ⟨_, rfl⟩
  rw [← hg0] at HF ⊢
  clear hv0 hg0 b0 b1 b2 HB HC KW KG KI
  have b0 := HF.out.box.c0
  have b1 := HF.out.box.c1
  have b2 := HF.out.box.c2
  have b3 := HF.out.box.c3
  have b4 := HF.out.box.c4
  have b5 := HF.out.box.c5
  have b6 := HF.out.box.c6
  go_wp2_with fail
  refine (KN1.out v0 HF.out.from_.below).mono ?_
  rintro e u1 ⟨rfl, hu1⟩
  clear b0 b1 b2 b3 b4 b5 b6
  replace HF := Lib.hid (HF.out.keep hu1)
  clear hu1
  have b0 := HF.out.box.c0
  have b1 := HF.out.box.c1
  have b2 := HF.out.box.c2
  have b3 := HF.out.box.c3
  have b4 := HF.out.box.c4
  have b5 := HF.out.box.c5
  have b6 := HF.out.box.c6
  go_wp2_with (first | (at_builtin; (refine wpList_pushSs (u1.alloc (Obj.cells #[.string ⟨#[98, 121]⟩, .string N1] 9)) rfl _ _ rfl (w.heap.size + 1) _ (some ⟨g0, 0, none⟩) 2 2 4 2 [Wd, G] [⟨#[98, 121]⟩, N1] rfl rfl rfl (by omega) (by omega) rfl (HF.out.own.alloc _) (by have := HF.out.lt; simp; omega) u1.heap.size 2 (heap_alloc_new u1 _) rfl ?_; intro g1 c1 v1 ho1 hb1; refine Hid.out ?_)))
  refine Lib.hid ?_
  clear b0 b1 b2 b3 b4 b5 b6
  replace HF := Lib.hid (HF.out.next _ hb1 ho1)
  clear ho1 hb1
  have b0 := HF.out.box.c0
  have b1 := HF.out.box.c1
  have b2 := HF.out.box.c2
  have b3 := HF.out.box.c3
  have b4 := HF.out.box.c4
  have b5 := HF.out.box.c5
  have b6 := HF.out.box.c6
  go_wp2_with fail
  refine (KN2.out v1 HF.out.from_.below).mono ?_
  rintro e u2 ⟨rfl, hu2⟩
  clear b0 b1 b2 b3 b4 b5 b6
  replace HF := Lib.hid (HF.out.keep hu2)
  clear hu2
  have b0 := HF.out.box.c0
  have b1 := HF.out.box.c1
  have b2 := HF.out.box.c2
  have b3 := HF.out.box.c3
  have b4 := HF.out.box.c4
  have b5 := HF.out.box.c5
  have b6 := HF.out.box.c6
  go_wp2_with (first | (at_builtin; (refine wpList_pushSs (u2.alloc (Obj.cells #[.string ⟨#[97, 110, 100]⟩, .string N2] 9)) rfl _ _ rfl (w.heap.size + 1) _ (some ⟨g1, 0, none⟩) 4 2 6 c1 [Wd, G, ⟨#[98, 121]⟩, N1] [⟨#[97, 110, 100]⟩, N2] rfl rfl rfl (by omega) (by omega) rfl (HF.out.own.alloc _) (by have := HF.out.lt; simp; omega) u2.heap.size 2 (heap_alloc_new u2 _) rfl ?_; intro g2 c2 v2 ho2 hb2; refine Hid.out ?_)))
  refine Lib.hid ?_
  clear b0 b1 b2 b3 b4 b5 b6
  replace HF := Lib.hid (HF.out.next _ hb2 ho2)
  clear ho2 hb2
  have b0 := HF.out.box.c0
  have b1 := HF.out.box.c1
  have b2 := HF.out.box.c2
  have b3 := HF.out.box.c3
  have b4 := HF.out.box.c4
  have b5 := HF.out.box.c5
  have b6 := HF.out.box.c6
  have KJ := Lib.hid (join_own g2 6 c2 [Wd, G, ⟨#[98, 121]⟩, N1, ⟨#[97, 110, 100]⟩, N2] (fcB k) ⟨#[32]⟩ v2 (w.heap.size + 1) rfl HF.out.own HJ.out (by omega) HJs.out)
  go_wp2_with fail
  refine KJ.out.mono ?_
  rintro e z1 ⟨rfl, hz1⟩
  have HB := Lib.hid (HF.out.from_.keep hz1)
  clear hz1 b0 b1 b2 b3 b4 b5 b6
  go_wp2
  go_ret
  exact ⟨rfl, HB.out.below⟩

set_option maxRecDepth 100000 in
set_option maxHeartbeats 3200000 in
theorem FormatClaim_i5 (k : Clm) (w : World) (h : RdK w w.heap.size k) (hs : SmK k) (hI : I64K k) (ht : Tb w) (hK : k.K = 5) (hyes : (1 ≤ k.K ∧ k.K ≤ 6) ∧ okB k.s k.n0 k.x0 = true) :
    Calls Tryd.prog 14 #[.agg #[.int .i64 5, .int .i64 k.s, .slice k.A0 k.n0 k.c0, .string k.t, .slice k.A1 k.n1 k.c1, .slice k.A2 k.n2 k.c2, .slice k.A3 k.D.length k.c3]] w fun e w' => e = .returned (.string (fcB k)) ∧ Below w.heap.size w w' := by
  obtain ⟨W, hW⟩ : ∃ W : World, W = (w.alloc (Obj.cells #[.int .i64 5, .int .i64 k.s, .slice k.A0 k.n0 k.c0, .string k.t, .slice k.A1 k.n1 k.c1, .slice k.A2 k.n2 k.c2, .slice k.A3 k.D.length k.c3] 39)) := ⟨_, rfl⟩
  have HB : Hid (From w W) := by rw [hW]; exact From.alloc _ _
  have HC : Hid (CB W w.heap.size 5 k) := by rw [hW]; exact CB.new _ _ _
  have HR : Hid (∀ z, Below w.heap.size w z → RdK z z.heap.size k) := fun z hz => h.keep hz hz.size
  have HW := Lib.hid hW
  obtain ⟨s0, s1, s2, s3, s4, s5⟩ := hs
  clear hW h
  have HT := Lib.hid ht
  clear ht
  have HY : Hid (fcB k = fcY k) := fcB_yes hyes
  have HHd : Hid (fcH k = cwB 5 ++ ⟨#[32]⟩ ++ fgB k.s k.n0 k.x0) := by show _ = _; unfold fcH; rw [hK]
  have hwsz := cwB_size (K := 5) (by omega)
  have hgsz := fgB_size (s := k.s) (m := k.n0) (x := k.x0)
  have hg2 := fgB_some hyes.2
  have KG : Hid (∀ z, Below w.heap.size w z → _) := fun z hz => FormatGraph_i k.s k.A0 k.n0 k.c0 k.x0 z (HR.out z hz).1 s0
  have KW : Hid (∀ z : World, _) := fun z => ClaimWord_iy 5 (by omega) z
  have HX := Lib.hid (fcY_5 hK)
  have KE : Hid (∀ z, Below w.heap.size w z → _) := fun z hz => edgesText_i k.A3 k.c3 k.D z (HR.out z hz).2.2.2 hI.2.2 s4 s5 (HT.out.keep hz)
  have z3 := edB_size hI.2.2 s5 s4
  have KI : Hid (∀ z, Below w.heap.size w z → _) := fun z hz => IsGraph_any k.s k.A0 k.n0 k.c0 k.x0 z z.heap.size (HR.out z hz).1 (Nat.le_refl _) s0
  rw [hyes.2] at KI
  obtain ⟨G, hG⟩ : ∃ X, X = fgB k.s k.n0 k.x0 := ⟨_, rfl⟩
  rw [← hG] at KG hgsz hg2 HHd
  obtain ⟨Wd, hWd⟩ : ∃ X, X = cwB 5 := ⟨_, rfl⟩
  rw [← hWd] at KW hwsz HHd
  obtain ⟨Hd, hHd⟩ : ∃ X, X = fcH k := ⟨_, rfl⟩
  rw [← hHd] at HHd HX
  obtain ⟨E3, hE3⟩ : ∃ X, X = edB (lists k.D) := ⟨_, rfl⟩
  rw [← hE3] at KE z3 HX
  have HE2 : Hid (fcB k = fcY k) := HY.out
  clear HY hG hWd hHd hE3
  have HJ : Hid (Lib.join (([Wd, G, ⟨#[98, 121]⟩, E3] : List ByteArray).map (·.data.toList)) [32] = (fcB k).data.toList) := by show _ = _; rw [HE2.out, HX.out, HHd.out]; simp [Lib.join_cons, Lib.joinTail]
  have a1 : (⟨#[32]⟩ : ByteArray).size = 1 := rfl
  have a2 : (⟨#[32, 111, 102, 32]⟩ : ByteArray).size = 4 := rfl
  have a3 : (⟨#[32, 98, 121, 32]⟩ : ByteArray).size = 4 := rfl
  have a4 : (⟨#[32, 97, 110, 100, 32]⟩ : ByteArray).size = 5 := rfl
  have HJs : Hid ((fcB k).size ≤ 140737488355328) := by show _ ≤ _; rw [HE2.out, HX.out, HHd.out]; simp only [ByteArray.size_append]; omega
  clear hyes hI HR hwsz hgsz hg2 a1 a2 a3 a4 z3 HX HHd
  go_enter Tryd.func14, Tryd.ntmps14
  have b0 := HC.out.c0
  have b1 := HC.out.c1
  have b2 := HC.out.c2
  go_wp2_with fail
  rw [← HW.out]
  refine (within_yes 5 1 6 _ (by decide) (by decide)).mono ?_
  rintro e w' ⟨rfl, rfl⟩
  clear HW
  go_wp2_with fail
  refine (KI.out W HB.out.below).mono ?_
  rintro e w1 ⟨rfl, hb1⟩
  clear b0 b1 b2
  replace HB := Lib.hid (HB.out.keep hb1)
  replace HC := Lib.hid (HC.out.keep hb1)
  clear hb1
  have b0 := HC.out.c0
  have b1 := HC.out.c1
  have b2 := HC.out.c2
  go_wp2
  have HSC : Hid (∀ z : World, Below w1.heap.size w1 z → (Below w1.heap.size w1 z ∧ z.cell? ⟨w.heap.size, 0, none⟩ = some (.int .i64 5) ∧ z.cell? ⟨w.heap.size, 1, none⟩ = some (.int .i64 k.s) ∧ z.cell? ⟨w.heap.size, 2, none⟩ = some (.slice k.A0 k.n0 k.c0))) := fun z hz => ⟨hz, up_ hz b0, up_ hz b1, up_ hz b2⟩
  have HZ0 : Hid (Below w1.heap.size w1 w1.drew) := (Below.refl _ _).drew
  have HS1 := Lib.hid (HSC.out _ HZ0.out)
  have KR1 : Hid (∀ z : World, Below w1.heap.size w1 z → _) := fun z hz => KW.out z
  have KR2 : Hid (∀ z : World, Below w1.heap.size w1 z → _) := fun z hz => KG.out z (HB.out.below.trans (hz.mono HB.out.below.size))
  go_region_held3 (fun z => Below w1.heap.size w1 z ∧ z.cell? ⟨w.heap.size, 0, none⟩ = some (.int .i64 5) ∧ z.cell? ⟨w.heap.size, 1, none⟩ = some (.int .i64 k.s) ∧ z.cell? ⟨w.heap.size, 2, none⟩ = some (.slice k.A0 k.n0 k.c0))
    (first | exact HS1.out | assumption | exact HSC.out _ hz3 | exact HSC.out _ hz2 | exact HSC.out _ (bl_alloc hz3) | fail)
    (first | (go_at_call 40; ((with_reducible refine (KR1.out _ HZ0.out).mono ?_); rintro e w2 ⟨rfl, hb2⟩; have hz2 := bl_trans HZ0.out hb2)) | (go_at_call 41; ((with_reducible refine (KR2.out _ hz2).mono ?_); rintro e w3 ⟨rfl, hb3⟩; have hz3 := bl_trans hz2 hb3)))
  clear b0 b1 b2
  replace HB := Lib.hid (HB.out.keep hz3)
  replace HC := Lib.hid (HC.out.keep hz3)
  clear hb2 hz2 hb3 hz3 HSC HZ0 HS1 KR1 KR2
  have b0 := HC.out.c0
  have b1 := HC.out.c1
  have b2 := HC.out.c2
  obtain ⟨v0, hv0⟩ : ∃ z : World, z = w3.alloc (Obj.cells #[.string Wd, .string G] 9) := ⟨_, rfl⟩
  have HF : Hid (FW w 5 k v0 w3.heap.size 2 2 [Wd, G]) := by
    rw [hv0]
    exact ⟨HB.out.alloc_ _, HC.out.keep ((Below.refl _ _).alloc (Nat.le_refl _) _), (own_texts w3 [Wd, G] 2 rfl (by omega)).mono HC.out.lt (Nat.le_refl _)⟩
  rw [← hv0]
  obtain ⟨g0, hg0⟩ : ∃ g, g = w3.heap.size := ⟨_, rfl⟩
  rw [← hg0] at HF ⊢
  clear hv0 hg0 b0 b1 b2 HB HC KW KG KI
  have b0 := HF.out.box.c0
  have b1 := HF.out.box.c1
  have b2 := HF.out.box.c2
  have b3 := HF.out.box.c3
  have b4 := HF.out.box.c4
  have b5 := HF.out.box.c5
  have b6 := HF.out.box.c6
  go_wp2_with fail
  refine (KE.out v0 HF.out.from_.below).mono ?_
  rintro e u1 ⟨rfl, hu1⟩
  clear b0 b1 b2 b3 b4 b5 b6
  replace HF := Lib.hid (HF.out.keep hu1)
  clear hu1
  have b0 := HF.out.box.c0
  have b1 := HF.out.box.c1
  have b2 := HF.out.box.c2
  have b3 := HF.out.box.c3
  have b4 := HF.out.box.c4
  have b5 := HF.out.box.c5
  have b6 := HF.out.box.c6
  go_wp2_with (first | (at_builtin; (refine wpList_pushSs (u1.alloc (Obj.cells #[.string ⟨#[98, 121]⟩, .string E3] 9)) rfl _ _ rfl (w.heap.size + 1) _ (some ⟨g0, 0, none⟩) 2 2 4 2 [Wd, G] [⟨#[98, 121]⟩, E3] rfl rfl rfl (by omega) (by omega) rfl (HF.out.own.alloc _) (by have := HF.out.lt; simp; omega) u1.heap.size 2 (heap_alloc_new u1 _) rfl ?_; intro g1 c1 v1 ho1 hb1; refine Hid.out ?_)))
  refine Lib.hid ?_
  clear b0 b1 b2 b3 b4 b5 b6
  replace HF := Lib.hid (HF.out.next _ hb1 ho1)
  clear ho1 hb1
  have b0 := HF.out.box.c0
  have b1 := HF.out.box.c1
  have b2 := HF.out.box.c2
  have b3 := HF.out.box.c3
  have b4 := HF.out.box.c4
  have b5 := HF.out.box.c5
  have b6 := HF.out.box.c6
  have KJ := Lib.hid (join_own g1 4 c1 [Wd, G, ⟨#[98, 121]⟩, E3] (fcB k) ⟨#[32]⟩ v1 (w.heap.size + 1) rfl HF.out.own HJ.out (by omega) HJs.out)
  go_wp2_with fail
  refine KJ.out.mono ?_
  rintro e z1 ⟨rfl, hz1⟩
  have HB := Lib.hid (HF.out.from_.keep hz1)
  clear hz1 b0 b1 b2 b3 b4 b5 b6
  go_wp2
  go_ret
  exact ⟨rfl, HB.out.below⟩

set_option maxRecDepth 100000 in
set_option maxHeartbeats 3200000 in
theorem FormatClaim_i6 (k : Clm) (w : World) (h : RdK w w.heap.size k) (hs : SmK k) (hI : I64K k) (ht : Tb w) (hK : k.K = 6) (hyes : (1 ≤ k.K ∧ k.K ≤ 6) ∧ okB k.s k.n0 k.x0 = true) :
    Calls Tryd.prog 14 #[.agg #[.int .i64 6, .int .i64 k.s, .slice k.A0 k.n0 k.c0, .string k.t, .slice k.A1 k.n1 k.c1, .slice k.A2 k.n2 k.c2, .slice k.A3 k.D.length k.c3]] w fun e w' => e = .returned (.string (fcB k)) ∧ Below w.heap.size w w' := by
  obtain ⟨W, hW⟩ : ∃ W : World, W = (w.alloc (Obj.cells #[.int .i64 6, .int .i64 k.s, .slice k.A0 k.n0 k.c0, .string k.t, .slice k.A1 k.n1 k.c1, .slice k.A2 k.n2 k.c2, .slice k.A3 k.D.length k.c3] 39)) := ⟨_, rfl⟩
  have HB : Hid (From w W) := by rw [hW]; exact From.alloc _ _
  have HC : Hid (CB W w.heap.size 6 k) := by rw [hW]; exact CB.new _ _ _
  have HR : Hid (∀ z, Below w.heap.size w z → RdK z z.heap.size k) := fun z hz => h.keep hz hz.size
  have HW := Lib.hid hW
  obtain ⟨s0, s1, s2, s3, s4, s5⟩ := hs
  clear hW h
  have HT := Lib.hid ht
  clear ht
  have HY : Hid (fcB k = fcY k) := fcB_yes hyes
  have HHd : Hid (fcH k = cwB 6 ++ ⟨#[32]⟩ ++ fgB k.s k.n0 k.x0) := by show _ = _; unfold fcH; rw [hK]
  have hwsz := cwB_size (K := 6) (by omega)
  have hgsz := fgB_size (s := k.s) (m := k.n0) (x := k.x0)
  have hg2 := fgB_some hyes.2
  have KG : Hid (∀ z, Below w.heap.size w z → _) := fun z hz => FormatGraph_i k.s k.A0 k.n0 k.c0 k.x0 z (HR.out z hz).1 s0
  have KW : Hid (∀ z : World, _) := fun z => ClaimWord_iy 6 (by omega) z
  have HX := Lib.hid (fcY_3 (k := k) (by omega) (by omega) (by omega))
  have KN1 : Hid (∀ z, Below w.heap.size w z → _) := fun z hz => numbersText_i k.A1 k.n1 k.c1 k.x1 z (HR.out z hz).2.1 hI.1 s2 (HT.out.keep hz)
  have z1 := nmB_size hI.1
  have KN2 : Hid (∀ z, Below w.heap.size w z → _) := fun z hz => numbersText_i k.A2 k.n2 k.c2 k.x2 z (HR.out z hz).2.2.1 hI.2.1 s3 (HT.out.keep hz)
  have z2 := nmB_size hI.2.1
  have KI : Hid (∀ z, Below w.heap.size w z → _) := fun z hz => IsGraph_any k.s k.A0 k.n0 k.c0 k.x0 z z.heap.size (HR.out z hz).1 (Nat.le_refl _) s0
  rw [hyes.2] at KI
  obtain ⟨G, hG⟩ : ∃ X, X = fgB k.s k.n0 k.x0 := ⟨_, rfl⟩
  rw [← hG] at KG hgsz hg2 HHd
  obtain ⟨Wd, hWd⟩ : ∃ X, X = cwB 6 := ⟨_, rfl⟩
  rw [← hWd] at KW hwsz HHd
  obtain ⟨Hd, hHd⟩ : ∃ X, X = fcH k := ⟨_, rfl⟩
  rw [← hHd] at HHd HX
  obtain ⟨N1, hN1⟩ : ∃ X, X = nmB k.x1 k.n1 := ⟨_, rfl⟩
  rw [← hN1] at KN1 z1 HX
  obtain ⟨N2, hN2⟩ : ∃ X, X = nmB k.x2 k.n2 := ⟨_, rfl⟩
  rw [← hN2] at KN2 z2 HX
  have HE2 : Hid (fcB k = fcY k) := HY.out
  clear HY hG hWd hHd hN1 hN2
  have HJ : Hid (Lib.join (([Wd, G, ⟨#[98, 121]⟩, N1, ⟨#[97, 110, 100]⟩, N2] : List ByteArray).map (·.data.toList)) [32] = (fcB k).data.toList) := by show _ = _; rw [HE2.out, HX.out, HHd.out]; simp [Lib.join_cons, Lib.joinTail]
  have a1 : (⟨#[32]⟩ : ByteArray).size = 1 := rfl
  have a2 : (⟨#[32, 111, 102, 32]⟩ : ByteArray).size = 4 := rfl
  have a3 : (⟨#[32, 98, 121, 32]⟩ : ByteArray).size = 4 := rfl
  have a4 : (⟨#[32, 97, 110, 100, 32]⟩ : ByteArray).size = 5 := rfl
  have HJs : Hid ((fcB k).size ≤ 140737488355328) := by show _ ≤ _; rw [HE2.out, HX.out, HHd.out]; simp only [ByteArray.size_append]; omega
  clear hyes hI HR hwsz hgsz hg2 a1 a2 a3 a4 z1 z2 HX HHd
  go_enter Tryd.func14, Tryd.ntmps14
  have b0 := HC.out.c0
  have b1 := HC.out.c1
  have b2 := HC.out.c2
  go_wp2_with fail
  rw [← HW.out]
  refine (within_yes 6 1 6 _ (by decide) (by decide)).mono ?_
  rintro e w' ⟨rfl, rfl⟩
  clear HW
  go_wp2_with fail
  refine (KI.out W HB.out.below).mono ?_
  rintro e w1 ⟨rfl, hb1⟩
  clear b0 b1 b2
  replace HB := Lib.hid (HB.out.keep hb1)
  replace HC := Lib.hid (HC.out.keep hb1)
  clear hb1
  have b0 := HC.out.c0
  have b1 := HC.out.c1
  have b2 := HC.out.c2
  go_wp2
  have HSC : Hid (∀ z : World, Below w1.heap.size w1 z → (Below w1.heap.size w1 z ∧ z.cell? ⟨w.heap.size, 0, none⟩ = some (.int .i64 6) ∧ z.cell? ⟨w.heap.size, 1, none⟩ = some (.int .i64 k.s) ∧ z.cell? ⟨w.heap.size, 2, none⟩ = some (.slice k.A0 k.n0 k.c0))) := fun z hz => ⟨hz, up_ hz b0, up_ hz b1, up_ hz b2⟩
  have HZ0 : Hid (Below w1.heap.size w1 w1.drew) := (Below.refl _ _).drew
  have HS1 := Lib.hid (HSC.out _ HZ0.out)
  have KR1 : Hid (∀ z : World, Below w1.heap.size w1 z → _) := fun z hz => KW.out z
  have KR2 : Hid (∀ z : World, Below w1.heap.size w1 z → _) := fun z hz => KG.out z (HB.out.below.trans (hz.mono HB.out.below.size))
  go_region_held3 (fun z => Below w1.heap.size w1 z ∧ z.cell? ⟨w.heap.size, 0, none⟩ = some (.int .i64 6) ∧ z.cell? ⟨w.heap.size, 1, none⟩ = some (.int .i64 k.s) ∧ z.cell? ⟨w.heap.size, 2, none⟩ = some (.slice k.A0 k.n0 k.c0))
    (first | exact HS1.out | assumption | exact HSC.out _ hz3 | exact HSC.out _ hz2 | exact HSC.out _ (bl_alloc hz3) | fail)
    (first | (go_at_call 40; ((with_reducible refine (KR1.out _ HZ0.out).mono ?_); rintro e w2 ⟨rfl, hb2⟩; have hz2 := bl_trans HZ0.out hb2)) | (go_at_call 41; ((with_reducible refine (KR2.out _ hz2).mono ?_); rintro e w3 ⟨rfl, hb3⟩; have hz3 := bl_trans hz2 hb3)))
  clear b0 b1 b2
  replace HB := Lib.hid (HB.out.keep hz3)
  replace HC := Lib.hid (HC.out.keep hz3)
  clear hb2 hz2 hb3 hz3 HSC HZ0 HS1 KR1 KR2
  have b0 := HC.out.c0
  have b1 := HC.out.c1
  have b2 := HC.out.c2
  obtain ⟨v0, hv0⟩ : ∃ z : World, z = w3.alloc (Obj.cells #[.string Wd, .string G] 9) := ⟨_, rfl⟩
  have HF : Hid (FW w 6 k v0 w3.heap.size 2 2 [Wd, G]) := by
    rw [hv0]
    exact ⟨HB.out.alloc_ _, HC.out.keep ((Below.refl _ _).alloc (Nat.le_refl _) _), (own_texts w3 [Wd, G] 2 rfl (by omega)).mono HC.out.lt (Nat.le_refl _)⟩
  rw [← hv0]
  obtain ⟨g0, hg0⟩ : ∃ g, g = w3.heap.size := ⟨_, rfl⟩
  rw [← hg0] at HF ⊢
  clear hv0 hg0 b0 b1 b2 HB HC KW KG KI
  have b0 := HF.out.box.c0
  have b1 := HF.out.box.c1
  have b2 := HF.out.box.c2
  have b3 := HF.out.box.c3
  have b4 := HF.out.box.c4
  have b5 := HF.out.box.c5
  have b6 := HF.out.box.c6
  go_wp2_with fail
  refine (KN1.out v0 HF.out.from_.below).mono ?_
  rintro e u1 ⟨rfl, hu1⟩
  clear b0 b1 b2 b3 b4 b5 b6
  replace HF := Lib.hid (HF.out.keep hu1)
  clear hu1
  have b0 := HF.out.box.c0
  have b1 := HF.out.box.c1
  have b2 := HF.out.box.c2
  have b3 := HF.out.box.c3
  have b4 := HF.out.box.c4
  have b5 := HF.out.box.c5
  have b6 := HF.out.box.c6
  go_wp2_with (first | (at_builtin; (refine wpList_pushSs (u1.alloc (Obj.cells #[.string ⟨#[98, 121]⟩, .string N1] 9)) rfl _ _ rfl (w.heap.size + 1) _ (some ⟨g0, 0, none⟩) 2 2 4 2 [Wd, G] [⟨#[98, 121]⟩, N1] rfl rfl rfl (by omega) (by omega) rfl (HF.out.own.alloc _) (by have := HF.out.lt; simp; omega) u1.heap.size 2 (heap_alloc_new u1 _) rfl ?_; intro g1 c1 v1 ho1 hb1; refine Hid.out ?_)))
  refine Lib.hid ?_
  clear b0 b1 b2 b3 b4 b5 b6
  replace HF := Lib.hid (HF.out.next _ hb1 ho1)
  clear ho1 hb1
  have b0 := HF.out.box.c0
  have b1 := HF.out.box.c1
  have b2 := HF.out.box.c2
  have b3 := HF.out.box.c3
  have b4 := HF.out.box.c4
  have b5 := HF.out.box.c5
  have b6 := HF.out.box.c6
  go_wp2_with fail
  refine (KN2.out v1 HF.out.from_.below).mono ?_
  rintro e u2 ⟨rfl, hu2⟩
  clear b0 b1 b2 b3 b4 b5 b6
  replace HF := Lib.hid (HF.out.keep hu2)
  clear hu2
  have b0 := HF.out.box.c0
  have b1 := HF.out.box.c1
  have b2 := HF.out.box.c2
  have b3 := HF.out.box.c3
  have b4 := HF.out.box.c4
  have b5 := HF.out.box.c5
  have b6 := HF.out.box.c6
  go_wp2_with (first | (at_builtin; (refine wpList_pushSs (u2.alloc (Obj.cells #[.string ⟨#[97, 110, 100]⟩, .string N2] 9)) rfl _ _ rfl (w.heap.size + 1) _ (some ⟨g1, 0, none⟩) 4 2 6 c1 [Wd, G, ⟨#[98, 121]⟩, N1] [⟨#[97, 110, 100]⟩, N2] rfl rfl rfl (by omega) (by omega) rfl (HF.out.own.alloc _) (by have := HF.out.lt; simp; omega) u2.heap.size 2 (heap_alloc_new u2 _) rfl ?_; intro g2 c2 v2 ho2 hb2; refine Hid.out ?_)))
  refine Lib.hid ?_
  clear b0 b1 b2 b3 b4 b5 b6
  replace HF := Lib.hid (HF.out.next _ hb2 ho2)
  clear ho2 hb2
  have b0 := HF.out.box.c0
  have b1 := HF.out.box.c1
  have b2 := HF.out.box.c2
  have b3 := HF.out.box.c3
  have b4 := HF.out.box.c4
  have b5 := HF.out.box.c5
  have b6 := HF.out.box.c6
  have KJ := Lib.hid (join_own g2 6 c2 [Wd, G, ⟨#[98, 121]⟩, N1, ⟨#[97, 110, 100]⟩, N2] (fcB k) ⟨#[32]⟩ v2 (w.heap.size + 1) rfl HF.out.own HJ.out (by omega) HJs.out)
  go_wp2_with fail
  refine KJ.out.mono ?_
  rintro e z1 ⟨rfl, hz1⟩
  have HB := Lib.hid (HF.out.from_.keep hz1)
  clear hz1 b0 b1 b2 b3 b4 b5 b6
  go_wp2
  go_ret
  exact ⟨rfl, HB.out.below⟩
theorem FormatClaim_i (k : Clm) (w : World) (h : RdK w w.heap.size k) (hs : SmK k) (hI : I64K k) (ht : Tb w) :
    Calls Tryd.prog 14 #[.agg #[.int .i64 k.K, .int .i64 k.s, .slice k.A0 k.n0 k.c0, .string k.t, .slice k.A1 k.n1 k.c1, .slice k.A2 k.n2 k.c2, .slice k.A3 k.D.length k.c3]] w fun e w' => e = .returned (.string (fcB k)) ∧ Below w.heap.size w w' := by
  by_cases hy : (1 ≤ k.K ∧ k.K ≤ 6) ∧ okB k.s k.n0 k.x0 = true
  · have hc : k.K = 1 ∨ k.K = 2 ∨ k.K = 3 ∨ k.K = 4 ∨ k.K = 5 ∨ k.K = 6 := by omega
    rcases hc with e | e | e | e | e | e
    · rw [e]; exact FormatClaim_i1 k w h hs hI ht e hy
    · rw [e]; exact FormatClaim_i2 k w h hs hI ht e hy
    · rw [e]; exact FormatClaim_i3 k w h hs hI ht e hy
    · rw [e]; exact FormatClaim_i4 k w h hs hI ht e hy
    · rw [e]; exact FormatClaim_i5 k w h hs hI ht e hy
    · rw [e]; exact FormatClaim_i6 k w h hs hI ht e hy
  · exact FormatClaim_in k w h hs hy
end Go.Proofs.YtncjfgebolikoaaDoor
