/-
  Several texts in one.
-/
import Derived.Test.YtdpkbfiggbcclaaGreatQkConcat
import Derived.Test.YtdpkbfiggbcclaaGreatQkGC
import Derived.Test.YtdpkbfiggbcclaaGreatQkTake
/-
-/
namespace Go.Proofs.YtdpkbfiggbcclaaGreat
open Go.RowKit
noncomputable def fiB (sz : Int) (m : Nat) (x : Nat → Int) (L : List (List Int)) : Bool := chB (aaZ sz m x L) (aaN sz m x L) (aaX sz m x L)
theorem fiB_no {sz : Int} {m : Nat} {x : Nat → Int} {L : List (List Int)} (h : aaB sz m x L = false) : fiB sz m x L = false := by
 have h2 : aaZ sz m x L = 0 := by unfold aaZ; rw [h]; rfl
 unfold fiB
 exact chB_no (by rw [h2]; exact okB_far (.inl (by omega)))
noncomputable def imfB (sz : Int) (m : Nat) (x : Nat → Int) (L : List (List Int)) : Bool := fiB sz m x L && (List.range L.length).all fun i => !fiB sz m x (L.eraseIdx i)
theorem imB_bad {sz : Int} {m : Nat} {x : Nat → Int} {L : List (List Int)} (h : fiB sz m x L = false) : imfB sz m x L = false := by unfold imfB; rw [h]; rfl
theorem imB_no {sz : Int} {m : Nat} {x : Nat → Int} {L : List (List Int)} {i : Nat} (hi : i < L.length) (h : fiB sz m x (L.eraseIdx i) = true) : imfB sz m x L = false := by
 unfold imfB
 have : ((List.range L.length).all fun i => !fiB sz m x (L.eraseIdx i)) = false := by
  rw [List.all_eq_false]
  exact ⟨i, List.mem_range.2 hi, by simp [h]⟩
 rw [this, Bool.and_false]
theorem imB_yes {sz : Int} {m : Nat} {x : Nat → Int} {L : List (List Int)} (h0 : fiB sz m x L = true) (h : ∀ i, i < L.length → fiB sz m x (L.eraseIdx i) = false) : imfB sz m x L = true := by
 unfold imfB
 rw [h0, Bool.true_and, List.all_eq_true]
 intro i hi
 simp [h i (List.mem_range.1 hi)]
theorem tot_erase (D : List Dsc) (i : Nat) : tot (D.eraseIdx i) ≤ tot D := by
 unfold tot
 induction D generalizing i with
 | nil => simp
 | cons d D ih =>
   cases i with
   | zero => simp
   | succ i => have := ih i; simp only [List.eraseIdx_cons_succ, List.map_cons, List.sum_cons]; omega
set_option maxHeartbeats 1000000 in
theorem fills_i (s1 : Int) (A1 : Option Addr) (m1 c1 : Nat) (x1 : Nat → Int) (A2 : Option Addr) (c2 : Nat) (D : List Dsc) (w : World) (h1 : Rd w w.heap.size A1 m1 c1 x1) (h2 : LD w A2 c2 D) (hm1 : m1 ≤ 1048576) (hd : D.length ≤ 1048576) (ht : tot D ≤ 1048576) :
 Calls Tryz.prog 172 #[.agg #[.int .i64 s1, .slice A1 m1 c1], .slice A2 D.length c2] w fun e w' => e = .returned (.bool (fiB s1 m1 x1 (lists D))) ∧ Below w.heap.size w w' := by
 obtain ⟨W, hW⟩ : ∃ W : World, W = (w.alloc (Obj.cells #[Value.int IntKind.i64 s1, Value.slice A1 m1 c1] 28)) := ⟨_, rfl⟩
 have HB : Hid (From w W) := by rw [hW]; exact From.alloc _ _
 have HK : Hid (Rd W W.heap.size A1 m1 c1 x1) := h1.keep HB.out.below HB.out.below.size
 have HD := Lib.hid (h2.keep HB.out.below)
 have HW := Lib.hid hW
 clear hW h1 h2
 go_enter Tryz.func172, Tryz.ntmps172
 go_wp2_with fail
 rw [← HW.out]
 clear HW
 refine (AddAll_i s1 A1 m1 c1 x1 A2 c2 D W W.heap.size HK.out HD.out.rd (Nat.le_refl _) hm1 hd ht _ rfl).mono ?_
 rintro e w1 ⟨A', c', rfl, hO, hb1⟩
 have HB1 := Lib.hid (HB.out.keep hb1)
 have HO := Lib.hid hO
 have hN : aaN s1 m1 x1 (lists D) ≤ m1 := aaN_le
 clear hO hb1 HB HK HD
 cases hb : aaB s1 m1 x1 (lists D)
 ·have hno : Hid (fiB s1 m1 x1 (lists D) = false) := fiB_no hb
  clear hb
  go_wp2
  go_ret
  exact ⟨ret_bool hno.out.symm, (HB1.out.alloc_ _).below⟩
 ·obtain ⟨W2, hW2⟩ : ∃ W2 : World, W2 = w1.alloc (Obj.cells #[.int .i64 (aaZ s1 m1 x1 (lists D)), .slice A' (aaN s1 m1 x1 (lists D)) c'] 28) := ⟨_, rfl⟩
  have HB2 : Hid (From w W2) := by rw [hW2]; exact HB1.out.alloc_ _
  have HR2 : Hid (Rd W2 W2.heap.size A' (aaN s1 m1 x1 (lists D)) c' (aaX s1 m1 x1 (lists D))) := by
   rw [hW2]
   exact HO.out.rd.keep ((Below.refl _ _).alloc (Nat.le_refl _) _) (by simp)
  have HW2 := Lib.hid hW2
  clear hW2 hb
  go_wp2_with fail
  rw [← HW2.out]
  clear HW2
  refine (IsChordal_i _ A' _ c' _ W2 W2.heap.size HR2.out (Nat.le_refl _) (by omega)).mono ?_
  rintro e w3 ⟨rfl, hb3⟩
  have HB3 := Lib.hid (HB2.out.keep hb3)
  clear hb3
  go_wp2
  go_ret
  exact ⟨rfl, HB3.out.below⟩
set_option maxRecDepth 100000 in
set_option maxHeartbeats 1600000 in
theorem IsMinimalFill_i (s1 : Int) (A1 : Option Addr) (m1 c1 : Nat) (x1 : Nat → Int) (A2 : Option Addr) (c2 : Nat) (D : List Dsc) (w : World) (B : Nat) (h1 : Rd w B A1 m1 c1 x1) (h2 : RdD w B A2 c2 D) (hB : B ≤ w.heap.size) (hm1 : m1 ≤ 1048576) (hd : D.length ≤ 1048576) (ht : tot D ≤ 1048576) (L : List (List Int)) (hL : lists D = L) :
 Calls Tryz.prog 66 #[.agg #[.int .i64 s1, .slice A1 m1 c1], .slice A2 D.length c2] w fun e w' => e = .returned (.bool (imfB s1 m1 x1 L)) ∧ Below w.heap.size w w' := by
 subst hL
 obtain ⟨W, hW⟩ : ∃ W : World, W = (w.alloc (Obj.cells #[Value.int IntKind.i64 s1, Value.slice A1 m1 c1] 28)) := ⟨_, rfl⟩
 have HB : Hid (From w W) := by rw [hW]; exact From.alloc _ _
 have HK : Hid (Rd W W.heap.size A1 m1 c1 x1) := h1.keep (HB.out.below.mono hB) (by have := HB.out.below.size; omega)
 have HD : Hid (LD W A2 c2 D) := ⟨h2.keep (HB.out.below.mono hB) (by have := HB.out.below.size; omega)⟩
 have HC : Hid (GC W w.heap.size s1 A1 m1 c1) := by rw [hW]; exact GC.new _ _ _ _ _
 have HW := Lib.hid hW
 clear hW h1 h2
 go_enter Tryz.func66, Tryz.ntmps66
 go_wp2_with fail
 rw [← HW.out]
 clear HW
 refine (fills_i s1 A1 m1 c1 x1 A2 c2 D W HK.out HD.out hm1 (by omega) ht).mono ?_
 rintro e w1 ⟨rfl, hb1⟩
 have HK1 : Hid (Rd w1 w1.heap.size A1 m1 c1 x1) := HK.out.keep hb1 hb1.size
 replace HB := Lib.hid (HB.out.keep hb1)
 replace HD := Lib.hid (HD.out.keep hb1)
 replace HC := Lib.hid (HC.out.keep hb1)
 clear hb1 HK
 cases hf : fiB s1 m1 x1 (lists D)
 ·have hno : Hid (imfB s1 m1 x1 (lists D) = false) := imB_bad hf
  clear hf
  go_wp2
  go_ret
  exact ⟨ret_bool hno.out.symm, HB.out.below⟩
 have Hf := Lib.hid hf
 have hll : (lists D).length = D.length := by simp [lists]
 have Hll := Lib.hid hll
 clear hf hll
 go_wp2
 go_loopw [12] (fun i wr => ∃ k : Nat, k ≤ D.length ∧ i = .int .i64 k ∧ Hid (∀ j, j < k → fiB s1 m1 x1 ((lists D).eraseIdx j) = false) ∧ Hid (From w1 wr)) (fun i _ => D.length - (intOf i).toNat)
 case atStart => exact ⟨0, Nat.zero_le _, rfl, (fun j hj => absurd hj (by omega)), From.refl _⟩
 case round =>
  obtain ⟨k, hk, rfl, hall, HR⟩ := hrel
  have HBr := Lib.hid (HB.out.keep HR.out.below)
  by_cases hlt : k < D.length
  ·have HCr := Lib.hid (HC.out.keep HR.out.below)
   have HDr := Lib.hid (HD.out.keep HR.out.below)
   have HKr : Hid (Rd wr wr.heap.size A1 m1 c1 x1) := HK1.out.keep HR.out.below HR.out.below.size
   have i1 : (k : Int) < (D.length : Int) := by omega
   have q0 := HCr.out.c0
   have q1 := HCr.out.c1
   have HSC : Hid (∀ z : World, Below wr.heap.size wr z → (Below wr.heap.size wr z ∧ z.cell? ⟨w.heap.size, 0, none⟩ = some (.int .i64 s1) ∧ z.cell? ⟨w.heap.size, 1, none⟩ = some (.slice A1 m1 c1))) := fun z hz => ⟨hz, up_ hz q0, up_ hz q1⟩
   have HZ1 : Hid (Below wr.heap.size wr wr.drew) := (Below.refl _ _).drew
   have HS1 := Lib.hid (HSC.out _ HZ1.out)
   have K1 := Lib.hid (withoutEdge_i A2 c2 D k wr.drew (HDr.out.keep HZ1.out) hlt hd)
   have hte := tot_erase D k
   have hle : (D.eraseIdx k).length ≤ D.length := List.length_eraseIdx_le ..
   have K2 : Hid (∀ (z : World) (A' : Option Addr) (c' : Nat), Below wr.heap.size wr z → LD z A' c' (D.eraseIdx k) → _) := fun z A' c' hz hl => fills_i s1 A1 m1 c1 x1 A' c' (D.eraseIdx k) z (HKr.out.keep hz hz.size) hl hm1 (by omega) (by omega)
   have He : Hid (lists (D.eraseIdx k) = (lists D).eraseIdx k) := lists_erase D k
   obtain ⟨t, ht2⟩ : ∃ t, t = fiB s1 m1 x1 ((lists D).eraseIdx k) := ⟨_, rfl⟩
   rw [He.out, ← ht2] at K2
   have Ht := Lib.hid ht2
   clear ht2 q0 q1 hte hle
   go_wp2
   go_region_held3 (fun z => Below wr.heap.size wr z ∧ z.cell? ⟨w.heap.size, 0, none⟩ = some (.int .i64 s1) ∧ z.cell? ⟨w.heap.size, 1, none⟩ = some (.slice A1 m1 c1))
    (first | exact HS1.out | assumption | exact HSC.out _ (by assumption) | exact HSC.out _ (bl_trans HZ1.out hb2) | fail)
    (first | (go_at_call 171; ((with_reducible refine K1.out.mono ?_); rintro e w2 ⟨A', c', rfl, hL2, hb2⟩)) | (go_at_call 172; ((with_reducible refine (K2.out _ _ _ (bl_trans HZ1.out hb2) hL2).mono ?_); rintro e w3 ⟨rfl, hb3⟩; have hz3 := bl_trans (bl_trans HZ1.out hb2) hb3)))
   have HR3 := Lib.hid (HR.out.keep hz3)
   have HB3 := Lib.hid (HBr.out.keep hz3)
   clear hb2 hb3 hz3 hL2 HSC HZ1 HS1 K1 K2 HR HBr HCr HDr HKr
   cases t
   ·go_wp2
    go_roundw
    case rel =>
     refine ⟨k + 1, by omega, by go_num, fun j hj => ?_, HR3⟩
     by_cases hjk : j < k
     ·exact hall.out j hjk
     ·obtain rfl : j = k := by omega
      exact Ht.out.symm
    case measure => simp [intOf]; omega
   ·have hno : Hid (imfB s1 m1 x1 (lists D) = false) := imB_no (by rw [Hll.out]; exact hlt) Ht.out.symm
    go_wp2
    go_ret
    exact ⟨ret_bool hno.out.symm, HB3.out.below⟩
  ·have hyes : Hid (imfB s1 m1 x1 (lists D) = true) := imB_yes Hf.out fun i hi => hall.out i (by rw [Hll.out] at hi; omega)
   have i1 : (D.length : Int) ≤ (k : Int) := by omega
   go_wp2
   go_ret
   exact ⟨ret_bool hyes.out.symm, HBr.out.below⟩
end Go.Proofs.YtdpkbfiggbcclaaGreat

/-
-/
namespace Go.Proofs.YtdpkbfiggbcclaaGreat
open Go.RowKit
def Tc1 (l : List Int) (v : Nat) : Prop := ∀ u, u < v → 0 ≤ l.getD u 0 ∧ l.getD u 0 ≤ 6
def Tcp (r : Nat → Nat) (l : List Int) (v k : Nat) : Prop := ¬ ((r v).testBit k = true ∧ l.getD k 0 = l.getD v 0)
def Tc2 (r : Nat → Nat) (l : List Int) (v : Nat) : Prop := ∀ u, u < v → ∀ k, k < u → Tcp r l u k
noncomputable def iclB (r : Nat → Nat) (m : Nat) (l : List Int) : Bool := @decide (Tc1 l m ∧ Tc2 r l m) (Classical.propDecidable _)
noncomputable def iclG (sz : Int) (m : Nat) (x : Nat → Int) (l : List Int) : Bool := (okB sz m x && decide (l.length = m)) && iclB (rw_ x) m l
section
variable {r : Nat → Nat} {m v k : Nat} {l : List Int}
theorem icl_yes (h : Tc1 l m) (h2 : Tc2 r l m) : iclB r m l = true := @decide_eq_true _ (Classical.propDecidable _) ⟨h, h2⟩
theorem icl_no1 (hv : v < m) (h : ¬ (0 ≤ l.getD v 0 ∧ l.getD v 0 ≤ 6)) : iclB r m l = false := @decide_eq_false _ (Classical.propDecidable _) fun hb => h (hb.1 v hv)
theorem icl_no2 (hv : v < m) (hk : k < v) (h : ¬ Tcp r l v k) : iclB r m l = false := @decide_eq_false _ (Classical.propDecidable _) fun hb => h (hb.2 v hv k hk)
theorem Tc1.zero : Tc1 l 0 := fun u h => absurd h (by omega)
theorem Tc2.zero : Tc2 r l 0 := fun u h => absurd h (by omega)
theorem Tc1.step (h : Tc1 l v) (h2 : 0 ≤ l.getD v 0 ∧ l.getD v 0 ≤ 6) : Tc1 l (v + 1) := fun u hu => by
 by_cases e : u < v
 ·exact h u e
 ·obtain rfl : u = v := by omega
  exact h2
theorem Tc2.step (h : Tc2 r l v) (h2 : ∀ k, k < v → Tcp r l v k) : Tc2 r l (v + 1) := fun u hu => by
 by_cases e : u < v
 ·exact h u e
 ·obtain rfl : u = v := by omega
  exact h2
end
theorem iclG_ok {sz : Int} {m : Nat} {x : Nat → Int} {l : List Int} (h : okB sz m x = false) : iclG sz m x l = false := by unfold iclG; rw [h]; rfl
theorem iclG_len {sz : Int} {m : Nat} {x : Nat → Int} {l : List Int} (h : l.length ≠ m) : iclG sz m x l = false := by unfold iclG; rw [decide_eq_false h, Bool.and_false]; rfl
theorem iclG_yes {sz : Int} {m : Nat} {x : Nat → Int} {l : List Int} (h1 : okB sz m x = true) (h2 : l.length = m) : iclG sz m x l = iclB (rw_ x) m l := by unfold iclG; rw [h1, decide_eq_true h2]; rfl
theorem iclG_parts {sz : Int} {m : Nat} {x : Nat → Int} {l : List Int} (h : iclG sz m x l = true) : okB sz m x = true ∧ l.length = m ∧ Tc1 l m := by
 unfold iclG iclB at h
 rw [Bool.and_eq_true, Bool.and_eq_true, decide_eq_true_eq, @decide_eq_true_eq _ (Classical.propDecidable _)] at h
 exact ⟨h.1.1, h.1.2, h.2.1⟩
set_option maxRecDepth 100000 in
set_option maxHeartbeats 3200000 in
theorem IsColoring_i (sz : Int) (A : Option Addr) (m c : Nat) (x : Nat → Int) (Al : Option Addr) (n cl : Nat) (l : List Int) (w : World) (h : GA w A m c x) (hl : LI w Al n cl l) (hm : m ≤ 1048576) (hn : n ≤ 1048576) :
 Calls Tryz.prog 130 #[.agg #[.int .i64 sz, .slice A m c], .slice Al n cl] w fun e w' => e = .returned (.bool (iclG sz m x l)) ∧ Below w.heap.size w w' := by
 obtain ⟨W, hW⟩ : ∃ W : World, W = (w.alloc (Obj.cells #[Value.int IntKind.i64 sz, Value.slice A m c] 28)) := ⟨_, rfl⟩
 have HB : Hid (From w W) := by rw [hW]; exact From.alloc _ _
 have HK := Lib.hid (h.keep HB.out.below)
 have HL := Lib.hid (hl.keep HB.out.below)
 have HC : Hid (GC W w.heap.size sz A m c) := by rw [hW]; exact GC.new _ _ _ _ _
 have HW := Lib.hid hW
 have HN := Lib.hid hl.len
 clear hW h hl
 go_enter Tryz.func130, Tryz.ntmps130
 have e0 := HC.out.c0
 have e1 := HC.out.c1
 go_wp2_with fail
 rw [← HW.out]
 refine (IsGraph_any sz A m c x W W.heap.size HK.out.rd (Nat.le_refl _) hm).mono ?_
 rintro e w1 ⟨rfl, hb1⟩
 clear HW
 clear e0 e1
 replace HB := Lib.hid (HB.out.keep hb1)
 replace HK := Lib.hid (HK.out.keep hb1)
 replace HL := Lib.hid (HL.out.keep hb1)
 replace HC := Lib.hid (HC.out.keep hb1)
 clear hb1
 have e0 := HC.out.c0
 have e1 := HC.out.c1
 cases ho : okB sz m x
 ·have Hn : Hid (iclG sz m x l = false) := iclG_ok ho
  clear ho
  go_wp2
  go_ret
  exact ⟨ret_bool Hn.out.symm, HB.out.below⟩
 obtain ⟨_, es, vg0, _⟩ := okB_ok' ho
 subst es
 have hn7 := vg0.n7
 have HG : Hid (GV w1 A m c (rw_ x)) := HK.out.gv ho
 have HV := Lib.hid HG.out.vg
 by_cases hnm : n = m
 rotate_left
 ·have Hn : Hid (iclG (m : Int) m x l = false) := iclG_len (by rw [← HN.out]; exact hnm)
  have d1 : ((n : Int) != (m : Int)) = true := by simp; omega
  clear ho vg0 hnm
  go_wp2
  go_ret
  exact ⟨ret_bool Hn.out.symm, HB.out.below⟩
 subst hnm
 have d1 : ((n : Int) != (n : Int)) = false := by simp
 have Hy : Hid (iclG (n : Int) n x l = iclB (rw_ x) n l) := iclG_yes ho HN.out.symm
 clear ho vg0
 have HR0 : Hid (From w1 w1) := From.refl w1
 obtain ⟨b0, o0, rfl⟩ := HG.out.addr
 clear e0 e1
 have e0 := HC.out.c0
 go_wp2
 go_loopw [20] (fun i wr => ∃ v : Nat, v ≤ n ∧ i = .int .i64 v ∧ Hid (Tc1 l v) ∧ Hid (Tc2 (rw_ x) l v) ∧ Hid (From w1 wr)) (fun i _ => n - (intOf i).toNat)
 case atStart => exact ⟨0, Nat.zero_le _, rfl, Tc1.zero, Tc2.zero, HR0⟩
 case round =>
  clear HR0 e0
  obtain ⟨v, hv, rfl, H1, H2, HR⟩ := hrel
  have HBr := Lib.hid (HB.out.up HR.out)
  have HCr := Lib.hid (HC.out.keep HR.out.below)
  have e0 := HCr.out.c0
  by_cases hvn : v < n
  ·have i1 : (v : Int) < (n : Int) := by omega
   have HLr := Lib.hid (HL.out.keep HR.out.below)
   obtain ⟨bl, ol, rfl⟩ := HLr.out.addr (by omega)
   have p0 := HLr.out.at hvn
   obtain ⟨b, hb⟩ : ∃ b : Int, b = l.getD v 0 := ⟨_, rfl⟩
   rw [← hb] at p0
   have Hb := Lib.hid hb
   by_cases hbr : 0 ≤ b ∧ b ≤ 6
   rotate_left
   ·have Hn : Hid (iclB (rw_ x) n l = false) := icl_no1 hvn (by rw [← hb]; exact hbr)
    have KB := Lib.hid (decide_eq_false hbr)
    clear hbr hb
    go_wp2_with fail
    refine (within_b (n := b) (lo := 0) (hi := 6) wr KB.out).mono ?_
    rintro e w2 ⟨rfl, hb2⟩
    replace HBr := Lib.hid (HBr.out.keep hb2)
    clear hb2
    go_wp2
    go_ret
    exact ⟨ret_bool (by rw [Hy.out, Hn.out]), HBr.out.below⟩
   have H1' : Hid (Tc1 l (v + 1)) := H1.out.step (by rw [← hb]; exact hbr)
   have KB := Lib.hid (decide_eq_true hbr)
   clear hb
   go_wp2_with fail
   refine (within_b (n := b) (lo := 0) (hi := 6) wr KB.out).mono ?_
   rintro e w3 ⟨rfl, hb3⟩
   replace HBr := Lib.hid (HBr.out.keep hb3)
   replace HR := Lib.hid (HR.out.keep hb3)
   clear hb3
   clear HLr p0 e0 HCr
   go_wp2
   go_loopw [29] (fun i wr => ∃ k : Nat, k ≤ v ∧ i = .int .i64 k ∧ Hid (∀ u, u < k → Tcp (rw_ x) l v u) ∧ Hid (From w1 wr)) (fun i _ => v - (intOf i).toNat)
   case atStart => exact ⟨0, Nat.zero_le _, rfl, (fun u hu => absurd hu (by omega)), HR⟩
   case round =>
    clear HR HBr
    obtain ⟨k, hk, rfl, H3, HR⟩ := hrel
    by_cases hkv : k < v
    ·have i2 : (k : Int) < (v : Int) := by omega
     have i3 : (k : Int) < (n : Int) := by omega
     have HBr := Lib.hid (HB.out.up HR.out)
     have HLr := Lib.hid (HL.out.keep HR.out.below)
     have HGr := Lib.hid (HG.out.keep HR.out.below)
     have HCr := Lib.hid (HC.out.keep HR.out.below)
     have e0 := HCr.out.c0
     have e1 := HCr.out.c1
     have p1 := HLr.out.at (show k < n by omega)
     have p0 := HLr.out.at hvn
     have q0 := HGr.out.row hvn
     have hr := HV.out.lt128 hvn
     obtain ⟨a, ha'⟩ : ∃ a : Int, a = l.getD k 0 := ⟨_, rfl⟩
     rw [← ha'] at p1
     rw [← Hb.out] at p0
     have Hp : Hid (Tcp (rw_ x) l v k ↔ ¬ ((rw_ x v).testBit k = true ∧ a = b)) := by show _ ↔ _; unfold Tcp; rw [← ha', ← Hb.out]
     clear ha'
     have hkn : k < n := by omega
     cases h1 : (rw_ x v).testBit k
     ·have K1 := Lib.hid (has_q hr (by omega) h1)
      have H3' : Hid (∀ u, u < k + 1 → Tcp (rw_ x) l v u) := fun u hu => by
       by_cases e : u < k
       ·exact H3.out u e
       ·obtain rfl : u = k := by omega
        exact Hp.out.2 (fun hh => by rw [h1] at hh; cases hh.1)
      clear h1
      go_wp2_with fail
      refine (K1.out _).mono ?_
      rintro e w' ⟨rfl, rfl⟩
      go_wp2
      first
       | (refine ⟨⟨k + 1, by omega, by go_num, H3', HR⟩, ?_⟩
          simp [intOf] <;> omega)
       | (go_roundw
          case rel => exact ⟨k + 1, by omega, by go_num, H3', HR⟩
          case measure => (simp [intOf] <;> omega))
     ·have K1 := Lib.hid (has_q hr (by omega) h1)
      by_cases hg : a = b
      ·have Hn : Hid (iclB (rw_ x) n l = false) := icl_no2 hvn hkv fun ht => Hp.out.1 ht ⟨h1, hg⟩
       have d2 : (a == b) = true := by simpa using hg
       have d3 : (b == a) = true := by simpa using hg.symm
       clear h1 hg
       go_wp2_with fail
       refine (K1.out _).mono ?_
       rintro e w' ⟨rfl, rfl⟩
       go_wp2
       go_ret
       exact ⟨ret_bool (by rw [Hy.out, Hn.out]), HBr.out.below⟩
      ·have H3' : Hid (∀ u, u < k + 1 → Tcp (rw_ x) l v u) := fun u hu => by
        by_cases e : u < k
        ·exact H3.out u e
        ·obtain rfl : u = k := by omega
         exact Hp.out.2 (fun hh => hg hh.2)
       have d2 : (a == b) = false := by simpa using hg
       have d3 : (b == a) = false := by simpa using fun e : b = a => hg e.symm
       clear h1 hg
       go_wp2_with fail
       refine (K1.out _).mono ?_
       rintro e w' ⟨rfl, rfl⟩
       go_wp2
       first
        | (refine ⟨⟨k + 1, by omega, by go_num, H3', HR⟩, ?_⟩
           simp [intOf] <;> omega)
        | (go_roundw
           case rel => exact ⟨k + 1, by omega, by go_num, H3', HR⟩
           case measure => (simp [intOf] <;> omega))
    ·have H2' : Hid (Tc2 (rw_ x) l (v + 1)) := H2.out.step fun u hu => H3.out u (by omega)
     have i2 : (v : Int) ≤ (k : Int) := by omega
     go_wp2
     go_roundw
     case rel => exact ⟨v + 1, by omega, by go_num, H1', H2', HR⟩
     case measure => (simp [intOf] <;> omega)
  ·obtain rfl : n = v := by omega
   have Hn : Hid (iclB (rw_ x) n l = true) := icl_yes H1.out H2.out
   go_wp2
   go_ret
   exact ⟨ret_bool (by rw [Hy.out, Hn.out]), HBr.out.below⟩
end Go.Proofs.YtdpkbfiggbcclaaGreat
