/-
  Several texts in one.
-/
import Derived.Test.YtdpkbfiggbcclaaGreatQmThjP
import Derived.Test.YtdpkbfiggbcclaaGreatQmGC
import Derived.Test.YtdpkbfiggbcclaaGreatQmMdlP
import Derived.Test.YtdpkbfiggbcclaaGreatQmSidP
import Derived.Test.YtdpkbfiggbcclaaGreatQmUmbS
import Derived.Test.YtdpkbfiggbcclaaGreatQmClaim
import Derived.Test.YtdpkbfiggbcclaaGreatQmCmbS
/-
-/
namespace Go.Proofs.YtdpkbfiggbcclaaGreat
open Go.RowKit
set_option maxHeartbeats 6400000
structure JS (r : Nat → Nat) (m left n : Nat) (T : List Nat) (q : Nat → Nat) (d : Nat → Bool) : Prop where
 len : T.length = n
 rem : left = remA (2 ^ m - 1) T
 qs : ∀ j, j < n → q j = T.reverse.getD j 0
 ds : ∀ j, j < n → d j = (joinOf r (2 ^ m - 1) T).reverse.getD j false
theorem JS.nil {r : Nat → Nat} {m : Nat} {q : Nat → Nat} {d : Nat → Bool} : JS r m (2 ^ m - 1) 0 [] q d := ⟨rfl, rfl, fun j hj => absurd hj (by omega), fun j hj => absurd hj (by omega)⟩
theorem JS.snoc {r : Nat → Nat} {m left n v : Nat} {T : List Nat} {q : Nat → Nat} {d : Nat → Bool} (h : JS r m left n T q d) {t : Bool} (ht : t = decide (r v &&& left ≠ 0)) : JS r m (left ^^^ 2 ^ v) (1 + n) (T ++ [v]) (fun j => if j < 1 then v else q (j - 1)) (fun j => if j < 1 then t else d (j - 1)) := by
 refine ⟨by rw [List.length_append, h.len, List.length_singleton]; omega, by rw [remA_snoc, ← h.rem], fun j hj => ?_, fun j hj => ?_⟩
 ·rw [List.reverse_append];cases j with
  | zero => rfl
  | succ j =>
    show (if j + 1 < 1 then v else q (j + 1 - 1)) = _;rw [if_neg (by omega), Nat.add_sub_cancel, h.qs j (by omega)];rfl
 ·rw [joinOf_snoc, ← h.rem, List.reverse_append];cases j with
  | zero => show t = _; rw [ht]; rfl
  | succ j =>
    show (if j + 1 < 1 then t else d (j + 1 - 1)) = _;rw [if_neg (by omega), Nat.add_sub_cancel, h.ds j (by omega)];rfl
section
variable {A : Option Addr} {m c : Nat} {r : Nat → Nat} {w : World}
set_option maxRecDepth 100000 in
theorem ThresholdOrder_svl (h : GV w A m c r) :
 Calls Tryz.prog 288 #[.agg #[.int .i64 m, .slice A m c]] w (thQ w (joinOf r (2 ^ m - 1)) (thO r m)) := by
 obtain ⟨b0, o0, rfl⟩ := h.addr;have hn7 := h.vg.n7;have h128 := two_pow_le hn7;have hpos := Nat.two_pow_pos m;have HV := hh_ h.vg;have Hth0 : Hid (thO r m = (redL (thF r) (2 ^ m - 1)).map ([] ++ ·)) := redL_start;obtain ⟨F, hF⟩ : ∃ F, F = 2 ^ m := ⟨_, rfl⟩;have pm : IntKind.i64.wrap ((2 : Int) ^ m) = (F : Int) := by rw [pow_shl m hn7, hF]; simp
 have sm : IntKind.i64.wrap ((F : Int) - 1) = ((F - 1 : Nat) : Int) := by rw [Go.IntWalk.i64_in _ (by omega)]; omega
 have HF := hh_ hF;have hFl : 1 ≤ F ∧ F ≤ 128 := by rw [hF]; exact ⟨hpos, h128⟩
 clear hF;obtain ⟨W, hW⟩ : ∃ W, W = (((w.alloc (Obj.cells #[.int .i64 m, .slice (some ⟨b0, o0, none⟩) m c] 28)).alloc (Obj.cells #[] 3)).alloc (Obj.cells #[] 4)) := ⟨_, rfl⟩;have HB : Hid (From w W) := by rw [hW]; exact ((From.alloc _ _).alloc_ _).alloc_ _
 have HG : Hid (GBox W w.heap.size (some ⟨b0, o0, none⟩) m c r) := by rw [hW]; exact h.box.keep ((br_.alloc nr_ _).alloc (by simp) _)
 have HI : Hid (Own W w.heap.size W.heap.size 3 1 (some ⟨w.heap.size + 1, 0, none⟩) 0 0 (fun j => .int .i64 ((fun _ => 0 : Nat → Nat) j : Nat))) := by
  rw [hW];have h1 := (ON.nil (w.alloc (Obj.cells #[.int .i64 m, .slice (some ⟨b0, o0, none⟩) m c] 28))).own;rw [show (w.alloc (Obj.cells #[.int .i64 m, .slice (some ⟨b0, o0, none⟩) m c] 28)).heap.size = w.heap.size + 1 from by simp] at h1;exact ((h1.congr (fun j hj => absurd hj (by simp))).alloc _).mono (by omega) (by simp)
 have HJ : Hid (Own W w.heap.size W.heap.size 4 1 (some ⟨w.heap.size + 2, 0, none⟩) 0 0 (fun j => .bool ((fun _ => false : Nat → Bool) j))) := by
  have hn := heap_alloc_new ((w.alloc (Obj.cells #[.int .i64 m, .slice (some ⟨b0, o0, none⟩) m c] 28)).alloc (Obj.cells #[] 3)) (Obj.cells #[] 4);have he : ((w.alloc (Obj.cells #[.int .i64 m, .slice (some ⟨b0, o0, none⟩) m c] 28)).alloc (Obj.cells #[] 3)).heap.size = w.heap.size + 2 := by simp
  have hz : W.heap.size = w.heap.size + 3 := by rw [hW]; simp
  rw [he, ← hW] at hn;exact .inr ⟨w.heap.size + 2, #[], rfl, by omega, by omega, hn, nr_, by unfold maxLen; omega, rfl, fun j hj => absurd hj (by omega)⟩
 have HW := hh_ hW;clear hW h;go_enter Tryz.func288, Tryz.ntmps288;obtain ⟨e0, e1⟩ := gx_ HG;go_wp2_with fail
 rw [← HW.out];clear HW;refine (IsGraph_sv HG.gv).mono ?_;rintro e w1 ⟨rfl, hb1⟩;have HI1 : Hid (Own w1 w.heap.size w1.heap.size 3 1 (some ⟨w.heap.size + 1, 0, none⟩) 0 0 (fun j => .int .i64 ((fun _ => 0 : Nat → Nat) j : Nat))) := (HI.keepB hb1 nr_).mono nr_ hb1.size;have HJ1 : Hid (Own w1 w.heap.size w1.heap.size 4 1 (some ⟨w.heap.size + 2, 0, none⟩) 0 0 (fun j => .bool ((fun _ => false : Nat → Bool) j))) := (HJ.keepB hb1 nr_).mono nr_ hb1.size;clear HI HJ;clear e0 e1;obtain ⟨HB, HG, e0, e1⟩ := kG_ HB HG hb1;clear hb1;go_wp2;go_loopw [5, 6, 7] (fun a b l wr => ∃ (n left : Nat) (T : List Nat) (A1 A2 : Option Addr) (c1 c2 : Nat) (q : Nat → Nat) (d : Nat → Bool), n + left < F ∧ a = .slice A1 n c1 ∧ b = .slice A2 n c2 ∧ l = .int .i64 left ∧ Hid (Own wr w.heap.size wr.heap.size 3 1 A1 n c1 (fun j => .int .i64 (q j : Nat))) ∧ Hid (Own wr w.heap.size wr.heap.size 4 1 A2 n c2 (fun j => .bool (d j))) ∧ Hid (From w1 wr) ∧ Hid (thO r m = (redL (thF r) left).map (T ++ ·)) ∧ Hid (JS r m left n T q d)) (fun _ _ l _ => (intOf l).toNat)
 case atStart => exact ⟨0, F - 1, [], _, _, 0, 0, _, _, by omega, rfl, rfl, rfl, HI1, HJ1, From.refl _, by rw [HF.out]; exact Hth0.out, by rw [HF.out]; exact JS.nil⟩
 case round =>
  obtain ⟨n, left, T, A1, A2, c1, c2, q, d, hnl, rfl, rfl, rfl, HOI, HOJ, HR, Hth, HJs⟩ := hrel;clear HI1 HJ1 Hth0;clear e0 e1;replace HB := hh_ (HB.keep HR.below);replace HG := hh_ (HG.keep HR.below);obtain ⟨e0, e1⟩ := gx_ HG;by_cases hl0 : left = 0
  ·subst hl0;have Hs : Hid (thO r m = some T) := redL_end Hth.out;have HO1 : Hid (ON w.heap.size wr A1 c1 T.reverse) := ⟨by
    rw [List.length_reverse, HJs.len];exact HOI.congr (fun j hj => by unfold ni; rw [HJs.qs j (by omega)])⟩
   have HO2 : Hid (Own wr w.heap.size wr.heap.size 4 1 A2 T.length c2 (fun t => .bool ((joinOf r (2 ^ m - 1) T).reverse.getD t false))) := by
    rw [HJs.len];exact HOJ.congr (fun j hj => by rw [HJs.ds j (by omega)])
   have Hn := hh_ HJs.len;clear Hth;go_wp2;go_ret3;rw [Hs.out, ← Hn.out];exact ⟨_, _, _, _, rfl, HO1.out, HO2.out, HB.below⟩
  ·have i1 : (0 : Int) < left := by omega
   have Hl0 := hh_ hl0;have Hll : Hid (left < 2 ^ m) := by show _ < _; rw [← HF.out]; omega
   clear hl0;go_wp2;go_loopw [8, 9, 10] (fun a b v wz => ∃ (k : Nat) (t : Bool), k ≤ m ∧ v = .int .i64 k ∧ a = .int .i64 (optI (thT r left k)) ∧ b = .bool t ∧ wz = wr ∧ Hid (∀ v, thT r left k = some v → t = decide (r v &&& left ≠ 0))) (fun _ _ v _ => m - (intOf v).toNat);case atStart => exact ⟨0, false, Nat.zero_le _, rfl, rfl, rfl, rfl, fun v h => by cases h⟩
   case round =>
    obtain ⟨k, t, hk, rfl, rfl, rfl, rfl, HTt⟩ := hrel;by_cases hkm : k < m
    ·have i2 : (k : Int) < m := by omega
     have p0 := HG.gv.row hkm;have hr := HV.lt128 hkm;have hirr := HV.irr k hkm;have Hno : Hid ((left.testBit k = false ∨ thB r left k = false) → thT r left (k + 1) = thT r left k) := fun h => thT_no h
     have Hyes : Hid (left.testBit k = true → thB r left k = true → thT r left (k + 1) = some k) := fun h h2 => thT_yes h h2
     have hthB : thB r left k = (r k &&& left == 0 || (r k &&& left) ||| 2 ^ k == left) := rfl;have hsub : left.testBit k = true → (((r k &&& left) ||| 2 ^ k = left) ↔ (r k &&& left = left - 2 ^ k)) := fun hb => thB_sub hb hirr
     obtain ⟨o, ho⟩ : ∃ o, o = thT r left k := ⟨_, rfl⟩;rw [← ho] at Hno HTt ⊢;obtain ⟨x, hx⟩ : ∃ x, x = r k := ⟨_, rfl⟩;rw [← hx] at p0 hr hthB hsub;have hand : x &&& left < 128 := Nat.lt_of_le_of_lt Nat.and_le_left hr;have E2 := i64_and_nat x left (by omega) (by omega);have E1 := and_one_i64 (left : Int) k (by omega) (by omega);rw [Int.toNat_natCast] at E1;have Hx := hh_ hx;clear hx ho hirr;cases hb : left.testBit k
     ·rw [hb] at E1;have Hs := hh_ (Hno.out (.inl hb));obtain ⟨y, hy⟩ : ∃ y, y = x &&& left := ⟨_, rfl⟩;rw [← hy] at E2 hand;clear hb hsub hthB hy;go_wp2;go_roundw;case rel => exact ⟨k + 1, t, by omega, by go_num, by rw [Hs.out], rfl, by first | rfl | trivial, fun v h => HTt.out v (by rw [← Hs.out]; exact h)⟩
      case measure => (simp [intOf] <;> omega)
     ·rw [hb] at E1;have hsb := hsub hb;have hz := bit_ge hb;obtain ⟨z, hz'⟩ : ∃ z, z = 2 ^ k := ⟨_, rfl⟩;have pv : IntKind.i64.wrap ((2 : Int) ^ k) = (z : Int) := by rw [pow_shl k (by omega), hz']; simp
      rw [← hz'] at hz hsb hthB;have s3 : IntKind.i64.wrap ((left : Int) - (z : Int)) = ((left - z : Nat) : Int) := by rw [Go.IntWalk.i64_in _ (by omega)]; omega
      obtain ⟨y, hy⟩ : ∃ y, y = left - z := ⟨_, rfl⟩;rw [← hy] at s3 hsb;obtain ⟨n0, hn0⟩ : ∃ n0, n0 = x &&& left := ⟨_, rfl⟩;rw [← hn0] at E2 hand hsb hthB;have Hn0 : Hid (n0 = r k &&& left) := by show _ = _; rw [hn0, Hx.out]
      clear hz' hsub hn0;by_cases h1 : n0 = 0
      ·have Hs := hh_ (Hyes.out hb (by rw [hthB, h1]; rfl));have d1 : ((n0 : Int) == 0) = true := by simp; omega
       have d2 : ((n0 : Int) != 0) = false := by simp; omega
       have H1 := hh_ h1;clear hb hy hsb hthB h1;go_wp2;go_roundw;case rel => exact ⟨k + 1, false, by omega, by go_num, by rw [Hs.out]; rfl, rfl, by first | rfl | trivial, fun v h => by rw [Hs.out] at h; cases h; exact (decide_eq_false (by rw [← Hn0.out]; exact fun hh => hh H1.out)).symm⟩
       case measure => (simp [intOf] <;> omega)
      ·have d1 : ((n0 : Int) == 0) = false := by simp; omega
       have d2 : ((n0 : Int) != 0) = true := by simp; omega
       by_cases h2 : n0 = y
       ·have Hs := hh_ (Hyes.out hb (by rw [hthB, beq_iff_eq.2 (hsb.2 h2), Bool.or_true]));have d3 : ((n0 : Int) == (y : Int)) = true := by simp; omega
        have H1 := hh_ h1;have d4 : (n0 = y) = True := by simp [h2]
        clear hb hy hsb hthB h1 h2;go_wp2;go_roundw;case rel => exact ⟨k + 1, true, by omega, by go_num, by rw [Hs.out]; rfl, rfl, by first | rfl | trivial, fun v h => by rw [Hs.out] at h; cases h; exact (decide_eq_true (by rw [← Hn0.out]; exact H1.out)).symm⟩
        case measure => (simp [intOf] <;> omega)
       ·have Hs := hh_ (Hno.out (.inr (by
         rw [hthB, Bool.or_eq_false_iff];exact ⟨by simpa using h1, by simpa using fun h => h2 (hsb.1 h)⟩)))
        have d3 : ((n0 : Int) == (y : Int)) = false := by simp; omega
        have d4 : (n0 = y) = False := by simp [h2]
        clear hb hy hsb hthB h1 h2;go_wp2;go_roundw;case rel => exact ⟨k + 1, t, by omega, by go_num, by rw [Hs.out], rfl, by first | rfl | trivial, fun v h => HTt.out v (by rw [← Hs.out]; exact h)⟩
        case measure => (simp [intOf] <;> omega)
    ·have hkm' : k = m := by omega
     have hth : thT r left k = thF r left := by rw [hkm']; exact (thT_more Hll.out 7 hn7).symm
     rw [hth] at HTt ⊢;have i2 : (m : Int) ≤ k := by omega
     clear hth hkm';cases ht : thF r left with
     | none =>
       have Hs : Hid (thO r m = none) := redL_stuck Hl0.out ht Hth.out;have HTN : Hid (TwoO ((wr.alloc (Obj.cells #[] 3)).alloc (Obj.cells #[] 4)) wr.heap.size wr.heap.size (wr.heap.size + 1) [] 0 0 0 (fun _ => false)) := TwoO.new wr;have hzw := HB.below.size;have HBz := hh_ ((HB.alloc_ (Obj.cells #[] 3)).alloc_ (Obj.cells #[] 4));have hq : optI none = -1 := rfl;rw [hq];clear ht Hth hq;go_wp2;go_ret3;rw [Hs.out];exact ⟨_, _, _, _, rfl, ⟨HTN.oi.mono hzw HTN.lg.2⟩, (HTN.ob.mono (by omega) HTN.lh.2).congr (fun j hj => absurd hj (by simp)), HBz.below⟩
     | some v =>
       have htb := thT_bit ht;have hq : optI (some v) = (v : Int) := rfl;rw [hq];clear hq;have hz := bit_ge htb.2;have hxs := xor_bit_sub htb.2;have Hth2 : Hid (thO r m = (redL (thF r) (left - 2 ^ v)).map ((T ++ [v]) ++ ·)) := by
        have h9 := redL_step htb.2 ht Hth.out;rw [hxs] at h9;exact h9
       have HJ2 : Hid (JS r m (left - 2 ^ v) (1 + n) (T ++ [v]) (fun j => if j < 1 then v else q (j - 1)) (fun j => if j < 1 then t else d (j - 1))) := by
        have h9 := HJs.snoc (v := v) (HTt.out v ht);rw [hxs] at h9;exact h9
       have hv7 := htb.1;obtain ⟨z, hz'⟩ : ∃ z, z = 2 ^ v := ⟨_, rfl⟩;have hzp : 0 < z := by rw [hz']; exact Nat.two_pow_pos _
       have pv : IntKind.i64.wrap ((2 : Int) ^ v) = (z : Int) := by rw [pow_shl v (by omega), hz']; simp
       rw [← hz'] at hz Hth2 HJ2;have s3 : IntKind.i64.wrap ((left : Int) - (z : Int)) = ((left - z : Nat) : Int) := by rw [Go.IntWalk.i64_in _ (by omega)]; omega
       have i3 : (0 : Int) ≤ v := by omega
       have HL1 : Hid (Own (wr.alloc (Obj.cells #[.int .i64 (v : Int)] 3)) wr.heap.size (wr.heap.size + 1) 3 1 (some ⟨wr.heap.size, 0, none⟩) 1 1 (fun _ => .int .i64 (v : Int))) :=
        .inr ⟨wr.heap.size, #[.int .i64 (v : Int)], rfl, nr_, Nat.lt_succ_self _, heap_alloc_new wr _, nr_, by unfold maxLen; omega, rfl, fun j hj => by (have h0 : j = 0 := by omega); subst h0; rfl⟩
       have HR1 : Hid (Rd (wr.alloc (Obj.cells #[.int .i64 (v : Int)] 3)) wr.heap.size A1 n c1 (fun j => ((q j : Nat) : Int))) := HOI.rd.keep (br_.alloc nr_ _) nr_;have KL : Hid (∀ z : World, Own (z.alloc (Obj.cells #[.bool t] 4)) z.heap.size (z.heap.size + 1) 4 1 (some ⟨z.heap.size, 0, none⟩) 1 1 (fun _ => .bool t)) := fun z =>
        .inr ⟨z.heap.size, #[.bool t], rfl, nr_, Nat.lt_succ_self _, heap_alloc_new z _, nr_, by unfold maxLen; omega, rfl, fun j hj => by (have h0 : j = 0 := by omega); subst h0; rfl⟩
       have KR : Hid (∀ z : World, Below wr.heap.size wr z → RdV (z.alloc (Obj.cells #[.bool t] 4)) wr.heap.size A2 n c2 (fun j => .bool (d j))) := fun z hz => HOJ.rdV.keep (bl_alloc hz) nr_
       have HA0 : Hid (Below wr.heap.size wr (wr.alloc (Obj.cells #[.int .i64 (v : Int)] 3))) := br_.alloc nr_ _;have hzz := HB.below.size;clear htb hxs ht hz' Hth;go_wp2_with (first | (at_builtin; (refine wpList_appendI _ rfl _ _ rfl rfl HL1.out rfl HR1.out (by simp) (by omega) (by omega) ?_; intro A3 c3 w3 hO3 hb3)) | (at_builtin; (refine wpList_appendB _ rfl _ _ rfl rfl (KL.out w3) rfl (KR.out w3 (HA0.trans hb3)) (fun _ => rfl) (by simp) (by omega) (by omega) ?_; intro A4 c4 w4 hO4 hb4)))
       have HOI2 : Hid (Own w4 w.heap.size w4.heap.size 3 1 A3 (1 + n) c3 (fun j => .int .i64 (((fun j => if j < 1 then v else q (j - 1) : Nat → Nat) j : Nat) : Int))) := by
        have h4 : Below w3.heap.size w3 w4 := (br_.alloc nr_ _).trans hb4;refine ((hO3.keepB h4 nr_).mono hzz h4.size).congr (fun j hj => ?_);unfold thenI;by_cases h1 : j < 1 <;> simp [h1]
       have HOJ2 : Hid (Own w4 w.heap.size w4.heap.size 4 1 A4 (1 + n) c4 (fun j => .bool ((fun j => if j < 1 then t else d (j - 1) : Nat → Bool) j))) := by
        have h3 := (HA0.trans hb3).size;refine (hO4.mono (by omega) nr_).congr (fun j hj => ?_);unfold thenB;by_cases h1 : j < 1 <;> simp [h1]
       have HR4 : Hid (From w1 w4) := by
        have h3 := HA0.trans hb3;have h4 : Below w3.heap.size w3 w4 := (br_.alloc nr_ _).trans hb4;exact ⟨HR.below.trans ((h3.trans (h4.mono h3.size)).mono HR.below.size)⟩
       clear hO3 hb3 hO4 hb4 HL1 HR1 KL KR HA0;go_roundw;case rel => exact ⟨1 + n, left - z, T ++ [v], A3, A4, c3, c4, _, _, by omega, rfl, rfl, by first | rfl | go_num, HOI2, HOJ2, HR4, Hth2, HJ2⟩
       case measure => (simp [intOf] <;> omega)
end
set_option maxHeartbeats 3200000
section
variable {A : Option Addr} {m c : Nat} {r : Nat → Nat} {w : World}
set_option maxRecDepth 100000 in
theorem WeightsOf_svl (h : GV w A m c r) :
 Calls Tryz.prog 274 #[.agg #[.int .i64 m, .slice A m c]] w (wgQ w m r) := by
 have hn7 := h.vg.n7;have hn1 := h.vg.n1;have h128 := two_pow_le hn7;have hpos := Nat.two_pow_pos m;obtain ⟨W, hW, HB, HG⟩ := gbW h;have HW := hh_ hW;clear hW h;obtain ⟨e0, e1⟩ := gx_ HG;cases ho : thO r m with
 | none =>
   have Ho := hh_ ho;have KT : Hid (Calls Tryz.prog 288 #[.agg #[.int .i64 m, .slice A m c]] W fun e w' => ∃ A1 c1 A2 c2, e = .returned (.tuple #[.slice A1 0 c1, .slice A2 0 c2, .bool false]) ∧ Below W.heap.size W w') := (ThresholdOrder_svl HG.gv).mono fun e w' h => by
    rw [ho] at h;obtain ⟨A1, c1, A2, c2, he, _, _, hb⟩ := h;exact ⟨A1, c1, A2, c2, he, hb⟩
   clear ho;go_enter Tryz.func274, Tryz.ntmps274;go_wp2_with fail
   rw [← HW.out];refine (KT.out).mono ?_;rintro e w1 ⟨A1, c1, A2, c2, rfl, hb1⟩;clear HW;clear e0 e1;obtain ⟨HB, HG, e0, e1⟩ := kG_ HB HG hb1;clear hb1;clear KT;go_wp2;go_ret3;exact ⟨_, _, _, 0, by rw [Ho.out]; rfl, fun x hx => (by rw [Ho.out] at hx; cases hx), (HB.alloc_ _).below⟩
 | some x =>
   have Ho := hh_ ho;obtain ⟨hxm, hxn⟩ := redL_set _ _ ho;have hxl := redL_len _ _ ho;obtain ⟨l, hl⟩ : ∃ l, l = x.reverse := ⟨_, rfl⟩;obtain ⟨js, hjs⟩ : ∃ js, js = (joinOf r (2 ^ m - 1) x).reverse := ⟨_, rfl⟩;have hll : x.length = l.length := by rw [hl, List.length_reverse]
   have hlm : ∀ v ∈ l, v < m := fun v hv => by
    rw [hl, List.mem_reverse] at hv;exact bit_lt (show 2 ^ m - 1 < 2 ^ m by omega) (hxm v hv)
   have KT : Hid (Calls Tryz.prog 288 #[.agg #[.int .i64 m, .slice A m c]] W fun e w' => ∃ A1 c1 A2 c2, e = .returned (.tuple #[.slice A1 l.length c1, .slice A2 l.length c2, .bool true]) ∧ LN w' A1 c1 l ∧ RdV w' w'.heap.size A2 l.length c2 (fun t => .bool (js.getD t false)) ∧ Below W.heap.size W w') := (ThresholdOrder_svl HG.gv).mono fun e w' h => by
    rw [ho] at h;obtain ⟨A1, c1, A2, c2, he, h1, h2, hb⟩ := h;refine ⟨A1, c1, A2, c2, by rw [← hll]; exact he, ?_, ?_, hb⟩
    ·rw [hl]; exact h1.ln
    ·rw [← hll, hjs]; exact h2.rdV
   have HND : Hid l.Nodup := by
    rw [hl];unfold Hid List.Nodup;rw [List.pairwise_reverse];exact hxn.imp fun h => h.symm
   have HLM := hh_ hlm;have HLL := hh_ hll;have Hl := hh_ hl;have Hjs := hh_ hjs;have hlen : l.length ≤ 127 := by omega
   clear ho hxm hxn hxl hl hjs hll hlm;go_enter Tryz.func274, Tryz.ntmps274;go_wp2_with fail
   rw [← HW.out];refine (KT.out).mono ?_;rintro e w2 ⟨A1, c1, A2, c2, rfl, hL, hJ, hb2⟩;clear HW;clear e0 e1;obtain ⟨HB, HG, e0, e1⟩ := kG_ HB HG hb2;clear hb2;clear KT;have HL := hh_ hL;have HJ := hh_ hJ;have hcap := hL.le;clear hL hJ;obtain ⟨W2, hmk, hO2, hb2⟩ := made_own w2 m (by omega);have HO2 : Hid (Own W2 w2.heap.size (w2.heap.size + 1) 3 1 (some ⟨w2.heap.size, 0, none⟩) m m (fun j => .int .i64 (wtF l js 0 j : Nat))) := hO2.congr fun j _ => rfl
   have HB2 : Hid (Below w2.heap.size w2 W2) := hb2;clear hO2 hb2;go_wp2;go_loopw [9, 10] (fun lm i wr => ∃ k : Nat, k ≤ l.length ∧ i = .int .i64 k ∧ lm = .int .i64 (wtL js k : Nat) ∧ Hid (Own wr w2.heap.size (w2.heap.size + 1) 3 1 (some ⟨w2.heap.size, 0, none⟩) m m (fun j => .int .i64 (wtF l js k j : Nat))) ∧ Hid (Below w2.heap.size w2 wr)) (fun _ i _ => l.length - (intOf i).toNat);case atStart => exact ⟨0, Nat.zero_le _, rfl, rfl, HO2, HB2⟩
   case round =>
    clear HO2 HB2;obtain ⟨k, hk, rfl, rfl, HO, HBr⟩ := hrel;by_cases hkl : k < l.length
    ·have i1 : (k : Int) < l.length := by omega
     have i2 : (k : Int) ≤ c1 := by omega
     have hwl := wtL_le (js := js) k;have HLr : Hid (LN wr A1 c1 l) := HL.keep HBr.out;have HJr : Hid (RdV wr wr.heap.size A2 l.length c2 (fun t => .bool (js.getD t false))) := HJ.keep HBr.out HBr.size;obtain ⟨b1, o1, rfl⟩ := HLr.addr (by omega);have p0 := HLr.at hkl;obtain ⟨b2, o2, e2, _, hj2⟩ := HJr.out.2 (by omega);subst e2;have p1 : wr.cell? ⟨b2, o2 + k, none⟩ = some (.bool (js.getD k false)) := hj2 k hkl;obtain ⟨v, hv⟩ : ∃ v, v = l[k] := ⟨_, rfl⟩;rw [← hv] at p0;have hvm : v < m := by rw [hv]; exact HLM.out _ (List.getElem_mem hkl)
     have hvd : v = l.getD k 0 := by rw [hv]; simp [List.getD, hkl]
     obtain ⟨t, ht⟩ : ∃ t, t = js.getD k false := ⟨_, rfl⟩;rw [← ht] at p1;have i3 : (v : Int) < m := by omega
     have Hvd := hh_ hvd;have Ht := hh_ ht;obtain ⟨g', e, _, _, _, h1, h2⟩ := HO.at_ (by omega);simp only [Option.some.injEq, Addr.mk.injEq, and_true] at e;subst e;obtain ⟨lm, hlm⟩ : ∃ lm, lm = wtL js k := ⟨_, rfl⟩;rw [← hlm] at hwl ⊢;have Hlm := hh_ hlm;clear hj2 hv hvd ht hlm;cases t
     ·have HLk : Hid (∀ j, wtF l js k j + (l.take 0).count j = wtF l js k j) := fun j => by simp
      have HOk : Hid (Own wr w2.heap.size (w2.heap.size + 1) 3 1 (some ⟨w2.heap.size, 0, none⟩) m m (fun j => .int .i64 (wtF l js k j + (l.take 0).count j : Nat))) := HO.congr fun j _ => by rw [HLk.out]
      have HBk : Hid (Below w2.heap.size w2 wr) := HBr;clear h1 h2;go_wp2;go_loopw [11] (fun i wz_ => ∃ q : Nat, q ≤ k ∧ i = .int .i64 q ∧ Hid (Own wz_ w2.heap.size (w2.heap.size + 1) 3 1 (some ⟨w2.heap.size, 0, none⟩) m m (fun j => .int .i64 (wtF l js k j + (l.take q).count j : Nat))) ∧ Hid (Below w2.heap.size w2 wz_)) (fun i _ => k - (intOf i).toNat);case atStart => exact ⟨0, Nat.zero_le _, rfl, HOk, HBk⟩
      case round =>
       clear HOk HBk HLr HJr p0 p1;obtain ⟨q, hq, rfl, HOz, HBz⟩ := hrel;by_cases hqk : q < k
       ·have i4 : (q : Int) < k := by omega
        have HLz : Hid (LN wr (some ⟨b1, o1, none⟩) c1 l) := HL.keep HBz.out;have p2 := HLz.at (show q < l.length by omega);obtain ⟨y, hy⟩ : ∃ y, y = l[q] := ⟨_, rfl⟩;rw [← hy] at p2;have hym : y < m := by rw [hy]; exact HLM.out _ (List.getElem_mem _)
        have i5 : (y : Int) < m := by omega
        obtain ⟨g', e, _, _, _, h1, h2⟩ := HOz.at_ (by omega);simp only [Option.some.injEq, Addr.mk.injEq, and_true] at e;subst e;have q0 := h1 y (by omega);have f0 := h2 y;have hc1 := wtF_le (l := l) (js := js) (u := y) k (by omega);have hc2 : (l.take q).count y ≤ 127 := Nat.le_trans List.count_le_length (by rw [List.length_take]; omega);obtain ⟨cc, hcc⟩ : ∃ cc, cc = wtF l js k y + (l.take q).count y := ⟨_, rfl⟩;have hccb : cc ≤ 100000 := by rw [hcc]; omega
        rw [← hcc] at q0;have Hst : Hid (∀ j, wtF l js k j + (l.take (q + 1)).count j = if j = y then cc + 1 else wtF l js k j + (l.take q).count j) := fun j => by
         rw [take_count (show q < l.length by omega), ← hy];by_cases e : j = y
         ·subst e; rw [if_pos rfl, if_pos rfl, hcc]; omega
         ·rw [if_neg e, if_neg (fun h => e h.symm)]; omega
        clear h1 h2 hy hcc hc1 hc2;go_wp2;go_region
        have HO6 : Hid (Own (wr.setCell ⟨w2.heap.size, y, none⟩ (.int .i64 ((cc : Int) + 1))).drew w2.heap.size (w2.heap.size + 1) 3 1 (some ⟨w2.heap.size, 0, none⟩) m m (fun j => .int .i64 (wtF l js k j + (l.take (q + 1)).count j : Nat))) := ((HOz.set_ y _).drew).congr (fun j _ => by rw [Hst.out]; split <;> rfl);have HB6 : Hid (Below w2.heap.size w2 (wr.setCell ⟨w2.heap.size, y, none⟩ (.int .i64 ((cc : Int) + 1))).drew) := (HBz.setCell (p := ⟨w2.heap.size, y, none⟩) nr_ _).drew;go_wp2;go_roundw;case rel => exact ⟨q + 1, by omega, by go_num, HO6, HB6⟩
        case measure => (simp [intOf] <;> omega)
       ·obtain rfl : k = q := by omega
        have Hw : Hid (wtL js (k + 1) = lm + 2) := by show _ = _; rw [wtL, ← Ht.out, Hlm.out]; rfl
        have HLz : Hid (LN wr (some ⟨b1, o1, none⟩) c1 l) := HL.keep HBz.out;have p2 := HLz.at hkl;have hvk : l[k] = v := by rw [Hvd.out]; simp [List.getD, hkl]
        rw [hvk] at p2;obtain ⟨g', e, _, _, _, h1, h2⟩ := HOz.at_ (by omega);simp only [Option.some.injEq, Addr.mk.injEq, and_true] at e;subst e;have q0 := h1 v (by omega);have f0 := h2 v;have Hz : Hid (wtF l js (k + 1) v = 0) := by
         have h8 : v ∉ l.take k := by
          rw [← hvk];intro hm;obtain ⟨j, hj, he⟩ := List.mem_take_iff_getElem.1 hm;exact List.pairwise_iff_getElem.1 HND.out j k (by omega) hkl (by omega) he
         show _ = _;rw [wtF, ← Ht.out];show wtF l js k v + (l.take k).count v = 0;rw [wtF_fresh h8 (by omega) k nr_, List.count_eq_zero.2 h8]
        have Hst : Hid (∀ j, wtF l js (k + 1) j = if j = v then 0 else wtF l js k j + (l.take k).count j) := fun j => by
         by_cases e : j = v
         ·rw [e, if_pos rfl, Hz.out]
         ·rw [if_neg e, wtF, ← Ht.out]; rfl
        obtain ⟨cc, hcc⟩ : ∃ cc, cc = wtF l js k v + (l.take k).count v := ⟨_, rfl⟩;rw [← hcc] at q0;clear h1 h2 hcc hvk;go_wp2;have HO6 : Hid (Own (wr.setCell ⟨w2.heap.size, v, none⟩ (.int .i64 0)) w2.heap.size (w2.heap.size + 1) 3 1 (some ⟨w2.heap.size, 0, none⟩) m m (fun j => .int .i64 (wtF l js (k + 1) j : Nat))) := (HOz.set_ v _).congr (fun j _ => by rw [Hst.out]; split <;> rfl);have HB6 : Hid (Below w2.heap.size w2 (wr.setCell ⟨w2.heap.size, v, none⟩ (.int .i64 0))) := HBz.setCell (p := ⟨w2.heap.size, v, none⟩) nr_ _;go_roundw;case rel => exact ⟨k + 1, by omega, by go_num, by rw [Hw.out]; rfl, HO6, HB6⟩
        case measure => (simp [intOf] <;> omega)
     ·have q0 := h1 v (by omega);have f0 := h2 v;have Hw : Hid (wtL js (k + 1) = lm) := by show _ = _; rw [wtL, ← Ht.out, Hlm.out]; rfl
      have Hst : Hid (∀ j, wtF l js (k + 1) j = if j = v then lm + 1 else wtF l js k j) := fun j => by rw [wtF, ← Ht.out, ← Hvd.out, Hlm.out]; rfl
      obtain ⟨cc, hcc⟩ : ∃ cc, cc = wtF l js k v := ⟨_, rfl⟩;rw [← hcc] at q0;clear h1 h2 hcc;go_wp2;have HO6 : Hid (Own (wr.setCell ⟨w2.heap.size, v, none⟩ (.int .i64 ((lm : Int) + 1))) w2.heap.size (w2.heap.size + 1) 3 1 (some ⟨w2.heap.size, 0, none⟩) m m (fun j => .int .i64 (wtF l js (k + 1) j : Nat))) := (HO.set_ v _).congr (fun j _ => by rw [Hst.out]; split <;> rfl);have HB6 : Hid (Below w2.heap.size w2 (wr.setCell ⟨w2.heap.size, v, none⟩ (.int .i64 ((lm : Int) + 1)))) := HBr.setCell (p := ⟨w2.heap.size, v, none⟩) nr_ _;go_roundw;case rel => exact ⟨k + 1, by omega, by go_num, by rw [Hw.out], HO6, HB6⟩
      case measure => (simp [intOf] <;> omega)
    ·obtain rfl : k = l.length := by omega
     have hzb := HB.below.size;have HO6 : Hid (Own wr w.heap.size wr.heap.size 3 1 (some ⟨w2.heap.size, 0, none⟩) m m (fun j => .int .i64 (wtF l js l.length j : Nat))) := by
      obtain ⟨g', e, _, _, hlt, _⟩ := HO.at_ (by omega);simp only [Option.some.injEq, Addr.mk.injEq, and_true] at e;subst e;exact HO.mono hzb hlt
     go_wp2;go_ret3;refine ⟨_, _, _, _, by rw [Ho.out]; rfl, fun x' hx' => ?_, HB.below.trans (HBr.mono hzb)⟩;rw [Ho.out] at hx';cases hx'
     rw [← Hl.out, ← Hjs.out, HLL.out];exact ⟨rfl, rfl, HO6.out⟩
end
set_option maxHeartbeats 1000000
section
variable {A : Option Addr} {m c : Nat} {r : Nat → Nat}
theorem SplitOf_sv {w : World} (h : GV w A m c r) :
 Calls Tryz.prog 273 #[.agg #[.int .i64 m, .slice A m c]] w fun e w' => e = .returned (lsV (slO r m)) ∧ Below w.heap.size w w' := by
 have hn7 := h.vg.n7;have h128 := two_pow_le hn7;have hpos := Nat.two_pow_pos m;have hpc := pow_cast m;have p1 := pow_shl m hn7;obtain ⟨W, hW, HB, HG⟩ := gbW h;have HW := hh_ hW;clear hW h;obtain ⟨e0, e1⟩ := gx_ HG;go_enter Tryz.func273, Tryz.ntmps273;go_wp2;rw [← HW.out];clear HW;go_loopw [4] (fun i wr => ∃ k : Nat, k ≤ 2 ^ m ∧ i = .int .i64 k ∧ Hid (∀ u, u < k → splB r m u = false) ∧ Hid (From W wr)) (fun i _ => 2 ^ m - (intOf i).toNat);case atStart => exact ⟨0, Nat.zero_le _, rfl, (fun u hu => absurd hu (by omega)), From.refl _⟩
 case round =>
  obtain ⟨k, hk, rfl, hall, HR⟩ := hrel;clear e0 e1;replace HB := hh_ (HB.keep HR.below);replace HG := hh_ (HG.keep HR.below);obtain ⟨e0, e1⟩ := gx_ HG;go_wp2_with fail
  refine (IsGraph_sv HG.gv).mono ?_;rintro e w1 ⟨rfl, hb1⟩;clear e0 e1;replace HB := hh_ (HB.keep hb1);replace HG := hh_ (HG.keep hb1);replace HR := hh_ (HR.keep hb1);clear hb1;obtain ⟨e0, e1⟩ := gx_ HG;by_cases hlt : k < 2 ^ m
  ·have i1 : (k : Int) < 2 ^ m := by omega
   go_wp2_with fail
   refine (IsSplitPartition_sv HG.gv hlt).mono ?_;rintro e w2 ⟨rfl, hb2⟩;clear e0 e1;replace HB := hh_ (HB.keep hb2);replace HG := hh_ (HG.keep hb2);replace HR := hh_ (HR.keep hb2);clear hb2;obtain ⟨e0, e1⟩ := gx_ HG;cases hp : splB r m k
   ·have Hn : Hid (∀ u, u < k + 1 → splB r m u = false) := fun u hu => by
     by_cases huk : u < k
     ·exact hall.out u huk
     ·obtain rfl : u = k := by omega
      exact hp
    clear hp;go_wp2;go_roundw;case rel => exact ⟨k + 1, by omega, by go_num, Hn, HR⟩
    case measure => simp [intOf]; omega
   ·have Hn : Hid (slO r m = some k) := lsK_yes hlt hp hall.out;clear hp;go_wp2;go_ret2;exact ⟨by rw [Hn.out]; rfl, HB.below⟩
  ·have Hn : Hid (slO r m = none) := lsK_no fun u hu => hall.out u (by omega)
   have i1 : (2 : Int) ^ m ≤ (k : Int) := by omega
   go_wp2;go_ret2;exact ⟨by rw [Hn.out]; rfl, HB.below⟩
end
section
variable (sz : Int) (A : Option Addr) (m c : Nat) (x : Nat → Int) (w : World)
end
end Go.Proofs.YtdpkbfiggbcclaaGreat
