/-
  Several texts in one.
-/
import Derived.Test.YtdpkbfiggbcclaaGreatQmSidP
import Derived.Test.YtdpkbfiggbcclaaGreatQmHolI
/-
-/
namespace Go.Proofs.YtdpkbfiggbcclaaGreat
open Go.RowKit
set_option maxHeartbeats 3200000
section
variable (sz : Int) (A : Option Addr) (m c : Nat) (x : Nat → Int) (Al : Option Addr) (n cl : Nat) (l : List Int) (w : World)
noncomputable def tholB (sz : Int) (m : Nat) (x : Nat → Int) (l : List Int) : Bool := decide (l.length = 4) && ((teB sz m x l || hoB sz m x l) || ipB sz m x l)
set_option maxRecDepth 100000 in
theorem IsThresholdObstacle_i (h : GA w A m c x) (hl : LI w Al n cl l) (hm : m ≤ 1048576) (hn : n ≤ 1048576) :
 Calls Tryz.prog 224 #[.agg #[.int .i64 sz, .slice A m c], .slice Al n cl] w fun e w' => e = .returned (.bool (tholB sz m x l)) ∧ Below w.heap.size w w' := by
 obtain ⟨W, hW⟩ : ∃ W, W = (w.alloc (Obj.cells #[.int .i64 sz, .slice A m c] 28)) := ⟨_, rfl⟩;have HB : Hid (From w W) := by rw [hW]; exact From.alloc _ _
 have HK := hh_ (h.keep HB.below);have HL := hh_ (hl.keep HB.below);have HC : Hid (GC W w.heap.size sz A m c) := by rw [hW]; exact GC.new _ _ _ _ _
 have HW := hh_ hW;have HN := hh_ hl.len;clear hW h hl;by_cases h4 : n = 4
 rotate_left
 ·have hno : Hid (tholB sz m x l = false) := by show _ = _; unfold tholB; rw [decide_eq_false (by rw [← HN.out]; exact h4)]; rfl
  have i4 : ((n : Int) == 4) = false := by simp; omega
  clear h4;go_enter Tryz.func224, Tryz.ntmps224;go_wp2;rw [← HW.out];go_ret;exact ⟨ret_bool hno.symm, HB.below⟩
 have i4 : ((n : Int) == 4) = true := by simp; omega
 have H4 := hh_ h4;clear h4;go_enter Tryz.func224, Tryz.ntmps224;obtain ⟨e0, e1⟩ := gc_ HC;go_wp2_with fail
 rw [← HW.out];refine (IsTwoEdges_i sz A m c x Al n cl l W HK HL.out hm hn).mono ?_;rintro e w1 ⟨rfl, hb1⟩;clear HW;clear e0 e1;replace HB := hh_ (HB.keep hb1);replace HK := hh_ (HK.keep hb1);replace HL := hh_ (HL.keep hb1);replace HC := hh_ (HC.keep hb1);clear hb1;obtain ⟨e0, e1⟩ := gc_ HC;have Hl : Hid (tholB sz m x l = ((teB sz m x l || hoB sz m x l) || ipB sz m x l)) := by show _ = _; unfold tholB; rw [decide_eq_true (by rw [← HN.out]; exact H4.out), Bool.true_and]
 cases ht : teB sz m x l
 rotate_left
 ·have hyes : Hid (tholB sz m x l = true) := by show _ = _; rw [Hl.out, ht]; rfl
  clear ht;go_wp2;go_ret;exact ⟨ret_bool hyes.symm, HB.below⟩
 have Ht := hh_ ht;clear ht;go_wp2_with fail
 refine (IsHole_i sz A m c x Al n cl l w1 HK HL.out hm hn).mono ?_;rintro e w2 ⟨rfl, hb2⟩;clear e0 e1;replace HB := hh_ (HB.keep hb2);replace HK := hh_ (HK.keep hb2);replace HL := hh_ (HL.keep hb2);replace HC := hh_ (HC.keep hb2);clear hb2;obtain ⟨e0, e1⟩ := gc_ HC;cases hh : hoB sz m x l
 rotate_left
 ·have hyes : Hid (tholB sz m x l = true) := by show _ = _; rw [Hl.out, Ht.out, hh]; rfl
  clear hh;go_wp2;go_ret;exact ⟨ret_bool hyes.symm, HB.below⟩
 have heq : Hid (tholB sz m x l = ipB sz m x l) := by show _ = _; rw [Hl.out, Ht.out, hh]; rfl
 clear hh;go_wp2_with fail
 refine (IsInducedPath_i sz A m c x Al n cl l w2 HK HL.out hm hn).mono ?_;rintro e w3 ⟨rfl, hb3⟩;clear e0 e1;replace HB := hh_ (HB.keep hb3);replace HK := hh_ (HK.keep hb3);replace HL := hh_ (HL.keep hb3);replace HC := hh_ (HC.keep hb3);clear hb3;obtain ⟨e0, e1⟩ := gc_ HC;go_wp2;go_ret;exact ⟨ret_bool heq.symm, HB.below⟩
end
set_option maxHeartbeats 4000000
noncomputable def gO (sz : Int) (m : Nat) (x : Nat → Int) (f : (Nat → Nat) → Nat → Option (List Nat)) : Option (List Nat) := if okB sz m x = true then f (rw_ x) m else none
theorem gO_no {sz : Int} {m : Nat} {x : Nat → Int} {f : (Nat → Nat) → Nat → Option (List Nat)} (h : okB sz m x = false) : gO sz m x f = none := by unfold gO; rw [h]; rfl
theorem gO_yes {sz : Int} {m : Nat} {x : Nat → Int} {f : (Nat → Nat) → Nat → Option (List Nat)} (h : okB sz m x = true) : gO sz m x f = f (rw_ x) m := by unfold gO; rw [h]; rfl
theorem thR_of {r : Nat → Nat} {m : Nat} {l : List Nat} : tholB (m : Int) m (fun v => (r v : Int)) (zl l) = thR r m l := by
 unfold tholB thR teR hoR ptB;rw [zl_len, Bool.or_assoc]
theorem sunJ_7 (i k : Nat) (z : World) (hk : k < 7) (hik : i < k) : Calls Tryz.prog 332 (#[.int .i64 i, .int .i64 k] ++ #[]) z (fun e z' => e = .returned (.bool (sunJ i k)) ∧ Below z.heap.size z z') := by
 by_cases h6 : k < 6
 ·exact sunJ_c i k z h6 hik
 ·obtain rfl : k = 6 := by omega
  show Calls Tryz.prog 332 #[.int .i64 i, .int .i64 (6 : Nat)] z _;have h : i = 0 ∨ i = 1 ∨ i = 2 ∨ i = 3 ∨ i = 4 ∨ i = 5 := by omega
  clear hk hik h6;rcases h with rfl | rfl | rfl | rfl | rfl | rfl
  all_goals
   go_enter Tryz.func332, Tryz.ntmps332;go_wp2;go_ret;exact ⟨rfl, br_⟩
set_option maxRecDepth 100000 in
theorem FindTwoEdges_c {A : Option Addr} {m c q : Nat} {r : Nat → Nat} {Al : Option Addr} {cl : Nat} {l : List Nat} {w : World} (h : GBox w q A m c r) (hl : LN w Al cl l) (hlen : l.length ≤ 7) :
 Calls Tryz.prog 328 #[.slice Al l.length cl, .pointer (some ⟨q, 0, none⟩)] w fun e w' => e = .returned (.bool (teR r m l)) ∧ Below w.heap.size w w' := by
 have hm7 := h.gv.vg.n7;have KP := hh_ (IsTwoEdges_i m A m c _ Al l.length cl _ w h.gv.ga hl.li (by omega) (by omega));have e0 := h.c0;have e1 := h.c1;have HF : Hid (From w w) := From.refl w;clear h hl;go_enter Tryz.func328, Tryz.ntmps328;go_wp2_with fail
 refine KP.mono ?_;rintro e w1 ⟨rfl, hb1⟩;replace HF := hh_ (HF.keep hb1);clear hb1;go_wp2;go_ret;exact ⟨rfl, HF.below⟩
set_option maxRecDepth 100000 in
theorem FindClaw_c {A : Option Addr} {m c q : Nat} {r : Nat → Nat} {Al : Option Addr} {cl : Nat} {l : List Nat} {w : World} (h : GBox w q A m c r) (hl : LN w Al cl l) (hlen : l.length ≤ 7) :
 Calls Tryz.prog 325 #[.slice Al l.length cl, .pointer (some ⟨q, 0, none⟩)] w fun e w' => e = .returned (.bool (cwR r m l)) ∧ Below w.heap.size w w' := by
 have hm7 := h.gv.vg.n7;have KP := hh_ (IsClaw_i m A m c _ Al l.length cl _ w h.gv.ga hl.li (by omega) (by omega));have e0 := h.c0;have e1 := h.c1;have HF : Hid (From w w) := From.refl w;clear h hl;go_enter Tryz.func325, Tryz.ntmps325;go_wp2_with fail
 refine KP.mono ?_;rintro e w1 ⟨rfl, hb1⟩;replace HF := hh_ (HF.keep hb1);clear hb1;go_wp2;go_ret;exact ⟨rfl, HF.below⟩
set_option maxRecDepth 100000 in
theorem ThresholdObstacle_c {A : Option Addr} {m c q : Nat} {r : Nat → Nat} {Al : Option Addr} {cl : Nat} {l : List Nat} {w : World} (h : GBox w q A m c r) (hl : LN w Al cl l) (hlen : l.length ≤ 7) :
 Calls Tryz.prog 223 #[.slice Al l.length cl, .pointer (some ⟨q, 0, none⟩)] w fun e w' => e = .returned (.bool (thR r m l)) ∧ Below w.heap.size w w' := by
 have hm7 := h.gv.vg.n7;have KP0 := (IsThresholdObstacle_i m A m c _ Al l.length cl _ w h.gv.ga hl.li (by omega) (by omega));rw [thR_of] at KP0;have KP := hh_ KP0;clear KP0;have e0 := h.c0;have e1 := h.c1;have HF : Hid (From w w) := From.refl w;clear h hl;go_enter Tryz.func223, Tryz.ntmps223;go_wp2_with fail
 refine KP.mono ?_;rintro e w1 ⟨rfl, hb1⟩;replace HF := hh_ (HF.keep hb1);clear hb1;go_wp2;go_ret;exact ⟨rfl, HF.below⟩
set_option maxRecDepth 100000 in
theorem FindSun_c {A : Option Addr} {m c q : Nat} {r : Nat → Nat} {Al : Option Addr} {cl : Nat} {l : List Nat} {w : World} (h : GBox w q A m c r) (hl : LN w Al cl l) (hlen : l.length ≤ 7) :
 Calls Tryz.prog 331 #[.slice Al l.length cl, .pointer (some ⟨q, 0, none⟩)] w fun e w' => e = .returned (.bool (ajR r m sunJ l)) ∧ Below w.heap.size w w' := by
 have hm7 := h.gv.vg.n7;have KP := hh_ (areJoined_g (J := sunJ) (fn := 332) (caps := #[]) (ent_of Tryz.func332 (by kernel_rfl) rfl) m A m c _ Al l.length cl _ w h.gv.ga hl.li (by omega) (by omega) (fun i k z h1 h2 _ => sunJ_7 i k z (by omega) h1));have e0 := h.c0;have e1 := h.c1;have HF : Hid (From w w) := From.refl w;clear h hl;go_enter Tryz.func331, Tryz.ntmps331;go_wp2_with fail
 refine KP.mono ?_;rintro e w1 ⟨rfl, hb1⟩;replace HF := hh_ (HF.keep hb1);clear hb1;go_wp2;go_ret;exact ⟨rfl, HF.below⟩
set_option maxRecDepth 100000 in
theorem FindTwoEdges_v {A : Option Addr} {m c : Nat} {r : Nat → Nat} {w : World} (h : GV w A m c r) : Calls Tryz.prog 221 #[.agg #[.int .i64 m, .slice A m c]] w (lsQ w (teO r m)) := by
 have hm7 := h.vg.n7;obtain ⟨W, hW, HB, HG⟩ := gbW h;have HW := hh_ hW;clear hW h;obtain ⟨e0, e1⟩ := gx_ HG;have HG0 := HG;have KF := hh_ (firstList_g (m := m) (n := 4) (A := A) (c := c) (r := r) (fm := 222) (cm := #[]) (fh := 328) (ch := #[.pointer (some ⟨w.heap.size, 0, none⟩)]) (may := freM) (hol := (teR r m)) (lo := W.heap.size) (hi := W.heap.size) (J := fun _ z => GBox z w.heap.size A m c r)
  (ent_of Tryz.func222 (by kernel_rfl) rfl) (ent_of Tryz.func328 (by kernel_rfl) rfl) W HG0.gv (by omega) nr_ (fun _ z z' hz hb => hz.keep hb) HG0
  (fun _ l A' c' z hz hr hl hv hn => always_n A' l.length c' z)
  (fun _ l A' c' z hz hr hl hv hn => (FindTwoEdges_c hz ⟨hr⟩ (by have := nodup_len hn hv; omega)).mono fun e w' ⟨h1, h2⟩ => ⟨h1, hz.keep h2, Fr.of_below h2⟩))
 have HO : Hid (teO r m = seaG m freM (teR r m) 4 []) := rfl;obtain ⟨o, ho⟩ : ∃ o, o = teO r m := ⟨_, rfl⟩;rw [← ho] at HO ⊢;rw [← HO.out] at KF;clear ho HO;go_enter Tryz.func221, Tryz.ntmps221;obtain ⟨e0, e1⟩ := gx_ HG;go_wp2_with fail
 rw [← HW.out];clear HW;refine KF.mono ?_;rintro e w1 ⟨hf, hp⟩;have HB1 : Hid (Below w.heap.size w w1) := HB.below.trans (hf.below HB.below.size HB.below.size);have HZ : Hid (w.heap.size ≤ W.heap.size) := HB.below.size;clear hf KF HG e0 e1;cases o with
 | none =>
   obtain ⟨rfl, _⟩ := hp;go_wp2;go_ret2;exact lsQ.no HB1
 | some l =>
   obtain ⟨g, c', rfl, hO⟩ := hp;have HL : Hid (ON w.heap.size w1 (some ⟨g, 0, none⟩) c' l) := ⟨hO.mono HZ.out nr_⟩;clear hO;go_wp2;go_ret2;exact lsQ.yes HL.out HB1
set_option maxRecDepth 100000 in
theorem FindTwoEdges_no (sz : Int) (A : Option Addr) (m c : Nat) (x : Nat → Int) (w : World) (h : GA w A m c x) (hm : m ≤ 1048576) (hok : okB sz m x = false) :
 Calls Tryz.prog 221 #[.agg #[.int .i64 sz, .slice A m c]] w (lsQ w none) := by
 obtain ⟨W, hW, HB, HK, HC⟩ := gaW sz h;have HW := hh_ hW;have KF := hh_ (firstList_noG (n := (4 : Int)) (fm := 222) (cm := #[]) (fh := 328) (ch := #[.pointer (some ⟨w.heap.size, 0, none⟩)]) HK hm hok);clear hW h hok;go_enter Tryz.func221, Tryz.ntmps221;obtain ⟨e0, e1⟩ := gc_ HC;go_wp2_with fail
 rw [← HW.out];clear HW;refine KF.mono ?_;rintro e w1 ⟨rfl, hb1⟩;clear e0 e1;replace HB := hh_ (HB.keep hb1);replace HK := hh_ (HK.keep hb1);replace HC := hh_ (HC.keep hb1);clear hb1 KF;obtain ⟨e0, e1⟩ := gc_ HC;go_wp2;go_ret2;exact lsQ.no HB.below
set_option maxRecDepth 100000 in
theorem FindClaw_v {A : Option Addr} {m c : Nat} {r : Nat → Nat} {w : World} (h : GV w A m c r) : Calls Tryz.prog 219 #[.agg #[.int .i64 m, .slice A m c]] w (lsQ w (cwO r m)) := by
 have hm7 := h.vg.n7;obtain ⟨W, hW, HB, HG⟩ := gbW h;have HW := hh_ hW;clear hW h;obtain ⟨e0, e1⟩ := gx_ HG;have HG0 := HG;have KF := hh_ (firstList_g (m := m) (n := 4) (A := A) (c := c) (r := r) (fm := 222) (cm := #[]) (fh := 325) (ch := #[.pointer (some ⟨w.heap.size, 0, none⟩)]) (may := freM) (hol := (cwR r m)) (lo := W.heap.size) (hi := W.heap.size) (J := fun _ z => GBox z w.heap.size A m c r)
  (ent_of Tryz.func222 (by kernel_rfl) rfl) (ent_of Tryz.func325 (by kernel_rfl) rfl) W HG0.gv (by omega) nr_ (fun _ z z' hz hb => hz.keep hb) HG0
  (fun _ l A' c' z hz hr hl hv hn => always_n A' l.length c' z)
  (fun _ l A' c' z hz hr hl hv hn => (FindClaw_c hz ⟨hr⟩ (by have := nodup_len hn hv; omega)).mono fun e w' ⟨h1, h2⟩ => ⟨h1, hz.keep h2, Fr.of_below h2⟩))
 have HO : Hid (cwO r m = seaG m freM (cwR r m) 4 []) := rfl;obtain ⟨o, ho⟩ : ∃ o, o = cwO r m := ⟨_, rfl⟩;rw [← ho] at HO ⊢;rw [← HO.out] at KF;clear ho HO;go_enter Tryz.func219, Tryz.ntmps219;obtain ⟨e0, e1⟩ := gx_ HG;go_wp2_with fail
 rw [← HW.out];clear HW;refine KF.mono ?_;rintro e w1 ⟨hf, hp⟩;have HB1 : Hid (Below w.heap.size w w1) := HB.below.trans (hf.below HB.below.size HB.below.size);have HZ : Hid (w.heap.size ≤ W.heap.size) := HB.below.size;clear hf KF HG e0 e1;cases o with
 | none =>
   obtain ⟨rfl, _⟩ := hp;go_wp2;go_ret2;exact lsQ.no HB1
 | some l =>
   obtain ⟨g, c', rfl, hO⟩ := hp;have HL : Hid (ON w.heap.size w1 (some ⟨g, 0, none⟩) c' l) := ⟨hO.mono HZ.out nr_⟩;clear hO;go_wp2;go_ret2;exact lsQ.yes HL.out HB1
set_option maxRecDepth 100000 in
theorem FindClaw_no (sz : Int) (A : Option Addr) (m c : Nat) (x : Nat → Int) (w : World) (h : GA w A m c x) (hm : m ≤ 1048576) (hok : okB sz m x = false) :
 Calls Tryz.prog 219 #[.agg #[.int .i64 sz, .slice A m c]] w (lsQ w none) := by
 obtain ⟨W, hW, HB, HK, HC⟩ := gaW sz h;have HW := hh_ hW;have KF := hh_ (firstList_noG (n := (4 : Int)) (fm := 222) (cm := #[]) (fh := 325) (ch := #[.pointer (some ⟨w.heap.size, 0, none⟩)]) HK hm hok);clear hW h hok;go_enter Tryz.func219, Tryz.ntmps219;obtain ⟨e0, e1⟩ := gc_ HC;go_wp2_with fail
 rw [← HW.out];clear HW;refine KF.mono ?_;rintro e w1 ⟨rfl, hb1⟩;clear e0 e1;replace HB := hh_ (HB.keep hb1);replace HK := hh_ (HK.keep hb1);replace HC := hh_ (HC.keep hb1);clear hb1 KF;obtain ⟨e0, e1⟩ := gc_ HC;go_wp2;go_ret2;exact lsQ.no HB.below
set_option maxRecDepth 100000 in
theorem ThresholdObstacle_v {A : Option Addr} {m c : Nat} {r : Nat → Nat} {w : World} (h : GV w A m c r) : Calls Tryz.prog 112 #[.agg #[.int .i64 m, .slice A m c]] w (lsQ w (fhO r m)) := by
 have hm7 := h.vg.n7;obtain ⟨W, hW, HB, HG⟩ := gbW h;have HW := hh_ hW;clear hW h;obtain ⟨e0, e1⟩ := gx_ HG;have HG0 := HG;have KF := hh_ (firstList_g (m := m) (n := 4) (A := A) (c := c) (r := r) (fm := 222) (cm := #[]) (fh := 223) (ch := #[.pointer (some ⟨w.heap.size, 0, none⟩)]) (may := freM) (hol := (thR r m)) (lo := W.heap.size) (hi := W.heap.size) (J := fun _ z => GBox z w.heap.size A m c r)
  (ent_of Tryz.func222 (by kernel_rfl) rfl) (ent_of Tryz.func223 (by kernel_rfl) rfl) W HG0.gv (by omega) nr_ (fun _ z z' hz hb => hz.keep hb) HG0
  (fun _ l A' c' z hz hr hl hv hn => always_n A' l.length c' z)
  (fun _ l A' c' z hz hr hl hv hn => (ThresholdObstacle_c hz ⟨hr⟩ (by have := nodup_len hn hv; omega)).mono fun e w' ⟨h1, h2⟩ => ⟨h1, hz.keep h2, Fr.of_below h2⟩))
 have HO : Hid (fhO r m = seaG m freM (thR r m) 4 []) := rfl;obtain ⟨o, ho⟩ : ∃ o, o = fhO r m := ⟨_, rfl⟩;rw [← ho] at HO ⊢;rw [← HO.out] at KF;clear ho HO;go_enter Tryz.func112, Tryz.ntmps112;obtain ⟨e0, e1⟩ := gx_ HG;go_wp2_with fail
 rw [← HW.out];clear HW;refine KF.mono ?_;rintro e w1 ⟨hf, hp⟩;have HB1 : Hid (Below w.heap.size w w1) := HB.below.trans (hf.below HB.below.size HB.below.size);have HZ : Hid (w.heap.size ≤ W.heap.size) := HB.below.size;clear hf KF HG e0 e1;cases o with
 | none =>
   obtain ⟨rfl, _⟩ := hp;go_wp2;go_ret2;exact lsQ.no HB1
 | some l =>
   obtain ⟨g, c', rfl, hO⟩ := hp;have HL : Hid (ON w.heap.size w1 (some ⟨g, 0, none⟩) c' l) := ⟨hO.mono HZ.out nr_⟩;clear hO;go_wp2;go_ret2;exact lsQ.yes HL.out HB1
set_option maxRecDepth 100000 in
theorem ThresholdObstacle_no (sz : Int) (A : Option Addr) (m c : Nat) (x : Nat → Int) (w : World) (h : GA w A m c x) (hm : m ≤ 1048576) (hok : okB sz m x = false) :
 Calls Tryz.prog 112 #[.agg #[.int .i64 sz, .slice A m c]] w (lsQ w none) := by
 obtain ⟨W, hW, HB, HK, HC⟩ := gaW sz h;have HW := hh_ hW;have KF := hh_ (firstList_noG (n := (4 : Int)) (fm := 222) (cm := #[]) (fh := 223) (ch := #[.pointer (some ⟨w.heap.size, 0, none⟩)]) HK hm hok);clear hW h hok;go_enter Tryz.func112, Tryz.ntmps112;obtain ⟨e0, e1⟩ := gc_ HC;go_wp2_with fail
 rw [← HW.out];clear HW;refine KF.mono ?_;rintro e w1 ⟨rfl, hb1⟩;clear e0 e1;replace HB := hh_ (HB.keep hb1);replace HK := hh_ (HK.keep hb1);replace HC := hh_ (HC.keep hb1);clear hb1 KF;obtain ⟨e0, e1⟩ := gc_ HC;go_wp2;go_ret2;exact lsQ.no HB.below
set_option maxRecDepth 100000 in
theorem FindSun_v {A : Option Addr} {m c : Nat} {r : Nat → Nat} {w : World} (h : GV w A m c r) : Calls Tryz.prog 227 #[.agg #[.int .i64 m, .slice A m c]] w (lsQ w (snO r m)) := by
 have hm7 := h.vg.n7;obtain ⟨W, hW, HB, HG⟩ := gbW h;have HW := hh_ hW;clear hW h;obtain ⟨e0, e1⟩ := gx_ HG;have HG0 := HG;have KF := hh_ (firstList_g (m := m) (n := 6) (A := A) (c := c) (r := r) (fm := 331) (cm := #[.pointer (some ⟨w.heap.size, 0, none⟩)]) (fh := 222) (ch := #[]) (may := (ajR r m sunJ)) (hol := freM) (lo := W.heap.size) (hi := W.heap.size) (J := fun _ z => GBox z w.heap.size A m c r)
  (ent_of Tryz.func331 (by kernel_rfl) rfl) (ent_of Tryz.func222 (by kernel_rfl) rfl) W HG0.gv (by omega) nr_ (fun _ z z' hz hb => hz.keep hb) HG0
  (fun _ l A' c' z hz hr hl hv hn => FindSun_c hz ⟨hr⟩ (by have := nodup_len hn hv; omega))
  (fun _ l A' c' z hz hr hl hv hn => (always_n A' l.length c' z).mono fun e w' ⟨h1, h2⟩ => ⟨h1, hz.keep h2, Fr.of_below h2⟩))
 have HO : Hid (snO r m = seaG m (ajR r m sunJ) freM 6 []) := snO_i.symm;obtain ⟨o, ho⟩ : ∃ o, o = snO r m := ⟨_, rfl⟩;rw [← ho] at HO ⊢;rw [← HO.out] at KF;clear ho HO;go_enter Tryz.func227, Tryz.ntmps227;obtain ⟨e0, e1⟩ := gx_ HG;go_wp2_with fail
 rw [← HW.out];clear HW;refine KF.mono ?_;rintro e w1 ⟨hf, hp⟩;have HB1 : Hid (Below w.heap.size w w1) := HB.below.trans (hf.below HB.below.size HB.below.size);have HZ : Hid (w.heap.size ≤ W.heap.size) := HB.below.size;clear hf KF HG e0 e1;cases o with
 | none =>
   obtain ⟨rfl, _⟩ := hp;go_wp2;go_ret2;exact lsQ.no HB1
 | some l =>
   obtain ⟨g, c', rfl, hO⟩ := hp;have HL : Hid (ON w.heap.size w1 (some ⟨g, 0, none⟩) c' l) := ⟨hO.mono HZ.out nr_⟩;clear hO;go_wp2;go_ret2;exact lsQ.yes HL.out HB1
set_option maxRecDepth 100000 in
theorem FindSun_no (sz : Int) (A : Option Addr) (m c : Nat) (x : Nat → Int) (w : World) (h : GA w A m c x) (hm : m ≤ 1048576) (hok : okB sz m x = false) :
 Calls Tryz.prog 227 #[.agg #[.int .i64 sz, .slice A m c]] w (lsQ w none) := by
 obtain ⟨W, hW, HB, HK, HC⟩ := gaW sz h;have HW := hh_ hW;have KF := hh_ (firstList_noG (n := (6 : Int)) (fm := 331) (cm := #[.pointer (some ⟨w.heap.size, 0, none⟩)]) (fh := 222) (ch := #[]) HK hm hok);clear hW h hok;go_enter Tryz.func227, Tryz.ntmps227;obtain ⟨e0, e1⟩ := gc_ HC;go_wp2_with fail
 rw [← HW.out];clear HW;refine KF.mono ?_;rintro e w1 ⟨rfl, hb1⟩;clear e0 e1;replace HB := hh_ (HB.keep hb1);replace HK := hh_ (HK.keep hb1);replace HC := hh_ (HC.keep hb1);clear hb1 KF;obtain ⟨e0, e1⟩ := gc_ HC;go_wp2;go_ret2;exact lsQ.no HB.below
end Go.Proofs.YtdpkbfiggbcclaaGreat
