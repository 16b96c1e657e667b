/-
  Several texts in one.
-/
import Derived.Test.YtfabbohijhjpcaaGreatDoorRcHolI
import Derived.Test.YtfabbohijhjpcaaGreatDoorRcObsI
import Derived.Test.YtfabbohijhjpcaaGreatDoorRcBarP
import Derived.Test.YtfabbohijhjpcaaGreatDoorRcFillP
import Derived.Test.YtfabbohijhjpcaaGreatDoorRcPthI
import Derived.Test.YtfabbohijhjpcaaGreatDoorRcGC
/-
-/
namespace Go.Proofs.YtfabbohijhjpcaaGreatDoor
open Go.RowKit
noncomputable def gO (sz : Int) (m : Nat) (x : Nat → Int) (f : (Nat → Nat) → Nat → Option (List Nat)) : Option (List Nat) := if okB sz m x = true then f (rw_ x) m else none
theorem gO_no {sz : Int} {m : Nat} {x : Nat → Int} {f : (Nat → Nat) → Nat → Option (List Nat)} (h : okB sz m x = false) : gO sz m x f = none := by unfold gO; rw [h]; rfl
theorem gO_yes {sz : Int} {m : Nat} {x : Nat → Int} {f : (Nat → Nat) → Nat → Option (List Nat)} (h : okB sz m x = true) : gO sz m x f = f (rw_ x) m := by unfold gO; rw [h]; rfl
theorem thR_of {r : Nat → Nat} {m : Nat} {l : List Nat} : tholB (m : Int) m (fun v => (r v : Int)) (zl l) = thR r m l := by
 unfold tholB thR teR hoR ptB
 rw [zl_len, Bool.or_assoc]
set_option maxHeartbeats 4000000 in
theorem sunJ_7 (i k : Nat) (z : World) (hk : k < 7) (hik : i < k) : Calls Tryz.prog 293 (#[.int .i64 i, .int .i64 k] ++ #[]) z (fun e z' => e = .returned (.bool (sunJ i k)) ∧ Below z.heap.size z z') := by
 by_cases h6 : k < 6
 ·exact sunJ_c i k z h6 hik
 ·obtain rfl : k = 6 := by omega
  show Calls Tryz.prog 293 #[.int .i64 i, .int .i64 (6 : Nat)] z _
  have h : i = 0 ∨ i = 1 ∨ i = 2 ∨ i = 3 ∨ i = 4 ∨ i = 5 := by omega
  clear hk hik h6
  rcases h with rfl | rfl | rfl | rfl | rfl | rfl
  all_goals
   go_enter Tryz.func293, Tryz.ntmps293
   go_wp2
   go_ret
   exact ⟨rfl, Below.refl _ _⟩
set_option maxRecDepth 100000 in
set_option maxHeartbeats 1600000 in
theorem FindTwoEdges_c {A : Option Addr} {m c q : Nat} {r : Nat → Nat} {Al : Option Addr} {cl : Nat} {l : List Nat} {w : World} (h : GBox w q A m c r) (hl : LN w Al cl l) (hlen : l.length ≤ 7) :
 Calls Tryz.prog 289 #[.slice Al l.length cl, .pointer (some ⟨q, 0, none⟩)] w fun e w' => e = .returned (.bool (teR r m l)) ∧ Below w.heap.size w w' := by
 have hm7 := h.gv.vg.n7
 have KP := Lib.hid (IsTwoEdges_i m A m c _ Al l.length cl _ w h.gv.ga hl.li (by omega) (by omega))
 have e0 := h.c0
 have e1 := h.c1
 have HF : Hid (From w w) := From.refl w
 clear h hl
 go_enter Tryz.func289, Tryz.ntmps289
 go_wp2_with fail
 refine KP.out.mono ?_
 rintro e w1 ⟨rfl, hb1⟩
 replace HF := Lib.hid (HF.out.keep hb1)
 clear hb1
 go_wp2
 go_ret
 exact ⟨rfl, HF.out.below⟩
set_option maxRecDepth 100000 in
set_option maxHeartbeats 1600000 in
theorem FindClaw_c {A : Option Addr} {m c q : Nat} {r : Nat → Nat} {Al : Option Addr} {cl : Nat} {l : List Nat} {w : World} (h : GBox w q A m c r) (hl : LN w Al cl l) (hlen : l.length ≤ 7) :
 Calls Tryz.prog 286 #[.slice Al l.length cl, .pointer (some ⟨q, 0, none⟩)] w fun e w' => e = .returned (.bool (cwR r m l)) ∧ Below w.heap.size w w' := by
 have hm7 := h.gv.vg.n7
 have KP := Lib.hid (IsClaw_i m A m c _ Al l.length cl _ w h.gv.ga hl.li (by omega) (by omega))
 have e0 := h.c0
 have e1 := h.c1
 have HF : Hid (From w w) := From.refl w
 clear h hl
 go_enter Tryz.func286, Tryz.ntmps286
 go_wp2_with fail
 refine KP.out.mono ?_
 rintro e w1 ⟨rfl, hb1⟩
 replace HF := Lib.hid (HF.out.keep hb1)
 clear hb1
 go_wp2
 go_ret
 exact ⟨rfl, HF.out.below⟩
set_option maxRecDepth 100000 in
set_option maxHeartbeats 1600000 in
theorem ThresholdObstacle_c {A : Option Addr} {m c q : Nat} {r : Nat → Nat} {Al : Option Addr} {cl : Nat} {l : List Nat} {w : World} (h : GBox w q A m c r) (hl : LN w Al cl l) (hlen : l.length ≤ 7) :
 Calls Tryz.prog 211 #[.slice Al l.length cl, .pointer (some ⟨q, 0, none⟩)] w fun e w' => e = .returned (.bool (thR r m l)) ∧ Below w.heap.size w w' := by
 have hm7 := h.gv.vg.n7
 have KP0 := (IsThresholdObstacle_i m A m c _ Al l.length cl _ w h.gv.ga hl.li (by omega) (by omega))
 rw [thR_of] at KP0
 have KP := Lib.hid KP0
 clear KP0
 have e0 := h.c0
 have e1 := h.c1
 have HF : Hid (From w w) := From.refl w
 clear h hl
 go_enter Tryz.func211, Tryz.ntmps211
 go_wp2_with fail
 refine KP.out.mono ?_
 rintro e w1 ⟨rfl, hb1⟩
 replace HF := Lib.hid (HF.out.keep hb1)
 clear hb1
 go_wp2
 go_ret
 exact ⟨rfl, HF.out.below⟩
set_option maxRecDepth 100000 in
set_option maxHeartbeats 1600000 in
theorem FindSun_c {A : Option Addr} {m c q : Nat} {r : Nat → Nat} {Al : Option Addr} {cl : Nat} {l : List Nat} {w : World} (h : GBox w q A m c r) (hl : LN w Al cl l) (hlen : l.length ≤ 7) :
 Calls Tryz.prog 292 #[.slice Al l.length cl, .pointer (some ⟨q, 0, none⟩)] w fun e w' => e = .returned (.bool (ajR r m sunJ l)) ∧ Below w.heap.size w w' := by
 have hm7 := h.gv.vg.n7
 have KP := Lib.hid (areJoined_g (J := sunJ) (fn := 293) (caps := #[]) (ent_of Tryz.func293 (by kernel_rfl) rfl) m A m c _ Al l.length cl _ w h.gv.ga hl.li (by omega) (by omega) (fun i k z h1 h2 _ => sunJ_7 i k z (by omega) h1))
 have e0 := h.c0
 have e1 := h.c1
 have HF : Hid (From w w) := From.refl w
 clear h hl
 go_enter Tryz.func292, Tryz.ntmps292
 go_wp2_with fail
 refine KP.out.mono ?_
 rintro e w1 ⟨rfl, hb1⟩
 replace HF := Lib.hid (HF.out.keep hb1)
 clear hb1
 go_wp2
 go_ret
 exact ⟨rfl, HF.out.below⟩
set_option maxRecDepth 100000 in
set_option maxHeartbeats 1600000 in
theorem FindTwoEdges_v {A : Option Addr} {m c : Nat} {r : Nat → Nat} {w : World} (h : GV w A m c r) : Calls Tryz.prog 209 #[.agg #[.int .i64 m, .slice A m c]] w (lsQ w (teO r m)) := by
 have hm7 := h.vg.n7
 obtain ⟨W, hW⟩ : ∃ W : World, W = (w.alloc (Obj.cells #[Value.int IntKind.i64 m, Value.slice A m c] 26)) := ⟨_, rfl⟩
 have HB : Hid (From w W) := by rw [hW]; exact From.alloc _ _
 have HG : Hid (GBox W w.heap.size A m c r) := by rw [hW]; exact h.box
 have HW := Lib.hid hW
 clear hW h
 have e0 := HG.out.c0
 have e1 := HG.out.c1
 have HG0 := HG
 have KF := Lib.hid (firstList_g (m := m) (n := 4) (A := A) (c := c) (r := r) (fm := 210) (cm := #[]) (fh := 289) (ch := #[.pointer (some ⟨w.heap.size, 0, none⟩)]) (may := freM) (hol := (teR r m)) (lo := W.heap.size) (hi := W.heap.size) (J := fun _ z => GBox z w.heap.size A m c r)
  (ent_of Tryz.func210 (by kernel_rfl) rfl) (ent_of Tryz.func289 (by kernel_rfl) rfl) W HG0.out.gv (by omega) (Nat.le_refl _) (fun _ z z' hz hb => hz.keep hb) HG0.out
  (fun _ l A' c' z hz hr hl hv hn => always_n A' l.length c' z)
  (fun _ l A' c' z hz hr hl hv hn => (FindTwoEdges_c hz ⟨hr⟩ (by have := nodup_len hn hv; omega)).mono fun e w' ⟨h1, h2⟩ => ⟨h1, hz.keep h2, Fr.of_below h2⟩))
 have HO : Hid (teO r m = seaG m freM (teR r m) 4 []) := rfl
 obtain ⟨o, ho⟩ : ∃ o, o = teO r m := ⟨_, rfl⟩
 rw [← ho] at HO ⊢
 rw [← HO.out] at KF
 clear ho HO
 go_enter Tryz.func209, Tryz.ntmps209
 have e0 := HG.out.c0
 have e1 := HG.out.c1
 go_wp2_with fail
 rw [← HW.out]
 clear HW
 refine KF.out.mono ?_
 rintro e w1 ⟨hf, hp⟩
 have HB1 : Hid (Below w.heap.size w w1) := HB.out.below.trans (hf.below HB.out.below.size HB.out.below.size)
 have HZ : Hid (w.heap.size ≤ W.heap.size) := HB.out.below.size
 clear hf KF HG e0 e1
 cases o with
 | none =>
   obtain ⟨rfl, _⟩ := hp
   go_wp2
   go_ret2
   exact lsQ.no HB1.out
 | some l =>
   obtain ⟨g, c', rfl, hO⟩ := hp
   have HL : Hid (ON w.heap.size w1 (some ⟨g, 0, none⟩) c' l) := ⟨hO.mono HZ.out (Nat.le_refl _)⟩
   clear hO
   go_wp2
   go_ret2
   exact lsQ.yes HL.out HB1.out
set_option maxRecDepth 100000 in
set_option maxHeartbeats 1600000 in
theorem FindTwoEdges_no (sz : Int) (A : Option Addr) (m c : Nat) (x : Nat → Int) (w : World) (h : GA w A m c x) (hm : m ≤ 1048576) (hok : okB sz m x = false) :
 Calls Tryz.prog 209 #[.agg #[.int .i64 sz, .slice A m c]] w (lsQ w none) := by
 obtain ⟨W, hW⟩ : ∃ W : World, W = (w.alloc (Obj.cells #[Value.int IntKind.i64 sz, Value.slice A m c] 26)) := ⟨_, rfl⟩
 have HB : Hid (From w W) := by rw [hW]; exact From.alloc _ _
 have HK := Lib.hid (h.keep HB.out.below)
 have HC : Hid (GC W w.heap.size sz A m c) := by rw [hW]; exact GC.new _ _ _ _ _
 have HW := Lib.hid hW
 have KF := Lib.hid (firstList_noG (n := (4 : Int)) (fm := 210) (cm := #[]) (fh := 289) (ch := #[.pointer (some ⟨w.heap.size, 0, none⟩)]) HK.out hm hok)
 clear hW h hok
 go_enter Tryz.func209, Tryz.ntmps209
 have e0 := HC.out.c0
 have e1 := HC.out.c1
 go_wp2_with fail
 rw [← HW.out]
 clear HW
 refine KF.out.mono ?_
 rintro e w1 ⟨rfl, hb1⟩
 clear e0 e1
 replace HB := Lib.hid (HB.out.keep hb1)
 replace HK := Lib.hid (HK.out.keep hb1)
 replace HC := Lib.hid (HC.out.keep hb1)
 clear hb1 KF
 have e0 := HC.out.c0
 have e1 := HC.out.c1
 go_wp2
 go_ret2
 exact lsQ.no HB.out.below
set_option maxRecDepth 100000 in
set_option maxHeartbeats 1600000 in
theorem FindClaw_v {A : Option Addr} {m c : Nat} {r : Nat → Nat} {w : World} (h : GV w A m c r) : Calls Tryz.prog 207 #[.agg #[.int .i64 m, .slice A m c]] w (lsQ w (cwO r m)) := by
 have hm7 := h.vg.n7
 obtain ⟨W, hW⟩ : ∃ W : World, W = (w.alloc (Obj.cells #[Value.int IntKind.i64 m, Value.slice A m c] 26)) := ⟨_, rfl⟩
 have HB : Hid (From w W) := by rw [hW]; exact From.alloc _ _
 have HG : Hid (GBox W w.heap.size A m c r) := by rw [hW]; exact h.box
 have HW := Lib.hid hW
 clear hW h
 have e0 := HG.out.c0
 have e1 := HG.out.c1
 have HG0 := HG
 have KF := Lib.hid (firstList_g (m := m) (n := 4) (A := A) (c := c) (r := r) (fm := 210) (cm := #[]) (fh := 286) (ch := #[.pointer (some ⟨w.heap.size, 0, none⟩)]) (may := freM) (hol := (cwR r m)) (lo := W.heap.size) (hi := W.heap.size) (J := fun _ z => GBox z w.heap.size A m c r)
  (ent_of Tryz.func210 (by kernel_rfl) rfl) (ent_of Tryz.func286 (by kernel_rfl) rfl) W HG0.out.gv (by omega) (Nat.le_refl _) (fun _ z z' hz hb => hz.keep hb) HG0.out
  (fun _ l A' c' z hz hr hl hv hn => always_n A' l.length c' z)
  (fun _ l A' c' z hz hr hl hv hn => (FindClaw_c hz ⟨hr⟩ (by have := nodup_len hn hv; omega)).mono fun e w' ⟨h1, h2⟩ => ⟨h1, hz.keep h2, Fr.of_below h2⟩))
 have HO : Hid (cwO r m = seaG m freM (cwR r m) 4 []) := rfl
 obtain ⟨o, ho⟩ : ∃ o, o = cwO r m := ⟨_, rfl⟩
 rw [← ho] at HO ⊢
 rw [← HO.out] at KF
 clear ho HO
 go_enter Tryz.func207, Tryz.ntmps207
 have e0 := HG.out.c0
 have e1 := HG.out.c1
 go_wp2_with fail
 rw [← HW.out]
 clear HW
 refine KF.out.mono ?_
 rintro e w1 ⟨hf, hp⟩
 have HB1 : Hid (Below w.heap.size w w1) := HB.out.below.trans (hf.below HB.out.below.size HB.out.below.size)
 have HZ : Hid (w.heap.size ≤ W.heap.size) := HB.out.below.size
 clear hf KF HG e0 e1
 cases o with
 | none =>
   obtain ⟨rfl, _⟩ := hp
   go_wp2
   go_ret2
   exact lsQ.no HB1.out
 | some l =>
   obtain ⟨g, c', rfl, hO⟩ := hp
   have HL : Hid (ON w.heap.size w1 (some ⟨g, 0, none⟩) c' l) := ⟨hO.mono HZ.out (Nat.le_refl _)⟩
   clear hO
   go_wp2
   go_ret2
   exact lsQ.yes HL.out HB1.out
set_option maxRecDepth 100000 in
set_option maxHeartbeats 1600000 in
theorem FindClaw_no (sz : Int) (A : Option Addr) (m c : Nat) (x : Nat → Int) (w : World) (h : GA w A m c x) (hm : m ≤ 1048576) (hok : okB sz m x = false) :
 Calls Tryz.prog 207 #[.agg #[.int .i64 sz, .slice A m c]] w (lsQ w none) := by
 obtain ⟨W, hW⟩ : ∃ W : World, W = (w.alloc (Obj.cells #[Value.int IntKind.i64 sz, Value.slice A m c] 26)) := ⟨_, rfl⟩
 have HB : Hid (From w W) := by rw [hW]; exact From.alloc _ _
 have HK := Lib.hid (h.keep HB.out.below)
 have HC : Hid (GC W w.heap.size sz A m c) := by rw [hW]; exact GC.new _ _ _ _ _
 have HW := Lib.hid hW
 have KF := Lib.hid (firstList_noG (n := (4 : Int)) (fm := 210) (cm := #[]) (fh := 286) (ch := #[.pointer (some ⟨w.heap.size, 0, none⟩)]) HK.out hm hok)
 clear hW h hok
 go_enter Tryz.func207, Tryz.ntmps207
 have e0 := HC.out.c0
 have e1 := HC.out.c1
 go_wp2_with fail
 rw [← HW.out]
 clear HW
 refine KF.out.mono ?_
 rintro e w1 ⟨rfl, hb1⟩
 clear e0 e1
 replace HB := Lib.hid (HB.out.keep hb1)
 replace HK := Lib.hid (HK.out.keep hb1)
 replace HC := Lib.hid (HC.out.keep hb1)
 clear hb1 KF
 have e0 := HC.out.c0
 have e1 := HC.out.c1
 go_wp2
 go_ret2
 exact lsQ.no HB.out.below
set_option maxRecDepth 100000 in
set_option maxHeartbeats 1600000 in
theorem ThresholdObstacle_v {A : Option Addr} {m c : Nat} {r : Nat → Nat} {w : World} (h : GV w A m c r) : Calls Tryz.prog 140 #[.agg #[.int .i64 m, .slice A m c]] w (lsQ w (fhO r m)) := by
 have hm7 := h.vg.n7
 obtain ⟨W, hW⟩ : ∃ W : World, W = (w.alloc (Obj.cells #[Value.int IntKind.i64 m, Value.slice A m c] 26)) := ⟨_, rfl⟩
 have HB : Hid (From w W) := by rw [hW]; exact From.alloc _ _
 have HG : Hid (GBox W w.heap.size A m c r) := by rw [hW]; exact h.box
 have HW := Lib.hid hW
 clear hW h
 have e0 := HG.out.c0
 have e1 := HG.out.c1
 have HG0 := HG
 have KF := Lib.hid (firstList_g (m := m) (n := 4) (A := A) (c := c) (r := r) (fm := 210) (cm := #[]) (fh := 211) (ch := #[.pointer (some ⟨w.heap.size, 0, none⟩)]) (may := freM) (hol := (thR r m)) (lo := W.heap.size) (hi := W.heap.size) (J := fun _ z => GBox z w.heap.size A m c r)
  (ent_of Tryz.func210 (by kernel_rfl) rfl) (ent_of Tryz.func211 (by kernel_rfl) rfl) W HG0.out.gv (by omega) (Nat.le_refl _) (fun _ z z' hz hb => hz.keep hb) HG0.out
  (fun _ l A' c' z hz hr hl hv hn => always_n A' l.length c' z)
  (fun _ l A' c' z hz hr hl hv hn => (ThresholdObstacle_c hz ⟨hr⟩ (by have := nodup_len hn hv; omega)).mono fun e w' ⟨h1, h2⟩ => ⟨h1, hz.keep h2, Fr.of_below h2⟩))
 have HO : Hid (fhO r m = seaG m freM (thR r m) 4 []) := rfl
 obtain ⟨o, ho⟩ : ∃ o, o = fhO r m := ⟨_, rfl⟩
 rw [← ho] at HO ⊢
 rw [← HO.out] at KF
 clear ho HO
 go_enter Tryz.func140, Tryz.ntmps140
 have e0 := HG.out.c0
 have e1 := HG.out.c1
 go_wp2_with fail
 rw [← HW.out]
 clear HW
 refine KF.out.mono ?_
 rintro e w1 ⟨hf, hp⟩
 have HB1 : Hid (Below w.heap.size w w1) := HB.out.below.trans (hf.below HB.out.below.size HB.out.below.size)
 have HZ : Hid (w.heap.size ≤ W.heap.size) := HB.out.below.size
 clear hf KF HG e0 e1
 cases o with
 | none =>
   obtain ⟨rfl, _⟩ := hp
   go_wp2
   go_ret2
   exact lsQ.no HB1.out
 | some l =>
   obtain ⟨g, c', rfl, hO⟩ := hp
   have HL : Hid (ON w.heap.size w1 (some ⟨g, 0, none⟩) c' l) := ⟨hO.mono HZ.out (Nat.le_refl _)⟩
   clear hO
   go_wp2
   go_ret2
   exact lsQ.yes HL.out HB1.out
set_option maxRecDepth 100000 in
set_option maxHeartbeats 1600000 in
theorem ThresholdObstacle_no (sz : Int) (A : Option Addr) (m c : Nat) (x : Nat → Int) (w : World) (h : GA w A m c x) (hm : m ≤ 1048576) (hok : okB sz m x = false) :
 Calls Tryz.prog 140 #[.agg #[.int .i64 sz, .slice A m c]] w (lsQ w none) := by
 obtain ⟨W, hW⟩ : ∃ W : World, W = (w.alloc (Obj.cells #[Value.int IntKind.i64 sz, Value.slice A m c] 26)) := ⟨_, rfl⟩
 have HB : Hid (From w W) := by rw [hW]; exact From.alloc _ _
 have HK := Lib.hid (h.keep HB.out.below)
 have HC : Hid (GC W w.heap.size sz A m c) := by rw [hW]; exact GC.new _ _ _ _ _
 have HW := Lib.hid hW
 have KF := Lib.hid (firstList_noG (n := (4 : Int)) (fm := 210) (cm := #[]) (fh := 211) (ch := #[.pointer (some ⟨w.heap.size, 0, none⟩)]) HK.out hm hok)
 clear hW h hok
 go_enter Tryz.func140, Tryz.ntmps140
 have e0 := HC.out.c0
 have e1 := HC.out.c1
 go_wp2_with fail
 rw [← HW.out]
 clear HW
 refine KF.out.mono ?_
 rintro e w1 ⟨rfl, hb1⟩
 clear e0 e1
 replace HB := Lib.hid (HB.out.keep hb1)
 replace HK := Lib.hid (HK.out.keep hb1)
 replace HC := Lib.hid (HC.out.keep hb1)
 clear hb1 KF
 have e0 := HC.out.c0
 have e1 := HC.out.c1
 go_wp2
 go_ret2
 exact lsQ.no HB.out.below
set_option maxRecDepth 100000 in
set_option maxHeartbeats 1600000 in
theorem FindSun_v {A : Option Addr} {m c : Nat} {r : Nat → Nat} {w : World} (h : GV w A m c r) : Calls Tryz.prog 215 #[.agg #[.int .i64 m, .slice A m c]] w (lsQ w (snO r m)) := by
 have hm7 := h.vg.n7
 obtain ⟨W, hW⟩ : ∃ W : World, W = (w.alloc (Obj.cells #[Value.int IntKind.i64 m, Value.slice A m c] 26)) := ⟨_, rfl⟩
 have HB : Hid (From w W) := by rw [hW]; exact From.alloc _ _
 have HG : Hid (GBox W w.heap.size A m c r) := by rw [hW]; exact h.box
 have HW := Lib.hid hW
 clear hW h
 have e0 := HG.out.c0
 have e1 := HG.out.c1
 have HG0 := HG
 have KF := Lib.hid (firstList_g (m := m) (n := 6) (A := A) (c := c) (r := r) (fm := 292) (cm := #[.pointer (some ⟨w.heap.size, 0, none⟩)]) (fh := 210) (ch := #[]) (may := (ajR r m sunJ)) (hol := freM) (lo := W.heap.size) (hi := W.heap.size) (J := fun _ z => GBox z w.heap.size A m c r)
  (ent_of Tryz.func292 (by kernel_rfl) rfl) (ent_of Tryz.func210 (by kernel_rfl) rfl) W HG0.out.gv (by omega) (Nat.le_refl _) (fun _ z z' hz hb => hz.keep hb) HG0.out
  (fun _ l A' c' z hz hr hl hv hn => FindSun_c hz ⟨hr⟩ (by have := nodup_len hn hv; omega))
  (fun _ l A' c' z hz hr hl hv hn => (always_n A' l.length c' z).mono fun e w' ⟨h1, h2⟩ => ⟨h1, hz.keep h2, Fr.of_below h2⟩))
 have HO : Hid (snO r m = seaG m (ajR r m sunJ) freM 6 []) := snO_i.symm
 obtain ⟨o, ho⟩ : ∃ o, o = snO r m := ⟨_, rfl⟩
 rw [← ho] at HO ⊢
 rw [← HO.out] at KF
 clear ho HO
 go_enter Tryz.func215, Tryz.ntmps215
 have e0 := HG.out.c0
 have e1 := HG.out.c1
 go_wp2_with fail
 rw [← HW.out]
 clear HW
 refine KF.out.mono ?_
 rintro e w1 ⟨hf, hp⟩
 have HB1 : Hid (Below w.heap.size w w1) := HB.out.below.trans (hf.below HB.out.below.size HB.out.below.size)
 have HZ : Hid (w.heap.size ≤ W.heap.size) := HB.out.below.size
 clear hf KF HG e0 e1
 cases o with
 | none =>
   obtain ⟨rfl, _⟩ := hp
   go_wp2
   go_ret2
   exact lsQ.no HB1.out
 | some l =>
   obtain ⟨g, c', rfl, hO⟩ := hp
   have HL : Hid (ON w.heap.size w1 (some ⟨g, 0, none⟩) c' l) := ⟨hO.mono HZ.out (Nat.le_refl _)⟩
   clear hO
   go_wp2
   go_ret2
   exact lsQ.yes HL.out HB1.out
set_option maxRecDepth 100000 in
set_option maxHeartbeats 1600000 in
theorem FindSun_no (sz : Int) (A : Option Addr) (m c : Nat) (x : Nat → Int) (w : World) (h : GA w A m c x) (hm : m ≤ 1048576) (hok : okB sz m x = false) :
 Calls Tryz.prog 215 #[.agg #[.int .i64 sz, .slice A m c]] w (lsQ w none) := by
 obtain ⟨W, hW⟩ : ∃ W : World, W = (w.alloc (Obj.cells #[Value.int IntKind.i64 sz, Value.slice A m c] 26)) := ⟨_, rfl⟩
 have HB : Hid (From w W) := by rw [hW]; exact From.alloc _ _
 have HK := Lib.hid (h.keep HB.out.below)
 have HC : Hid (GC W w.heap.size sz A m c) := by rw [hW]; exact GC.new _ _ _ _ _
 have HW := Lib.hid hW
 have KF := Lib.hid (firstList_noG (n := (6 : Int)) (fm := 292) (cm := #[.pointer (some ⟨w.heap.size, 0, none⟩)]) (fh := 210) (ch := #[]) HK.out hm hok)
 clear hW h hok
 go_enter Tryz.func215, Tryz.ntmps215
 have e0 := HC.out.c0
 have e1 := HC.out.c1
 go_wp2_with fail
 rw [← HW.out]
 clear HW
 refine KF.out.mono ?_
 rintro e w1 ⟨rfl, hb1⟩
 clear e0 e1
 replace HB := Lib.hid (HB.out.keep hb1)
 replace HK := Lib.hid (HK.out.keep hb1)
 replace HC := Lib.hid (HC.out.keep hb1)
 clear hb1 KF
 have e0 := HC.out.c0
 have e1 := HC.out.c1
 go_wp2
 go_ret2
 exact lsQ.no HB.out.below
end Go.Proofs.YtfabbohijhjpcaaGreatDoor

/-
-/
namespace Go.Proofs.YtfabbohijhjpcaaGreatDoor
open Go.RowKit
def lyr (r : Nat → Nat) (set s : Nat) : Nat → Nat
 | 0 => s
 | k + 1 => (nb r (lyr r set s k) &&& set) ^^^ ((nb r (lyr r set s k) &&& set) &&& gro r set s k)
section
variable {r : Nat → Nat} {set s : Nat}
theorem lyr_bit {k u : Nat} : (lyr r set s (k + 1)).testBit u = true ↔ (nb r (lyr r set s k)).testBit u = true ∧ set.testBit u = true ∧ (gro r set s k).testBit u = false := by
 show ((nb r (lyr r set s k) &&& set) ^^^ ((nb r (lyr r set s k) &&& set) &&& gro r set s k)).testBit u = true ↔ _
 rw [Nat.testBit_xor, Nat.testBit_and, Nat.testBit_and, Nat.testBit_and]
 cases (nb r (lyr r set s k)).testBit u <;> cases set.testBit u <;> cases (gro r set s k).testBit u <;> simp
theorem gro_bit {k u : Nat} : (gro r set s (k + 1)).testBit u = true ↔ ((gro r set s k).testBit u = true ∨ (nb r (gro r set s k)).testBit u = true) ∧ set.testBit u = true := stp_bit
theorem lyr_both (h : Sub s set) : ∀ k, Sub (lyr r set s k) (gro r set s k) ∧ gro r set s (k + 1) = gro r set s k ||| lyr r set s (k + 1) := by
 intro k
 induction k with
 | zero =>
   refine ⟨fun u hu => hu, ?_⟩
   apply Nat.eq_of_testBit_eq
   intro u
   rw [Bool.eq_iff_iff, gro_bit, Nat.testBit_or, Bool.or_eq_true, lyr_bit]
   show (s.testBit u = true ∨ (nb r s).testBit u = true) ∧ _ ↔ s.testBit u = true ∨ (nb r s).testBit u = true ∧ _ ∧ s.testBit u = false
   have := h u
   cases hs0 : s.testBit u <;> cases (nb r s).testBit u <;> cases hs : set.testBit u <;> simp_all
 | succ k ih =>
   obtain ⟨ih1, ih2⟩ := ih
   have h1 : Sub (lyr r set s (k + 1)) (gro r set s (k + 1)) := fun u hu => by rw [ih2, Nat.testBit_or, hu, Bool.or_true]
   refine ⟨h1, ?_⟩
   apply Nat.eq_of_testBit_eq
   intro u
   rw [Bool.eq_iff_iff, gro_bit, Nat.testBit_or, Bool.or_eq_true, lyr_bit]
   constructor
   ·rintro ⟨h2, h3⟩
    cases hg : (gro r set s (k + 1)).testBit u
    ·rw [hg] at h2
     rcases h2 with h2 | h2
     ·cases h2
     ·obtain ⟨v, hv, h4, h5⟩ := nb_bit.1 h2
      refine .inr ⟨nb_bit.2 ⟨v, hv, ?_, h5⟩, h3, rfl⟩
      rw [ih2, Nat.testBit_or, Bool.or_eq_true] at h4
      rcases h4 with h4 | h4
      ·have : (gro r set s (k + 1)).testBit u = true := gro_bit.2 ⟨.inr (nb_bit.2 ⟨v, hv, h4, h5⟩), h3⟩
       rw [hg] at this; cases this
      ·exact h4
    ·exact .inl rfl
   ·rintro (h2 | ⟨h2, h3, _⟩)
    ·exact ⟨.inl h2, gro_sub h (k + 1) u h2⟩
    ·obtain ⟨v, hv, h4, h5⟩ := nb_bit.1 h2
     exact ⟨.inr (nb_bit.2 ⟨v, hv, h1 v h4, h5⟩), h3⟩
theorem gro_lyr (h : Sub s set) (k : Nat) : gro r set s (k + 1) = gro r set s k ||| lyr r set s (k + 1) := (lyr_both h k).2
theorem lyr_sub (h : Sub s set) (k : Nat) : Sub (lyr r set s k) (gro r set s k) := (lyr_both h k).1
theorem lyr_zero (h : Sub s set) {k : Nat} (e : lyr r set s (k + 1) = 0) : gro r set s (k + 1) = gro r set s k := by rw [gro_lyr h, e, Nat.or_zero]
theorem in_lyr (h : Sub s set) {a : Nat} : ∀ k, (gro r set s k).testBit a = true → (∀ j, j < k → (gro r set s j).testBit a = false) → (lyr r set s k).testBit a = true := by
 intro k
 cases k with
 | zero => exact fun h _ => h
 | succ k =>
   intro h1 h2
   rw [gro_lyr h, Nat.testBit_or, h2 k (Nat.lt_succ_self _), Bool.false_or] at h1
   exact h1
theorem gro_mono (h : Sub s set) {j k : Nat} (hjk : j ≤ k) : Sub (gro r set s j) (gro r set s k) := by
 induction k with
 | zero => obtain rfl : j = 0 := by omega
           exact fun _ h => h
 | succ k ih =>
   by_cases e : j = k + 1
   ·subst e; exact fun _ h => h
   ·exact (ih (by omega)).trans (gro_grow h k)
theorem lyr_back {m k a : Nat} (vg : VG m r) (hset : set < 2 ^ m) (h : Sub s set) (ha : a < m) (hb : (lyr r set s (k + 1)).testBit a = true) : ∃ v, v < m ∧ (r a &&& lyr r set s k).testBit v = true := by
 obtain ⟨h1, _, _⟩ := lyr_bit.1 hb
 obtain ⟨v, _, h2, h3⟩ := nb_bit.1 h1
 have hv : v < m := bit_lt hset (gro_sub h k v (lyr_sub h k v h2))
 refine ⟨v, hv, ?_⟩
 rw [Nat.testBit_and, h2, Bool.and_true, vg.sym a v ha hv]
 exact h3
theorem reach_yes {m k a : Nat} (hm : m ≤ 7) (hset : set < 2 ^ m) (h : Sub s set) (h0 : s ≠ 0) (hb : (gro r set s k).testBit a = true) : (part r set s).testBit a = true := by
 have e := gro_part (r := r) hm hset h h0
 by_cases hk : k ≤ m
 ·rw [← e]; exact gro_mono h hk a hb
 ·have := gro_fix (gro_stop (r := r) hm hset h h0) k (by omega)
  rw [← e, ← this]; exact hb
theorem reach_no {k a : Nat} (h : Sub s set) (e : gro r set s (k + 1) = gro r set s k) (hb : (gro r set s k).testBit a = false) : ∀ j, (gro r set s j).testBit a = false := by
 intro j
 by_cases hj : k ≤ j
 ·rw [gro_fix e j hj]; exact hb
 ·cases hj' : (gro r set s j).testBit a
  ·rfl
  ·rw [gro_mono h (show j ≤ k by omega) a hj'] at hb; cases hb
end
def avS (r : Nat → Nat) (m c : Nat) : Nat := (2 ^ m - 1) ^^^ (r c ||| 2 ^ c)
def avN (r : Nat → Nat) (m a b c : Nat) : Bool := ((avS r m c).testBit a && (avS r m c).testBit b) && (part r (avS r m c) (2 ^ b)).testBit a
noncomputable def avB (sz : Int) (m : Nat) (x : Nat → Int) (a b c : Int) : Bool :=
 okB sz m x && decide ((0 ≤ a ∧ a < sz) ∧ (0 ≤ b ∧ b < sz) ∧ (0 ≤ c ∧ c < sz)) && avN (rw_ x) m a.toNat b.toNat c.toNat
noncomputable def trB (sz : Int) (m : Nat) (x : Nat → Int) (a b c : Int) : Bool :=
 (avB sz m x a b c && avB sz m x b c a && avB sz m x c a b) && (decide (a ≠ b) && decide (b ≠ c) && decide (a ≠ c))
theorem avS_lt {m c : Nat} {r : Nat → Nat} (vg : VG m r) (hc : c < m) : avS r m c < 2 ^ m := full_lt vg.n7 (or_pow_lt vg hc)
theorem pow_sub {b set : Nat} (h : set.testBit b = true) : Sub (2 ^ b) set := fun u hu => by
 rw [Nat.testBit_two_pow] at hu
 have : b = u := by simpa using hu
 rw [← this]; exact h
end Go.Proofs.YtfabbohijhjpcaaGreatDoor

/-
-/
namespace Go.Proofs.YtfabbohijhjpcaaGreatDoor
open Go.RowKit
def ivB (sz : Int) (l : List Int) : Bool := l.all fun v => decide (0 ≤ v ∧ v < sz)
theorem ivB_no {sz : Int} {l : List Int} {k : Nat} (hk : k < l.length) (h : ¬(0 ≤ l.getD k 0 ∧ l.getD k 0 < sz)) : ivB sz l = false := by
 unfold ivB
 rw [List.all_eq_false]
 exact ⟨l.getD k 0, getD_mem hk, by simpa using h⟩
theorem ivB_yes {sz : Int} {l : List Int} (h : ∀ k, k < l.length → 0 ≤ l.getD k 0 ∧ l.getD k 0 < sz) : ivB sz l = true := by
 unfold ivB
 rw [List.all_eq_true]
 intro v hv
 obtain ⟨i, hi, rfl⟩ := List.mem_iff_getElem.1 hv
 have := h i hi
 simpa [List.getD, hi] using this
set_option maxHeartbeats 1000000 in
theorem isVertex_z (sz : Int) (A : Option Addr) (m c : Nat) (x : Nat → Int) (Al : Option Addr) (n cl : Nat) (l : List Int) (w : World) (h : GA w A m c x) (hl : LI w Al n cl l) (hm : m ≤ 1048576) (hn : n ≤ 1048576) :
 Calls Tryz.prog 150 #[.agg #[.int .i64 sz, .slice A m c], .slice Al n cl] w fun e w' => e = .returned (.bool (ivB sz l && okB sz m x)) ∧ Below w.heap.size w w' := by
 obtain ⟨W, hW⟩ : ∃ W : World, W = (w.alloc (Obj.cells #[Value.int IntKind.i64 sz, Value.slice A m c] 26)) := ⟨_, rfl⟩
 have HB : Hid (From w W) := by rw [hW]; exact From.alloc _ _
 have HK := Lib.hid (h.keep HB.out.below)
 have HL := Lib.hid (hl.keep HB.out.below)
 have HC : Hid (GC W w.heap.size sz A m c) := by rw [hW]; exact GC.new _ _ _ _ _
 have HW := Lib.hid hW
 have HN := Lib.hid hl.len
 have e0 := HC.out.c0
 have e1 := HC.out.c1
 clear hW h hl
 cases ho : okB sz m x
 ·have Ho := Lib.hid ho
  clear ho
  go_enter Tryz.func150, Tryz.ntmps150
  go_wp2
  rw [← HW.out]
  clear HW
  go_loop [9] (fun i => ∃ k : Nat, k ≤ n ∧ i = .int .i64 k) (fun i => n - (intOf i).toNat)
  case atStart => exact ⟨0, Nat.zero_le _, rfl⟩
  case round =>
   obtain ⟨k, hk, rfl⟩ := hrel
   by_cases hlt : k < n
   ·obtain ⟨b, o, rfl⟩ := HL.out.addr (by omega)
    have q0 := HL.out.at hlt
    obtain ⟨u, hu⟩ : ∃ u : Int, u = l.getD k 0 := ⟨_, rfl⟩
    rw [← hu] at q0
    have i1 : (k : Int) < (n : Int) := by omega
    clear hu
    by_cases hr : 0 ≤ u ∧ u ≤ wrap64 (sz - 1)
    ·obtain ⟨r1, r2⟩ := hr
     go_wp2_with (first | (go_at_call 60; refine (within_yes _ _ _ _ r1 r2).mono ?_; rintro e w' ⟨rfl, rfl⟩))
     go_round
     case rel => exact ⟨k + 1, by omega, by go_num⟩
     case measure => simp [intOf]; omega
    ·have hr' : Hid (u < 0 ∨ wrap64 (sz - 1) < u) := by show _ ∨ _; omega
     clear hr
     go_wp2_with (first | (go_at_call 60; refine (within_no _ _ _ _ hr'.out).mono ?_; rintro e w' ⟨rfl, rfl⟩))
     go_ret
     exact ⟨ret_bool (Bool.and_false _).symm, HB.out.below⟩
   ·have i1 : (n : Int) ≤ (k : Int) := by omega
    go_wp2_with fail
    refine (IsGraph_any sz A m c x W W.heap.size HK.out.rd (Nat.le_refl _) hm).mono ?_
    rintro e w1 ⟨rfl, hb1⟩
    rw [Ho.out]
    have HB1 := Lib.hid (HB.out.keep hb1)
    clear hb1
    go_wp2
    go_ret
    exact ⟨ret_bool (Bool.and_false _).symm, HB1.out.below⟩
 ·obtain ⟨_, es, vg0, _⟩ := okB_ok' ho
  subst es
  have hn7 := vg0.n7
  rw [← ho]
  clear ho vg0
  go_enter Tryz.func150, Tryz.ntmps150
  go_wp2
  rw [← HW.out]
  clear HW
  go_loop [9] (fun i => ∃ k : Nat, k ≤ n ∧ i = .int .i64 k ∧ Hid (∀ j, j < k → 0 ≤ l.getD j 0 ∧ l.getD j 0 < (m : Int))) (fun i => n - (intOf i).toNat)
  case atStart => exact ⟨0, Nat.zero_le _, rfl, fun v hv => absurd hv (by omega)⟩
  case round =>
   obtain ⟨k, hk, rfl, hall⟩ := hrel
   by_cases hlt : k < n
   ·obtain ⟨b, o, rfl⟩ := HL.out.addr (by omega)
    have q0 := HL.out.at hlt
    obtain ⟨u, hu⟩ : ∃ u : Int, u = l.getD k 0 := ⟨_, rfl⟩
    rw [← hu] at q0
    have Hu := Lib.hid hu
    have i1 : (k : Int) < (n : Int) := by omega
    clear hu
    by_cases hr : 0 ≤ u ∧ u < (m : Int)
    ·have Hr := Lib.hid hr
     obtain ⟨r1, r2⟩ := hr
     go_wp2_with (first | (go_at_call 60; refine (within_yes _ _ _ _ r1 (by omega)).mono ?_; rintro e w' ⟨rfl, rfl⟩))
     go_round
     case rel =>
      refine ⟨k + 1, by omega, by go_num, fun j hj => ?_⟩
      by_cases hjk : j < k
      ·exact hall.out j hjk
      ·obtain rfl : j = k := by omega
       rw [← Hu.out]; exact Hr.out
     case measure => simp [intOf]; omega
    ·have hno : Hid (ivB (m : Int) l = false) := ivB_no (k := k) (by rw [← HN.out]; exact hlt) (by rw [← Hu.out]; exact hr)
     have hr' : Hid (u < 0 ∨ (m : Int) - 1 < u) := by show _ ∨ _; omega
     clear hr
     go_wp2_with (first | (go_at_call 60; refine (within_no _ _ _ _ hr'.out).mono ?_; rintro e w' ⟨rfl, rfl⟩))
     go_ret
     exact ⟨ret_bool (by rw [hno.out]; rfl), HB.out.below⟩
   ·have hyes : Hid (ivB (m : Int) l = true) := ivB_yes fun j hj => hall.out j (by rw [← HN.out] at hj; omega)
    have i1 : (n : Int) ≤ (k : Int) := by omega
    clear hall
    go_wp2_with fail
    refine (IsGraph_any (m : Int) A m c x W W.heap.size HK.out.rd (Nat.le_refl _) hm).mono ?_
    rintro e w1 ⟨rfl, hb1⟩
    have HB1 := Lib.hid (HB.out.keep hb1)
    clear hb1
    go_wp2
    go_ret
    exact ⟨ret_bool (by rw [hyes.out]; rfl), HB1.out.below⟩
theorem own_1 (w : World) (v : Int) : Own (w.alloc (Obj.cells #[.int .i64 v] 3)) w.heap.size (w.heap.size + 1) 3 1 (some ⟨w.heap.size, 0, none⟩) 1 1 (fun _ => .int .i64 v) :=
 .inr ⟨w.heap.size, #[.int .i64 v], rfl, Nat.le_refl _, Nat.lt_succ_self _, heap_alloc_new w _, Nat.le_refl _, by unfold maxLen; omega, rfl, fun j hj => by
  have e : j = 0 := by omega
  subst e; rfl⟩
theorem one_on (z : World) (v : Nat) : ON z.heap.size (z.alloc (Obj.cells #[Value.int .i64 (v : Int)] 3)) (some ⟨z.heap.size, 0, none⟩) 1 [v] :=
 ⟨((own_1 z (v : Int)).mono (Nat.le_refl _) (by simp)).congr (fun j hj => by
   have : j = 0 := by simp at hj; omega
   subst this; rfl)⟩
section
variable {A : Option Addr} {m c : Nat} {r : Nat → Nat} {fn : FuncId} {caps : Array Value} {f : List Nat → Nat → Nat}
end
end Go.Proofs.YtfabbohijhjpcaaGreatDoor
