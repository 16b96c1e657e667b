/-
  Contracts: the first two edges, the first claw, the first obstacle of a threshold graph, the first sun (the program's).
-/
import Derived.Test.YtdpkbfiggbcclaaGreatQjHolI
import Derived.Test.YtdpkbfiggbcclaaGreatQjObsI
namespace Go.Proofs.YtdpkbfiggbcclaaGreat
open Go.RowKit

/-- A value at a graph that need not be valid. -/
noncomputable def gO (sz : Int) (m : Nat) (x : Nat → Int) (f : (Nat → Nat) → Nat → Option (List Nat)) : Option (List Nat) := if okB sz m x = true then f (rw_ x) m else none
theorem gO_no {sz : Int} {m : Nat} {x : Nat → Int} {f : (Nat → Nat) → Nat → Option (List Nat)} (h : okB sz m x = false) : gO sz m x f = none := by unfold gO; rw [h]; rfl
theorem gO_yes {sz : Int} {m : Nat} {x : Nat → Int} {f : (Nat → Nat) → Nat → Option (List Nat)} (h : okB sz m x = true) : gO sz m x f = f (rw_ x) m := by unfold gO; rw [h]; rfl
theorem thR_of {r : Nat → Nat} {m : Nat} {l : List Nat} : tholB (m : Int) m (fun v => (r v : Int)) (zl l) = thR r m l := by
  unfold tholB thR teR hoR ptB
  rw [zl_len, Bool.or_assoc]
set_option maxHeartbeats 4000000 in
theorem sunJ_7 (i k : Nat) (z : World) (hk : k < 7) (hik : i < k) : Calls Tryz.prog 332 (#[.int .i64 i, .int .i64 k] ++ #[]) z (fun e z' => e = .returned (.bool (sunJ i k)) ∧ Below z.heap.size z z') := by
  by_cases h6 : k < 6
  · exact sunJ_c i k z h6 hik
  · obtain rfl : k = 6 := by omega
    show Calls Tryz.prog 332 #[.int .i64 i, .int .i64 (6 : Nat)] z _
    have h : i = 0 ∨ i = 1 ∨ i = 2 ∨ i = 3 ∨ i = 4 ∨ i = 5 := by omega
    clear hk hik h6
    rcases h with rfl | rfl | rfl | rfl | rfl | rfl
    all_goals
      go_enter Tryz.func332, Tryz.ntmps332
      go_wp2
      go_ret
      exact ⟨rfl, Below.refl _ _⟩
set_option maxRecDepth 100000 in
set_option maxHeartbeats 1600000 in
theorem FindTwoEdges_c {A : Option Addr} {m c q : Nat} {r : Nat → Nat} {Al : Option Addr} {cl : Nat} {l : List Nat} {w : World} (h : GBox w q A m c r) (hl : LN w Al cl l) (hlen : l.length ≤ 7) :
    Calls Tryz.prog 328 #[.slice Al l.length cl, .pointer (some ⟨q, 0, none⟩)] w fun e w' => e = .returned (.bool (teR r m l)) ∧ Below w.heap.size w w' := by
  have hm7 := h.gv.vg.n7
  have KP := Lib.hid (IsTwoEdges_i m A m c _ Al l.length cl _ w h.gv.ga hl.li (by omega) (by omega))
  have e0 := h.c0
  have e1 := h.c1
  have HF : Hid (From w w) := From.refl w
  clear h hl
  go_enter Tryz.func328, Tryz.ntmps328
  go_wp2_with fail
  refine KP.out.mono ?_
  rintro e w1 ⟨rfl, hb1⟩
  replace HF := Lib.hid (HF.out.keep hb1)
  clear hb1
  go_wp2
  go_ret
  exact ⟨rfl, HF.out.below⟩
set_option maxRecDepth 100000 in
set_option maxHeartbeats 1600000 in
theorem FindClaw_c {A : Option Addr} {m c q : Nat} {r : Nat → Nat} {Al : Option Addr} {cl : Nat} {l : List Nat} {w : World} (h : GBox w q A m c r) (hl : LN w Al cl l) (hlen : l.length ≤ 7) :
    Calls Tryz.prog 325 #[.slice Al l.length cl, .pointer (some ⟨q, 0, none⟩)] w fun e w' => e = .returned (.bool (cwR r m l)) ∧ Below w.heap.size w w' := by
  have hm7 := h.gv.vg.n7
  have KP := Lib.hid (IsClaw_i m A m c _ Al l.length cl _ w h.gv.ga hl.li (by omega) (by omega))
  have e0 := h.c0
  have e1 := h.c1
  have HF : Hid (From w w) := From.refl w
  clear h hl
  go_enter Tryz.func325, Tryz.ntmps325
  go_wp2_with fail
  refine KP.out.mono ?_
  rintro e w1 ⟨rfl, hb1⟩
  replace HF := Lib.hid (HF.out.keep hb1)
  clear hb1
  go_wp2
  go_ret
  exact ⟨rfl, HF.out.below⟩
set_option maxRecDepth 100000 in
set_option maxHeartbeats 1600000 in
theorem ThresholdObstacle_c {A : Option Addr} {m c q : Nat} {r : Nat → Nat} {Al : Option Addr} {cl : Nat} {l : List Nat} {w : World} (h : GBox w q A m c r) (hl : LN w Al cl l) (hlen : l.length ≤ 7) :
    Calls Tryz.prog 223 #[.slice Al l.length cl, .pointer (some ⟨q, 0, none⟩)] w fun e w' => e = .returned (.bool (thR r m l)) ∧ Below w.heap.size w w' := by
  have hm7 := h.gv.vg.n7
  have KP0 := (IsThresholdObstacle_i m A m c _ Al l.length cl _ w h.gv.ga hl.li (by omega) (by omega))
  rw [thR_of] at KP0
  have KP := Lib.hid KP0
  clear KP0
  have e0 := h.c0
  have e1 := h.c1
  have HF : Hid (From w w) := From.refl w
  clear h hl
  go_enter Tryz.func223, Tryz.ntmps223
  go_wp2_with fail
  refine KP.out.mono ?_
  rintro e w1 ⟨rfl, hb1⟩
  replace HF := Lib.hid (HF.out.keep hb1)
  clear hb1
  go_wp2
  go_ret
  exact ⟨rfl, HF.out.below⟩
set_option maxRecDepth 100000 in
set_option maxHeartbeats 1600000 in
theorem FindSun_c {A : Option Addr} {m c q : Nat} {r : Nat → Nat} {Al : Option Addr} {cl : Nat} {l : List Nat} {w : World} (h : GBox w q A m c r) (hl : LN w Al cl l) (hlen : l.length ≤ 7) :
    Calls Tryz.prog 331 #[.slice Al l.length cl, .pointer (some ⟨q, 0, none⟩)] w fun e w' => e = .returned (.bool (ajR r m sunJ l)) ∧ Below w.heap.size w w' := by
  have hm7 := h.gv.vg.n7
  have KP := Lib.hid (areJoined_g (J := sunJ) (fn := 332) (caps := #[]) (ent_of Tryz.func332 (by kernel_rfl) rfl) m A m c _ Al l.length cl _ w h.gv.ga hl.li (by omega) (by omega) (fun i k z h1 h2 _ => sunJ_7 i k z (by omega) h1))
  have e0 := h.c0
  have e1 := h.c1
  have HF : Hid (From w w) := From.refl w
  clear h hl
  go_enter Tryz.func331, Tryz.ntmps331
  go_wp2_with fail
  refine KP.out.mono ?_
  rintro e w1 ⟨rfl, hb1⟩
  replace HF := Lib.hid (HF.out.keep hb1)
  clear hb1
  go_wp2
  go_ret
  exact ⟨rfl, HF.out.below⟩
set_option maxRecDepth 100000 in
set_option maxHeartbeats 1600000 in
theorem FindTwoEdges_v {A : Option Addr} {m c : Nat} {r : Nat → Nat} {w : World} (h : GV w A m c r) : Calls Tryz.prog 221 #[.agg #[.int .i64 m, .slice A m c]] w (lsQ w (teO r m)) := by
  have hm7 := h.vg.n7
  obtain ⟨W, hW⟩ : ∃ W : World, W = (w.alloc (Obj.cells #[Value.int IntKind.i64 m, Value.slice A m c] 28)) := ⟨_, rfl⟩
  have HB : Hid (From w W) := by rw [hW]; exact From.alloc _ _
  have HG : Hid (GBox W w.heap.size A m c r) := by rw [hW]; exact h.box
  have HW := Lib.hid hW
  clear hW h
  have e0 := HG.out.c0
  have e1 := HG.out.c1
  have HG0 := HG
  have KF := Lib.hid (firstList_g (m := m) (n := 4) (A := A) (c := c) (r := r) (fm := 222) (cm := #[]) (fh := 328) (ch := #[.pointer (some ⟨w.heap.size, 0, none⟩)]) (may := freM) (hol := (teR r m)) (lo := W.heap.size) (hi := W.heap.size) (J := fun _ z => GBox z w.heap.size A m c r)
    (ent_of Tryz.func222 (by kernel_rfl) rfl) (ent_of Tryz.func328 (by kernel_rfl) rfl) W HG0.out.gv (by omega) (Nat.le_refl _) (fun _ z z' hz hb => hz.keep hb) HG0.out
    (fun _ l A' c' z hz hr hl hv hn => always_n A' l.length c' z)
    (fun _ l A' c' z hz hr hl hv hn => (FindTwoEdges_c hz ⟨hr⟩ (by have := nodup_len hn hv; omega)).mono fun e w' ⟨h1, h2⟩ => ⟨h1, hz.keep h2, Fr.of_below h2⟩))
  have HO : Hid (teO r m = seaG m freM (teR r m) 4 []) := rfl
  obtain ⟨o, ho⟩ : ∃ o, o = teO r m := ⟨_, rfl⟩
  rw [← ho] at HO ⊢
  rw [← HO.out] at KF
  clear ho HO
  go_enter Tryz.func221, Tryz.ntmps221
  have e0 := HG.out.c0
  have e1 := HG.out.c1
  go_wp2_with fail
  rw [← HW.out]
  clear HW
  refine KF.out.mono ?_
  rintro e w1 ⟨hf, hp⟩
  have HB1 : Hid (Below w.heap.size w w1) := HB.out.below.trans (hf.below HB.out.below.size HB.out.below.size)
  have HZ : Hid (w.heap.size ≤ W.heap.size) := HB.out.below.size
  clear hf KF HG e0 e1
  cases o with
  | none =>
    obtain ⟨rfl, _⟩ := hp
    go_wp2
    go_ret2
    exact lsQ.no HB1.out
  | some l =>
    obtain ⟨g, c', rfl, hO⟩ := hp
    have HL : Hid (ON w.heap.size w1 (some ⟨g, 0, none⟩) c' l) := ⟨hO.mono HZ.out (Nat.le_refl _)⟩
    clear hO
    go_wp2
    go_ret2
    exact lsQ.yes HL.out HB1.out
set_option maxRecDepth 100000 in
set_option maxHeartbeats 1600000 in
theorem FindTwoEdges_no (sz : Int) (A : Option Addr) (m c : Nat) (x : Nat → Int) (w : World) (h : GA w A m c x) (hm : m ≤ 1048576) (hok : okB sz m x = false) :
    Calls Tryz.prog 221 #[.agg #[.int .i64 sz, .slice A m c]] w (lsQ w none) := by
  obtain ⟨W, hW⟩ : ∃ W : World, W = (w.alloc (Obj.cells #[Value.int IntKind.i64 sz, Value.slice A m c] 28)) := ⟨_, rfl⟩
  have HB : Hid (From w W) := by rw [hW]; exact From.alloc _ _
  have HK := Lib.hid (h.keep HB.out.below)
  have HC : Hid (GC W w.heap.size sz A m c) := by rw [hW]; exact GC.new _ _ _ _ _
  have HW := Lib.hid hW
  have KF := Lib.hid (firstList_noG (n := (4 : Int)) (fm := 222) (cm := #[]) (fh := 328) (ch := #[.pointer (some ⟨w.heap.size, 0, none⟩)]) HK.out hm hok)
  clear hW h hok
  go_enter Tryz.func221, Tryz.ntmps221
  have e0 := HC.out.c0
  have e1 := HC.out.c1
  go_wp2_with fail
  rw [← HW.out]
  clear HW
  refine KF.out.mono ?_
  rintro e w1 ⟨rfl, hb1⟩
  clear e0 e1
  replace HB := Lib.hid (HB.out.keep hb1)
  replace HK := Lib.hid (HK.out.keep hb1)
  replace HC := Lib.hid (HC.out.keep hb1)
  clear hb1 KF
  have e0 := HC.out.c0
  have e1 := HC.out.c1
  go_wp2
  go_ret2
  exact lsQ.no HB.out.below
set_option maxRecDepth 100000 in
set_option maxHeartbeats 1600000 in
theorem FindClaw_v {A : Option Addr} {m c : Nat} {r : Nat → Nat} {w : World} (h : GV w A m c r) : Calls Tryz.prog 219 #[.agg #[.int .i64 m, .slice A m c]] w (lsQ w (cwO r m)) := by
  have hm7 := h.vg.n7
  obtain ⟨W, hW⟩ : ∃ W : World, W = (w.alloc (Obj.cells #[Value.int IntKind.i64 m, Value.slice A m c] 28)) := ⟨_, rfl⟩
  have HB : Hid (From w W) := by rw [hW]; exact From.alloc _ _
  have HG : Hid (GBox W w.heap.size A m c r) := by rw [hW]; exact h.box
  have HW := Lib.hid hW
  clear hW h
  have e0 := HG.out.c0
  have e1 := HG.out.c1
  have HG0 := HG
  have KF := Lib.hid (firstList_g (m := m) (n := 4) (A := A) (c := c) (r := r) (fm := 222) (cm := #[]) (fh := 325) (ch := #[.pointer (some ⟨w.heap.size, 0, none⟩)]) (may := freM) (hol := (cwR r m)) (lo := W.heap.size) (hi := W.heap.size) (J := fun _ z => GBox z w.heap.size A m c r)
    (ent_of Tryz.func222 (by kernel_rfl) rfl) (ent_of Tryz.func325 (by kernel_rfl) rfl) W HG0.out.gv (by omega) (Nat.le_refl _) (fun _ z z' hz hb => hz.keep hb) HG0.out
    (fun _ l A' c' z hz hr hl hv hn => always_n A' l.length c' z)
    (fun _ l A' c' z hz hr hl hv hn => (FindClaw_c hz ⟨hr⟩ (by have := nodup_len hn hv; omega)).mono fun e w' ⟨h1, h2⟩ => ⟨h1, hz.keep h2, Fr.of_below h2⟩))
  have HO : Hid (cwO r m = seaG m freM (cwR r m) 4 []) := rfl
  obtain ⟨o, ho⟩ : ∃ o, o = cwO r m := ⟨_, rfl⟩
  rw [← ho] at HO ⊢
  rw [← HO.out] at KF
  clear ho HO
  go_enter Tryz.func219, Tryz.ntmps219
  have e0 := HG.out.c0
  have e1 := HG.out.c1
  go_wp2_with fail
  rw [← HW.out]
  clear HW
  refine KF.out.mono ?_
  rintro e w1 ⟨hf, hp⟩
  have HB1 : Hid (Below w.heap.size w w1) := HB.out.below.trans (hf.below HB.out.below.size HB.out.below.size)
  have HZ : Hid (w.heap.size ≤ W.heap.size) := HB.out.below.size
  clear hf KF HG e0 e1
  cases o with
  | none =>
    obtain ⟨rfl, _⟩ := hp
    go_wp2
    go_ret2
    exact lsQ.no HB1.out
  | some l =>
    obtain ⟨g, c', rfl, hO⟩ := hp
    have HL : Hid (ON w.heap.size w1 (some ⟨g, 0, none⟩) c' l) := ⟨hO.mono HZ.out (Nat.le_refl _)⟩
    clear hO
    go_wp2
    go_ret2
    exact lsQ.yes HL.out HB1.out
set_option maxRecDepth 100000 in
set_option maxHeartbeats 1600000 in
theorem FindClaw_no (sz : Int) (A : Option Addr) (m c : Nat) (x : Nat → Int) (w : World) (h : GA w A m c x) (hm : m ≤ 1048576) (hok : okB sz m x = false) :
    Calls Tryz.prog 219 #[.agg #[.int .i64 sz, .slice A m c]] w (lsQ w none) := by
  obtain ⟨W, hW⟩ : ∃ W : World, W = (w.alloc (Obj.cells #[Value.int IntKind.i64 sz, Value.slice A m c] 28)) := ⟨_, rfl⟩
  have HB : Hid (From w W) := by rw [hW]; exact From.alloc _ _
  have HK := Lib.hid (h.keep HB.out.below)
  have HC : Hid (GC W w.heap.size sz A m c) := by rw [hW]; exact GC.new _ _ _ _ _
  have HW := Lib.hid hW
  have KF := Lib.hid (firstList_noG (n := (4 : Int)) (fm := 222) (cm := #[]) (fh := 325) (ch := #[.pointer (some ⟨w.heap.size, 0, none⟩)]) HK.out hm hok)
  clear hW h hok
  go_enter Tryz.func219, Tryz.ntmps219
  have e0 := HC.out.c0
  have e1 := HC.out.c1
  go_wp2_with fail
  rw [← HW.out]
  clear HW
  refine KF.out.mono ?_
  rintro e w1 ⟨rfl, hb1⟩
  clear e0 e1
  replace HB := Lib.hid (HB.out.keep hb1)
  replace HK := Lib.hid (HK.out.keep hb1)
  replace HC := Lib.hid (HC.out.keep hb1)
  clear hb1 KF
  have e0 := HC.out.c0
  have e1 := HC.out.c1
  go_wp2
  go_ret2
  exact lsQ.no HB.out.below
set_option maxRecDepth 100000 in
set_option maxHeartbeats 1600000 in
theorem ThresholdObstacle_v {A : Option Addr} {m c : Nat} {r : Nat → Nat} {w : World} (h : GV w A m c r) : Calls Tryz.prog 112 #[.agg #[.int .i64 m, .slice A m c]] w (lsQ w (fhO r m)) := by
  have hm7 := h.vg.n7
  obtain ⟨W, hW⟩ : ∃ W : World, W = (w.alloc (Obj.cells #[Value.int IntKind.i64 m, Value.slice A m c] 28)) := ⟨_, rfl⟩
  have HB : Hid (From w W) := by rw [hW]; exact From.alloc _ _
  have HG : Hid (GBox W w.heap.size A m c r) := by rw [hW]; exact h.box
  have HW := Lib.hid hW
  clear hW h
  have e0 := HG.out.c0
  have e1 := HG.out.c1
  have HG0 := HG
  have KF := Lib.hid (firstList_g (m := m) (n := 4) (A := A) (c := c) (r := r) (fm := 222) (cm := #[]) (fh := 223) (ch := #[.pointer (some ⟨w.heap.size, 0, none⟩)]) (may := freM) (hol := (thR r m)) (lo := W.heap.size) (hi := W.heap.size) (J := fun _ z => GBox z w.heap.size A m c r)
    (ent_of Tryz.func222 (by kernel_rfl) rfl) (ent_of Tryz.func223 (by kernel_rfl) rfl) W HG0.out.gv (by omega) (Nat.le_refl _) (fun _ z z' hz hb => hz.keep hb) HG0.out
    (fun _ l A' c' z hz hr hl hv hn => always_n A' l.length c' z)
    (fun _ l A' c' z hz hr hl hv hn => (ThresholdObstacle_c hz ⟨hr⟩ (by have := nodup_len hn hv; omega)).mono fun e w' ⟨h1, h2⟩ => ⟨h1, hz.keep h2, Fr.of_below h2⟩))
  have HO : Hid (fhO r m = seaG m freM (thR r m) 4 []) := rfl
  obtain ⟨o, ho⟩ : ∃ o, o = fhO r m := ⟨_, rfl⟩
  rw [← ho] at HO ⊢
  rw [← HO.out] at KF
  clear ho HO
  go_enter Tryz.func112, Tryz.ntmps112
  have e0 := HG.out.c0
  have e1 := HG.out.c1
  go_wp2_with fail
  rw [← HW.out]
  clear HW
  refine KF.out.mono ?_
  rintro e w1 ⟨hf, hp⟩
  have HB1 : Hid (Below w.heap.size w w1) := HB.out.below.trans (hf.below HB.out.below.size HB.out.below.size)
  have HZ : Hid (w.heap.size ≤ W.heap.size) := HB.out.below.size
  clear hf KF HG e0 e1
  cases o with
  | none =>
    obtain ⟨rfl, _⟩ := hp
    go_wp2
    go_ret2
    exact lsQ.no HB1.out
  | some l =>
    obtain ⟨g, c', rfl, hO⟩ := hp
    have HL : Hid (ON w.heap.size w1 (some ⟨g, 0, none⟩) c' l) := ⟨hO.mono HZ.out (Nat.le_refl _)⟩
    clear hO
    go_wp2
    go_ret2
    exact lsQ.yes HL.out HB1.out
set_option maxRecDepth 100000 in
set_option maxHeartbeats 1600000 in
theorem ThresholdObstacle_no (sz : Int) (A : Option Addr) (m c : Nat) (x : Nat → Int) (w : World) (h : GA w A m c x) (hm : m ≤ 1048576) (hok : okB sz m x = false) :
    Calls Tryz.prog 112 #[.agg #[.int .i64 sz, .slice A m c]] w (lsQ w none) := by
  obtain ⟨W, hW⟩ : ∃ W : World, W = (w.alloc (Obj.cells #[Value.int IntKind.i64 sz, Value.slice A m c] 28)) := ⟨_, rfl⟩
  have HB : Hid (From w W) := by rw [hW]; exact From.alloc _ _
  have HK := Lib.hid (h.keep HB.out.below)
  have HC : Hid (GC W w.heap.size sz A m c) := by rw [hW]; exact GC.new _ _ _ _ _
  have HW := Lib.hid hW
  have KF := Lib.hid (firstList_noG (n := (4 : Int)) (fm := 222) (cm := #[]) (fh := 223) (ch := #[.pointer (some ⟨w.heap.size, 0, none⟩)]) HK.out hm hok)
  clear hW h hok
  go_enter Tryz.func112, Tryz.ntmps112
  have e0 := HC.out.c0
  have e1 := HC.out.c1
  go_wp2_with fail
  rw [← HW.out]
  clear HW
  refine KF.out.mono ?_
  rintro e w1 ⟨rfl, hb1⟩
  clear e0 e1
  replace HB := Lib.hid (HB.out.keep hb1)
  replace HK := Lib.hid (HK.out.keep hb1)
  replace HC := Lib.hid (HC.out.keep hb1)
  clear hb1 KF
  have e0 := HC.out.c0
  have e1 := HC.out.c1
  go_wp2
  go_ret2
  exact lsQ.no HB.out.below
set_option maxRecDepth 100000 in
set_option maxHeartbeats 1600000 in
theorem FindSun_v {A : Option Addr} {m c : Nat} {r : Nat → Nat} {w : World} (h : GV w A m c r) : Calls Tryz.prog 227 #[.agg #[.int .i64 m, .slice A m c]] w (lsQ w (snO r m)) := by
  have hm7 := h.vg.n7
  obtain ⟨W, hW⟩ : ∃ W : World, W = (w.alloc (Obj.cells #[Value.int IntKind.i64 m, Value.slice A m c] 28)) := ⟨_, rfl⟩
  have HB : Hid (From w W) := by rw [hW]; exact From.alloc _ _
  have HG : Hid (GBox W w.heap.size A m c r) := by rw [hW]; exact h.box
  have HW := Lib.hid hW
  clear hW h
  have e0 := HG.out.c0
  have e1 := HG.out.c1
  have HG0 := HG
  have KF := Lib.hid (firstList_g (m := m) (n := 6) (A := A) (c := c) (r := r) (fm := 331) (cm := #[.pointer (some ⟨w.heap.size, 0, none⟩)]) (fh := 222) (ch := #[]) (may := (ajR r m sunJ)) (hol := freM) (lo := W.heap.size) (hi := W.heap.size) (J := fun _ z => GBox z w.heap.size A m c r)
    (ent_of Tryz.func331 (by kernel_rfl) rfl) (ent_of Tryz.func222 (by kernel_rfl) rfl) W HG0.out.gv (by omega) (Nat.le_refl _) (fun _ z z' hz hb => hz.keep hb) HG0.out
    (fun _ l A' c' z hz hr hl hv hn => FindSun_c hz ⟨hr⟩ (by have := nodup_len hn hv; omega))
    (fun _ l A' c' z hz hr hl hv hn => (always_n A' l.length c' z).mono fun e w' ⟨h1, h2⟩ => ⟨h1, hz.keep h2, Fr.of_below h2⟩))
  have HO : Hid (snO r m = seaG m (ajR r m sunJ) freM 6 []) := snO_i.symm
  obtain ⟨o, ho⟩ : ∃ o, o = snO r m := ⟨_, rfl⟩
  rw [← ho] at HO ⊢
  rw [← HO.out] at KF
  clear ho HO
  go_enter Tryz.func227, Tryz.ntmps227
  have e0 := HG.out.c0
  have e1 := HG.out.c1
  go_wp2_with fail
  rw [← HW.out]
  clear HW
  refine KF.out.mono ?_
  rintro e w1 ⟨hf, hp⟩
  have HB1 : Hid (Below w.heap.size w w1) := HB.out.below.trans (hf.below HB.out.below.size HB.out.below.size)
  have HZ : Hid (w.heap.size ≤ W.heap.size) := HB.out.below.size
  clear hf KF HG e0 e1
  cases o with
  | none =>
    obtain ⟨rfl, _⟩ := hp
    go_wp2
    go_ret2
    exact lsQ.no HB1.out
  | some l =>
    obtain ⟨g, c', rfl, hO⟩ := hp
    have HL : Hid (ON w.heap.size w1 (some ⟨g, 0, none⟩) c' l) := ⟨hO.mono HZ.out (Nat.le_refl _)⟩
    clear hO
    go_wp2
    go_ret2
    exact lsQ.yes HL.out HB1.out
set_option maxRecDepth 100000 in
set_option maxHeartbeats 1600000 in
theorem FindSun_no (sz : Int) (A : Option Addr) (m c : Nat) (x : Nat → Int) (w : World) (h : GA w A m c x) (hm : m ≤ 1048576) (hok : okB sz m x = false) :
    Calls Tryz.prog 227 #[.agg #[.int .i64 sz, .slice A m c]] w (lsQ w none) := by
  obtain ⟨W, hW⟩ : ∃ W : World, W = (w.alloc (Obj.cells #[Value.int IntKind.i64 sz, Value.slice A m c] 28)) := ⟨_, rfl⟩
  have HB : Hid (From w W) := by rw [hW]; exact From.alloc _ _
  have HK := Lib.hid (h.keep HB.out.below)
  have HC : Hid (GC W w.heap.size sz A m c) := by rw [hW]; exact GC.new _ _ _ _ _
  have HW := Lib.hid hW
  have KF := Lib.hid (firstList_noG (n := (6 : Int)) (fm := 331) (cm := #[.pointer (some ⟨w.heap.size, 0, none⟩)]) (fh := 222) (ch := #[]) HK.out hm hok)
  clear hW h hok
  go_enter Tryz.func227, Tryz.ntmps227
  have e0 := HC.out.c0
  have e1 := HC.out.c1
  go_wp2_with fail
  rw [← HW.out]
  clear HW
  refine KF.out.mono ?_
  rintro e w1 ⟨rfl, hb1⟩
  clear e0 e1
  replace HB := Lib.hid (HB.out.keep hb1)
  replace HK := Lib.hid (HK.out.keep hb1)
  replace HC := Lib.hid (HC.out.keep hb1)
  clear hb1 KF
  have e0 := HC.out.c0
  have e1 := HC.out.c1
  go_wp2
  go_ret2
  exact lsQ.no HB.out.below
end Go.Proofs.YtdpkbfiggbcclaaGreat
