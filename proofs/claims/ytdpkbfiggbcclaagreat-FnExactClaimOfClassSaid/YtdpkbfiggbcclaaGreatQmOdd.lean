/-
  Several texts in one.
-/
import Derived.Test.YtdpkbfiggbcclaaGreatQmCloI
import Derived.Test.YtdpkbfiggbcclaaGreatQmJoinI
import Derived.Test.YtdpkbfiggbcclaaGreatQmUmbS
import Derived.Test.YtdpkbfiggbcclaaGreatQmClaim
/-
-/
namespace Go.Proofs.YtdpkbfiggbcclaaGreat
open Go.RowKit
set_option maxHeartbeats 1600000
noncomputable def ptB (r : Nat → Nat) (m : Nat) (l : List Nat) : Bool := ipB (m : Int) m (fun v => (r v : Int)) (l.map fun v : Nat => (v : Int))
theorem nodup_cast {l : List Nat} (h : (l.map fun v : Nat => (v : Int)).Nodup) : l.Nodup := by
 induction l with
 | nil => exact List.nodup_nil
 | cons a l ih =>
   rw [List.map_cons, List.nodup_cons] at h;rw [List.nodup_cons];exact ⟨fun ha => h.1 (List.mem_map_of_mem ha), ih h.2⟩
theorem ptB_dup {r : Nat → Nat} {m : Nat} {l : List Nat} (h : ¬ l.Nodup) : ptB r m l = false := by
 unfold ptB ipB;rw [ajB_bad (by unfold vrB; rw [vzB_no (fun hv => h (nodup_cast hv.1)), Bool.and_false]), Bool.and_false]
noncomputable def ptO (r : Nat → Nat) (m n : Nat) : Option (List Nat) := if n ≤ m then seaG m (ptB r m) (fun _ => true) n [] else none
theorem ptO_yes {r : Nat → Nat} {m n : Nat} (h : n ≤ m) : ptO r m n = seaG m (ptB r m) (fun _ => true) n [] := by unfold ptO; rw [if_pos h]
theorem ptO_no {r : Nat → Nat} {m n : Nat} (h : ¬ n ≤ m) : ptO r m n = none := by unfold ptO; rw [if_neg h]
section
variable {A : Option Addr} {m c : Nat} {r : Nat → Nat}
theorem IsInducedPath_v {w : World} (h : GV w A m c r) {Al : Option Addr} {cl : Nat} {l : List Nat} (hl : LN w Al cl l) (hlen : l.length ≤ 7) :
 Calls Tryz.prog 214 #[.agg #[.int .i64 m, .slice A m c], .slice Al l.length cl] w fun e w' => e = .returned (.bool (ptB r m l)) ∧ Below w.heap.size w w' :=
 IsInducedPath_i m A m c _ Al l.length cl _ w h.ga hl.li (by have := h.vg.n7; omega) (by omega)
set_option maxRecDepth 100000 in
theorem PthF {q : Nat} {Al : Option Addr} {cl : Nat} {l : List Nat} {w : World} (h : GBox w q A m c r) (hl : LN w Al cl l) (hlen : l.length ≤ 7) :
 Calls Tryz.prog 327 #[.slice Al l.length cl, .pointer (some ⟨q, 0, none⟩)] w fun e w' => e = .returned (.bool (ptB r m l)) ∧ Below w.heap.size w w' := by
 have KP := hh_ (IsInducedPath_v h.gv hl hlen);have e0 := h.c0;have e1 := h.c1;have HF : Hid (From w w) := From.refl w;clear h hl;go_enter Tryz.func327, Tryz.ntmps327;go_wp2_with fail
 refine KP.mono ?_;rintro e w1 ⟨rfl, hb1⟩;replace HF := hh_ (HF.keep hb1);clear hb1;go_wp2;go_ret;exact ⟨rfl, HF.below⟩
set_option maxRecDepth 100000 in
theorem FindInducedPath_v {w : World} (h : GV w A m c r) {n : Nat} (hn : 1 ≤ n) (hn7 : n ≤ 7) : Calls Tryz.prog 220 #[.agg #[.int .i64 m, .slice A m c], .int .i64 n] w (lsQ w (ptO r m n)) := by
 have hm1 := h.vg.n1;have hm7 := h.vg.n7;obtain ⟨W, hW, HB, HG⟩ := gbW h;have HW := hh_ hW;clear hW h;obtain ⟨e0, e1⟩ := gx_ HG;have HG0 := HG;by_cases hnm : n ≤ m
 ·have HO : Hid (ptO r m n = seaG m (ptB r m) (fun _ => true) n []) := ptO_yes hnm;have KF := hh_ (firstList_g (m := m) (n := n) (A := A) (c := c) (r := r) (fm := 327) (cm := #[.pointer (some ⟨w.heap.size, 0, none⟩)]) (fh := 222) (ch := #[]) (may := ptB r m) (hol := fun _ => true) (lo := W.heap.size) (hi := W.heap.size) (J := fun _ z => GBox z w.heap.size A m c r)
   (ent_of Tryz.func327 (by kernel_rfl) rfl) (ent_of Tryz.func222 (by kernel_rfl) rfl) W HG0.gv hn nr_ (fun _ z z' hz hb => hz.keep hb) HG0
   (fun _ l A' c' z hz hr _ hv hn => PthF hz ⟨hr⟩ (by have := nodup_len hn hv; omega))
   (fun _ l A' c' z hz _ _ _ _ => (always_n A' l.length c' z).mono fun e w' ⟨h1, h2⟩ => ⟨h1, hz.keep h2, Fr.of_below h2⟩))
  obtain ⟨o, ho⟩ : ∃ o, o = ptO r m n := ⟨_, rfl⟩;rw [← ho] at HO ⊢;rw [← HO.out] at KF;clear ho HO;have i1 : (1 : Int) ≤ n := by omega
  have i2 : (n : Int) ≤ m := by omega
  go_enter Tryz.func220, Tryz.ntmps220;obtain ⟨e0, e1⟩ := gx_ HG;go_wp2_with (go_at_call 193; refine (within_yes _ _ _ _ i1 i2).mono ?_; rintro e w' ⟨rfl, rfl⟩)
  rw [← HW.out];clear HW;refine KF.mono ?_;rintro e w1 ⟨hf, hp⟩;have HB1 : Hid (Below w.heap.size w w1) := HB.below.trans (hf.below HB.below.size HB.below.size);have HZ : Hid (w.heap.size ≤ W.heap.size) := HB.below.size;clear hf KF HG e0 e1;cases o with
  | none =>
    obtain ⟨rfl, _⟩ := hp;go_wp2;go_ret2;exact lsQ.no HB1
  | some l =>
    obtain ⟨g, c', rfl, hO⟩ := hp;have HL : Hid (ON w.heap.size w1 (some ⟨g, 0, none⟩) c' l) := ⟨hO.mono HZ.out nr_⟩;clear hO;go_wp2;go_ret2;exact lsQ.yes HL.out HB1
 ·have HO : Hid (ptO r m n = none) := ptO_no hnm;have i2 : (m : Int) < n := by omega
  go_enter Tryz.func220, Tryz.ntmps220;go_wp2_with (go_at_call 193; refine (within_no _ _ _ _ (.inr i2)).mono ?_; rintro e w' ⟨rfl, rfl⟩)
  rw [← HW.out];go_ret2;rw [HO.out];exact lsQ.no HB.below
theorem FindPathOfFour_v {w : World} (h : GV w A m c r) : Calls Tryz.prog 110 #[.agg #[.int .i64 m, .slice A m c]] w (lsQ w (ptO r m 4)) := by
 obtain ⟨W, hW, HB, HG⟩ := gbW h;have HW := hh_ hW;clear hW h;obtain ⟨e0, e1⟩ := gx_ HG;have KF := hh_ (FindInducedPath_v HG.gv (n := 4) (by omega) (by omega));have HZ : Hid (w.heap.size ≤ W.heap.size) := HB.below.size;go_enter Tryz.func110, Tryz.ntmps110;go_wp2_with fail
 rw [← HW.out];refine (KF.out).mono ?_;rintro e w1 ⟨A', c', rfl, ho, hb1⟩;clear HW;replace HB := hh_ (HB.keep hb1);clear hb1;have HO := hh_ ho;clear ho;go_wp2;go_ret2;exact ⟨_, _, rfl, HO.mono HZ.out, HB.below⟩
end
section
variable (sz : Int) (A : Option Addr) (m c : Nat) (x : Nat → Int) (w : World)
set_option maxRecDepth 100000 in
theorem FindInducedPath_no (n : Nat) (h : GA w A m c x) (hm : m ≤ 1048576) (hok : okB sz m x = false) :
 Calls Tryz.prog 220 #[.agg #[.int .i64 sz, .slice A m c], .int .i64 n] w (lsQ w none) := by
 obtain ⟨W, hW, HB, HK, HC⟩ := gaW sz h;have HW := hh_ hW;have KF := hh_ (firstList_noG (n := (n : Int)) (fm := 327) (cm := #[.pointer (some ⟨w.heap.size, 0, none⟩)]) (fh := 222) (ch := #[]) HK hm hok);clear hW h hok;by_cases hin : 1 ≤ (n : Int) ∧ (n : Int) ≤ sz
 ·obtain ⟨i1, i2⟩ := hin;go_enter Tryz.func220, Tryz.ntmps220;obtain ⟨e0, e1⟩ := gc_ HC;go_wp2_with (go_at_call 193; refine (within_yes _ _ _ _ i1 i2).mono ?_; rintro e w' ⟨rfl, rfl⟩)
  rw [← HW.out];clear HW;refine KF.mono ?_;rintro e w1 ⟨rfl, hb1⟩;clear e0 e1;replace HB := hh_ (HB.keep hb1);replace HK := hh_ (HK.keep hb1);replace HC := hh_ (HC.keep hb1);clear hb1 KF;obtain ⟨e0, e1⟩ := gc_ HC;go_wp2;go_ret2;exact lsQ.no HB.below
 ·have hin2 : (n : Int) < 1 ∨ sz < (n : Int) := by omega
  clear hin;go_enter Tryz.func220, Tryz.ntmps220;obtain ⟨e0, e1⟩ := gc_ HC;go_wp2_with (go_at_call 193; refine (within_no _ _ _ _ hin2).mono ?_; rintro e w' ⟨rfl, rfl⟩)
  rw [← HW.out];go_ret2;exact lsQ.no HB.below
theorem FindPathOfFour_no (h : GA w A m c x) (hm : m ≤ 1048576) (hok : okB sz m x = false) :
 Calls Tryz.prog 110 #[.agg #[.int .i64 sz, .slice A m c]] w (lsQ w none) := by
 obtain ⟨W, hW, HB, HK, HC⟩ := gaW sz h;have HW := hh_ hW;have KF := hh_ (FindInducedPath_no sz A m c x W 4 HK hm hok);clear hW h hok;have HZ : Hid (w.heap.size ≤ W.heap.size) := HB.below.size;go_enter Tryz.func110, Tryz.ntmps110;obtain ⟨e0, e1⟩ := gc_ HC;go_wp2_with fail
 rw [← HW.out];refine (KF.out).mono ?_;rintro e w1 ⟨A', c', rfl, ho, hb1⟩;clear HW;clear e0 e1;obtain ⟨HB, HK, HC, e0, e1⟩ := kC_ HB HK HC hb1;clear hb1;have HO := hh_ ho;clear ho;go_wp2;go_ret2;exact ⟨_, _, rfl, HO.mono HZ.out, HB.below⟩
end
set_option maxHeartbeats 6400000
section
variable {sz : Int} {m : Nat} {x : Nat → Int} {l : List Int}
noncomputable def ocB (sz : Int) (m : Nat) (x : Nat → Int) (l : List Int) : Bool :=
 decide (3 ≤ l.length) && decide (l.length % 2 = 1) && (vrB sz m x l && (List.range l.length).all fun i => edZ x (l.getD i 0) (l.getD ((i + 1) % l.length) 0))
theorem ocB_short (h : ¬3 ≤ l.length) : ocB sz m x l = false := by unfold ocB; rw [decide_eq_false h]; rfl
theorem ocB_even (h : ¬l.length % 2 = 1) : ocB sz m x l = false := by unfold ocB; rw [decide_eq_false h, Bool.and_false]; rfl
theorem ocB_bad (h : vrB sz m x l = false) : ocB sz m x l = false := by unfold ocB; rw [h, Bool.false_and, Bool.and_false]
theorem ocB_no {i : Nat} (hi : i < l.length) (h : edZ x (l.getD i 0) (l.getD ((i + 1) % l.length) 0) = false) : ocB sz m x l = false := by
 unfold ocB;have : ((List.range l.length).all fun i => edZ x (l.getD i 0) (l.getD ((i + 1) % l.length) 0)) = false := by
  rw [List.all_eq_false];exact ⟨i, List.mem_range.2 hi, by rw [h]; decide⟩
 rw [this, Bool.and_false, Bool.and_false]
theorem ocB_yes (h0 : 3 ≤ l.length) (h1 : l.length % 2 = 1) (h : vrB sz m x l = true) (hall : ∀ i, i < l.length → edZ x (l.getD i 0) (l.getD ((i + 1) % l.length) 0) = true) : ocB sz m x l = true := by
 unfold ocB;rw [h, decide_eq_true h0, decide_eq_true h1, Bool.true_and, Bool.true_and, Bool.true_and, List.all_eq_true];exact fun i hi => hall i (List.mem_range.1 hi)
end
section
variable (sz : Int) (A : Option Addr) (m c : Nat) (x : Nat → Int) (Al : Option Addr) (n cl : Nat) (l : List Int) (w : World)
set_option maxRecDepth 100000 in
theorem IsOddCycle_i (h : GA w A m c x) (hl : LI w Al n cl l) (hm : m ≤ 1048576) (hn : n ≤ 1048576) :
 Calls Tryz.prog 226 #[.agg #[.int .i64 sz, .slice A m c], .slice Al n cl] w fun e w' => e = .returned (.bool (ocB sz m x l)) ∧ Below w.heap.size w w' := by
 obtain ⟨W, hW⟩ : ∃ W, W = (w.alloc (Obj.cells #[.int .i64 sz, .slice A m c] 28)) := ⟨_, rfl⟩;have HB : Hid (From w W) := by rw [hW]; exact From.alloc _ _
 have HK := hh_ (h.keep HB.below);have HL := hh_ (hl.keep HB.below);have HC : Hid (GC W w.heap.size sz A m c) := by rw [hW]; exact GC.new _ _ _ _ _
 have HW := hh_ hW;have HN := hh_ hl.len;clear hW h hl;by_cases h0 : 3 ≤ n
 rotate_left
 ·have hno : Hid (ocB sz m x l = false) := ocB_short (by rw [← HN.out]; exact h0);have i9 : (n : Int) < 3 := by omega
  clear h0;go_enter Tryz.func226, Tryz.ntmps226;go_wp2;rw [← HW.out];go_ret;exact ⟨ret_bool hno.symm, HB.below⟩
 by_cases h1 : n % 2 = 1
 rotate_left
 ·have hno : Hid (ocB sz m x l = false) := ocB_even (by rw [← HN.out]; exact h1);have i9 : 3 ≤ (n : Int) := by omega
  have i8 : ((n : Int) % 2 == 0) = true := by simp; omega
  clear h1;go_enter Tryz.func226, Tryz.ntmps226;go_wp2;rw [← HW.out];go_ret;exact ⟨ret_bool hno.symm, HB.below⟩
 have i9 : 3 ≤ (n : Int) := by omega
 have i8 : ((n : Int) % 2 == 0) = false := by simp; omega
 have H1 := hh_ h1;clear h1;go_enter Tryz.func226, Tryz.ntmps226;obtain ⟨e0, e1⟩ := gc_ HC;go_wp2_with fail
 rw [← HW.out];refine (areVertices_z sz A m c x Al n cl l W HK HL.out hm hn).mono ?_;rintro e w1 ⟨rfl, hb1⟩;clear HW;clear e0 e1;replace HB := hh_ (HB.keep hb1);replace HK := hh_ (HK.keep hb1);replace HL := hh_ (HL.keep hb1);replace HC := hh_ (HC.keep hb1);clear hb1;obtain ⟨e0, e1⟩ := gc_ HC;cases hv : vrB sz m x l
 ·have hno : Hid (ocB sz m x l = false) := ocB_bad hv;clear hv;go_wp2;go_ret;exact ⟨ret_bool hno.symm, HB.below⟩
 obtain ⟨ho, hV⟩ := vrB_parts hv;obtain ⟨_, es, vg0, _⟩ := okB_ok' ho;subst es;have hn7 := vg0.n7;have HG : Hid (GV w1 A m c (rw_ x)) := HK.gv ho;have HV := hh_ hV;have Hv := hh_ hv;have hn7' : n ≤ 7 := by rw [HN.out]; have := hV.len; omega
 clear hv ho hV vg0;clear e0;obtain ⟨b, o, rfl⟩ := HG.addr;go_wp2;go_loopw [24] (fun k wr => ∃ K : Nat, K ≤ n ∧ k = .int .i64 K ∧ Hid (∀ i, i < K → edZ x (l.getD i 0) (l.getD ((i + 1) % l.length) 0) = true) ∧ Hid (From w1 wr)) (fun k _ => n - (intOf k).toNat);case atStart => exact ⟨0, Nat.zero_le _, rfl, fun k hk => absurd hk (by omega), From.refl _⟩
 case round =>
  obtain ⟨K, hK, rfl, hall, HR⟩ := hrel;have HBr := hh_ (HB.keep HR.below);by_cases hlt : K < n
  ·have i1 : (K : Int) < n := by omega
   have Hlt := hh_ hlt;have HLr := hh_ (HL.keep HR.below);have HGr := hh_ (HG.keep HR.below);have HCr := hh_ (HC.keep HR.below);obtain ⟨j, hj⟩ : ∃ j, j = (K + 1) % n := ⟨_, rfl⟩;have hjn : j < n := by rw [hj]; exact Nat.mod_lt _ (by omega)
   obtain ⟨b2, o2, rfl⟩ := HLr.addr (by omega);have p0 := HLr.at (j := K) hlt;have p1 := HLr.at (j := j) hjn;have hmj := getD_mem (l := l) (k := K) (by rw [← HN.out]; omega);have hmk := getD_mem (l := l) (k := j) (by rw [← HN.out]; omega);obtain ⟨a0, a1⟩ := HV.out.2 _ hmj;obtain ⟨d0, d1⟩ := HV.out.2 _ hmk;obtain ⟨u, hu⟩ := Int.eq_ofNat_of_zero_le a0;obtain ⟨v, hvv⟩ := Int.eq_ofNat_of_zero_le d0;have Hed : Hid (edZ x (l.getD K 0) (l.getD ((K + 1) % l.length) 0) = (rw_ x u).testBit v) := by show _ = _; rw [← HN.out, ← hj]; unfold edZ; rw [hu, hvv, Int.toNat_natCast, Int.toNat_natCast]
   rw [hu] at p0 a1;rw [hvv] at p1 d1;have hum : u < m := by omega
   have hvm : v < m := by omega
   have q0 := HGr.row hum;have hr := HGr.vg.lt128 hum;obtain ⟨y, hy⟩ : ∃ y, y = rw_ x u := ⟨_, rfl⟩;rw [← hy] at q0 hr Hed;have KE : Hid (∀ z : World, Calls Tryz.prog 90 #[.int .i64 (y : Int), .int .i64 v] z fun e w' => e = .returned (.bool (y.testBit v)) ∧ Below z.heap.size z w') := fun z => (has_v z (by omega) (by omega)).mono fun _ _ ⟨h1, h2⟩ => ⟨h1, h2 ▸ br_⟩
   obtain ⟨t, ht⟩ : ∃ t, t = y.testBit v := ⟨_, rfl⟩;rw [← ht] at KE Hed;clear hy;have i2 : (j : Int) < n := by omega
   have s1 : IntKind.i64.wrap ((K : Int) + 1) = (K : Int) + 1 := Go.IntWalk.i64_in _ (by omega);have s2 : ((K : Int) + 1) % (n : Int) = j := by rw [hj]; simp
   have s3 : ((K : Int) + 1).tmod (n : Int) = j := by rw [Int.tmod_eq_emod_of_nonneg (by omega)]; exact s2
   have g5 : n ≠ 0 := by omega
   clear hmj hmk hu hvv ht a0 d0 hj;have e1 := HCr.c1;go_wp2;obtain ⟨HSC, HZ0, HS1⟩ := hsc3 e1 p1 q0;have KR1 : Hid (∀ z : World, Below wr.heap.size wr z → _) := fun z hz => KE.out z
   refine wpH HS1.out (fun hHeld => ?_);refine pcY 0 ?_;iterate 12 (refine ptY ?_)
   refine w1H 13 (fun K hK => ?_);go_simp;go_at_call 90; refine (KR1.out _ HZ0.out).mono ?_
   rintro e w2 ⟨rfl, hb2⟩;have hz2 := bl_trans HZ0.out hb2;refine hK.out _ _ (HSC.out _ hz2) (fun hHeld => ?_);clear hK K;try simp only [Act.put, sl0, sl1, sl2]
   refine ptY ?_;refine wpAnyH_done (by kernel_rfl) ?_ _;clear e1;replace HCr := hh_ (HCr.keep hz2);replace HR := hh_ (HR.keep hz2);replace HBr := hh_ (HBr.keep hz2);clear hb2 hz2 HSC HZ0 HS1 KR1;have e1 := HCr.c1;cases t
   ·have hno : Hid (ocB (m : Int) m x l = false) := ocB_no (by rw [← HN.out]; exact Hlt.out) Hed.out;go_wp2;go_ret;exact ⟨ret_bool hno.symm, HBr.below⟩
   ·go_wp2;go_roundw;case rel =>
     refine ⟨K + 1, by omega, by go_num, fun i hi => ?_, HR⟩;by_cases hij : i < K
     ·exact hall.out i hij
     ·obtain rfl : i = K := by omega
      exact Hed.out
    case measure => (simp [intOf] <;> omega)
  ·have hyes : Hid (ocB (m : Int) m x l = true) := ocB_yes (by rw [← HN.out]; omega) (by rw [← HN.out]; exact H1.out) Hv.out fun i hi => hall.out i (by rw [← HN.out] at hi; omega)
   have i1 : (n : Int) ≤ K := by omega
   go_wp2;go_ret;exact ⟨ret_bool hyes.symm, HBr.below⟩
set_option maxRecDepth 100000 in
theorem IsOddCycle_s (h : GA w A m c x) (hl : LI w Al n cl l) (hm : m ≤ 1048576) (hn : n ≤ 1048576) :
 Calls Tryz.prog 243 #[.agg #[.int .i64 sz, .slice A m c], .slice Al n cl] w fun e w' => e = .returned (.bool (ocB sz m x l)) ∧ Below w.heap.size w w' := by
 obtain ⟨W, hW⟩ : ∃ W, W = (w.alloc (Obj.cells #[.int .i64 sz, .slice A m c] 28)) := ⟨_, rfl⟩;have HB : Hid (From w W) := by rw [hW]; exact From.alloc _ _
 have HK := hh_ (h.keep HB.below);have HL := hh_ (hl.keep HB.below);have HC : Hid (GC W w.heap.size sz A m c) := by rw [hW]; exact GC.new _ _ _ _ _
 have HW := hh_ hW;have HN := hh_ hl.len;clear hW h hl;go_enter Tryz.func243, Tryz.ntmps243;obtain ⟨e0, e1⟩ := gc_ HC;go_wp2_with fail
 rw [← HW.out];refine (l4Distinct_z sz A m c x Al n cl l W HK HL.out hm hn).mono ?_;rintro e w1 ⟨rfl, hb1⟩;clear HW;clear e0 e1;replace HB := hh_ (HB.keep hb1);replace HK := hh_ (HK.keep hb1);replace HL := hh_ (HL.keep hb1);replace HC := hh_ (HC.keep hb1);clear hb1;obtain ⟨e0, e1⟩ := gc_ HC;cases hv : vrB sz m x l
 ·have hno : Hid (ocB sz m x l = false) := ocB_bad hv;clear hv;go_wp2;go_ret;exact ⟨ret_bool hno.symm, HB.below⟩
 obtain ⟨ho, hV⟩ := vrB_parts hv;obtain ⟨_, es, vg0, _⟩ := okB_ok' ho;subst es;have hn7 := vg0.n7;have HG : Hid (GV w1 A m c (rw_ x)) := HK.gv ho;have HV := hh_ hV;have Hv := hh_ hv;have hn7' : n ≤ 7 := by rw [HN.out]; have := hV.len; omega
 clear hv ho hV vg0;by_cases h0 : 3 ≤ n
 rotate_left
 ·have hno : Hid (ocB m m x l = false) := ocB_short (by rw [← HN.out]; exact h0);have i9 : (n : Int) < 3 := by omega
  clear h0;go_wp2;go_ret;exact ⟨ret_bool hno.symm, HB.below⟩
 by_cases h1 : n % 2 = 1
 rotate_left
 ·have hno : Hid (ocB m m x l = false) := ocB_even (by rw [← HN.out]; exact h1);have i9 : 3 ≤ (n : Int) := by omega
  have i8 : ((n : Int) % 2 == 0) = true := by simp; omega
  clear h1;go_wp2;go_ret;exact ⟨ret_bool hno.symm, HB.below⟩
 have i9 : 3 ≤ (n : Int) := by omega
 have i8 : ((n : Int) % 2 == 0) = false := by simp; omega
 have H1 := hh_ h1;clear h1;go_wp2;go_loopw [5] (fun k wr => ∃ K : Nat, K ≤ n ∧ k = .int .i64 K ∧ Hid (∀ i, i < K → edZ x (l.getD i 0) (l.getD ((i + 1) % l.length) 0) = true) ∧ Hid (From w1 wr)) (fun k _ => n - (intOf k).toNat);case atStart => exact ⟨0, Nat.zero_le _, rfl, fun k hk => absurd hk (by omega), From.refl _⟩
 case round =>
  obtain ⟨K, hK, rfl, hall, HR⟩ := hrel;have HBr := hh_ (HB.keep HR.below);by_cases hlt : K < n
  ·have i1 : (K : Int) < n := by omega
   have Hlt := hh_ hlt;have HLr := hh_ (HL.keep HR.below);have HGr := hh_ (HG.keep HR.below);have HCr := hh_ (HC.keep HR.below);obtain ⟨j, hj⟩ : ∃ j, j = (K + 1) % n := ⟨_, rfl⟩;have hjn : j < n := by rw [hj]; exact Nat.mod_lt _ (by omega)
   obtain ⟨b2, o2, rfl⟩ := HLr.addr (by omega);have p0 := HLr.at (j := K) hlt;have p1 := HLr.at (j := j) hjn;have hmj := getD_mem (l := l) (k := K) (by rw [← HN.out]; omega);have hmk := getD_mem (l := l) (k := j) (by rw [← HN.out]; omega);obtain ⟨a0, a1⟩ := HV.out.2 _ hmj;obtain ⟨d0, d1⟩ := HV.out.2 _ hmk;obtain ⟨u, hu⟩ := Int.eq_ofNat_of_zero_le a0;obtain ⟨v, hvv⟩ := Int.eq_ofNat_of_zero_le d0;have Hed : Hid (edZ x (l.getD K 0) (l.getD ((K + 1) % l.length) 0) = (rw_ x u).testBit v) := by show _ = _; rw [← HN.out, ← hj]; unfold edZ; rw [hu, hvv, Int.toNat_natCast, Int.toNat_natCast]
   rw [hu] at p0 a1;rw [hvv] at p1 d1;have hum : u < m := by omega
   have hvm : v < m := by omega
   have KE : Hid (∀ z : World, Below wr.heap.size wr z → Calls Tryz.prog 85 #[.agg #[.int .i64 m, .slice A m c], .int .i64 u, .int .i64 v] z fun e w' => e = .returned (.bool ((rw_ x u).testBit v)) ∧ Below z.heap.size z w') := fun z hz => l2Edge_v (HGr.keep hz) hum hvm
   obtain ⟨t, ht⟩ : ∃ t, t = (rw_ x u).testBit v := ⟨_, rfl⟩;rw [← ht] at KE Hed;have i2 : (j : Int) < n := by omega
   have s1 : IntKind.i64.wrap ((K : Int) + 1) = (K : Int) + 1 := Go.IntWalk.i64_in _ (by omega);have s2 : ((K : Int) + 1) % (n : Int) = j := by rw [hj]; simp
   have s3 : ((K : Int) + 1).tmod (n : Int) = j := by rw [Int.tmod_eq_emod_of_nonneg (by omega)]; exact s2
   have g5 : n ≠ 0 := by omega
   clear hmj hmk hu hvv ht a0 d0 hj;have e0 := HCr.c0;have e1 := HCr.c1;go_wp2;obtain ⟨HSC, HZ0, HS1⟩ := hsc4 e0 e1 p0 p1;have KR1 : Hid (∀ z : World, Below wr.heap.size wr z → _) := fun z hz => KE.out z hz
   refine wpH HS1.out (fun hHeld => ?_);refine pcY 0 ?_;iterate 12 (refine ptY ?_)
   refine w1H 13 (fun K hK => ?_);go_simp;go_at_call 85; refine (KR1.out _ HZ0.out).mono ?_
   rintro e w2 ⟨rfl, hb2⟩;have hz2 := bl_trans HZ0.out hb2;refine hK.out _ _ (HSC.out _ hz2) (fun hHeld => ?_);clear hK K;try simp only [Act.put, sl0, sl1, sl2]
   refine ptY ?_;refine wpAnyH_done (by kernel_rfl) ?_ _;clear e0 e1;replace HCr := hh_ (HCr.keep hz2);replace HR := hh_ (HR.keep hz2);replace HBr := hh_ (HBr.keep hz2);clear hb2 hz2 HSC HZ0 HS1 KR1;have e0 := HCr.c0;have e1 := HCr.c1;cases t
   ·have hno : Hid (ocB (m : Int) m x l = false) := ocB_no (by rw [← HN.out]; exact Hlt.out) Hed.out;go_wp2;go_ret;exact ⟨ret_bool hno.symm, HBr.below⟩
   ·go_wp2;go_roundw;case rel =>
     refine ⟨K + 1, by omega, by go_num, fun i hi => ?_, HR⟩;by_cases hij : i < K
     ·exact hall.out i hij
     ·obtain rfl : i = K := by omega
      exact Hed.out
    case measure => (simp [intOf] <;> omega)
  ·have hyes : Hid (ocB (m : Int) m x l = true) := ocB_yes (by rw [← HN.out]; omega) (by rw [← HN.out]; exact H1.out) Hv.out fun i hi => hall.out i (by rw [← HN.out] at hi; omega)
   have i1 : (n : Int) ≤ K := by omega
   go_wp2;go_ret;exact ⟨ret_bool hyes.symm, HBr.below⟩
end
end Go.Proofs.YtdpkbfiggbcclaaGreat
