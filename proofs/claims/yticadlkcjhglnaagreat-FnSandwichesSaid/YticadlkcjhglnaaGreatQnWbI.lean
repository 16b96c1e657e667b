/-
-/
import Derived.Test.YticadlkcjhglnaaGreatQnWbP
import Derived.Test.YticadlkcjhglnaaGreatQnSet2I
import Derived.Test.YticadlkcjhglnaaGreatQnGB
import Derived.Test.YticadlkcjhglnaaGreatQnGC
import Derived.Test.YticadlkcjhglnaaGreatQnBarP
namespace Go.Proofs.YticadlkcjhglnaaGreat
open Go.RowKit
theorem pairE_at {D : List Dsc} {E : List (Nat × Nat)} {k : Nat} (hD : lists D = PrE E) (hk : k < E.length) : D.length = E.length ∧ ∃ Ad cd, D[k]? = some (Ad, cd, [((E.getD k (0, 0)).1 : Int), ((E.getD k (0, 0)).2 : Int)]) := by
 have hlen : D.length = E.length := by
  have := congrArg List.length hD
  unfold lists PrE at this
  simpa using this
 refine ⟨hlen, ?_⟩
 have hkd : k < D.length := by omega
 have h1 : (lists D)[k]? = (PrE E)[k]? := by rw [hD]
 unfold lists PrE at h1
 rw [List.getElem?_map, List.getElem?_map, List.getElem?_eq_getElem hkd, List.getElem?_eq_getElem hk] at h1
 simp only [Option.map_some, Option.some.injEq] at h1
 refine ⟨D[k].1, D[k].2.1, ?_⟩
 rw [List.getElem?_eq_getElem hkd]
 have e2 : E.getD k (0, 0) = E[k] := by simp [List.getD, hk]
 rw [e2, ← h1]
theorem OwnD.pairB {w : World} {lo hi c k : Nat} {A Ad : Option Addr} {cd : Nat} {v u : Int} {D : List Dsc} (h : OwnD w lo hi A c D) (hk : D[k]? = some (Ad, cd, [v, u])) :
 ∃ g gd, A = some ⟨g, 0, none⟩ ∧ Ad = some ⟨gd, 0, none⟩ ∧ w.cell? ⟨g, k, none⟩ = some (.slice Ad 2 cd) ∧ w.cell? ⟨gd, 0, none⟩ = some (.int .i64 v) ∧ w.cell? ⟨gd, 1, none⟩ = some (.int .i64 u) ∧ g < hi ∧ gd < hi := by
 obtain ⟨g, gd, e1, e2, h1, h2, h3⟩ := h.pair hk
 obtain ⟨hlt, he⟩ := List.getElem?_eq_some_iff.1 hk
 obtain ⟨g', e3, _, hg, _⟩ := h.1.at_ (by omega)
 obtain ⟨gd', e4, _, hgd, _⟩ := (h.2.1 (Ad, cd, [v, u]) (List.mem_of_getElem? hk)).at_ (by show 0 < 2; omega)
 rw [e1] at e3
 rw [show ((Ad, cd, [v, u]) : Dsc).1 = Ad from rfl, e2] at e4
 simp only [Option.some.injEq, Addr.mk.injEq, and_true] at e3 e4
 subst e3
 subst e4
 exact ⟨g, gd, e1, e2, h1, h2, h3, hg, hgd⟩
theorem ae_new {q : Nat → Nat} {m v u : Nat} (vg : VG m q) (hv : v < m) (hu : u < m) (hne : v ≠ u) (hb : (q v).testBit u = false) : aeX (m : Int) m (fun j => ((q j : Nat) : Int)) v u = fun j => ((addN q v u j : Nat) : Int) := by
 have hok : okB (m : Int) m (fun j => ((q j : Nat) : Int)) = true := okB_yes ⟨_, rfl, vg, fun _ _ => rfl⟩
 have hae : aeB (m : Int) m (fun j => ((q j : Nat) : Int)) v u = true := by
  unfold aeB
  rw [hok, show (((fun j => ((q j : Nat) : Int)) (v : Int).toNat).toNat).testBit ((u : Int).toNat) = false from by simpa using hb, decide_eq_true (by omega)]; rfl
 unfold aeX
 rw [if_pos hae]
 funext j
 simp only [Int.toNat_natCast]
section
variable {A : Option Addr} {m c : Nat} {r : Nat → Nat} {w : World} {E : List (Nat × Nat)} {b lo hi ce : Nat} {Ae : Option Addr} {D : List Dsc}
set_option maxRecDepth 100000 in
set_option maxHeartbeats 6400000 in
theorem withBits_v (h : GV w A m c r) (hE : EdN r m E) (hb : b < 16777216) (hlE : E.length ≤ 21) (hD : OwnD w lo hi Ae ce D) (hhi : hi ≤ w.heap.size) (hDE : lists D = PrE E) :
 Calls Tryz.prog 47 #[.agg #[.int .i64 m, .slice A m c], .slice Ae E.length ce, .int .i64 b] w fun e w' => ∃ A' c', e = .returned (.agg #[.int .i64 m, .slice A' m c']) ∧ GV w' A' m c' (wbR r E b E.length) ∧ Own w' w.heap.size w'.heap.size 3 1 A' m c' (fun j => .int .i64 (wbR r E b E.length j : Nat)) ∧ Below w.heap.size w w' := by
 have hn7 := h.vg.n7
 have hn1 := h.vg.n1
 have Hvg : Hid (∀ i, i ≤ E.length → VG m (wbR r E b i)) := fun i hi => wbR_vg h.vg hE i hi
 have Hat : Hid (∀ k, k < E.length → ∃ Ad cd, D[k]? = some (Ad, cd, [((E.getD k (0, 0)).1 : Int), ((E.getD k (0, 0)).2 : Int)])) := fun k hk => (pairE_at hDE hk).2
 have Hin : Hid (∀ k, k < E.length → (E.getD k (0, 0)).1 < (E.getD k (0, 0)).2 ∧ (E.getD k (0, 0)).2 < m) := fun k hk => hE.inc _ (getP_mem hk)
 obtain ⟨W, hW⟩ : ∃ W : World, W = ((w.alloc (Obj.cells #[Value.int IntKind.i64 m, Value.slice A m c] 26)).alloc (Obj.cells #[Value.int IntKind.i64 0, Value.slice none 0 0] 26)) := ⟨_, rfl⟩
 have HB : Hid (From w W) := by rw [hW]; exact (From.alloc _ _).alloc_ _
 have HG : Hid (GBox W w.heap.size A m c r) := by rw [hW]; exact h.box.keep ((Below.refl _ _).alloc (Nat.le_refl _) _)
 have HQ : Hid (GC W (w.heap.size + 1) 0 none 0 0) := by
  rw [hW]
  have := GC.new (w.alloc (Obj.cells #[Value.int IntKind.i64 m, Value.slice A m c] 26)) 0 none 0 0
  show GC _ _ _ _ _ _
  simpa using this
 have hzW : W.heap.size = w.heap.size + 2 := by rw [hW]; simp
 have HW := Lib.hid hW
 have HDw := Lib.hid hD
 have KC := Lib.hid (copyGraph_any m A m c _ W W.heap.size HG.out.gv.rd (Nat.le_refl _) (by omega))
 clear hW h hD hE hDE
 go_enter Tryz.func47, Tryz.ntmps47
 have e0 := HG.out.c0
 have e1 := HG.out.c1
 go_wp2_with fail
 rw [← HW.out]
 clear HW
 refine KC.out.mono ?_
 rintro e w1 ⟨A1, c1, rfl, ho1, hb1⟩
 obtain ⟨g0, rfl, hg1, _, hg2, _⟩ := ho1.at_ (by omega)
 have hz1 := hb1.size
 have HO1 := Lib.hid ho1.cage1
 clear e0 e1
 replace HB := Lib.hid (HB.out.keep hb1)
 replace HQ := Lib.hid (HQ.out.keep hb1)
 replace HG := Lib.hid (HG.out.keep hb1)
 clear hb1 ho1 KC
 have e0 := HG.out.c0
 have e1 := HG.out.c1
 obtain ⟨W2, hW2⟩ : ∃ W2 : World, W2 = (w1.alloc (Obj.cells #[Value.int IntKind.i64 m, Value.slice (some ⟨g0, 0, none⟩) m c1] 26)) := ⟨_, rfl⟩
 have hb2 : Below w1.heap.size w1 W2 := by rw [hW2]; exact (Below.refl _ _).alloc (Nat.le_refl _) _
 have HU : Hid (GC W2 w1.heap.size m (some ⟨g0, 0, none⟩) m c1) := by rw [hW2]; exact GC.new _ _ _ _ _
 have HO2 : Hid (Own W2 g0 (g0 + 1) 3 1 (some ⟨g0, 0, none⟩) m c1 (fun j => .int .i64 (wbR r E b 0 j : Nat))) := HO1.out.keepB hb2 hg2
 have hz2 : w1.heap.size < W2.heap.size := HU.out.lt
 have HW2 := Lib.hid hW2
 clear e0 e1
 replace HB := Lib.hid (HB.out.keep hb2)
 replace HQ := Lib.hid (HQ.out.keep hb2)
 replace HG := Lib.hid (HG.out.keep hb2)
 clear hb2 hW2 HO1
 have e0 := HG.out.c0
 have e1 := HG.out.c1
 have HD2 : Hid (OwnD W2 lo hi Ae ce D) := HDw.out.keepB HB.out.below hhi
 have HQ2 := HQ
 have HU2 := HU
 have HB2 := HB
 clear HDw e0 e1 HG HQ HU HB
 go_wp2
 rw [← HW2.out]
 clear HW2
 go_loopw [14] (fun i wr => ∃ k : Nat, k ≤ E.length ∧ i = .int .i64 k ∧ Hid (Own wr g0 (g0 + 1) 3 1 (some ⟨g0, 0, none⟩) m c1 (fun j => .int .i64 (wbR r E b k j : Nat))) ∧ Hid (Fr g0 (g0 + 1) W2 wr)) (fun i _ => E.length - (intOf i).toNat)
 case atStart => exact ⟨0, Nat.zero_le _, rfl, HO2, Fr.refl _ _ _⟩
 case round =>
  clear HO2
  obtain ⟨k, hk, rfl, HO, HF⟩ := hrel
  have zr := HF.out.size
  have HU := Lib.hid (HU2.out.keepF HF.out (.inr (by omega)))
  have e0 := HU.out.c0
  have e1 := HU.out.c1
  by_cases hkl : k < E.length
  ·have i1 : (k : Int) < (E.length : Int) := by omega
   have HDr := Lib.hid (HD2.out.keep HF.out (.inl (by omega)))
   obtain ⟨Ad, cd, hdk⟩ := Hat.out k hkl
   obtain ⟨hvu, hum⟩ := Hin.out k hkl
   obtain ⟨g, gd, rfl, rfl, p0, p1, p2, hgh, hdh⟩ := HDr.out.pairB hdk
   have Hno : Hid (b.testBit k = false → wbR r E b (k + 1) = wbR r E b k) := fun h => wbR_no h
   have Hyes : Hid (b.testBit k = true → wbR r E b (k + 1) = addN (wbR r E b k) (E.getD k (0, 0)).1 (E.getD k (0, 0)).2) := fun h => wbR_yes h
   have KH0 : Calls Tryz.prog 49 #[.int .i64 (b : Int), .int .i64 (k : Int)] wr fun e w' => e = .returned (.bool (b.testBit k)) ∧ wr = w' := by
    have := has_any b k wr (by omega) (by omega) (by omega) (by omega)
    simpa using this
   have KH := Lib.hid KH0
   clear KH0
   obtain ⟨v, hv⟩ : ∃ v, v = (E.getD k (0, 0)).1 := ⟨_, rfl⟩
   obtain ⟨u, hu⟩ : ∃ u, u = (E.getD k (0, 0)).2 := ⟨_, rfl⟩
   rw [← hv, ← hu] at Hyes hvu
   rw [← hv] at p1
   rw [← hu] at p2 hum
   have vgk := Hvg.out k hk
   have HX : Hid (∀ j, j < m → wbR r E b k j < 128) := fun j hj => by have := vgk.lt128 hj; omega
   obtain ⟨R, hR⟩ : ∃ R, R = wbR r E b k := ⟨_, rfl⟩
   rw [← hR] at HO Hno Hyes HX
   obtain ⟨t, ht⟩ : ∃ t, t = b.testBit k := ⟨_, rfl⟩
   rw [← ht] at KH Hno Hyes
   clear hdk hv hu vgk ht HDr hR
   cases t
   ·have Hn := Lib.hid (Hno.out rfl)
    go_wp2_with fail
    refine KH.out.mono ?_
    rintro e w' ⟨rfl, rfl⟩
    clear KH
    go_wp2
    go_roundw
    case rel => exact ⟨k + 1, by omega, by go_num, by rw [Hn.out]; exact HO, HF⟩
    case measure => (simp [intOf] <;> omega)
   ·have Hn := Lib.hid (Hyes.out rfl)
    have KF := Lib.hid (flip_any m g0 m c1 R v u wr.drew g0 (g0 + 1) HO.out.drew (by show g0 + 1 ≤ wr.heap.size; omega) hn7 (by omega) hum (by omega) HX.out)
    go_wp2_with fail
    refine KH.out.mono ?_
    rintro e w' ⟨rfl, rfl⟩
    clear KH
    have hql : w1.heap.size < wr.heap.size := by omega
    have hgl := World.block_lt_of_cell? _ _ p1
    have hne : gd < g0 ∨ g0 + 1 ≤ gd := .inl (by omega)
    go_wp2
    refine wp_region_held_drew (S := fun z => z.cell? ⟨w1.heap.size, 0, none⟩ = some (.int .i64 m) ∧ z.cell? ⟨w1.heap.size, 1, none⟩ = some (.slice (some ⟨g0, 0, none⟩) m c1) ∧ z.cell? ⟨gd, 0, none⟩ = some (.int .i64 v) ∧ z.cell? ⟨gd, 1, none⟩ = some (.int .i64 u)) (by kernel_rfl) ⟨e0, e1, p1, p2⟩ (fun hHeld => ?_)
    refine pcY 0 rfl rfl (by kernel_rfl) (by rfl) (by intro w u; (try dsimp only at u); go_simp <;> with_reducible rfl) ‹_› (fun _ _ _ h => h) ?_; simp only [Act.put, sl0, sl1, sl2]
    iterate 6 (refine ptY rfl rfl (by kernel_rfl) (by rfl) (by intro w u; (try dsimp only at u); go_simp <;> with_reducible rfl) ‹_› (fun _ _ _ h => h) ?_; simp only [Act.put, sl0, sl1, sl2])
    refine wpAnyH_ready (rs := [7]) (by kernel_rfl) (by simp) ?_
    refine AllReadyH.cons rfl (fun K hK => ?_) AllReadyH.nil
    go_simp
    go_at_call 101; refine (KF.out).mono ?_
    rintro e w5 ⟨rfl, ho5, hf5⟩
    refine hK.out _ _ ⟨frC_ hf5 e0 hql (.inr (by omega)), frC_ hf5 e1 hql (.inr (by omega)), frC_ hf5 p1 hgl hne, frC_ hf5 p2 hgl hne⟩ (fun hHeld => ?_)
    clear hK K
    try simp only [Act.put, sl0, sl1, sl2]
    refine wpAnyH_done (by kernel_rfl) ?_ _
    have HO5 : Hid (Own w5 g0 (g0 + 1) 3 1 (some ⟨g0, 0, none⟩) m c1 (fun j => .int .i64 (addN R v u j : Nat))) := ho5
    have HF5 : Hid (Fr g0 (g0 + 1) W2 w5) := HF.out.drew.trans hf5
    clear ho5 hf5 KF e0 e1 p0 p1 p2
    go_wp2
    go_roundw
    case rel => exact ⟨k + 1, by omega, by go_num, by rw [Hn.out]; exact HO5, HF5⟩
    case measure => (simp [intOf] <;> omega)
  ·obtain rfl : k = E.length := by omega
   have HQ := Lib.hid (HQ2.out.keepF HF.out (.inl (by omega)))
   have d0 := HQ.out.c0
   have d1 := HQ.out.c1
   have d2 := HQ.out.f0
   have d3 := HQ.out.f1
   have F := fr2 wr (w.heap.size + 1) (.int .i64 (m : Int)) (.slice (some ⟨g0, 0, none⟩) m c1)
   have HBr : Hid (From w wr) := ⟨HB2.out.below.trans (HF.out.below (by omega) (by omega))⟩
   have HE := (HBr.out.set (q := w.heap.size + 1) (Nat.le_succ _) (.int .i64 (m : Int)) (.slice (some ⟨g0, 0, none⟩) m c1)).below
   have HOE := (HO.out.keep F (.inr (by omega))).mono (by omega : w.heap.size ≤ g0) (Nat.le_trans (show g0 + 1 ≤ wr.heap.size by omega) F.size)
   have HGE : GV _ (some ⟨g0, 0, none⟩) m c1 (wbR r E b E.length) := ⟨Hvg.out _ (Nat.le_refl _), HOE.rd⟩
   go_wp2
   exact bodyPost_ret (v := .agg #[.int .i64 (m : Int), .slice (some ⟨g0, 0, none⟩) m c1]) (by simp [results, Tryz.results47, go_sem, *]) rfl ⟨_, c1, rfl, HGE, HOE, HE⟩
set_option maxRecDepth 100000 in
set_option maxHeartbeats 6400000 in
theorem l31With_sv (h : GV w A m c r) (hE : EdN r m E) (hb : b < 16777216) (hlE : E.length ≤ 21) (hD : OwnD w lo hi Ae ce D) (hhi : hi ≤ w.heap.size) (hDE : lists D = PrE E) :
 Calls Tryz.prog 48 #[.agg #[.int .i64 m, .slice A m c], .slice Ae E.length ce, .int .i64 b] w fun e w' => ∃ A' c', e = .returned (.agg #[.int .i64 m, .slice A' m c']) ∧ GV w' A' m c' (wbR r E b E.length) ∧ Own w' w.heap.size w'.heap.size 3 1 A' m c' (fun j => .int .i64 (wbR r E b E.length j : Nat)) ∧ Below w.heap.size w w' := by
 have hn7 := h.vg.n7
 have hn1 := h.vg.n1
 have Hvg : Hid (∀ i, i ≤ E.length → VG m (wbR r E b i)) := fun i hi => wbR_vg h.vg hE i hi
 have Hat : Hid (∀ k, k < E.length → ∃ Ad cd, D[k]? = some (Ad, cd, [((E.getD k (0, 0)).1 : Int), ((E.getD k (0, 0)).2 : Int)])) := fun k hk => (pairE_at hDE hk).2
 have Hin : Hid (∀ k, k < E.length → (E.getD k (0, 0)).1 < (E.getD k (0, 0)).2 ∧ (E.getD k (0, 0)).2 < m ∧ aeX (m : Int) m (fun j => ((wbR r E b k j : Nat) : Int)) (E.getD k (0, 0)).1 (E.getD k (0, 0)).2 = fun j => ((addN (wbR r E b k) (E.getD k (0, 0)).1 (E.getD k (0, 0)).2 j : Nat) : Int)) := fun k hk => by
  have h1 := hE.inc _ (getP_mem hk)
  exact ⟨h1.1, h1.2, ae_new (wbR_vg h.vg hE k (by omega)) (by omega) h1.2 (by omega) (wbR_bit hE hk k (Nat.le_refl _))⟩
 obtain ⟨W, hW⟩ : ∃ W : World, W = ((w.alloc (Obj.cells #[Value.int IntKind.i64 m, Value.slice A m c] 26)).alloc (Obj.cells #[Value.int IntKind.i64 0, Value.slice none 0 0] 26)) := ⟨_, rfl⟩
 have HB : Hid (From w W) := by rw [hW]; exact (From.alloc _ _).alloc_ _
 have HG : Hid (GBox W w.heap.size A m c r) := by rw [hW]; exact h.box.keep ((Below.refl _ _).alloc (Nat.le_refl _) _)
 have HQ : Hid (GC W (w.heap.size + 1) 0 none 0 0) := by
  rw [hW]
  have := GC.new (w.alloc (Obj.cells #[Value.int IntKind.i64 m, Value.slice A m c] 26)) 0 none 0 0
  show GC _ _ _ _ _ _
  simpa using this
 have hzW : W.heap.size = w.heap.size + 2 := by rw [hW]; simp
 have HW := Lib.hid hW
 have HDw := Lib.hid hD
 have KC := Lib.hid (l2Copy_any m A m c _ W W.heap.size HG.out.gv.rd (Nat.le_refl _) (by omega))
 clear hW h hD hE hDE
 go_enter Tryz.func48, Tryz.ntmps48
 have e0 := HG.out.c0
 have e1 := HG.out.c1
 go_wp2_with fail
 rw [← HW.out]
 clear HW
 refine KC.out.mono ?_
 rintro e w1 ⟨A1, c1, rfl, ho1, hb1⟩
 have hz1 := hb1.size
 have HO1 := Lib.hid ho1
 clear e0 e1
 replace HB := Lib.hid (HB.out.keep hb1)
 replace HQ := Lib.hid (HQ.out.keep hb1)
 replace HG := Lib.hid (HG.out.keep hb1)
 clear hb1 ho1 KC
 have e0 := HG.out.c0
 have e1 := HG.out.c1
 obtain ⟨W2, hW2⟩ : ∃ W2 : World, W2 = (w1.alloc (Obj.cells #[Value.int IntKind.i64 m, Value.slice A1 m c1] 26)) := ⟨_, rfl⟩
 have hb2 : Below w1.heap.size w1 W2 := by rw [hW2]; exact (Below.refl _ _).alloc (Nat.le_refl _) _
 have HU2 : Hid (GC W2 w1.heap.size m A1 m c1) := by rw [hW2]; exact GC.new _ _ _ _ _
 have HO2 : Hid (Own W2 (W.heap.size + 2) w1.heap.size 3 1 A1 m c1 (fun j => .int .i64 (wbR r E b 0 j : Nat))) := HO1.out.keepB hb2 (Nat.le_refl _)
 have hz2 : w1.heap.size < W2.heap.size := HU2.out.lt
 have HW2 := Lib.hid hW2
 clear e0 e1
 replace HB := Lib.hid (HB.out.keep hb2)
 replace HQ := Lib.hid (HQ.out.keep hb2)
 replace HG := Lib.hid (HG.out.keep hb2)
 clear hb2 hW2 HO1
 have e0 := HG.out.c0
 have e1 := HG.out.c1
 have HD2 : Hid (OwnD W2 lo hi Ae ce D) := HDw.out.keepB HB.out.below hhi
 have HQ2 := HQ
 have HB2 := HB
 clear HDw e0 e1 HG HQ HB
 go_wp2
 rw [← HW2.out]
 clear HW2
 go_loopw [8] (fun i wr => ∃ (k : Nat) (A' : Option Addr) (c' l1 h1 : Nat), k ≤ E.length ∧ i = .int .i64 k ∧ Hid (GC wr w1.heap.size m A' m c') ∧ Hid (Own wr l1 h1 3 1 A' m c' (fun j => .int .i64 (wbR r E b k j : Nat))) ∧ w.heap.size + 2 ≤ l1 ∧ (h1 ≤ w1.heap.size ∨ w1.heap.size + 1 ≤ l1) ∧ h1 ≤ wr.heap.size ∧ Hid (OwnD wr lo hi Ae ce D) ∧ Hid (GC wr (w.heap.size + 1) 0 none 0 0) ∧ Hid (From w wr)) (fun i _ => E.length - (intOf i).toNat)
 case atStart => exact ⟨0, A1, c1, _, _, Nat.zero_le _, rfl, HU2, HO2, by omega, .inl (Nat.le_refl _), by omega, HD2, HQ2, HB2⟩
 case round =>
  clear HO2 HU2 HD2 HQ2 HB2
  obtain ⟨k, A', c', l1, h1, hk, rfl, HU, HO, hl1, hh1, hh2, HD, HQ, HB⟩ := hrel
  have hql := HU.out.lt
  have e0 := HU.out.c0
  have e1 := HU.out.c1
  by_cases hkl : k < E.length
  ·have i1 : (k : Int) < (E.length : Int) := by omega
   obtain ⟨Ad, cd, hdk⟩ := Hat.out k hkl
   obtain ⟨hvu, hum, hae⟩ := Hin.out k hkl
   obtain ⟨g, gd, rfl, rfl, p0, p1, p2, hgh, hdh⟩ := HD.out.pairB hdk
   have Hno : Hid (b.testBit k = false → wbR r E b (k + 1) = wbR r E b k) := fun h => wbR_no h
   have Hyes : Hid (b.testBit k = true → wbR r E b (k + 1) = addN (wbR r E b k) (E.getD k (0, 0)).1 (E.getD k (0, 0)).2) := fun h => wbR_yes h
   have E1 := and_one_i64 (b : Int) k (by omega) (by omega)
   rw [Int.toNat_natCast] at E1
   have KA : Hid (∀ {z : World} {A' : Option Addr} {c' lo1 : Nat}, Own z lo1 h1 3 1 A' m c' (fun j => .int .i64 (wbR r E b k j : Nat)) → h1 ≤ z.heap.size → Calls Tryz.prog 98 #[.agg #[.int .i64 m, .slice A' m c'], .int .i64 ((E.getD k (0, 0)).1 : Nat), .int .i64 ((E.getD k (0, 0)).2 : Nat)] z fun e w' => ∃ A2 c2 t2, e = .returned (.tuple #[.agg #[.int .i64 m, .slice A2 m c2], .bool t2]) ∧ Own w' (z.heap.size + 2) w'.heap.size 3 1 A2 m c2 (fun j => .int .i64 (addN (wbR r E b k) (E.getD k (0, 0)).1 (E.getD k (0, 0)).2 j : Nat)) ∧ Below z.heap.size z w') := fun h hh => by
    refine (AddEdge_s (m : Int) _ m _ (fun j => ((wbR r E b k j : Nat) : Int)) _ _ _ h1 h.rd hh (by omega)).mono ?_
    rintro e w' ⟨A2, c2, h3, h4, h5⟩
    exact ⟨A2, c2, _, h3, h4.congr fun j _ => by rw [hae], h5⟩
   obtain ⟨v, hv⟩ : ∃ v, v = (E.getD k (0, 0)).1 := ⟨_, rfl⟩
   obtain ⟨u, hu⟩ : ∃ u, u = (E.getD k (0, 0)).2 := ⟨_, rfl⟩
   rw [← hv, ← hu] at Hyes hvu KA
   rw [← hv] at p1
   rw [← hu] at p2 hum
   obtain ⟨R, hR⟩ : ∃ R, R = wbR r E b k := ⟨_, rfl⟩
   rw [← hR] at HO Hno Hyes KA
   obtain ⟨t, ht⟩ : ∃ t, t = b.testBit k := ⟨_, rfl⟩
   rw [← ht] at E1 Hno Hyes
   clear hdk hv hu ht hR hae
   cases t
   ·have Hn := Lib.hid (Hno.out rfl)
    go_wp2
    go_roundw
    case rel => exact ⟨k + 1, A', c', l1, h1, by omega, by go_num, HU, by rw [Hn.out]; exact HO, hl1, hh1, hh2, HD, HQ, HB⟩
    case measure => (simp [intOf] <;> omega)
   ·have Hn := Lib.hid (Hyes.out rfl)
    have KD := Lib.hid (KA.out HO.out.drew (by show h1 ≤ wr.heap.size; omega))
    have hgl := World.block_lt_of_cell? _ _ p0
    have hdl := World.block_lt_of_cell? _ _ p1
    have hx1 := HB.out.below.size
    have ns1 : g < w1.heap.size ∨ w1.heap.size + 1 ≤ g := .inl (by omega)
    have ns2 : gd < w1.heap.size ∨ w1.heap.size + 1 ≤ gd := .inl (by omega)
    go_wp2
    refine wp_region_held_drew (S := fun z => z.cell? ⟨g, k, none⟩ = some (.slice (some ⟨gd, 0, none⟩) 2 cd) ∧ z.cell? ⟨gd, 0, none⟩ = some (.int .i64 v) ∧ z.cell? ⟨gd, 1, none⟩ = some (.int .i64 u)) (by kernel_rfl) ⟨p0, p1, p2⟩ (fun hHeld => ?_)
    refine pcY 1 rfl rfl (by kernel_rfl) (by rfl) (by intro w u; (try dsimp only at u); go_simp <;> with_reducible rfl) ‹_› (fun _ _ _ h => h) ?_; simp only [Act.put, sl0, sl1, sl2]
    iterate 11 (refine ptY rfl rfl (by kernel_rfl) (by rfl) (by intro w u; (try dsimp only at u); go_simp <;> with_reducible rfl) ‹_› (fun _ _ _ h => h) ?_; simp only [Act.put, sl0, sl1, sl2])
    refine wpAnyH_ready (rs := [0]) (by kernel_rfl) (by simp) ?_
    refine AllReadyH.cons rfl (fun K hK => ?_) AllReadyH.nil
    go_simp
    refine hK.out _ _ ⟨p0, p1, p2⟩ (fun hHeld => ?_)
    clear hK K
    try simp only [Act.put, sl0, sl1, sl2]
    refine wpAnyH_ready (rs := [13]) (by kernel_rfl) (by simp) ?_
    refine AllReadyH.cons rfl (fun K hK => ?_) AllReadyH.nil
    go_simp
    go_at_call 98; refine (KD.out).mono ?_
    rintro e w5 ⟨A5, c5, t5, rfl, ho5, hb5⟩
    have HU5 := Lib.hid (HU.out.drew.keep hb5)
    have q0 := HU5.out.c0
    have q1 := HU5.out.c1
    have q2 := HU5.out.f0
    have q3 := HU5.out.f1
    have F5 := fr2 w5 w1.heap.size (.int .i64 (m : Int)) (.slice A5 m c5)
    have S5 : w5.cell? ⟨g, k, none⟩ = some (.slice (some ⟨gd, 0, none⟩) 2 cd) ∧ w5.cell? ⟨gd, 0, none⟩ = some (.int .i64 v) ∧ w5.cell? ⟨gd, 1, none⟩ = some (.int .i64 u) := ⟨up hb5 p0 hgl, up hb5 p1 hdl, up hb5 p2 hdl⟩
    have hz5 : wr.heap.size ≤ w5.heap.size := hb5.size
    refine hK.out _ _ S5 (fun hHeld => ?_)
    clear hK K
    try simp only [Act.put, sl0, sl1, sl2]
    iterate 3 (refine ptY rfl rfl (by kernel_rfl) (by rfl) (by intro w u; (try dsimp only at u); go_simp <;> with_reducible rfl) ‹_› (fun _ _ _ h => h) ?_; simp only [Act.put, sl0, sl1, sl2])
    refine wpAnyH_ready (rs := [17]) (by kernel_rfl) (by simp) ?_
    refine AllReadyH.cons rfl (fun K hK => ?_) AllReadyH.nil
    go_simp
    refine hK.out _ _ ⟨frC_ F5 S5.1 (by omega) ns1, frC_ F5 S5.2.1 (by omega) ns2, frC_ F5 S5.2.2 (by omega) ns2⟩ (fun hHeld => ?_)
    clear hK K
    try simp only [Act.put, sl0, sl1, sl2]
    refine wpAnyH_done (by kernel_rfl) ?_ _
    have HU6 : Hid (GC ((w5.setCell ⟨w1.heap.size, 0, none⟩ (.int .i64 (m : Int))).setCell ⟨w1.heap.size, 1, none⟩ (.slice A5 m c5)) w1.heap.size m A5 m c5) := HU5.out.set
    have HO6 : Hid (Own ((w5.setCell ⟨w1.heap.size, 0, none⟩ (.int .i64 (m : Int))).setCell ⟨w1.heap.size, 1, none⟩ (.slice A5 m c5)) (wr.heap.size + 2) w5.heap.size 3 1 A5 m c5 (fun j => .int .i64 (addN R v u j : Nat))) := ho5.keep F5 (.inr (by show w1.heap.size + 1 ≤ wr.heap.size + 2; omega))
    have HD6 : Hid (OwnD ((w5.setCell ⟨w1.heap.size, 0, none⟩ (.int .i64 (m : Int))).setCell ⟨w1.heap.size, 1, none⟩ (.slice A5 m c5)) lo hi (some ⟨g, 0, none⟩) ce D) := (HD.out.drew.keepB hb5 (by show hi ≤ wr.heap.size; omega)).keep F5 (.inl (by omega))
    have HQ6 : Hid (GC ((w5.setCell ⟨w1.heap.size, 0, none⟩ (.int .i64 (m : Int))).setCell ⟨w1.heap.size, 1, none⟩ (.slice A5 m c5)) (w.heap.size + 1) 0 none 0 0) := (HQ.out.drew.keep hb5).keepF F5 (.inl (by omega))
    have HB6 : Hid (From w ((w5.setCell ⟨w1.heap.size, 0, none⟩ (.int .i64 (m : Int))).setCell ⟨w1.heap.size, 1, none⟩ (.slice A5 m c5))) := (HB.out.drew.keep hb5).set (by omega) _ _
    have hz6 := F5.size
    clear ho5 hb5 KD KA e0 e1 p0 p1 p2 HU HO HD HQ HB HU5 F5 S5 q0 q1 q2 q3
    go_wp2
    go_roundw
    case rel => exact ⟨k + 1, A5, c5, wr.heap.size + 2, w5.heap.size, by omega, by go_num, HU6, by rw [Hn.out]; exact HO6, by omega, .inr (by omega), hz6, HD6, HQ6, HB6⟩
    case measure => (simp [intOf] <;> omega)
  ·obtain rfl : k = E.length := by omega
   have d0 := HQ.out.c0
   have d1 := HQ.out.c1
   have d2 := HQ.out.f0
   have d3 := HQ.out.f1
   have hdl := HQ.out.lt
   have F := fr2 wr (w.heap.size + 1) (.int .i64 (m : Int)) (.slice A' m c')
   have HE := (HB.out.set (q := w.heap.size + 1) (Nat.le_succ _) (.int .i64 (m : Int)) (.slice A' m c')).below
   have HOE := (HO.out.keep F (.inr (by omega))).mono (by omega : w.heap.size ≤ l1) (Nat.le_trans hh2 F.size)
   have HGE : GV _ A' m c' (wbR r E b E.length) := ⟨Hvg.out _ (Nat.le_refl _), HOE.rd⟩
   go_wp2
   exact bodyPost_ret (v := .agg #[.int .i64 (m : Int), .slice A' m c']) (by simp [results, Tryz.results48, go_sem, *]) rfl ⟨_, c', rfl, HGE, HOE, HE⟩
end
end Go.Proofs.YticadlkcjhglnaaGreat
