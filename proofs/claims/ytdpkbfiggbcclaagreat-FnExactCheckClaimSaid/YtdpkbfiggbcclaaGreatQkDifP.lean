/-
  Several texts in one.
-/
import Derived.Test.YtdpkbfiggbcclaaGreatQkSetG
import Derived.Lib.SlicesCompact
/-
-/
namespace Go.Proofs.YtdpkbfiggbcclaaGreat
open Go.RowKit
noncomputable def domG (sz : Int) (m : Nat) (x : Nat → Int) (s : Int) : Bool := setB sz m x s && domB (rw_ x) m s.toNat
noncomputable def pakG (sz : Int) (m : Nat) (x : Nat → Int) (s : Int) : Bool := setB sz m x s && pakB (rw_ x) m s.toNat
section
variable (sz : Int) (A : Option Addr) (m c : Nat) (x : Nat → Int) (s : Int) (w : World)
set_option maxRecDepth 100000 in
set_option maxHeartbeats 1600000 in
theorem IsDominating_ig (h : GA w A m c x) (hm : m ≤ 1048576) :
 Calls Tryz.prog 136 #[.agg #[.int .i64 sz, .slice A m c], .int .i64 s] w fun e w' => e = .returned (.bool (domG sz m x s)) ∧ Below w.heap.size w w' := by
 cases hs : setB sz m x s
 ·have Hn : Hid (domG sz m x s = false) := by show _ = _; unfold domG; rw [hs]; rfl
  obtain ⟨W, hW⟩ : ∃ W : World, W = (w.alloc (Obj.cells #[Value.int IntKind.i64 sz, Value.slice A m c] 28)) := ⟨_, rfl⟩
  have HB : Hid (From w W) := by rw [hW]; exact From.alloc _ _
  have HK := Lib.hid (h.keep HB.out.below)
  have HC : Hid (GC W w.heap.size sz A m c) := by rw [hW]; exact GC.new _ _ _ _ _
  have HW := Lib.hid hW
  have KQ : Hid (∀ {z : World}, GA z A m c x → Calls Tryz.prog 263 #[.agg #[.int .i64 sz, .slice A m c], .int .i64 s] z fun e w' => e = .returned (.bool false) ∧ Below z.heap.size z w') := by rw [← hs]; exact fun h => IsSet_i sz A m c x s _ h hm
  have HKq := HK
  clear hW h hs
  go_enter Tryz.func136, Tryz.ntmps136
  have e0 := HC.out.c0
  have e1 := HC.out.c1
  go_wp2
  rw [← HW.out]
  clear HW
  have HSC : Hid (∀ z : World, Below W.heap.size W z → (Below W.heap.size W z ∧ z.cell? ⟨w.heap.size, 0, none⟩ = some (.int .i64 sz) ∧ z.cell? ⟨w.heap.size, 1, none⟩ = some (.slice A m c))) := fun z hz => ⟨hz, up_ hz e0, up_ hz e1⟩
  have HZ0 : Hid (Below W.heap.size W W.drew) := (Below.refl _ _).drew
  have HS1 := Lib.hid (HSC.out _ HZ0.out)
  have KR1 : Hid (∀ z : World, Below W.heap.size W z → _) := fun z hz => KQ.out (HKq.out.keep hz)
  refine wp_region_held_drew (S := fun z => Below W.heap.size W z ∧ z.cell? ⟨w.heap.size, 0, none⟩ = some (.int .i64 sz) ∧ z.cell? ⟨w.heap.size, 1, none⟩ = some (.slice A m c)) (by kernel_rfl) HS1.out (fun hHeld => ?_)
  refine pcY 0 rfl rfl (by kernel_rfl) (by rfl) (by intro w u; (try dsimp only at u); go_simp <;> with_reducible rfl) ‹_› (fun _ _ _ h => h) ?_; simp only [Act.put, sl0, sl1, sl2]
  refine ptY rfl rfl (by kernel_rfl) (by rfl) (by intro w u; (try dsimp only at u); go_simp <;> with_reducible rfl) ‹_› (fun _ _ _ h => h) ?_; simp only [Act.put, sl0, sl1, sl2]
  refine wpAnyH_ready (rs := [2]) (by kernel_rfl) (by simp) ?_
  refine AllReadyH.cons rfl (fun K hK => ?_) AllReadyH.nil
  go_simp
  go_at_call 263; refine (KR1.out _ HZ0.out).mono ?_
  rintro e w1 ⟨rfl, hb1⟩
  have hz1 := bl_trans HZ0.out hb1
  refine hK.out _ _ (HSC.out _ hz1) (fun hHeld => ?_)
  clear hK K
  try simp only [Act.put, sl0, sl1, sl2]
  refine ptY rfl rfl (by kernel_rfl) (by rfl) (by intro w u; (try dsimp only at u); go_simp <;> with_reducible rfl) ‹_› (fun _ _ _ h => h) ?_; simp only [Act.put, sl0, sl1, sl2]
  iterate 6 (refine ptN rfl rfl (by kernel_rfl) (by rfl) ‹_› (fun _ _ _ h => h) ?_; simp only [Act.put, sl0, sl1, sl2])
  iterate 2 (refine ptY rfl rfl (by kernel_rfl) (by rfl) (by intro w u; (try dsimp only at u); go_simp <;> with_reducible rfl) ‹_› (fun _ _ _ h => h) ?_; simp only [Act.put, sl0, sl1, sl2])
  refine wpAnyH_done (by kernel_rfl) ?_ _
  clear e0 e1
  replace HB := Lib.hid (HB.out.keep hz1)
  replace HC := Lib.hid (HC.out.keep hz1)
  clear hb1 hz1 HSC HZ0 HS1 KR1
  have e0 := HC.out.c0
  have e1 := HC.out.c1
  go_wp2
  go_ret
  exact ⟨ret_bool Hn.out.symm, HB.out.below⟩
 ·obtain ⟨ho, es, t, rfl, ht⟩ := setB_parts hs
  subst es
  have hv : domG (m : Int) m x (t : Int) = domB (rw_ x) m t := by unfold domG; rw [hs, Bool.true_and, Int.toNat_natCast]
  rw [hv]
  exact IsDominating_v (h.gv ho) ht
set_option maxRecDepth 100000 in
set_option maxHeartbeats 1600000 in
theorem IsPacking_ig (h : GA w A m c x) (hm : m ≤ 1048576) :
 Calls Tryz.prog 137 #[.agg #[.int .i64 sz, .slice A m c], .int .i64 s] w fun e w' => e = .returned (.bool (pakG sz m x s)) ∧ Below w.heap.size w w' := by
 cases hs : setB sz m x s
 ·have Hn : Hid (pakG sz m x s = false) := by show _ = _; unfold pakG; rw [hs]; rfl
  obtain ⟨W, hW⟩ : ∃ W : World, W = (w.alloc (Obj.cells #[Value.int IntKind.i64 sz, Value.slice A m c] 28)) := ⟨_, rfl⟩
  have HB : Hid (From w W) := by rw [hW]; exact From.alloc _ _
  have HK := Lib.hid (h.keep HB.out.below)
  have HC : Hid (GC W w.heap.size sz A m c) := by rw [hW]; exact GC.new _ _ _ _ _
  have HW := Lib.hid hW
  have KQ : Hid (∀ {z : World}, GA z A m c x → Calls Tryz.prog 263 #[.agg #[.int .i64 sz, .slice A m c], .int .i64 s] z fun e w' => e = .returned (.bool false) ∧ Below z.heap.size z w') := by rw [← hs]; exact fun h => IsSet_i sz A m c x s _ h hm
  have HKq := HK
  clear hW h hs
  go_enter Tryz.func137, Tryz.ntmps137
  have e0 := HC.out.c0
  have e1 := HC.out.c1
  go_wp2_with fail
  rw [← HW.out]
  clear HW
  refine (KQ.out HK.out).mono ?_
  rintro e w1 ⟨rfl, hb1⟩
  clear e0 e1
  replace HB := Lib.hid (HB.out.keep hb1)
  replace HK := Lib.hid (HK.out.keep hb1)
  replace HC := Lib.hid (HC.out.keep hb1)
  clear hb1
  have e0 := HC.out.c0
  have e1 := HC.out.c1
  go_wp2
  go_ret
  exact ⟨ret_bool Hn.out.symm, HB.out.below⟩
 ·obtain ⟨ho, es, t, rfl, ht⟩ := setB_parts hs
  subst es
  have hv : pakG (m : Int) m x (t : Int) = pakB (rw_ x) m t := by unfold pakG; rw [hs, Bool.true_and, Int.toNat_natCast]
  rw [hv]
  exact IsPacking_v (h.gv ho) ht
set_option maxRecDepth 100000 in
set_option maxHeartbeats 1600000 in
theorem IsDominating_sg (h : GA w A m c x) (hm : m ≤ 1048576) :
 Calls Tryz.prog 125 #[.agg #[.int .i64 sz, .slice A m c], .int .i64 s] w fun e w' => e = .returned (.bool (domG sz m x s)) ∧ Below w.heap.size w w' := by
 cases hs : setB sz m x s
 ·have Hn : Hid (domG sz m x s = false) := by show _ = _; unfold domG; rw [hs]; rfl
  obtain ⟨W, hW⟩ : ∃ W : World, W = (w.alloc (Obj.cells #[Value.int IntKind.i64 sz, Value.slice A m c] 28)) := ⟨_, rfl⟩
  have HB : Hid (From w W) := by rw [hW]; exact From.alloc _ _
  have HK := Lib.hid (h.keep HB.out.below)
  have HC : Hid (GC W w.heap.size sz A m c) := by rw [hW]; exact GC.new _ _ _ _ _
  have HW := Lib.hid hW
  have KQ : Hid (∀ {z : World}, GA z A m c x → Calls Tryz.prog 186 #[.agg #[.int .i64 sz, .slice A m c], .int .i64 s] z fun e w' => e = .returned (.bool false) ∧ Below z.heap.size z w') := by rw [← hs]; exact fun h => IsSet_sg sz A m c x s _ h hm
  have HKq := HK
  clear hW h hs
  go_enter Tryz.func125, Tryz.ntmps125
  have e0 := HC.out.c0
  have e1 := HC.out.c1
  go_wp2
  rw [← HW.out]
  clear HW
  have HSC : Hid (∀ z : World, Below W.heap.size W z → (Below W.heap.size W z ∧ z.cell? ⟨w.heap.size, 0, none⟩ = some (.int .i64 sz) ∧ z.cell? ⟨w.heap.size, 1, none⟩ = some (.slice A m c))) := fun z hz => ⟨hz, up_ hz e0, up_ hz e1⟩
  have HZ0 : Hid (Below W.heap.size W W.drew) := (Below.refl _ _).drew
  have HS1 := Lib.hid (HSC.out _ HZ0.out)
  have KR1 : Hid (∀ z : World, Below W.heap.size W z → _) := fun z hz => KQ.out (HKq.out.keep hz)
  refine wp_region_held_drew (S := fun z => Below W.heap.size W z ∧ z.cell? ⟨w.heap.size, 0, none⟩ = some (.int .i64 sz) ∧ z.cell? ⟨w.heap.size, 1, none⟩ = some (.slice A m c)) (by kernel_rfl) HS1.out (fun hHeld => ?_)
  refine pcY 0 rfl rfl (by kernel_rfl) (by rfl) (by intro w u; (try dsimp only at u); go_simp <;> with_reducible rfl) ‹_› (fun _ _ _ h => h) ?_; simp only [Act.put, sl0, sl1, sl2]
  refine ptY rfl rfl (by kernel_rfl) (by rfl) (by intro w u; (try dsimp only at u); go_simp <;> with_reducible rfl) ‹_› (fun _ _ _ h => h) ?_; simp only [Act.put, sl0, sl1, sl2]
  refine wpAnyH_ready (rs := [2]) (by kernel_rfl) (by simp) ?_
  refine AllReadyH.cons rfl (fun K hK => ?_) AllReadyH.nil
  go_simp
  go_at_call 186; refine (KR1.out _ HZ0.out).mono ?_
  rintro e w1 ⟨rfl, hb1⟩
  have hz1 := bl_trans HZ0.out hb1
  refine hK.out _ _ (HSC.out _ hz1) (fun hHeld => ?_)
  clear hK K
  try simp only [Act.put, sl0, sl1, sl2]
  refine ptY rfl rfl (by kernel_rfl) (by rfl) (by intro w u; (try dsimp only at u); go_simp <;> with_reducible rfl) ‹_› (fun _ _ _ h => h) ?_; simp only [Act.put, sl0, sl1, sl2]
  iterate 8 (refine ptN rfl rfl (by kernel_rfl) (by rfl) ‹_› (fun _ _ _ h => h) ?_; simp only [Act.put, sl0, sl1, sl2])
  iterate 2 (refine ptY rfl rfl (by kernel_rfl) (by rfl) (by intro w u; (try dsimp only at u); go_simp <;> with_reducible rfl) ‹_› (fun _ _ _ h => h) ?_; simp only [Act.put, sl0, sl1, sl2])
  refine wpAnyH_done (by kernel_rfl) ?_ _
  clear e0 e1
  replace HB := Lib.hid (HB.out.keep hz1)
  replace HC := Lib.hid (HC.out.keep hz1)
  clear hb1 hz1 HSC HZ0 HS1 KR1
  have e0 := HC.out.c0
  have e1 := HC.out.c1
  go_wp2
  go_ret
  exact ⟨ret_bool Hn.out.symm, HB.out.below⟩
 ·obtain ⟨ho, es, t, rfl, ht⟩ := setB_parts hs
  subst es
  have hv : domG (m : Int) m x (t : Int) = domB (rw_ x) m t := by unfold domG; rw [hs, Bool.true_and, Int.toNat_natCast]
  rw [hv]
  exact IsDominating_sv (h.gv ho) ht
set_option maxRecDepth 100000 in
set_option maxHeartbeats 1600000 in
theorem IsPacking_sg (h : GA w A m c x) (hm : m ≤ 1048576) :
 Calls Tryz.prog 126 #[.agg #[.int .i64 sz, .slice A m c], .int .i64 s] w fun e w' => e = .returned (.bool (pakG sz m x s)) ∧ Below w.heap.size w w' := by
 cases hs : setB sz m x s
 ·have Hn : Hid (pakG sz m x s = false) := by show _ = _; unfold pakG; rw [hs]; rfl
  obtain ⟨W, hW⟩ : ∃ W : World, W = (w.alloc (Obj.cells #[Value.int IntKind.i64 sz, Value.slice A m c] 28)) := ⟨_, rfl⟩
  have HB : Hid (From w W) := by rw [hW]; exact From.alloc _ _
  have HK := Lib.hid (h.keep HB.out.below)
  have HC : Hid (GC W w.heap.size sz A m c) := by rw [hW]; exact GC.new _ _ _ _ _
  have HW := Lib.hid hW
  have KQ : Hid (∀ {z : World}, GA z A m c x → Calls Tryz.prog 186 #[.agg #[.int .i64 sz, .slice A m c], .int .i64 s] z fun e w' => e = .returned (.bool false) ∧ Below z.heap.size z w') := by rw [← hs]; exact fun h => IsSet_sg sz A m c x s _ h hm
  have HKq := HK
  clear hW h hs
  go_enter Tryz.func126, Tryz.ntmps126
  have e0 := HC.out.c0
  have e1 := HC.out.c1
  have HR0 : Hid (From W W) := From.refl W
  go_wp2_with fail
  rw [← HW.out]
  clear HW
  go_wp2
  go_loopw [5] (fun i wr => i = .int .i64 0 ∧ Hid (From W wr)) (fun _ _ => 0)
  case atStart => exact ⟨rfl, HR0⟩
  case round =>
   clear HR0 e0 e1
   obtain ⟨rfl, HR⟩ := hrel
   have HB1 := Lib.hid (HB.out.up HR.out)
   have HK1 := Lib.hid (HK.out.keep HR.out.below)
   have HC1 := Lib.hid (HC.out.keep HR.out.below)
   have e0 := HC1.out.c0
   have e1 := HC1.out.c1
   by_cases hsz : 0 < sz
   ·go_wp2_with fail
    refine (KQ.out HK1.out).mono ?_
    rintro e w1 ⟨rfl, hb1⟩
    clear e0 e1
    replace HB1 := Lib.hid (HB1.out.keep hb1)
    replace HK1 := Lib.hid (HK1.out.keep hb1)
    replace HC1 := Lib.hid (HC1.out.keep hb1)
    clear hb1
    have e0 := HC1.out.c0
    have e1 := HC1.out.c1
    go_wp2_with fail
    refine (KQ.out HK1.out).mono ?_
    rintro e w2 ⟨rfl, hb2⟩
    clear e0 e1
    replace HB1 := Lib.hid (HB1.out.keep hb2)
    replace HK1 := Lib.hid (HK1.out.keep hb2)
    replace HC1 := Lib.hid (HC1.out.keep hb2)
    clear hb2
    have e0 := HC1.out.c0
    have e1 := HC1.out.c1
    go_wp2
    go_ret
    exact ⟨ret_bool Hn.out.symm, HB1.out.below⟩
   ·have i1 : sz ≤ 0 := by omega
    go_wp2_with fail
    refine (KQ.out HK1.out).mono ?_
    rintro e w2 ⟨rfl, hb2⟩
    clear e0 e1
    replace HB1 := Lib.hid (HB1.out.keep hb2)
    replace HK1 := Lib.hid (HK1.out.keep hb2)
    replace HC1 := Lib.hid (HC1.out.keep hb2)
    clear hb2
    have e0 := HC1.out.c0
    have e1 := HC1.out.c1
    go_wp2
    go_ret
    exact ⟨ret_bool Hn.out.symm, HB1.out.below⟩
 ·obtain ⟨ho, es, t, rfl, ht⟩ := setB_parts hs
  subst es
  have hv : pakG (m : Int) m x (t : Int) = pakB (rw_ x) m t := by unfold pakG; rw [hs, Bool.true_and, Int.toNat_natCast]
  rw [hv]
  exact IsPacking_sv (h.gv ho) ht
end
end Go.Proofs.YtdpkbfiggbcclaaGreat

/-
-/
namespace Go.Proofs.YtdpkbfiggbcclaaGreat
def fiK (zs : List Int) (i : Nat) : Bool := !decide (zs.getD i 0 ∈ zs.take i)
def dfK (zs : List Int) (k : Nat) : Nat := ((List.range k).filter (fiK zs)).length
def dfN (zs : List Int) : Nat := dfK zs zs.length
theorem dfK_yes {zs : List Int} {k : Nat} (h : fiK zs k = true) : dfK zs (k + 1) = dfK zs k + 1 := by
 unfold dfK; rw [List.range_succ, List.filter_append, List.length_append]; simp [h]
theorem dfK_no {zs : List Int} {k : Nat} (h : fiK zs k = false) : dfK zs (k + 1) = dfK zs k := by
 unfold dfK; rw [List.range_succ, List.filter_append, List.length_append]; simp [h]
theorem dfK_le (zs : List Int) (k : Nat) : dfK zs k ≤ k := by
 unfold dfK
 exact Nat.le_trans (List.length_filter_le _ _) (by rw [List.length_range]; exact Nat.le_refl _)
theorem least_of {p : Nat → Prop} (n : Nat) : p n → ∃ i, i ≤ n ∧ p i ∧ ∀ j, j < i → ¬ p j := by
 induction n using Nat.strongRecOn with
 | ind n ih =>
   intro h
   by_cases hh : ∃ j, j < n ∧ p j
   ·obtain ⟨j, hj, hp⟩ := hh
    obtain ⟨i, hi, r⟩ := ih j hj hp
    exact ⟨i, by omega, r⟩
   ·exact ⟨n, Nat.le_refl _, h, fun j hj hp => hh ⟨j, hj, hp⟩⟩
theorem getD_mem_df {zs : List Int} {i : Nat} (h : i < zs.length) : zs.getD i 0 ∈ zs := by
 rw [List.getD_eq_getElem?_getD, List.getElem?_eq_getElem h]
 exact List.getElem_mem h
theorem mem_getD {zs : List Int} {a : Int} (h : a ∈ zs) : ∃ i, i < zs.length ∧ zs.getD i 0 = a := by
 obtain ⟨i, hi, e⟩ := List.getElem_of_mem h
 exact ⟨i, hi, by rw [List.getD_eq_getElem?_getD, List.getElem?_eq_getElem hi]; exact e⟩
theorem mem_take_getD {zs : List Int} {a : Int} {k : Nat} (hk : k ≤ zs.length) : a ∈ zs.take k ↔ ∃ i, i < k ∧ zs.getD i 0 = a := by
 constructor
 ·intro h
  obtain ⟨i, hi, e⟩ := List.getElem_of_mem h
  rw [List.length_take] at hi
  refine ⟨i, by omega, ?_⟩
  rw [List.getElem_take] at e
  rw [List.getD_eq_getElem?_getD, List.getElem?_eq_getElem (by omega)]
  exact e
 ·rintro ⟨i, hi, rfl⟩
  rw [List.getD_eq_getElem?_getD, List.getElem?_eq_getElem (by omega)]
  exact List.mem_take_iff_getElem.2 ⟨i, by omega, rfl⟩
theorem picked {zs : List Int} {p : Nat → Bool} (h1 : ∀ i j, i < j → j < zs.length → p i = true → p j = true → zs.getD i 0 ≠ zs.getD j 0) (h2 : ∀ a ∈ zs, ∃ i, i < zs.length ∧ p i = true ∧ zs.getD i 0 = a) :
 (((List.range zs.length).filter p).map fun i => zs.getD i 0).Nodup ∧ ∀ a, a ∈ ((List.range zs.length).filter p).map (fun i => zs.getD i 0) ↔ a ∈ zs := by
 constructor
 ·rw [List.Nodup, List.pairwise_map, List.pairwise_filter]
  have hr : (List.range zs.length).Pairwise (· < ·) := List.pairwise_lt_range
  refine hr.imp_of_mem fun {i j} hi hj hij hpi hpj => ?_
  exact h1 i j hij (List.mem_range.1 hj) hpi hpj
 ·intro a
  rw [List.mem_map]
  constructor
  ·rintro ⟨i, hi, rfl⟩
   exact getD_mem_df (List.mem_range.1 (List.mem_filter.1 hi).1)
  ·intro ha
   obtain ⟨i, hi, hp, e⟩ := h2 a ha
   exact ⟨i, List.mem_filter.2 ⟨List.mem_range.2 hi, hp⟩, e⟩
theorem first_picked (zs : List Int) :
 (((List.range zs.length).filter (fiK zs)).map fun i => zs.getD i 0).Nodup ∧ ∀ a, a ∈ ((List.range zs.length).filter (fiK zs)).map (fun i => zs.getD i 0) ↔ a ∈ zs := by
 refine picked (fun i j hij hj _ hpj e => ?_) (fun a ha => ?_)
 ·unfold fiK at hpj
  rw [Bool.not_eq_true', decide_eq_false_iff_not] at hpj
  exact hpj ((mem_take_getD (by omega)).2 ⟨i, hij, e⟩)
 ·obtain ⟨n, hn, en⟩ := mem_getD ha
  obtain ⟨i, hi, hp, hmin⟩ := least_of (p := fun i => i < zs.length ∧ zs.getD i 0 = a) n ⟨hn, en⟩
  refine ⟨i, hp.1, ?_, hp.2⟩
  unfold fiK
  rw [Bool.not_eq_true', decide_eq_false_iff_not]
  intro hm
  obtain ⟨j, hj, e⟩ := (mem_take_getD (by omega)).1 hm
  exact hmin j hj ⟨by omega, e.trans hp.2⟩
theorem getD_arr (zs : List Int) (i : Nat) (h : i < zs.length) : zs.toArray[i]! = zs.getD i 0 := by
 simp [h, List.getD]
theorem sorted_at {zs : List Int} (h : zs.Pairwise (· ≤ ·)) {i j : Nat} (hij : i < j) (hj : j < zs.length) : zs.getD i 0 ≤ zs.getD j 0 := by
 rw [List.getD_eq_getElem?_getD, List.getD_eq_getElem?_getD, List.getElem?_eq_getElem (by omega), List.getElem?_eq_getElem hj]
 exact List.pairwise_iff_getElem.1 h i j (by omega) hj hij
theorem compact_picked {zs : List Int} (h : zs.Pairwise (· ≤ ·)) : (Lib.compact zs).Nodup ∧ ∀ a, a ∈ Lib.compact zs ↔ a ∈ zs := by
 have e : Lib.compact zs = ((List.range zs.length).filter (Lib.keeps zs.toArray)).map fun i => zs.getD i 0 := by
  unfold Lib.compact Lib.compactUpTo
  refine List.map_congr_left fun i hi => ?_
  exact getD_arr zs i (List.mem_range.1 (List.mem_filter.1 hi).1)
 rw [e]
 have hk : ∀ j, j < zs.length → (Lib.keeps zs.toArray j = true ↔ (j = 0 ∨ zs.getD j 0 ≠ zs.getD (j - 1) 0)) := fun j hj => by
  unfold Lib.keeps
  rw [decide_eq_true_eq, getD_arr zs j hj, getD_arr zs (j - 1) (by omega)]
 refine picked (fun i j hij hj _ hpj e => ?_) (fun a ha => ?_)
 ·rcases (hk j hj).1 hpj with h0 | hne
  ·omega
  ·have h1 : zs.getD (j - 1) 0 ≤ zs.getD j 0 := sorted_at h (by omega) hj
   have h2 : zs.getD i 0 ≤ zs.getD (j - 1) 0 := by
    by_cases hh : i = j - 1
    ·rw [hh]; exact Int.le_refl _
    ·exact sorted_at h (by omega) (by omega)
   omega
 ·obtain ⟨n, hn, en⟩ := mem_getD ha
  obtain ⟨i, hi, hp, hmin⟩ := least_of (p := fun i => i < zs.length ∧ zs.getD i 0 = a) n ⟨hn, en⟩
  refine ⟨i, hp.1, (hk i hp.1).2 ?_, hp.2⟩
  by_cases h0 : i = 0
  ·exact .inl h0
  ·refine .inr fun e => hmin (i - 1) (by omega) ⟨by omega, by rw [← e]; exact hp.2⟩
theorem compact_sorted_len (zs : List Int) : (Lib.compact (zs.mergeSort fun x y => decide (x ≤ y))).length = dfN zs := by
 have hs : (zs.mergeSort fun x y => decide (x ≤ y)).Pairwise (· ≤ ·) := by
  have := List.pairwise_mergeSort (le := fun x y : Int => decide (x ≤ y)) (fun a b c h1 h2 => by simp only [decide_eq_true_eq] at *; omega) (fun a b => by rw [Bool.or_eq_true, decide_eq_true_eq, decide_eq_true_eq]; omega) zs
  exact this.imp fun h => by simpa using h
 have hp := List.mergeSort_perm zs fun x y => decide (x ≤ y)
 obtain ⟨c1, c2⟩ := compact_picked hs
 obtain ⟨f1, f2⟩ := first_picked zs
 have hperm := (List.perm_ext_iff_of_nodup c1 f1).2 fun a => by rw [c2, f2]; exact hp.mem_iff
 rw [hperm.length_eq, List.length_map]
 rfl
end Go.Proofs.YtdpkbfiggbcclaaGreat
