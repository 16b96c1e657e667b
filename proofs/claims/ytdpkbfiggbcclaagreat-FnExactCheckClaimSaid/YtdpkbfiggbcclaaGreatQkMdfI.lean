/-
-/
import Derived.Test.YtdpkbfiggbcclaaGreatQkGivJ
import Derived.Test.YtdpkbfiggbcclaaGreatQkSetG
import Derived.Test.YtdpkbfiggbcclaaGreatQkElzI
import Derived.Test.YtdpkbfiggbcclaaGreatQkUmbI
import Derived.Test.YtdpkbfiggbcclaaGreatQkTake
import Derived.Test.YtdpkbfiggbcclaaGreatQkTwnI
import Derived.Test.YtdpkbfiggbcclaaGreatQkSimP
import Derived.Test.YtdpkbfiggbcclaaGreatQkLater
namespace Go.Proofs.YtdpkbfiggbcclaaGreat
open Go.RowKit
noncomputable def bpB (sz : Int) (m : Nat) (x : Nat → Int) (s : Int) : Bool := indG sz m x s && indG sz m x (((2 ^ m - 1) ^^^ s.toNat : Nat) : Int)
noncomputable def mfB (sz : Int) (m : Nat) (x : Nat → Int) (s : List UInt8) (l ol : List Int) : Bool :=
 if s = [105, 110, 116, 101, 114, 118, 97, 108] then moB sz m x l ol else if s = [116, 104, 114, 101, 115, 104, 111, 108, 100] then (decide (ol.length = 1) && wgG sz m x l (ol.getD 0 0)) else if ol.length ≠ 0 then false else if s = [99, 104, 111, 114, 100, 97, 108] then elB sz m x l else if s = [112, 114, 111, 112, 101, 114] then ulB sz m x l else if s = [99, 111, 103, 114, 97, 112, 104] then obG sz m x l (fun d s => tnB (rw_ x) m d s) else if s = [115, 112, 108, 105, 116] then (decide (l.length = 1) && splG sz m x (l.getD 0 0)) else if s = [98, 105, 112, 97, 114, 116, 105, 116, 101] then (decide (l.length = 1) && bpB sz m x (l.getD 0 0)) else if s = [115, 116, 114, 111, 110, 103] then obG sz m x l (fun d s => simB (rw_ x) d s) else false
section
variable (sz : Int) (A : Option Addr) (m c : Nat) (x : Nat → Int) (str : ByteArray) (Al : Option Addr) (n cl : Nat) (l : List Int) (Ao : Option Addr) (k co : Nat) (ol : List Int) (w : World)
set_option maxRecDepth 100000 in
set_option maxHeartbeats 3200000 in
theorem mf_i_interval (h : GA w A m c x) (hl : LI w Al n cl l) (hm : m ≤ 1048576) (_hn : n ≤ 1048576) (ho : LI w Ao k co ol) (_hk : k ≤ 1048576) (hs : str.toList = [105, 110, 116, 101, 114, 118, 97, 108]) :
 Calls Tryz.prog 128 #[.agg #[.int .i64 sz, .slice A m c], .string str, .slice Al n cl, .slice Ao k co] w fun e w' => e = .returned (.bool (moB sz m x l ol)) ∧ Below w.heap.size w w' := by
 obtain ⟨W, hW⟩ : ∃ W : World, W = (w.alloc (Obj.cells #[Value.int IntKind.i64 sz, Value.slice A m c] 28)) := ⟨_, rfl⟩
 have HB : Hid (From w W) := by rw [hW]; exact From.alloc _ _
 have HK := Lib.hid (h.keep HB.out.below)
 have HL := Lib.hid (hl.keep HB.out.below)
 have HC : Hid (GC W w.heap.size sz A m c) := by rw [hW]; exact GC.new _ _ _ _ _
 have HW := Lib.hid hW
 have HN := Lib.hid hl.len
 have HO := Lib.hid (ho.keep HB.out.below)
 have f0 : (str.toList == [105, 110, 116, 101, 114, 118, 97, 108]) = true := by rw [hs]; rfl
 have f1 : (str.toList == [116, 104, 114, 101, 115, 104, 111, 108, 100]) = false := by rw [hs]; rfl
 have f2 : (str.toList == [99, 104, 111, 114, 100, 97, 108]) = false := by rw [hs]; rfl
 have f3 : (str.toList == [112, 114, 111, 112, 101, 114]) = false := by rw [hs]; rfl
 have f4 : (str.toList == [99, 111, 103, 114, 97, 112, 104]) = false := by rw [hs]; rfl
 have f5 : (str.toList == [115, 112, 108, 105, 116]) = false := by rw [hs]; rfl
 have f6 : (str.toList == [98, 105, 112, 97, 114, 116, 105, 116, 101]) = false := by rw [hs]; rfl
 have f7 : (str.toList == [115, 116, 114, 111, 110, 103]) = false := by rw [hs]; rfl
 clear hs
 clear hW h hl ho
 go_enter Tryz.func128, Tryz.ntmps128
 have e0 := HC.out.c0
 have e1 := HC.out.c1
 go_wp2_with fail
 rw [← HW.out]
 refine (IsModelOf_i sz A m c x Al n cl l Ao k co ol W HK.out HL.out HO.out hm).mono ?_
 rintro e w1 ⟨rfl, hb1⟩
 clear HW
 clear e0 e1
 replace HB := Lib.hid (HB.out.keep hb1)
 replace HK := Lib.hid (HK.out.keep hb1)
 replace HL := Lib.hid (HL.out.keep hb1)
 replace HO := Lib.hid (HO.out.keep hb1)
 replace HC := Lib.hid (HC.out.keep hb1)
 clear hb1
 have e0 := HC.out.c0
 have e1 := HC.out.c1
 go_wp2
 go_ret
 exact ⟨rfl, HB.out.below⟩
set_option maxRecDepth 100000 in
set_option maxHeartbeats 3200000 in
theorem mf_i_threshold (h : GA w A m c x) (hl : LI w Al n cl l) (hm : m ≤ 1048576) (hn : n ≤ 1048576) (ho : LI w Ao k co ol) (hk : k ≤ 1048576) (hs : str.toList = [116, 104, 114, 101, 115, 104, 111, 108, 100]) :
 Calls Tryz.prog 128 #[.agg #[.int .i64 sz, .slice A m c], .string str, .slice Al n cl, .slice Ao k co] w fun e w' => e = .returned (.bool ((decide (ol.length = 1) && wgG sz m x l (ol.getD 0 0)))) ∧ Below w.heap.size w w' := by
 obtain ⟨W, hW⟩ : ∃ W : World, W = (w.alloc (Obj.cells #[Value.int IntKind.i64 sz, Value.slice A m c] 28)) := ⟨_, rfl⟩
 have HB : Hid (From w W) := by rw [hW]; exact From.alloc _ _
 have HK := Lib.hid (h.keep HB.out.below)
 have HL := Lib.hid (hl.keep HB.out.below)
 have HC : Hid (GC W w.heap.size sz A m c) := by rw [hW]; exact GC.new _ _ _ _ _
 have HW := Lib.hid hW
 have HN := Lib.hid hl.len
 have HO := Lib.hid (ho.keep HB.out.below)
 have HM := Lib.hid ho.len
 have f0 : (str.toList == [105, 110, 116, 101, 114, 118, 97, 108]) = false := by rw [hs]; rfl
 have f1 : (str.toList == [116, 104, 114, 101, 115, 104, 111, 108, 100]) = true := by rw [hs]; rfl
 have f2 : (str.toList == [99, 104, 111, 114, 100, 97, 108]) = false := by rw [hs]; rfl
 have f3 : (str.toList == [112, 114, 111, 112, 101, 114]) = false := by rw [hs]; rfl
 have f4 : (str.toList == [99, 111, 103, 114, 97, 112, 104]) = false := by rw [hs]; rfl
 have f5 : (str.toList == [115, 112, 108, 105, 116]) = false := by rw [hs]; rfl
 have f6 : (str.toList == [98, 105, 112, 97, 114, 116, 105, 116, 101]) = false := by rw [hs]; rfl
 have f7 : (str.toList == [115, 116, 114, 111, 110, 103]) = false := by rw [hs]; rfl
 clear hs
 clear hW h hl ho
 by_cases h1 : k = 1
 rotate_left
 ·have Hn : Hid ((decide (ol.length = 1) && wgG sz m x l (ol.getD 0 0)) = false) := by show _ = _; rw [decide_eq_false (by rw [← HM.out]; exact h1)]; rfl
  have i4 : ((k : Int) == 1) = false := by simp; omega
  clear h1
  go_enter Tryz.func128, Tryz.ntmps128
  have e0 := HC.out.c0
  have e1 := HC.out.c1
  go_wp2
  rw [← HW.out]
  clear HW
  have HSC : Hid (∀ z : World, Below W.heap.size W z → (Below W.heap.size W z)) := fun z hz => hz
  have HZ0 : Hid (Below W.heap.size W W.drew) := (Below.refl _ _).drew
  have HS1 := Lib.hid (HSC.out _ HZ0.out)
  refine wp_region_held_drew (S := fun z => Below W.heap.size W z) (by kernel_rfl) HS1.out (fun hHeld => ?_)
  refine pcY 0 rfl rfl (by kernel_rfl) (by rfl) (by intro w u; (try dsimp only at u); go_simp <;> with_reducible rfl) ‹_› (fun _ _ _ h => h) ?_; simp only [Act.put, sl0, sl1, sl2]
  iterate 3 (refine ptY rfl rfl (by kernel_rfl) (by rfl) (by intro w u; (try dsimp only at u); go_simp <;> with_reducible rfl) ‹_› (fun _ _ _ h => h) ?_; simp only [Act.put, sl0, sl1, sl2])
  iterate 6 (refine ptN rfl rfl (by kernel_rfl) (by rfl) ‹_› (fun _ _ _ h => h) ?_; simp only [Act.put, sl0, sl1, sl2])
  iterate 2 (refine ptY rfl rfl (by kernel_rfl) (by rfl) (by intro w u; (try dsimp only at u); go_simp <;> with_reducible rfl) ‹_› (fun _ _ _ h => h) ?_; simp only [Act.put, sl0, sl1, sl2])
  refine wpAnyH_done (by kernel_rfl) ?_ _
  clear e0 e1
  replace HB := Lib.hid (HB.out.keep HZ0.out)
  replace HK := Lib.hid (HK.out.keep HZ0.out)
  replace HL := Lib.hid (HL.out.keep HZ0.out)
  replace HC := Lib.hid (HC.out.keep HZ0.out)
  clear HSC HZ0 HS1
  have e0 := HC.out.c0
  have e1 := HC.out.c1
  go_wp2
  go_ret
  exact ⟨ret_bool Hn.out.symm, HB.out.below⟩
 subst h1
 have Hn : Hid ((decide (ol.length = 1) && wgG sz m x l (ol.getD 0 0)) = wgG sz m x l (ol.getD 0 0)) := by show _ = _; rw [decide_eq_true HM.out.symm]; rfl
 obtain ⟨bo, oo, rfl⟩ := HO.out.addr (by omega)
 have p0 := HO.out.at (j := 0) (by omega)
 rw [Nat.add_zero] at p0
 obtain ⟨lim, hlim⟩ : ∃ t, t = ol.getD 0 0 := ⟨_, rfl⟩
 rw [← hlim] at p0 Hn
 have KT : Hid (∀ z : World, Below W.heap.size W z → Calls Tryz.prog 249 #[.agg #[.int .i64 sz, .slice A m c], .slice Al n cl, .int .i64 lim] z fun e w' => e = .returned (.bool (wgG sz m x l lim)) ∧ Below z.heap.size z w') := fun z hz => AreThresholdWeights_i sz A m c x Al n cl l lim z (HK.out.keep hz) (HL.out.keep hz) hm hn
 rw [← hlim]
 clear hlim
 go_enter Tryz.func128, Tryz.ntmps128
 have e0 := HC.out.c0
 have e1 := HC.out.c1
 go_wp2
 rw [← HW.out]
 clear HW
 have HSC : Hid (∀ z : World, Below W.heap.size W z → (Below W.heap.size W z ∧ z.cell? ⟨w.heap.size, 0, none⟩ = some (.int .i64 sz) ∧ z.cell? ⟨w.heap.size, 1, none⟩ = some (.slice A m c) ∧ z.cell? ⟨bo, oo, none⟩ = some (.int .i64 lim))) := fun z hz => ⟨hz, up_ hz e0, up_ hz e1, up_ hz p0⟩
 have HZ0 : Hid (Below W.heap.size W W.drew) := (Below.refl _ _).drew
 have HS1 := Lib.hid (HSC.out _ HZ0.out)
 have KR1 : Hid (∀ z : World, Below W.heap.size W z → _) := fun z hz => KT.out _ hz
 refine wp_region_held_drew (S := fun z => Below W.heap.size W z ∧ z.cell? ⟨w.heap.size, 0, none⟩ = some (.int .i64 sz) ∧ z.cell? ⟨w.heap.size, 1, none⟩ = some (.slice A m c) ∧ z.cell? ⟨bo, oo, none⟩ = some (.int .i64 lim)) (by kernel_rfl) HS1.out (fun hHeld => ?_)
 refine pcY 0 rfl rfl (by kernel_rfl) (by rfl) (by intro w u; (try dsimp only at u); go_simp <;> with_reducible rfl) ‹_› (fun _ _ _ h => h) ?_; simp only [Act.put, sl0, sl1, sl2]
 iterate 8 (refine ptY rfl rfl (by kernel_rfl) (by rfl) (by intro w u; (try dsimp only at u); go_simp <;> with_reducible rfl) ‹_› (fun _ _ _ h => h) ?_; simp only [Act.put, sl0, sl1, sl2])
 refine wpAnyH_ready (rs := [9]) (by kernel_rfl) (by simp) ?_
 refine AllReadyH.cons rfl (fun K hK => ?_) AllReadyH.nil
 go_simp
 go_at_call 249; refine (KR1.out _ HZ0.out).mono ?_
 rintro e w1 ⟨rfl, hb1⟩
 have hz1 := bl_trans HZ0.out hb1
 refine hK.out _ _ (HSC.out _ hz1) (fun hHeld => ?_)
 clear hK K
 try simp only [Act.put, sl0, sl1, sl2]
 iterate 2 (refine ptY rfl rfl (by kernel_rfl) (by rfl) (by intro w u; (try dsimp only at u); go_simp <;> with_reducible rfl) ‹_› (fun _ _ _ h => h) ?_; simp only [Act.put, sl0, sl1, sl2])
 refine wpAnyH_done (by kernel_rfl) ?_ _
 clear e0 e1
 replace HB := Lib.hid (HB.out.keep hz1)
 replace HK := Lib.hid (HK.out.keep hz1)
 replace HL := Lib.hid (HL.out.keep hz1)
 replace HC := Lib.hid (HC.out.keep hz1)
 clear hb1 hz1 HSC HZ0 HS1 KR1
 have e0 := HC.out.c0
 have e1 := HC.out.c1
 go_wp2
 go_ret
 exact ⟨ret_bool Hn.out.symm, HB.out.below⟩
set_option maxRecDepth 100000 in
set_option maxHeartbeats 3200000 in
theorem mf_i_more (h : GA w A m c x) (hl : LI w Al n cl l) (_hm : m ≤ 1048576) (_hn : n ≤ 1048576) (hk : 0 < k) (hs0 : str.toList ≠ [105, 110, 116, 101, 114, 118, 97, 108]) (hs1 : str.toList ≠ [116, 104, 114, 101, 115, 104, 111, 108, 100]) :
 Calls Tryz.prog 128 #[.agg #[.int .i64 sz, .slice A m c], .string str, .slice Al n cl, .slice Ao k co] w fun e w' => e = .returned (.bool (false)) ∧ Below w.heap.size w w' := by
 obtain ⟨W, hW⟩ : ∃ W : World, W = (w.alloc (Obj.cells #[Value.int IntKind.i64 sz, Value.slice A m c] 28)) := ⟨_, rfl⟩
 have HB : Hid (From w W) := by rw [hW]; exact From.alloc _ _
 have HK := Lib.hid (h.keep HB.out.below)
 have HL := Lib.hid (hl.keep HB.out.below)
 have HC : Hid (GC W w.heap.size sz A m c) := by rw [hW]; exact GC.new _ _ _ _ _
 have HW := Lib.hid hW
 have HN := Lib.hid hl.len
 have f0 : (str.toList == [105, 110, 116, 101, 114, 118, 97, 108]) = false := by simpa using hs0
 have f1 : (str.toList == [116, 104, 114, 101, 115, 104, 111, 108, 100]) = false := by simpa using hs1
 have i1 : (0 : Int) < (k : Int) := by omega
 clear hW h hl hs0 hs1
 go_enter Tryz.func128, Tryz.ntmps128
 go_wp2
 rw [← HW.out]
 go_ret
 exact ⟨rfl, HB.out.below⟩
set_option maxRecDepth 100000 in
set_option maxHeartbeats 3200000 in
theorem mf_i_none (h : GA w A m c x) (hl : LI w Al n cl l) (_hm : m ≤ 1048576) (_hn : n ≤ 1048576) (hs0 : str.toList ≠ [105, 110, 116, 101, 114, 118, 97, 108]) (hs1 : str.toList ≠ [116, 104, 114, 101, 115, 104, 111, 108, 100]) (hs2 : str.toList ≠ [99, 104, 111, 114, 100, 97, 108]) (hs3 : str.toList ≠ [112, 114, 111, 112, 101, 114]) (hs4 : str.toList ≠ [99, 111, 103, 114, 97, 112, 104]) (hs5 : str.toList ≠ [115, 112, 108, 105, 116]) (hs6 : str.toList ≠ [98, 105, 112, 97, 114, 116, 105, 116, 101]) (hs7 : str.toList ≠ [115, 116, 114, 111, 110, 103]) :
 Calls Tryz.prog 128 #[.agg #[.int .i64 sz, .slice A m c], .string str, .slice Al n cl, .slice Ao 0 co] w fun e w' => e = .returned (.bool (false)) ∧ Below w.heap.size w w' := by
 obtain ⟨W, hW⟩ : ∃ W : World, W = (w.alloc (Obj.cells #[Value.int IntKind.i64 sz, Value.slice A m c] 28)) := ⟨_, rfl⟩
 have HB : Hid (From w W) := by rw [hW]; exact From.alloc _ _
 have HK := Lib.hid (h.keep HB.out.below)
 have HL := Lib.hid (hl.keep HB.out.below)
 have HC : Hid (GC W w.heap.size sz A m c) := by rw [hW]; exact GC.new _ _ _ _ _
 have HW := Lib.hid hW
 have HN := Lib.hid hl.len
 have f0 : (str.toList == [105, 110, 116, 101, 114, 118, 97, 108]) = false := by simpa using hs0
 have f1 : (str.toList == [116, 104, 114, 101, 115, 104, 111, 108, 100]) = false := by simpa using hs1
 have f2 : (str.toList == [99, 104, 111, 114, 100, 97, 108]) = false := by simpa using hs2
 have f3 : (str.toList == [112, 114, 111, 112, 101, 114]) = false := by simpa using hs3
 have f4 : (str.toList == [99, 111, 103, 114, 97, 112, 104]) = false := by simpa using hs4
 have f5 : (str.toList == [115, 112, 108, 105, 116]) = false := by simpa using hs5
 have f6 : (str.toList == [98, 105, 112, 97, 114, 116, 105, 116, 101]) = false := by simpa using hs6
 have f7 : (str.toList == [115, 116, 114, 111, 110, 103]) = false := by simpa using hs7
 clear hW h hl hs0 hs1 hs2 hs3 hs4 hs5 hs6 hs7
 go_enter Tryz.func128, Tryz.ntmps128
 go_wp2
 rw [← HW.out]
 go_ret
 exact ⟨rfl, HB.out.below⟩
set_option maxRecDepth 100000 in
set_option maxHeartbeats 3200000 in
theorem mf_i_chordal (h : GA w A m c x) (hl : LI w Al n cl l) (hm : m ≤ 1048576) (hn : n ≤ 1048576) (hs : str.toList = [99, 104, 111, 114, 100, 97, 108]) :
 Calls Tryz.prog 128 #[.agg #[.int .i64 sz, .slice A m c], .string str, .slice Al n cl, .slice Ao 0 co] w fun e w' => e = .returned (.bool (elB sz m x l)) ∧ Below w.heap.size w w' := by
 obtain ⟨W, hW⟩ : ∃ W : World, W = (w.alloc (Obj.cells #[Value.int IntKind.i64 sz, Value.slice A m c] 28)) := ⟨_, rfl⟩
 have HB : Hid (From w W) := by rw [hW]; exact From.alloc _ _
 have HK := Lib.hid (h.keep HB.out.below)
 have HL := Lib.hid (hl.keep HB.out.below)
 have HC : Hid (GC W w.heap.size sz A m c) := by rw [hW]; exact GC.new _ _ _ _ _
 have HW := Lib.hid hW
 have HN := Lib.hid hl.len
 have f0 : (str.toList == [105, 110, 116, 101, 114, 118, 97, 108]) = false := by rw [hs]; rfl
 have f1 : (str.toList == [116, 104, 114, 101, 115, 104, 111, 108, 100]) = false := by rw [hs]; rfl
 have f2 : (str.toList == [99, 104, 111, 114, 100, 97, 108]) = true := by rw [hs]; rfl
 have f3 : (str.toList == [112, 114, 111, 112, 101, 114]) = false := by rw [hs]; rfl
 have f4 : (str.toList == [99, 111, 103, 114, 97, 112, 104]) = false := by rw [hs]; rfl
 have f5 : (str.toList == [115, 112, 108, 105, 116]) = false := by rw [hs]; rfl
 have f6 : (str.toList == [98, 105, 112, 97, 114, 116, 105, 116, 101]) = false := by rw [hs]; rfl
 have f7 : (str.toList == [115, 116, 114, 111, 110, 103]) = false := by rw [hs]; rfl
 clear hs
 clear hW h hl
 go_enter Tryz.func128, Tryz.ntmps128
 have e0 := HC.out.c0
 have e1 := HC.out.c1
 go_wp2_with fail
 rw [← HW.out]
 refine (IsElimination_i sz A m c x Al n cl l W HK.out HL.out hm hn).mono ?_
 rintro e w1 ⟨rfl, hb1⟩
 clear HW
 clear e0 e1
 replace HB := Lib.hid (HB.out.keep hb1)
 replace HK := Lib.hid (HK.out.keep hb1)
 replace HL := Lib.hid (HL.out.keep hb1)
 replace HC := Lib.hid (HC.out.keep hb1)
 clear hb1
 have e0 := HC.out.c0
 have e1 := HC.out.c1
 go_wp2
 go_ret
 exact ⟨rfl, HB.out.below⟩
set_option maxRecDepth 100000 in
set_option maxHeartbeats 3200000 in
theorem mf_i_proper (h : GA w A m c x) (hl : LI w Al n cl l) (hm : m ≤ 1048576) (hn : n ≤ 1048576) (hs : str.toList = [112, 114, 111, 112, 101, 114]) :
 Calls Tryz.prog 128 #[.agg #[.int .i64 sz, .slice A m c], .string str, .slice Al n cl, .slice Ao 0 co] w fun e w' => e = .returned (.bool (ulB sz m x l)) ∧ Below w.heap.size w w' := by
 obtain ⟨W, hW⟩ : ∃ W : World, W = (w.alloc (Obj.cells #[Value.int IntKind.i64 sz, Value.slice A m c] 28)) := ⟨_, rfl⟩
 have HB : Hid (From w W) := by rw [hW]; exact From.alloc _ _
 have HK := Lib.hid (h.keep HB.out.below)
 have HL := Lib.hid (hl.keep HB.out.below)
 have HC : Hid (GC W w.heap.size sz A m c) := by rw [hW]; exact GC.new _ _ _ _ _
 have HW := Lib.hid hW
 have HN := Lib.hid hl.len
 have f0 : (str.toList == [105, 110, 116, 101, 114, 118, 97, 108]) = false := by rw [hs]; rfl
 have f1 : (str.toList == [116, 104, 114, 101, 115, 104, 111, 108, 100]) = false := by rw [hs]; rfl
 have f2 : (str.toList == [99, 104, 111, 114, 100, 97, 108]) = false := by rw [hs]; rfl
 have f3 : (str.toList == [112, 114, 111, 112, 101, 114]) = true := by rw [hs]; rfl
 have f4 : (str.toList == [99, 111, 103, 114, 97, 112, 104]) = false := by rw [hs]; rfl
 have f5 : (str.toList == [115, 112, 108, 105, 116]) = false := by rw [hs]; rfl
 have f6 : (str.toList == [98, 105, 112, 97, 114, 116, 105, 116, 101]) = false := by rw [hs]; rfl
 have f7 : (str.toList == [115, 116, 114, 111, 110, 103]) = false := by rw [hs]; rfl
 clear hs
 clear hW h hl
 go_enter Tryz.func128, Tryz.ntmps128
 have e0 := HC.out.c0
 have e1 := HC.out.c1
 go_wp2_with fail
 rw [← HW.out]
 refine (IsUmbrella_i sz A m c x Al n cl l W HK.out HL.out hm hn).mono ?_
 rintro e w1 ⟨rfl, hb1⟩
 clear HW
 clear e0 e1
 replace HB := Lib.hid (HB.out.keep hb1)
 replace HK := Lib.hid (HK.out.keep hb1)
 replace HL := Lib.hid (HL.out.keep hb1)
 replace HC := Lib.hid (HC.out.keep hb1)
 clear hb1
 have e0 := HC.out.c0
 have e1 := HC.out.c1
 go_wp2
 go_ret
 exact ⟨rfl, HB.out.below⟩
set_option maxRecDepth 100000 in
set_option maxHeartbeats 3200000 in
theorem mf_i_cograph (h : GA w A m c x) (hl : LI w Al n cl l) (hm : m ≤ 1048576) (hn : n ≤ 1048576) (hs : str.toList = [99, 111, 103, 114, 97, 112, 104]) :
 Calls Tryz.prog 128 #[.agg #[.int .i64 sz, .slice A m c], .string str, .slice Al n cl, .slice Ao 0 co] w fun e w' => e = .returned (.bool (obG sz m x l (fun d s => tnB (rw_ x) m d s))) ∧ Below w.heap.size w w' := by
 obtain ⟨W, hW⟩ : ∃ W : World, W = (w.alloc (Obj.cells #[Value.int IntKind.i64 sz, Value.slice A m c] 28)) := ⟨_, rfl⟩
 have HB : Hid (From w W) := by rw [hW]; exact From.alloc _ _
 have HK := Lib.hid (h.keep HB.out.below)
 have HL := Lib.hid (hl.keep HB.out.below)
 have HC : Hid (GC W w.heap.size sz A m c) := by rw [hW]; exact GC.new _ _ _ _ _
 have HW := Lib.hid hW
 have HN := Lib.hid hl.len
 have f0 : (str.toList == [105, 110, 116, 101, 114, 118, 97, 108]) = false := by rw [hs]; rfl
 have f1 : (str.toList == [116, 104, 114, 101, 115, 104, 111, 108, 100]) = false := by rw [hs]; rfl
 have f2 : (str.toList == [99, 104, 111, 114, 100, 97, 108]) = false := by rw [hs]; rfl
 have f3 : (str.toList == [112, 114, 111, 112, 101, 114]) = false := by rw [hs]; rfl
 have f4 : (str.toList == [99, 111, 103, 114, 97, 112, 104]) = true := by rw [hs]; rfl
 have f5 : (str.toList == [115, 112, 108, 105, 116]) = false := by rw [hs]; rfl
 have f6 : (str.toList == [98, 105, 112, 97, 114, 116, 105, 116, 101]) = false := by rw [hs]; rfl
 have f7 : (str.toList == [115, 116, 114, 111, 110, 103]) = false := by rw [hs]; rfl
 clear hs
 clear hW h hl
 have KF : Hid (okB sz m x = true → ∀ (d s : Nat) (z : World), d < m → s < 2 ^ m → s.testBit d = true → Below W.heap.size W z → Calls Tryz.prog 253 (#[.int .i64 d, .int .i64 s] ++ #[.pointer (some ⟨w.heap.size, 0, none⟩)]) z (fun e z' => e = .returned (.bool (tnB (rw_ x) m d s)) ∧ Below z.heap.size z z')) := fun ho d s z hd hs _ hz => by
  obtain ⟨r, es, _, _⟩ := okB_ok' ho
  subst es
  exact modelF1 (GBox.keep ⟨HK.out.gv ho, HC.out.c0, HC.out.c1, HC.out.lt⟩ hz) hs hd
 go_enter Tryz.func128, Tryz.ntmps128
 have e0 := HC.out.c0
 have e1 := HC.out.c1
 go_wp2_with fail
 rw [← HW.out]
 refine (isOrderBy_g (fn := 253) (caps := #[.pointer (some ⟨w.heap.size, 0, none⟩)]) (ent_of Tryz.func253 (by kernel_rfl) rfl) sz A m c x Al n cl l W HK.out HL.out hm hn KF.out).mono ?_
 rintro e w1 ⟨rfl, hb1⟩
 clear HW
 clear e0 e1
 replace HB := Lib.hid (HB.out.keep hb1)
 replace HK := Lib.hid (HK.out.keep hb1)
 replace HL := Lib.hid (HL.out.keep hb1)
 replace HC := Lib.hid (HC.out.keep hb1)
 clear hb1
 have e0 := HC.out.c0
 have e1 := HC.out.c1
 go_wp2
 go_ret
 exact ⟨rfl, HB.out.below⟩
set_option maxRecDepth 100000 in
set_option maxHeartbeats 3200000 in
theorem mf_i_strong (h : GA w A m c x) (hl : LI w Al n cl l) (hm : m ≤ 1048576) (hn : n ≤ 1048576) (hs : str.toList = [115, 116, 114, 111, 110, 103]) :
 Calls Tryz.prog 128 #[.agg #[.int .i64 sz, .slice A m c], .string str, .slice Al n cl, .slice Ao 0 co] w fun e w' => e = .returned (.bool (obG sz m x l (fun d s => simB (rw_ x) d s))) ∧ Below w.heap.size w w' := by
 obtain ⟨W, hW⟩ : ∃ W : World, W = (w.alloc (Obj.cells #[Value.int IntKind.i64 sz, Value.slice A m c] 28)) := ⟨_, rfl⟩
 have HB : Hid (From w W) := by rw [hW]; exact From.alloc _ _
 have HK := Lib.hid (h.keep HB.out.below)
 have HL := Lib.hid (hl.keep HB.out.below)
 have HC : Hid (GC W w.heap.size sz A m c) := by rw [hW]; exact GC.new _ _ _ _ _
 have HW := Lib.hid hW
 have HN := Lib.hid hl.len
 have f0 : (str.toList == [105, 110, 116, 101, 114, 118, 97, 108]) = false := by rw [hs]; rfl
 have f1 : (str.toList == [116, 104, 114, 101, 115, 104, 111, 108, 100]) = false := by rw [hs]; rfl
 have f2 : (str.toList == [99, 104, 111, 114, 100, 97, 108]) = false := by rw [hs]; rfl
 have f3 : (str.toList == [112, 114, 111, 112, 101, 114]) = false := by rw [hs]; rfl
 have f4 : (str.toList == [99, 111, 103, 114, 97, 112, 104]) = false := by rw [hs]; rfl
 have f5 : (str.toList == [115, 112, 108, 105, 116]) = false := by rw [hs]; rfl
 have f6 : (str.toList == [98, 105, 112, 97, 114, 116, 105, 116, 101]) = false := by rw [hs]; rfl
 have f7 : (str.toList == [115, 116, 114, 111, 110, 103]) = true := by rw [hs]; rfl
 clear hs
 clear hW h hl
 have KF : Hid (okB sz m x = true → ∀ (d s : Nat) (z : World), d < m → s < 2 ^ m → s.testBit d = true → Below W.heap.size W z → Calls Tryz.prog 256 (#[.int .i64 d, .int .i64 s] ++ #[.pointer (some ⟨w.heap.size, 0, none⟩)]) z (fun e z' => e = .returned (.bool (simB (rw_ x) d s)) ∧ Below z.heap.size z z')) := fun ho d s z hd hs _ hz => by
  obtain ⟨r, es, _, _⟩ := okB_ok' ho
  subst es
  exact modelF2 (GBox.keep ⟨HK.out.gv ho, HC.out.c0, HC.out.c1, HC.out.lt⟩ hz) hs hd
 go_enter Tryz.func128, Tryz.ntmps128
 have e0 := HC.out.c0
 have e1 := HC.out.c1
 go_wp2_with fail
 rw [← HW.out]
 refine (isOrderBy_g (fn := 256) (caps := #[.pointer (some ⟨w.heap.size, 0, none⟩)]) (ent_of Tryz.func256 (by kernel_rfl) rfl) sz A m c x Al n cl l W HK.out HL.out hm hn KF.out).mono ?_
 rintro e w1 ⟨rfl, hb1⟩
 clear HW
 clear e0 e1
 replace HB := Lib.hid (HB.out.keep hb1)
 replace HK := Lib.hid (HK.out.keep hb1)
 replace HL := Lib.hid (HL.out.keep hb1)
 replace HC := Lib.hid (HC.out.keep hb1)
 clear hb1
 have e0 := HC.out.c0
 have e1 := HC.out.c1
 go_wp2
 go_ret
 exact ⟨rfl, HB.out.below⟩
set_option maxRecDepth 100000 in
set_option maxHeartbeats 3200000 in
theorem mf_i_split (h : GA w A m c x) (hl : LI w Al n cl l) (hm : m ≤ 1048576) (hn : n ≤ 1048576) (hs : str.toList = [115, 112, 108, 105, 116]) :
 Calls Tryz.prog 128 #[.agg #[.int .i64 sz, .slice A m c], .string str, .slice Al n cl, .slice Ao 0 co] w fun e w' => e = .returned (.bool ((decide (l.length = 1) && splG sz m x (l.getD 0 0)))) ∧ Below w.heap.size w w' := by
 obtain ⟨W, hW⟩ : ∃ W : World, W = (w.alloc (Obj.cells #[Value.int IntKind.i64 sz, Value.slice A m c] 28)) := ⟨_, rfl⟩
 have HB : Hid (From w W) := by rw [hW]; exact From.alloc _ _
 have HK := Lib.hid (h.keep HB.out.below)
 have HL := Lib.hid (hl.keep HB.out.below)
 have HC : Hid (GC W w.heap.size sz A m c) := by rw [hW]; exact GC.new _ _ _ _ _
 have HW := Lib.hid hW
 have HN := Lib.hid hl.len
 have f0 : (str.toList == [105, 110, 116, 101, 114, 118, 97, 108]) = false := by rw [hs]; rfl
 have f1 : (str.toList == [116, 104, 114, 101, 115, 104, 111, 108, 100]) = false := by rw [hs]; rfl
 have f2 : (str.toList == [99, 104, 111, 114, 100, 97, 108]) = false := by rw [hs]; rfl
 have f3 : (str.toList == [112, 114, 111, 112, 101, 114]) = false := by rw [hs]; rfl
 have f4 : (str.toList == [99, 111, 103, 114, 97, 112, 104]) = false := by rw [hs]; rfl
 have f5 : (str.toList == [115, 112, 108, 105, 116]) = true := by rw [hs]; rfl
 have f6 : (str.toList == [98, 105, 112, 97, 114, 116, 105, 116, 101]) = false := by rw [hs]; rfl
 have f7 : (str.toList == [115, 116, 114, 111, 110, 103]) = false := by rw [hs]; rfl
 clear hs
 clear hW h hl
 by_cases h1 : n = 1
 rotate_left
 ·have Hn : Hid ((decide (l.length = 1) && splG sz m x (l.getD 0 0)) = false) := by show _ = _; rw [decide_eq_false (by rw [← HN.out]; exact h1)]; rfl
  have i4 : ((n : Int) == 1) = false := by simp; omega
  clear h1
  go_enter Tryz.func128, Tryz.ntmps128
  have e0 := HC.out.c0
  have e1 := HC.out.c1
  go_wp2
  rw [← HW.out]
  clear HW
  have HSC : Hid (∀ z : World, Below W.heap.size W z → (Below W.heap.size W z)) := fun z hz => hz
  have HZ0 : Hid (Below W.heap.size W W.drew) := (Below.refl _ _).drew
  have HS1 := Lib.hid (HSC.out _ HZ0.out)
  refine wp_region_held_drew (S := fun z => Below W.heap.size W z) (by kernel_rfl) HS1.out (fun hHeld => ?_)
  refine pcY 0 rfl rfl (by kernel_rfl) (by rfl) (by intro w u; (try dsimp only at u); go_simp <;> with_reducible rfl) ‹_› (fun _ _ _ h => h) ?_; simp only [Act.put, sl0, sl1, sl2]
  refine ptY rfl rfl (by kernel_rfl) (by rfl) (by intro w u; (try dsimp only at u); go_simp <;> with_reducible rfl) ‹_› (fun _ _ _ h => h) ?_; simp only [Act.put, sl0, sl1, sl2]
  iterate 5 (refine ptN rfl rfl (by kernel_rfl) (by rfl) ‹_› (fun _ _ _ h => h) ?_; simp only [Act.put, sl0, sl1, sl2])
  iterate 2 (refine ptY rfl rfl (by kernel_rfl) (by rfl) (by intro w u; (try dsimp only at u); go_simp <;> with_reducible rfl) ‹_› (fun _ _ _ h => h) ?_; simp only [Act.put, sl0, sl1, sl2])
  refine wpAnyH_done (by kernel_rfl) ?_ _
  clear e0 e1
  replace HB := Lib.hid (HB.out.keep HZ0.out)
  replace HK := Lib.hid (HK.out.keep HZ0.out)
  replace HL := Lib.hid (HL.out.keep HZ0.out)
  replace HC := Lib.hid (HC.out.keep HZ0.out)
  clear HSC HZ0 HS1
  have e0 := HC.out.c0
  have e1 := HC.out.c1
  go_wp2
  go_ret
  exact ⟨ret_bool Hn.out.symm, HB.out.below⟩
 subst h1
 have Hn : Hid ((decide (l.length = 1) && splG sz m x (l.getD 0 0)) = splG sz m x (l.getD 0 0)) := by show _ = _; rw [decide_eq_true HN.out.symm]; rfl
 obtain ⟨bl, ol, rfl⟩ := HL.out.addr (by omega)
 have p0 := HL.out.at (j := 0) (by omega)
 rw [Nat.add_zero] at p0
 obtain ⟨v, hv⟩ : ∃ t, t = l.getD 0 0 := ⟨_, rfl⟩
 rw [← hv] at p0 Hn
 rw [← hv]
 clear hv
 have KT : Hid (∀ z : World, Below W.heap.size W z → Calls Tryz.prog 255 #[.agg #[.int .i64 sz, .slice A m c], .int .i64 v] z fun e w' => e = .returned (.bool (splG sz m x v)) ∧ Below z.heap.size z w') := fun z hz => IsSplitPartition_ig sz A m c x v z (HK.out.keep hz) hm
 go_enter Tryz.func128, Tryz.ntmps128
 have e0 := HC.out.c0
 have e1 := HC.out.c1
 go_wp2
 rw [← HW.out]
 clear HW
 have HSC : Hid (∀ z : World, Below W.heap.size W z → (Below W.heap.size W z ∧ z.cell? ⟨w.heap.size, 0, none⟩ = some (.int .i64 sz) ∧ z.cell? ⟨w.heap.size, 1, none⟩ = some (.slice A m c) ∧ z.cell? ⟨bl, ol, none⟩ = some (.int .i64 v))) := fun z hz => ⟨hz, up_ hz e0, up_ hz e1, up_ hz p0⟩
 have HZ0 : Hid (Below W.heap.size W W.drew) := (Below.refl _ _).drew
 have HS1 := Lib.hid (HSC.out _ HZ0.out)
 have KR1 : Hid (∀ z : World, Below W.heap.size W z → _) := fun z hz => KT.out _ hz
 refine wp_region_held_drew (S := fun z => Below W.heap.size W z ∧ z.cell? ⟨w.heap.size, 0, none⟩ = some (.int .i64 sz) ∧ z.cell? ⟨w.heap.size, 1, none⟩ = some (.slice A m c) ∧ z.cell? ⟨bl, ol, none⟩ = some (.int .i64 v)) (by kernel_rfl) HS1.out (fun hHeld => ?_)
 refine pcY 0 rfl rfl (by kernel_rfl) (by rfl) (by intro w u; (try dsimp only at u); go_simp <;> with_reducible rfl) ‹_› (fun _ _ _ h => h) ?_; simp only [Act.put, sl0, sl1, sl2]
 iterate 5 (refine ptY rfl rfl (by kernel_rfl) (by rfl) (by intro w u; (try dsimp only at u); go_simp <;> with_reducible rfl) ‹_› (fun _ _ _ h => h) ?_; simp only [Act.put, sl0, sl1, sl2])
 refine wpAnyH_ready (rs := [6]) (by kernel_rfl) (by simp) ?_
 refine AllReadyH.cons rfl (fun K hK => ?_) AllReadyH.nil
 go_simp
 go_at_call 255; refine (KR1.out _ HZ0.out).mono ?_
 rintro e w1 ⟨rfl, hb1⟩
 have hz1 := bl_trans HZ0.out hb1
 refine hK.out _ _ (HSC.out _ hz1) (fun hHeld => ?_)
 clear hK K
 try simp only [Act.put, sl0, sl1, sl2]
 iterate 2 (refine ptY rfl rfl (by kernel_rfl) (by rfl) (by intro w u; (try dsimp only at u); go_simp <;> with_reducible rfl) ‹_› (fun _ _ _ h => h) ?_; simp only [Act.put, sl0, sl1, sl2])
 refine wpAnyH_done (by kernel_rfl) ?_ _
 clear e0 e1
 replace HB := Lib.hid (HB.out.keep hz1)
 replace HK := Lib.hid (HK.out.keep hz1)
 replace HL := Lib.hid (HL.out.keep hz1)
 replace HC := Lib.hid (HC.out.keep hz1)
 clear hb1 hz1 HSC HZ0 HS1 KR1
 have e0 := HC.out.c0
 have e1 := HC.out.c1
 go_wp2
 go_ret
 exact ⟨ret_bool Hn.out.symm, HB.out.below⟩
set_option maxRecDepth 100000 in
set_option maxHeartbeats 3200000 in
theorem mf_i_bipartite (h : GA w A m c x) (hl : LI w Al n cl l) (hm : m ≤ 1048576) (hn : n ≤ 1048576) (hs : str.toList = [98, 105, 112, 97, 114, 116, 105, 116, 101]) :
 Calls Tryz.prog 128 #[.agg #[.int .i64 sz, .slice A m c], .string str, .slice Al n cl, .slice Ao 0 co] w fun e w' => e = .returned (.bool ((decide (l.length = 1) && bpB sz m x (l.getD 0 0)))) ∧ Below w.heap.size w w' := by
 obtain ⟨W, hW⟩ : ∃ W : World, W = (w.alloc (Obj.cells #[Value.int IntKind.i64 sz, Value.slice A m c] 28)) := ⟨_, rfl⟩
 have HB : Hid (From w W) := by rw [hW]; exact From.alloc _ _
 have HK := Lib.hid (h.keep HB.out.below)
 have HL := Lib.hid (hl.keep HB.out.below)
 have HC : Hid (GC W w.heap.size sz A m c) := by rw [hW]; exact GC.new _ _ _ _ _
 have HW := Lib.hid hW
 have HN := Lib.hid hl.len
 have f0 : (str.toList == [105, 110, 116, 101, 114, 118, 97, 108]) = false := by rw [hs]; rfl
 have f1 : (str.toList == [116, 104, 114, 101, 115, 104, 111, 108, 100]) = false := by rw [hs]; rfl
 have f2 : (str.toList == [99, 104, 111, 114, 100, 97, 108]) = false := by rw [hs]; rfl
 have f3 : (str.toList == [112, 114, 111, 112, 101, 114]) = false := by rw [hs]; rfl
 have f4 : (str.toList == [99, 111, 103, 114, 97, 112, 104]) = false := by rw [hs]; rfl
 have f5 : (str.toList == [115, 112, 108, 105, 116]) = false := by rw [hs]; rfl
 have f6 : (str.toList == [98, 105, 112, 97, 114, 116, 105, 116, 101]) = true := by rw [hs]; rfl
 have f7 : (str.toList == [115, 116, 114, 111, 110, 103]) = false := by rw [hs]; rfl
 clear hs
 clear hW h hl
 by_cases h1 : n = 1
 rotate_left
 ·have Hn : Hid ((decide (l.length = 1) && bpB sz m x (l.getD 0 0)) = false) := by show _ = _; rw [decide_eq_false (by rw [← HN.out]; exact h1)]; rfl
  have i4 : ((n : Int) == 1) = false := by simp; omega
  clear h1
  go_enter Tryz.func128, Tryz.ntmps128
  have e0 := HC.out.c0
  have e1 := HC.out.c1
  go_wp2
  rw [← HW.out]
  clear HW
  have HSC : Hid (∀ z : World, Below W.heap.size W z → (Below W.heap.size W z)) := fun z hz => hz
  have HZ0 : Hid (Below W.heap.size W W.drew) := (Below.refl _ _).drew
  have HS1 := Lib.hid (HSC.out _ HZ0.out)
  refine wp_region_held_drew (S := fun z => Below W.heap.size W z) (by kernel_rfl) HS1.out (fun hHeld => ?_)
  refine pcY 0 rfl rfl (by kernel_rfl) (by rfl) (by intro w u; (try dsimp only at u); go_simp <;> with_reducible rfl) ‹_› (fun _ _ _ h => h) ?_; simp only [Act.put, sl0, sl1, sl2]
  refine ptY rfl rfl (by kernel_rfl) (by rfl) (by intro w u; (try dsimp only at u); go_simp <;> with_reducible rfl) ‹_› (fun _ _ _ h => h) ?_; simp only [Act.put, sl0, sl1, sl2]
  iterate 5 (refine ptN rfl rfl (by kernel_rfl) (by rfl) ‹_› (fun _ _ _ h => h) ?_; simp only [Act.put, sl0, sl1, sl2])
  iterate 2 (refine ptY rfl rfl (by kernel_rfl) (by rfl) (by intro w u; (try dsimp only at u); go_simp <;> with_reducible rfl) ‹_› (fun _ _ _ h => h) ?_; simp only [Act.put, sl0, sl1, sl2])
  iterate 8 (refine ptN rfl rfl (by kernel_rfl) (by rfl) ‹_› (fun _ _ _ h => h) ?_; simp only [Act.put, sl0, sl1, sl2])
  iterate 2 (refine ptY rfl rfl (by kernel_rfl) (by rfl) (by intro w u; (try dsimp only at u); go_simp <;> with_reducible rfl) ‹_› (fun _ _ _ h => h) ?_; simp only [Act.put, sl0, sl1, sl2])
  refine wpAnyH_done (by kernel_rfl) ?_ _
  clear e0 e1
  replace HB := Lib.hid (HB.out.keep HZ0.out)
  replace HK := Lib.hid (HK.out.keep HZ0.out)
  replace HL := Lib.hid (HL.out.keep HZ0.out)
  replace HC := Lib.hid (HC.out.keep HZ0.out)
  clear HSC HZ0 HS1
  have e0 := HC.out.c0
  have e1 := HC.out.c1
  go_wp2
  go_ret
  exact ⟨ret_bool Hn.out.symm, HB.out.below⟩
 subst h1
 have Hn : Hid ((decide (l.length = 1) && bpB sz m x (l.getD 0 0)) = bpB sz m x (l.getD 0 0)) := by show _ = _; rw [decide_eq_true HN.out.symm]; rfl
 obtain ⟨bl, ol, rfl⟩ := HL.out.addr (by omega)
 have p0 := HL.out.at (j := 0) (by omega)
 rw [Nat.add_zero] at p0
 obtain ⟨v, hv⟩ : ∃ t, t = l.getD 0 0 := ⟨_, rfl⟩
 rw [← hv] at p0 Hn
 rw [← hv]
 clear hv
 cases hi : indG sz m x v
 ·have Hn2 : Hid (bpB sz m x v = false) := by show _ = _; unfold bpB; rw [hi]; rfl
  have Hi := Lib.hid hi
  have KT : Hid (∀ z : World, Below W.heap.size W z → Calls Tryz.prog 135 #[.agg #[.int .i64 sz, .slice A m c], .int .i64 v] z fun e w' => e = .returned (.bool false) ∧ Below z.heap.size z w') := fun z hz => by
   have := IsIndependent_ig sz A m c x v z (HK.out.keep hz) hm
   rw [Hi.out] at this
   exact this
  clear hi
  go_enter Tryz.func128, Tryz.ntmps128
  have e0 := HC.out.c0
  have e1 := HC.out.c1
  go_wp2
  rw [← HW.out]
  clear HW
  have HSC : Hid (∀ z : World, Below W.heap.size W z → (Below W.heap.size W z ∧ z.cell? ⟨w.heap.size, 0, none⟩ = some (.int .i64 sz) ∧ z.cell? ⟨w.heap.size, 1, none⟩ = some (.slice A m c) ∧ z.cell? ⟨bl, ol, none⟩ = some (.int .i64 v))) := fun z hz => ⟨hz, up_ hz e0, up_ hz e1, up_ hz p0⟩
  have HZ0 : Hid (Below W.heap.size W W.drew) := (Below.refl _ _).drew
  have HS1 := Lib.hid (HSC.out _ HZ0.out)
  have KR1 : Hid (∀ z : World, Below W.heap.size W z → _) := fun z hz => KT.out _ hz
  refine wp_region_held_drew (S := fun z => Below W.heap.size W z ∧ z.cell? ⟨w.heap.size, 0, none⟩ = some (.int .i64 sz) ∧ z.cell? ⟨w.heap.size, 1, none⟩ = some (.slice A m c) ∧ z.cell? ⟨bl, ol, none⟩ = some (.int .i64 v)) (by kernel_rfl) HS1.out (fun hHeld => ?_)
  refine pcY 0 rfl rfl (by kernel_rfl) (by rfl) (by intro w u; (try dsimp only at u); go_simp <;> with_reducible rfl) ‹_› (fun _ _ _ h => h) ?_; simp only [Act.put, sl0, sl1, sl2]
  iterate 5 (refine ptY rfl rfl (by kernel_rfl) (by rfl) (by intro w u; (try dsimp only at u); go_simp <;> with_reducible rfl) ‹_› (fun _ _ _ h => h) ?_; simp only [Act.put, sl0, sl1, sl2])
  refine wpAnyH_ready (rs := [6]) (by kernel_rfl) (by simp) ?_
  refine AllReadyH.cons rfl (fun K hK => ?_) AllReadyH.nil
  go_simp
  go_at_call 135; refine (KR1.out _ HZ0.out).mono ?_
  rintro e w1 ⟨rfl, hb1⟩
  have hz1 := bl_trans HZ0.out hb1
  refine hK.out _ _ (HSC.out _ hz1) (fun hHeld => ?_)
  clear hK K
  try simp only [Act.put, sl0, sl1, sl2]
  iterate 2 (refine ptY rfl rfl (by kernel_rfl) (by rfl) (by intro w u; (try dsimp only at u); go_simp <;> with_reducible rfl) ‹_› (fun _ _ _ h => h) ?_; simp only [Act.put, sl0, sl1, sl2])
  iterate 8 (refine ptN rfl rfl (by kernel_rfl) (by rfl) ‹_› (fun _ _ _ h => h) ?_; simp only [Act.put, sl0, sl1, sl2])
  iterate 2 (refine ptY rfl rfl (by kernel_rfl) (by rfl) (by intro w u; (try dsimp only at u); go_simp <;> with_reducible rfl) ‹_› (fun _ _ _ h => h) ?_; simp only [Act.put, sl0, sl1, sl2])
  refine wpAnyH_done (by kernel_rfl) ?_ _
  clear e0 e1
  replace HB := Lib.hid (HB.out.keep hz1)
  replace HK := Lib.hid (HK.out.keep hz1)
  replace HL := Lib.hid (HL.out.keep hz1)
  replace HC := Lib.hid (HC.out.keep hz1)
  clear hb1 hz1 HSC HZ0 HS1 KR1
  have e0 := HC.out.c0
  have e1 := HC.out.c1
  go_wp2
  go_ret
  exact ⟨ret_bool (Hn.out.trans Hn2.out).symm, HB.out.below⟩
 have Hi := Lib.hid hi
 have hset : setB sz m x v = true := by
  unfold indG at hi
  cases hq : setB sz m x v
  ·rw [hq] at hi; cases hi
  ·rfl
 obtain ⟨ho, es, s, rfl, hs⟩ := setB_parts hset
 subst es
 obtain ⟨r, _, vg, _⟩ := okB_ok' ho
 have hn7 := vg.n7
 have h128 := two_pow_le hn7
 have E := i64_andNot_nat (2 ^ m - 1) s (by omega) (by omega)
 rw [full_and hs] at E
 obtain ⟨t, ht⟩ : ∃ t, t = (2 ^ m - 1) ^^^ s := ⟨_, rfl⟩
 obtain ⟨F, hF⟩ : ∃ F, F = 2 ^ m - 1 := ⟨_, rfl⟩
 have KA : Hid (∀ z : World, Calls Tryz.prog 185 #[.agg #[.int .i64 m, .slice A m c]] z fun e w' => e = .returned (.int .i64 (F : Nat)) ∧ Below z.heap.size z w') := by rw [hF]; exact fun z => all_any m A c z hn7
 rw [← ht, ← hF] at E
 have Hn2 : Hid (bpB (m : Int) m x (s : Int) = indG (m : Int) m x (t : Int)) := by show _ = _; unfold bpB; rw [hi, ht, Int.toNat_natCast]; rfl
 have KT : Hid (∀ z : World, Below W.heap.size W z → Calls Tryz.prog 135 #[.agg #[.int .i64 m, .slice A m c], .int .i64 (s : Int)] z fun e w' => e = .returned (.bool true) ∧ Below z.heap.size z w') := fun z hz => by
  have := IsIndependent_ig (m : Int) A m c x (s : Int) z (HK.out.keep hz) hm
  rw [Hi.out] at this
  exact this
 have KU : Hid (∀ z : World, Below W.heap.size W z → Calls Tryz.prog 135 #[.agg #[.int .i64 m, .slice A m c], .int .i64 (t : Int)] z fun e w' => e = .returned (.bool (indG (m : Int) m x (t : Int))) ∧ Below z.heap.size z w') := fun z hz => by
  have := IsIndependent_ig (m : Int) A m c x (t : Int) z (HK.out.keep hz) hm
  exact this
 clear hi hset ho vg ht hF hs
 go_enter Tryz.func128, Tryz.ntmps128
 have e0 := HC.out.c0
 have e1 := HC.out.c1
 go_wp2
 rw [← HW.out]
 clear HW
 have HSC : Hid (∀ z : World, Below W.heap.size W z → (Below W.heap.size W z ∧ z.cell? ⟨w.heap.size, 0, none⟩ = some (.int .i64 m) ∧ z.cell? ⟨w.heap.size, 1, none⟩ = some (.slice A m c) ∧ z.cell? ⟨bl, ol, none⟩ = some (.int .i64 (s : Int)))) := fun z hz => ⟨hz, up_ hz e0, up_ hz e1, up_ hz p0⟩
 have HZ0 : Hid (Below W.heap.size W W.drew) := (Below.refl _ _).drew
 have HS1 := Lib.hid (HSC.out _ HZ0.out)
 have KR1 : Hid (∀ z : World, Below W.heap.size W z → _) := fun z hz => KT.out _ hz
 have KR2 : Hid (∀ z : World, Below W.heap.size W z → _) := fun z hz => KA.out z
 have KR3 : Hid (∀ z : World, Below W.heap.size W z → _) := fun z hz => KU.out _ hz
 refine wp_region_held_drew (S := fun z => Below W.heap.size W z ∧ z.cell? ⟨w.heap.size, 0, none⟩ = some (.int .i64 m) ∧ z.cell? ⟨w.heap.size, 1, none⟩ = some (.slice A m c) ∧ z.cell? ⟨bl, ol, none⟩ = some (.int .i64 (s : Int))) (by kernel_rfl) HS1.out (fun hHeld => ?_)
 refine pcY 0 rfl rfl (by kernel_rfl) (by rfl) (by intro w u; (try dsimp only at u); go_simp <;> with_reducible rfl) ‹_› (fun _ _ _ h => h) ?_; simp only [Act.put, sl0, sl1, sl2]
 iterate 5 (refine ptY rfl rfl (by kernel_rfl) (by rfl) (by intro w u; (try dsimp only at u); go_simp <;> with_reducible rfl) ‹_› (fun _ _ _ h => h) ?_; simp only [Act.put, sl0, sl1, sl2])
 refine wpAnyH_ready (rs := [6]) (by kernel_rfl) (by simp) ?_
 refine AllReadyH.cons rfl (fun K hK => ?_) AllReadyH.nil
 go_simp
 go_at_call 135; refine (KR1.out _ HZ0.out).mono ?_
 rintro e w2 ⟨rfl, hb2⟩
 have hz2 := bl_trans HZ0.out hb2
 refine hK.out _ _ (HSC.out _ hz2) (fun hHeld => ?_)
 clear hK K
 try simp only [Act.put, sl0, sl1, sl2]
 iterate 4 (refine ptY rfl rfl (by kernel_rfl) (by rfl) (by intro w u; (try dsimp only at u); go_simp <;> with_reducible rfl) ‹_› (fun _ _ _ h => h) ?_; simp only [Act.put, sl0, sl1, sl2])
 refine pcY 12 rfl rfl (by kernel_rfl) (by rfl) (by intro w u; (try dsimp only at u); go_simp <;> with_reducible rfl) ‹_› (fun _ _ _ h => h) ?_; simp only [Act.put, sl0, sl1, sl2]
 iterate 2 (refine ptY rfl rfl (by kernel_rfl) (by rfl) (by intro w u; (try dsimp only at u); go_simp <;> with_reducible rfl) ‹_› (fun _ _ _ h => h) ?_; simp only [Act.put, sl0, sl1, sl2])
 refine wpAnyH_ready (rs := [11]) (by kernel_rfl) (by simp) ?_
 refine AllReadyH.cons rfl (fun K hK => ?_) AllReadyH.nil
 go_simp
 go_at_call 185; refine (KR2.out _ hz2).mono ?_
 rintro e w3 ⟨rfl, hb3⟩
 have hz3 := bl_trans hz2 hb3
 refine hK.out _ _ (HSC.out _ hz3) (fun hHeld => ?_)
 clear hK K
 try simp only [Act.put, sl0, sl1, sl2]
 refine pcY 15 rfl rfl (by kernel_rfl) (by rfl) (by intro w u; (try dsimp only at u); go_simp <;> with_reducible rfl) ‹_› (fun _ _ _ h => h) ?_; simp only [Act.put, sl0, sl1, sl2]
 refine wpAnyH_ready (rs := [16]) (by kernel_rfl) (by simp) ?_
 refine AllReadyH.cons rfl (fun K hK => ?_) AllReadyH.nil
 go_simp
 go_at_call 135; refine (KR3.out _ hz3).mono ?_
 rintro e w4 ⟨rfl, hb4⟩
 have hz4 := bl_trans hz3 hb4
 refine hK.out _ _ (HSC.out _ hz4) (fun hHeld => ?_)
 clear hK K
 try simp only [Act.put, sl0, sl1, sl2]
 iterate 2 (refine ptY rfl rfl (by kernel_rfl) (by rfl) (by intro w u; (try dsimp only at u); go_simp <;> with_reducible rfl) ‹_› (fun _ _ _ h => h) ?_; simp only [Act.put, sl0, sl1, sl2])
 refine wpAnyH_done (by kernel_rfl) ?_ _
 clear e0 e1
 replace HB := Lib.hid (HB.out.keep hz4)
 replace HK := Lib.hid (HK.out.keep hz4)
 replace HL := Lib.hid (HL.out.keep hz4)
 replace HC := Lib.hid (HC.out.keep hz4)
 clear hb2 hz2 hb3 hz3 hb4 hz4 HSC HZ0 HS1 KR1 KR2 KR3
 have e0 := HC.out.c0
 have e1 := HC.out.c1
 go_wp2
 go_ret
 exact ⟨ret_bool (Hn.out.trans Hn2.out).symm, HB.out.below⟩
theorem IsModelFor_i (h : GA w A m c x) (hl : LI w Al n cl l) (ho : LI w Ao k co ol) (hm : m ≤ 1048576) (hn : n ≤ 1048576) (hk : k ≤ 1048576) :
 Calls Tryz.prog 128 #[.agg #[.int .i64 sz, .slice A m c], .string str, .slice Al n cl, .slice Ao k co] w fun e w' => e = .returned (.bool (mfB sz m x str.toList l ol)) ∧ Below w.heap.size w w' := by
 unfold mfB
 by_cases hs0 : str.toList = [105, 110, 116, 101, 114, 118, 97, 108]
 ·rw [if_pos hs0]
  exact mf_i_interval sz A m c x str Al n cl l Ao k co ol w h hl hm hn ho hk hs0
 by_cases hs1 : str.toList = [116, 104, 114, 101, 115, 104, 111, 108, 100]
 ·rw [if_neg hs0, if_pos hs1]
  exact mf_i_threshold sz A m c x str Al n cl l Ao k co ol w h hl hm hn ho hk hs1
 by_cases hz : k = 0
 rotate_left
 ·rw [if_neg hs0, if_neg hs1, if_pos (by have := ho.len; omega)]
  exact mf_i_more sz A m c x str Al n cl l Ao k co w h hl hm hn (by omega) hs0 hs1
 have hz2 : ¬ ol.length ≠ 0 := by have := ho.len; omega
 subst hz
 by_cases hs2 : str.toList = [99, 104, 111, 114, 100, 97, 108]
 ·rw [if_neg hs0, if_neg hs1, if_neg hz2, if_pos hs2]
  exact mf_i_chordal sz A m c x str Al n cl l Ao co w h hl hm hn hs2
 by_cases hs3 : str.toList = [112, 114, 111, 112, 101, 114]
 ·rw [if_neg hs0, if_neg hs1, if_neg hz2, if_neg hs2, if_pos hs3]
  exact mf_i_proper sz A m c x str Al n cl l Ao co w h hl hm hn hs3
 by_cases hs4 : str.toList = [99, 111, 103, 114, 97, 112, 104]
 ·rw [if_neg hs0, if_neg hs1, if_neg hz2, if_neg hs2, if_neg hs3, if_pos hs4]
  exact mf_i_cograph sz A m c x str Al n cl l Ao co w h hl hm hn hs4
 by_cases hs5 : str.toList = [115, 112, 108, 105, 116]
 ·rw [if_neg hs0, if_neg hs1, if_neg hz2, if_neg hs2, if_neg hs3, if_neg hs4, if_pos hs5]
  exact mf_i_split sz A m c x str Al n cl l Ao co w h hl hm hn hs5
 by_cases hs6 : str.toList = [98, 105, 112, 97, 114, 116, 105, 116, 101]
 ·rw [if_neg hs0, if_neg hs1, if_neg hz2, if_neg hs2, if_neg hs3, if_neg hs4, if_neg hs5, if_pos hs6]
  exact mf_i_bipartite sz A m c x str Al n cl l Ao co w h hl hm hn hs6
 by_cases hs7 : str.toList = [115, 116, 114, 111, 110, 103]
 ·rw [if_neg hs0, if_neg hs1, if_neg hz2, if_neg hs2, if_neg hs3, if_neg hs4, if_neg hs5, if_neg hs6, if_pos hs7]
  exact mf_i_strong sz A m c x str Al n cl l Ao co w h hl hm hn hs7
 rw [if_neg hs0, if_neg hs1, if_neg hz2, if_neg hs2, if_neg hs3, if_neg hs4, if_neg hs5, if_neg hs6, if_neg hs7]
 exact mf_i_none sz A m c x str Al n cl l Ao co w h hl hm hn hs0 hs1 hs2 hs3 hs4 hs5 hs6 hs7
end
end Go.Proofs.YtdpkbfiggbcclaaGreat
