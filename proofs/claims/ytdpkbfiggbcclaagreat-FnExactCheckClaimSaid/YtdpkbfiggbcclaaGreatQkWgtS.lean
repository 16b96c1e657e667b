/-
-/
import Derived.Test.YtdpkbfiggbcclaaGreatQkTake
import Derived.Test.YtdpkbfiggbcclaaGreatQkUmbS
namespace Go.Proofs.YtdpkbfiggbcclaaGreat
open Go.RowKit
theorem l1In_b {n lo hi : Int} (w : World) {b : Bool} (h : decide (lo ≤ n ∧ n ≤ hi) = b) : Calls Tryz.prog 191 #[.int .i64 n, .int .i64 lo, .int .i64 hi] w fun e w' => e = .returned (.bool b) ∧ Below w.heap.size w w' :=
 (l1In_any n lo hi w).mono fun _ _ ⟨h1, h2⟩ => ⟨by rw [h1, ← h]; simp, h2 ▸ Below.refl _ _⟩
set_option maxRecDepth 100000 in
set_option maxHeartbeats 3200000 in
theorem AreThresholdWeights_s (sz : Int) (A : Option Addr) (m c : Nat) (x : Nat → Int) (Al : Option Addr) (n cl : Nat) (l : List Int) (lim : Int) (w : World) (h : GA w A m c x) (hl : LI w Al n cl l) (hm : m ≤ 1048576) (hn : n ≤ 1048576) :
 Calls Tryz.prog 236 #[.agg #[.int .i64 sz, .slice A m c], .slice Al n cl, .int .i64 lim] w fun e w' => e = .returned (.bool (wgG sz m x l lim)) ∧ Below w.heap.size w w' := by
 obtain ⟨W, hW⟩ : ∃ W : World, W = (w.alloc (Obj.cells #[Value.int IntKind.i64 sz, Value.slice A m c] 28)) := ⟨_, rfl⟩
 have HB : Hid (From w W) := by rw [hW]; exact From.alloc _ _
 have HK := Lib.hid (h.keep HB.out.below)
 have HL := Lib.hid (hl.keep HB.out.below)
 have HC : Hid (GC W w.heap.size sz A m c) := by rw [hW]; exact GC.new _ _ _ _ _
 have HW := Lib.hid hW
 have HN := Lib.hid hl.len
 clear hW h hl
 go_enter Tryz.func236, Tryz.ntmps236
 have e0 := HC.out.c0
 have e1 := HC.out.c1
 go_wp2_with fail
 rw [← HW.out]
 refine (IsGraph_sany sz A m c x W W.heap.size HK.out.rd (Nat.le_refl _) hm).mono ?_
 rintro e w1 ⟨rfl, hb1⟩
 clear HW
 clear e0 e1
 replace HB := Lib.hid (HB.out.keep hb1)
 replace HK := Lib.hid (HK.out.keep hb1)
 replace HL := Lib.hid (HL.out.keep hb1)
 replace HC := Lib.hid (HC.out.keep hb1)
 clear hb1
 have e0 := HC.out.c0
 have e1 := HC.out.c1
 cases ho : okB sz m x
 ·have Hn : Hid (wgG sz m x l lim = false) := wgG_ok ho
  clear ho
  go_wp2
  go_ret
  exact ⟨ret_bool Hn.out.symm, HB.out.below⟩
 obtain ⟨_, es, vg0, _⟩ := okB_ok' ho
 subst es
 have hn7 := vg0.n7
 have HG : Hid (GV w1 A m c (rw_ x)) := HK.out.gv ho
 have HV := Lib.hid HG.out.vg
 by_cases hnm : n = m
 rotate_left
 ·have Hn : Hid (wgG (m : Int) m x l lim = false) := wgG_len (by rw [← HN.out]; exact hnm)
  have d1 : ((n : Int) != (m : Int)) = true := by simp; omega
  clear ho vg0 hnm
  go_wp2
  go_ret
  exact ⟨ret_bool Hn.out.symm, HB.out.below⟩
 subst hnm
 have d1 : ((n : Int) != (n : Int)) = false := by simp
 by_cases hli : 0 ≤ lim ∧ lim ≤ 1000000
 rotate_left
 ·have Hn : Hid (wgG (n : Int) n x l lim = false) := wgG_lim hli
  have KW := Lib.hid (decide_eq_false hli)
  clear ho vg0 hli
  go_wp2_with fail
  refine (l1In_b (n := lim) (lo := 0) (hi := 1000000) w1 KW.out).mono ?_
  rintro e w2 ⟨rfl, hb2⟩
  clear e0 e1
  replace HB := Lib.hid (HB.out.keep hb2)
  replace HK := Lib.hid (HK.out.keep hb2)
  replace HL := Lib.hid (HL.out.keep hb2)
  replace HC := Lib.hid (HC.out.keep hb2)
  clear hb2
  have e0 := HC.out.c0
  have e1 := HC.out.c1
  go_wp2
  go_ret
  exact ⟨ret_bool Hn.out.symm, HB.out.below⟩
 have Hy : Hid (wgG (n : Int) n x l lim = wgB (rw_ x) n l lim) := wgG_yes ho HN.out.symm hli
 have KW := Lib.hid (decide_eq_true hli)
 clear ho vg0
 go_wp2_with fail
 refine (l1In_b (n := lim) (lo := 0) (hi := 1000000) w1 KW.out).mono ?_
 rintro e w3 ⟨rfl, hb3⟩
 clear e0 e1
 replace HB := Lib.hid (HB.out.keep hb3)
 replace HK := Lib.hid (HK.out.keep hb3)
 replace HL := Lib.hid (HL.out.keep hb3)
 replace HC := Lib.hid (HC.out.keep hb3)
 replace HG := Lib.hid (HG.out.keep hb3)
 clear hb3
 have e0 := HC.out.c0
 have e1 := HC.out.c1
 have HR0 : Hid (From w3 w3) := From.refl w3
 clear e0 e1 KW
 go_wp2
 go_loopw [7] (fun i wr => ∃ v : Nat, v ≤ n ∧ i = .int .i64 v ∧ Hid (Tw1 l v) ∧ Hid (From w3 wr)) (fun i _ => n - (intOf i).toNat)
 case atStart => exact ⟨0, Nat.zero_le _, rfl, Tw1.zero, HR0⟩
 case round =>
  clear HR0
  obtain ⟨v, hv, rfl, H1, HR⟩ := hrel
  have HBr := Lib.hid (HB.out.up HR.out)
  have HCr := Lib.hid (HC.out.keep HR.out.below)
  have e0 := HCr.out.c0
  by_cases hvn : v < n
  ·have i1 : (v : Int) < (n : Int) := by omega
   have HLr := Lib.hid (HL.out.keep HR.out.below)
   obtain ⟨bl, ol, rfl⟩ := HLr.out.addr (by omega)
   have p0 := HLr.out.at hvn
   obtain ⟨b, hb⟩ : ∃ b : Int, b = l.getD v 0 := ⟨_, rfl⟩
   rw [← hb] at p0
   by_cases hbr : 0 ≤ b ∧ b ≤ 1000000
   rotate_left
   ·have Hn : Hid (wgB (rw_ x) n l lim = false) := wg_no1 hvn (by rw [← hb]; exact hbr)
    have KB := Lib.hid (decide_eq_false hbr)
    clear hbr hb
    go_wp2_with fail
    refine (l1In_b (n := b) (lo := 0) (hi := 1000000) wr KB.out).mono ?_
    rintro e w4 ⟨rfl, hb4⟩
    replace HBr := Lib.hid (HBr.out.keep hb4)
    clear hb4
    go_wp2
    go_ret
    exact ⟨ret_bool (by rw [Hy.out, Hn.out]), HBr.out.below⟩
   have H1' : Hid (Tw1 l (v + 1)) := H1.out.step (by rw [← hb]; exact hbr)
   have KB := Lib.hid (decide_eq_true hbr)
   clear hb
   go_wp2_with fail
   refine (l1In_b (n := b) (lo := 0) (hi := 1000000) wr KB.out).mono ?_
   rintro e w5 ⟨rfl, hb5⟩
   replace HR := Lib.hid (HR.out.keep hb5)
   clear hb5
   go_wp2
   go_roundw
   case rel => exact ⟨v + 1, by omega, by go_num, H1', HR⟩
   case measure => (simp [intOf] <;> omega)
  ·obtain rfl : n = v := by omega
   have HL1 := H1
   clear hvn
   go_wp2
   go_loopw [8] (fun i wr => ∃ v : Nat, v ≤ n ∧ i = .int .i64 v ∧ Hid (Tw2 (rw_ x) l lim v) ∧ Hid (From w3 wr)) (fun i _ => n - (intOf i).toNat)
   case atStart => exact ⟨0, Nat.zero_le _, rfl, Tw2.zero, HR⟩
   case round =>
    clear HR HBr HCr e0 H1 hv
    obtain ⟨v, hv, rfl, H2, HR⟩ := hrel
    have HBr := Lib.hid (HB.out.up HR.out)
    have HCr := Lib.hid (HC.out.keep HR.out.below)
    have e0 := HCr.out.c0
    by_cases hvn : v < n
    ·have i1 : (v : Int) < (n : Int) := by omega
     go_wp2
     go_loopw [9] (fun i wr => ∃ k : Nat, k ≤ v ∧ i = .int .i64 k ∧ Hid (∀ u, u < k → Twp (rw_ x) l lim v u) ∧ Hid (From w3 wr)) (fun i _ => v - (intOf i).toNat)
     case atStart => exact ⟨0, Nat.zero_le _, rfl, (fun u hu => absurd hu (by omega)), HR⟩
     case round =>
      clear HR HBr HCr e0
      obtain ⟨k, hk, rfl, H3, HR⟩ := hrel
      by_cases hkv : k < v
      ·have i2 : (k : Int) < (v : Int) := by omega
       have i3 : (k : Int) < (n : Int) := by omega
       have HBr := Lib.hid (HB.out.up HR.out)
       have HLr := Lib.hid (HL.out.keep HR.out.below)
       have HGr := Lib.hid (HG.out.keep HR.out.below)
       have HCr := Lib.hid (HC.out.keep HR.out.below)
       have e0 := HCr.out.c0
       have e1 := HCr.out.c1
       obtain ⟨bl, ol, rfl⟩ := HLr.out.addr (by omega)
       have p0 := HLr.out.at hvn
       have p1 := HLr.out.at (show k < n by omega)
       have ha := HL1.out k (by omega)
       have hbb := HL1.out v hvn
       have Hp0 : Twp (rw_ x) l lim v k ↔ (rw_ x v).testBit k = decide (lim < l.getD v 0 + l.getD k 0) := by unfold Twp; rw [Int.add_comm]
       obtain ⟨a, ha'⟩ : ∃ a : Int, a = l.getD k 0 := ⟨_, rfl⟩
       obtain ⟨b, hb'⟩ : ∃ b : Int, b = l.getD v 0 := ⟨_, rfl⟩
       rw [← ha'] at p1 ha
       rw [← hb'] at p0 hbb
       rw [← ha', ← hb'] at Hp0
       have Hp := Lib.hid Hp0
       have s1 : wrap64 (b + a) = b + a := Go.IntWalk.wrap64_in _ (by omega)
       have s2 : IntKind.i64.wrap (b + a) = b + a := Go.IntWalk.i64_in _ (by omega)
       have hkn : k < n := by omega
       have HG0 := HGr
       clear ha' hb' Hp0
       cases h1 : (rw_ x v).testBit k
       ·have K1 := Lib.hid (edge_b HG0.out hvn hkn h1)
        by_cases hg : lim < b + a
        ·have d2 : decide (lim < b + a) = true := decide_eq_true hg
         have Hn : Hid (wgB (rw_ x) n l lim = false) := wg_no2 hvn hkv fun ht => by
          have := Hp.out.1 ht
          rw [h1, decide_eq_true hg] at this; cases this
         clear h1 hg
         go_wp2
         have HSC : Hid (∀ z : World, Below wr.heap.size wr z → (Below wr.heap.size wr z ∧ z.cell? ⟨w.heap.size, 0, none⟩ = some (.int .i64 (n : Int)) ∧ z.cell? ⟨w.heap.size, 1, none⟩ = some (.slice A n c) ∧ z.cell? ⟨bl, ol + v, none⟩ = some (.int .i64 b) ∧ z.cell? ⟨bl, ol + k, none⟩ = some (.int .i64 a))) := fun z hz => ⟨hz, up_ hz e0, up_ hz e1, up_ hz p0, up_ hz p1⟩
         have HZ0 : Hid (Below wr.heap.size wr wr.drew) := (Below.refl _ _).drew
         have HS1 := Lib.hid (HSC.out _ HZ0.out)
         have KR1 : Hid (∀ z : World, Below wr.heap.size wr z → _) := fun z hz => K1.out _ hz
         refine wp_region_held_drew (S := fun z => Below wr.heap.size wr z ∧ z.cell? ⟨w.heap.size, 0, none⟩ = some (.int .i64 (n : Int)) ∧ z.cell? ⟨w.heap.size, 1, none⟩ = some (.slice A n c) ∧ z.cell? ⟨bl, ol + v, none⟩ = some (.int .i64 b) ∧ z.cell? ⟨bl, ol + k, none⟩ = some (.int .i64 a)) (by kernel_rfl) HS1.out (fun hHeld => ?_)
         refine pcY 0 rfl rfl (by kernel_rfl) (by rfl) (by intro w u; (try dsimp only at u); go_simp <;> with_reducible rfl) ‹_› (fun _ _ _ h => h) ?_; simp only [Act.put, sl0, sl1, sl2]
         iterate 2 (refine ptY rfl rfl (by kernel_rfl) (by rfl) (by intro w u; (try dsimp only at u); go_simp <;> with_reducible rfl) ‹_› (fun _ _ _ h => h) ?_; simp only [Act.put, sl0, sl1, sl2])
         refine pcY 4 rfl rfl (by kernel_rfl) (by rfl) (by intro w u; (try dsimp only at u); go_simp <;> with_reducible rfl) ‹_› (fun _ _ _ h => h) ?_; simp only [Act.put, sl0, sl1, sl2]
         iterate 10 (refine ptY rfl rfl (by kernel_rfl) (by rfl) (by intro w u; (try dsimp only at u); go_simp <;> with_reducible rfl) ‹_› (fun _ _ _ h => h) ?_; simp only [Act.put, sl0, sl1, sl2])
         refine wpAnyH_ready (rs := [3]) (by kernel_rfl) (by simp) ?_
         refine AllReadyH.cons rfl (fun K hK => ?_) AllReadyH.nil
         go_simp
         go_at_call 85; refine (KR1.out _ HZ0.out).mono ?_
         rintro e w6 ⟨rfl, hb6⟩
         have hz6 := bl_trans HZ0.out hb6
         refine hK.out _ _ (HSC.out _ hz6) (fun hHeld => ?_)
         clear hK K
         try simp only [Act.put, sl0, sl1, sl2]
         refine pcY 15 rfl rfl (by kernel_rfl) (by rfl) (by intro w u; (try dsimp only at u); go_simp <;> with_reducible rfl) ‹_› (fun _ _ _ h => h) ?_; simp only [Act.put, sl0, sl1, sl2]
         refine wpAnyH_done (by kernel_rfl) ?_ _
         replace HR := Lib.hid (HR.out.keep hz6)
         replace HBr := Lib.hid (HBr.out.keep hz6)
         clear hb6 hz6 HSC HZ0 HS1 KR1
         go_wp2
         go_ret
         exact ⟨ret_bool (by rw [Hy.out, Hn.out]), HBr.out.below⟩
        ·have d2 : decide (lim < b + a) = false := decide_eq_false hg
         have H3' : Hid (∀ u, u < k + 1 → Twp (rw_ x) l lim v u) := fun u hu => by
          by_cases e : u < k
          ·exact H3.out u e
          ·obtain rfl : u = k := by omega
           exact Hp.out.2 (by rw [h1, decide_eq_false hg])
         clear h1 hg
         go_wp2
         have HSC : Hid (∀ z : World, Below wr.heap.size wr z → (Below wr.heap.size wr z ∧ z.cell? ⟨w.heap.size, 0, none⟩ = some (.int .i64 (n : Int)) ∧ z.cell? ⟨w.heap.size, 1, none⟩ = some (.slice A n c) ∧ z.cell? ⟨bl, ol + v, none⟩ = some (.int .i64 b) ∧ z.cell? ⟨bl, ol + k, none⟩ = some (.int .i64 a))) := fun z hz => ⟨hz, up_ hz e0, up_ hz e1, up_ hz p0, up_ hz p1⟩
         have HZ0 : Hid (Below wr.heap.size wr wr.drew) := (Below.refl _ _).drew
         have HS1 := Lib.hid (HSC.out _ HZ0.out)
         have KR1 : Hid (∀ z : World, Below wr.heap.size wr z → _) := fun z hz => K1.out _ hz
         refine wp_region_held_drew (S := fun z => Below wr.heap.size wr z ∧ z.cell? ⟨w.heap.size, 0, none⟩ = some (.int .i64 (n : Int)) ∧ z.cell? ⟨w.heap.size, 1, none⟩ = some (.slice A n c) ∧ z.cell? ⟨bl, ol + v, none⟩ = some (.int .i64 b) ∧ z.cell? ⟨bl, ol + k, none⟩ = some (.int .i64 a)) (by kernel_rfl) HS1.out (fun hHeld => ?_)
         refine pcY 0 rfl rfl (by kernel_rfl) (by rfl) (by intro w u; (try dsimp only at u); go_simp <;> with_reducible rfl) ‹_› (fun _ _ _ h => h) ?_; simp only [Act.put, sl0, sl1, sl2]
         iterate 2 (refine ptY rfl rfl (by kernel_rfl) (by rfl) (by intro w u; (try dsimp only at u); go_simp <;> with_reducible rfl) ‹_› (fun _ _ _ h => h) ?_; simp only [Act.put, sl0, sl1, sl2])
         refine pcY 4 rfl rfl (by kernel_rfl) (by rfl) (by intro w u; (try dsimp only at u); go_simp <;> with_reducible rfl) ‹_› (fun _ _ _ h => h) ?_; simp only [Act.put, sl0, sl1, sl2]
         iterate 10 (refine ptY rfl rfl (by kernel_rfl) (by rfl) (by intro w u; (try dsimp only at u); go_simp <;> with_reducible rfl) ‹_› (fun _ _ _ h => h) ?_; simp only [Act.put, sl0, sl1, sl2])
         refine wpAnyH_ready (rs := [3]) (by kernel_rfl) (by simp) ?_
         refine AllReadyH.cons rfl (fun K hK => ?_) AllReadyH.nil
         go_simp
         go_at_call 85; refine (KR1.out _ HZ0.out).mono ?_
         rintro e w7 ⟨rfl, hb7⟩
         have hz7 := bl_trans HZ0.out hb7
         refine hK.out _ _ (HSC.out _ hz7) (fun hHeld => ?_)
         clear hK K
         try simp only [Act.put, sl0, sl1, sl2]
         refine pcY 15 rfl rfl (by kernel_rfl) (by rfl) (by intro w u; (try dsimp only at u); go_simp <;> with_reducible rfl) ‹_› (fun _ _ _ h => h) ?_; simp only [Act.put, sl0, sl1, sl2]
         refine wpAnyH_done (by kernel_rfl) ?_ _
         replace HR := Lib.hid (HR.out.keep hz7)
         replace HBr := Lib.hid (HBr.out.keep hz7)
         clear hb7 hz7 HSC HZ0 HS1 KR1
         go_wp2
         first
          | (refine ⟨⟨k + 1, by omega, by go_num, H3', HR⟩, ?_⟩
             simp [intOf] <;> omega)
          | (go_roundw
             case rel => exact ⟨k + 1, by omega, by go_num, H3', HR⟩
             case measure => (simp [intOf] <;> omega))
       ·have K1 := Lib.hid (edge_b HG0.out hvn hkn h1)
        by_cases hg : lim < b + a
        ·have d2 : decide (lim < b + a) = true := decide_eq_true hg
         have H3' : Hid (∀ u, u < k + 1 → Twp (rw_ x) l lim v u) := fun u hu => by
          by_cases e : u < k
          ·exact H3.out u e
          ·obtain rfl : u = k := by omega
           exact Hp.out.2 (by rw [h1, decide_eq_true hg])
         clear h1 hg
         go_wp2
         have HSC : Hid (∀ z : World, Below wr.heap.size wr z → (Below wr.heap.size wr z ∧ z.cell? ⟨w.heap.size, 0, none⟩ = some (.int .i64 (n : Int)) ∧ z.cell? ⟨w.heap.size, 1, none⟩ = some (.slice A n c) ∧ z.cell? ⟨bl, ol + v, none⟩ = some (.int .i64 b) ∧ z.cell? ⟨bl, ol + k, none⟩ = some (.int .i64 a))) := fun z hz => ⟨hz, up_ hz e0, up_ hz e1, up_ hz p0, up_ hz p1⟩
         have HZ0 : Hid (Below wr.heap.size wr wr.drew) := (Below.refl _ _).drew
         have HS1 := Lib.hid (HSC.out _ HZ0.out)
         have KR1 : Hid (∀ z : World, Below wr.heap.size wr z → _) := fun z hz => K1.out _ hz
         refine wp_region_held_drew (S := fun z => Below wr.heap.size wr z ∧ z.cell? ⟨w.heap.size, 0, none⟩ = some (.int .i64 (n : Int)) ∧ z.cell? ⟨w.heap.size, 1, none⟩ = some (.slice A n c) ∧ z.cell? ⟨bl, ol + v, none⟩ = some (.int .i64 b) ∧ z.cell? ⟨bl, ol + k, none⟩ = some (.int .i64 a)) (by kernel_rfl) HS1.out (fun hHeld => ?_)
         refine pcY 0 rfl rfl (by kernel_rfl) (by rfl) (by intro w u; (try dsimp only at u); go_simp <;> with_reducible rfl) ‹_› (fun _ _ _ h => h) ?_; simp only [Act.put, sl0, sl1, sl2]
         iterate 2 (refine ptY rfl rfl (by kernel_rfl) (by rfl) (by intro w u; (try dsimp only at u); go_simp <;> with_reducible rfl) ‹_› (fun _ _ _ h => h) ?_; simp only [Act.put, sl0, sl1, sl2])
         refine pcY 4 rfl rfl (by kernel_rfl) (by rfl) (by intro w u; (try dsimp only at u); go_simp <;> with_reducible rfl) ‹_› (fun _ _ _ h => h) ?_; simp only [Act.put, sl0, sl1, sl2]
         iterate 10 (refine ptY rfl rfl (by kernel_rfl) (by rfl) (by intro w u; (try dsimp only at u); go_simp <;> with_reducible rfl) ‹_› (fun _ _ _ h => h) ?_; simp only [Act.put, sl0, sl1, sl2])
         refine wpAnyH_ready (rs := [3]) (by kernel_rfl) (by simp) ?_
         refine AllReadyH.cons rfl (fun K hK => ?_) AllReadyH.nil
         go_simp
         go_at_call 85; refine (KR1.out _ HZ0.out).mono ?_
         rintro e w8 ⟨rfl, hb8⟩
         have hz8 := bl_trans HZ0.out hb8
         refine hK.out _ _ (HSC.out _ hz8) (fun hHeld => ?_)
         clear hK K
         try simp only [Act.put, sl0, sl1, sl2]
         refine pcY 15 rfl rfl (by kernel_rfl) (by rfl) (by intro w u; (try dsimp only at u); go_simp <;> with_reducible rfl) ‹_› (fun _ _ _ h => h) ?_; simp only [Act.put, sl0, sl1, sl2]
         refine wpAnyH_done (by kernel_rfl) ?_ _
         replace HR := Lib.hid (HR.out.keep hz8)
         replace HBr := Lib.hid (HBr.out.keep hz8)
         clear hb8 hz8 HSC HZ0 HS1 KR1
         go_wp2
         first
          | (refine ⟨⟨k + 1, by omega, by go_num, H3', HR⟩, ?_⟩
             simp [intOf] <;> omega)
          | (go_roundw
             case rel => exact ⟨k + 1, by omega, by go_num, H3', HR⟩
             case measure => (simp [intOf] <;> omega))
        ·have d2 : decide (lim < b + a) = false := decide_eq_false hg
         have Hn : Hid (wgB (rw_ x) n l lim = false) := wg_no2 hvn hkv fun ht => by
          have := Hp.out.1 ht
          rw [h1, decide_eq_false hg] at this; cases this
         clear h1 hg
         go_wp2
         have HSC : Hid (∀ z : World, Below wr.heap.size wr z → (Below wr.heap.size wr z ∧ z.cell? ⟨w.heap.size, 0, none⟩ = some (.int .i64 (n : Int)) ∧ z.cell? ⟨w.heap.size, 1, none⟩ = some (.slice A n c) ∧ z.cell? ⟨bl, ol + v, none⟩ = some (.int .i64 b) ∧ z.cell? ⟨bl, ol + k, none⟩ = some (.int .i64 a))) := fun z hz => ⟨hz, up_ hz e0, up_ hz e1, up_ hz p0, up_ hz p1⟩
         have HZ0 : Hid (Below wr.heap.size wr wr.drew) := (Below.refl _ _).drew
         have HS1 := Lib.hid (HSC.out _ HZ0.out)
         have KR1 : Hid (∀ z : World, Below wr.heap.size wr z → _) := fun z hz => K1.out _ hz
         refine wp_region_held_drew (S := fun z => Below wr.heap.size wr z ∧ z.cell? ⟨w.heap.size, 0, none⟩ = some (.int .i64 (n : Int)) ∧ z.cell? ⟨w.heap.size, 1, none⟩ = some (.slice A n c) ∧ z.cell? ⟨bl, ol + v, none⟩ = some (.int .i64 b) ∧ z.cell? ⟨bl, ol + k, none⟩ = some (.int .i64 a)) (by kernel_rfl) HS1.out (fun hHeld => ?_)
         refine pcY 0 rfl rfl (by kernel_rfl) (by rfl) (by intro w u; (try dsimp only at u); go_simp <;> with_reducible rfl) ‹_› (fun _ _ _ h => h) ?_; simp only [Act.put, sl0, sl1, sl2]
         iterate 2 (refine ptY rfl rfl (by kernel_rfl) (by rfl) (by intro w u; (try dsimp only at u); go_simp <;> with_reducible rfl) ‹_› (fun _ _ _ h => h) ?_; simp only [Act.put, sl0, sl1, sl2])
         refine pcY 4 rfl rfl (by kernel_rfl) (by rfl) (by intro w u; (try dsimp only at u); go_simp <;> with_reducible rfl) ‹_› (fun _ _ _ h => h) ?_; simp only [Act.put, sl0, sl1, sl2]
         iterate 10 (refine ptY rfl rfl (by kernel_rfl) (by rfl) (by intro w u; (try dsimp only at u); go_simp <;> with_reducible rfl) ‹_› (fun _ _ _ h => h) ?_; simp only [Act.put, sl0, sl1, sl2])
         refine wpAnyH_ready (rs := [3]) (by kernel_rfl) (by simp) ?_
         refine AllReadyH.cons rfl (fun K hK => ?_) AllReadyH.nil
         go_simp
         go_at_call 85; refine (KR1.out _ HZ0.out).mono ?_
         rintro e w9 ⟨rfl, hb9⟩
         have hz9 := bl_trans HZ0.out hb9
         refine hK.out _ _ (HSC.out _ hz9) (fun hHeld => ?_)
         clear hK K
         try simp only [Act.put, sl0, sl1, sl2]
         refine pcY 15 rfl rfl (by kernel_rfl) (by rfl) (by intro w u; (try dsimp only at u); go_simp <;> with_reducible rfl) ‹_› (fun _ _ _ h => h) ?_; simp only [Act.put, sl0, sl1, sl2]
         refine wpAnyH_done (by kernel_rfl) ?_ _
         replace HR := Lib.hid (HR.out.keep hz9)
         replace HBr := Lib.hid (HBr.out.keep hz9)
         clear hb9 hz9 HSC HZ0 HS1 KR1
         go_wp2
         go_ret
         exact ⟨ret_bool (by rw [Hy.out, Hn.out]), HBr.out.below⟩
      ·have H2' : Hid (Tw2 (rw_ x) l lim (v + 1)) := H2.out.step fun u hu => H3.out u (by omega)
       have i2 : (v : Int) ≤ (k : Int) := by omega
       go_wp2
       go_roundw
       case rel => exact ⟨v + 1, by omega, by go_num, H2', HR⟩
       case measure => (simp [intOf] <;> omega)
    ·obtain rfl : n = v := by omega
     have Hn : Hid (wgB (rw_ x) n l lim = true) := wg_yes HL1.out H2.out
     go_wp2
     go_ret
     exact ⟨ret_bool (by rw [Hy.out, Hn.out]), HBr.out.below⟩
end Go.Proofs.YtdpkbfiggbcclaaGreat
