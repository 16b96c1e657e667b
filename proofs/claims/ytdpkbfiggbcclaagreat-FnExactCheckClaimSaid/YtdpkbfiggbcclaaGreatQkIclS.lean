/-
-/
import Derived.Test.YtdpkbfiggbcclaaGreatQkIclI
import Derived.Test.YtdpkbfiggbcclaaGreatQkWgtS
namespace Go.Proofs.YtdpkbfiggbcclaaGreat
open Go.RowKit
set_option maxRecDepth 100000 in
set_option maxHeartbeats 3200000 in
theorem IsColoring_s (sz : Int) (A : Option Addr) (m c : Nat) (x : Nat → Int) (Al : Option Addr) (n cl : Nat) (l : List Int) (w : World) (h : GA w A m c x) (hl : LI w Al n cl l) (hm : m ≤ 1048576) (hn : n ≤ 1048576) :
 Calls Tryz.prog 119 #[.agg #[.int .i64 sz, .slice A m c], .slice Al n cl] w fun e w' => e = .returned (.bool (iclG sz m x l)) ∧ Below w.heap.size w w' := by
 obtain ⟨W, hW⟩ : ∃ W : World, W = (w.alloc (Obj.cells #[Value.int IntKind.i64 sz, Value.slice A m c] 28)) := ⟨_, rfl⟩
 have HB : Hid (From w W) := by rw [hW]; exact From.alloc _ _
 have HK := Lib.hid (h.keep HB.out.below)
 have HL := Lib.hid (hl.keep HB.out.below)
 have HC : Hid (GC W w.heap.size sz A m c) := by rw [hW]; exact GC.new _ _ _ _ _
 have HW := Lib.hid hW
 have HN := Lib.hid hl.len
 clear hW h hl
 go_enter Tryz.func119, Tryz.ntmps119
 have e0 := HC.out.c0
 have e1 := HC.out.c1
 go_wp2_with fail
 rw [← HW.out]
 refine (IsGraph_sany sz A m c x W W.heap.size HK.out.rd (Nat.le_refl _) hm).mono ?_
 rintro e w1 ⟨rfl, hb1⟩
 clear HW
 clear e0 e1
 replace HB := Lib.hid (HB.out.keep hb1)
 replace HK := Lib.hid (HK.out.keep hb1)
 replace HL := Lib.hid (HL.out.keep hb1)
 replace HC := Lib.hid (HC.out.keep hb1)
 clear hb1
 have e0 := HC.out.c0
 have e1 := HC.out.c1
 cases ho : okB sz m x
 ·have Hn : Hid (iclG sz m x l = false) := iclG_ok ho
  clear ho
  go_wp2
  go_ret
  exact ⟨ret_bool Hn.out.symm, HB.out.below⟩
 obtain ⟨_, es, vg0, _⟩ := okB_ok' ho
 subst es
 have hn7 := vg0.n7
 have HG : Hid (GV w1 A m c (rw_ x)) := HK.out.gv ho
 have HV := Lib.hid HG.out.vg
 by_cases hnm : n = m
 rotate_left
 ·have Hn : Hid (iclG (m : Int) m x l = false) := iclG_len (by rw [← HN.out]; exact hnm)
  have d1 : ((n : Int) != (m : Int)) = true := by simp; omega
  clear ho vg0 hnm
  go_wp2
  go_ret
  exact ⟨ret_bool Hn.out.symm, HB.out.below⟩
 subst hnm
 have d1 : ((n : Int) != (n : Int)) = false := by simp
 have Hy : Hid (iclG (n : Int) n x l = iclB (rw_ x) n l) := iclG_yes ho HN.out.symm
 clear ho vg0
 have HR0 : Hid (From w1 w1) := From.refl w1
 clear e0 e1
 have e0 := HC.out.c0
 go_wp2
 go_loopw [5] (fun i wr => ∃ v : Nat, v ≤ n ∧ i = .int .i64 v ∧ Hid (Tc1 l v) ∧ Hid (Tc2 (rw_ x) l v) ∧ Hid (From w1 wr)) (fun i _ => n - (intOf i).toNat)
 case atStart => exact ⟨0, Nat.zero_le _, rfl, Tc1.zero, Tc2.zero, HR0⟩
 case round =>
  clear HR0 e0
  obtain ⟨v, hv, rfl, H1, H2, HR⟩ := hrel
  have HBr := Lib.hid (HB.out.up HR.out)
  have HCr := Lib.hid (HC.out.keep HR.out.below)
  have e0 := HCr.out.c0
  by_cases hvn : v < n
  ·have i1 : (v : Int) < (n : Int) := by omega
   have HLr := Lib.hid (HL.out.keep HR.out.below)
   obtain ⟨bl, ol, rfl⟩ := HLr.out.addr (by omega)
   have p0 := HLr.out.at hvn
   obtain ⟨b, hb⟩ : ∃ b : Int, b = l.getD v 0 := ⟨_, rfl⟩
   rw [← hb] at p0
   have Hb := Lib.hid hb
   by_cases hbr : 0 ≤ b ∧ b ≤ 6
   rotate_left
   ·have Hn : Hid (iclB (rw_ x) n l = false) := icl_no1 hvn (by rw [← hb]; exact hbr)
    have KB := Lib.hid (decide_eq_false hbr)
    clear hbr hb
    go_wp2_with fail
    refine (l1In_b (n := b) (lo := 0) (hi := 6) wr KB.out).mono ?_
    rintro e w2 ⟨rfl, hb2⟩
    replace HBr := Lib.hid (HBr.out.keep hb2)
    clear hb2
    go_wp2
    go_ret
    exact ⟨ret_bool (by rw [Hy.out, Hn.out]), HBr.out.below⟩
   have H1' : Hid (Tc1 l (v + 1)) := H1.out.step (by rw [← hb]; exact hbr)
   have KB := Lib.hid (decide_eq_true hbr)
   clear hb
   go_wp2_with fail
   refine (l1In_b (n := b) (lo := 0) (hi := 6) wr KB.out).mono ?_
   rintro e w3 ⟨rfl, hb3⟩
   replace HBr := Lib.hid (HBr.out.keep hb3)
   replace HR := Lib.hid (HR.out.keep hb3)
   clear hb3
   clear HLr p0 e0 HCr
   go_wp2
   go_loopw [6] (fun i wr => ∃ k : Nat, k ≤ v ∧ i = .int .i64 k ∧ Hid (∀ u, u < k → Tcp (rw_ x) l v u) ∧ Hid (From w1 wr)) (fun i _ => v - (intOf i).toNat)
   case atStart => exact ⟨0, Nat.zero_le _, rfl, (fun u hu => absurd hu (by omega)), HR⟩
   case round =>
    clear HR HBr
    obtain ⟨k, hk, rfl, H3, HR⟩ := hrel
    by_cases hkv : k < v
    ·have i2 : (k : Int) < (v : Int) := by omega
     have i3 : (k : Int) < (n : Int) := by omega
     have HBr := Lib.hid (HB.out.up HR.out)
     have HLr := Lib.hid (HL.out.keep HR.out.below)
     have HGr := Lib.hid (HG.out.keep HR.out.below)
     have HCr := Lib.hid (HC.out.keep HR.out.below)
     have e0 := HCr.out.c0
     have e1 := HCr.out.c1
     have p1 := HLr.out.at (show k < n by omega)
     have p0 := HLr.out.at hvn
     have HG0 := HGr
     obtain ⟨a, ha'⟩ : ∃ a : Int, a = l.getD k 0 := ⟨_, rfl⟩
     rw [← ha'] at p1
     rw [← Hb.out] at p0
     have Hp : Hid (Tcp (rw_ x) l v k ↔ ¬ ((rw_ x v).testBit k = true ∧ a = b)) := by show _ ↔ _; unfold Tcp; rw [← ha', ← Hb.out]
     clear ha'
     have hkn : k < n := by omega
     cases h1 : (rw_ x v).testBit k
     ·have K1 := Lib.hid (edge_b HG0.out hvn hkn h1)
      have H3' : Hid (∀ u, u < k + 1 → Tcp (rw_ x) l v u) := fun u hu => by
       by_cases e : u < k
       ·exact H3.out u e
       ·obtain rfl : u = k := by omega
        exact Hp.out.2 (fun hh => by rw [h1] at hh; cases hh.1)
      clear h1
      go_wp2
      have HSC : Hid (∀ z : World, Below wr.heap.size wr z → (Below wr.heap.size wr z ∧ z.cell? ⟨w.heap.size, 0, none⟩ = some (.int .i64 (n : Int)) ∧ z.cell? ⟨w.heap.size, 1, none⟩ = some (.slice A n c) ∧ z.cell? ⟨bl, ol + v, none⟩ = some (.int .i64 b) ∧ z.cell? ⟨bl, ol + k, none⟩ = some (.int .i64 a))) := fun z hz => ⟨hz, up_ hz e0, up_ hz e1, up_ hz p0, up_ hz p1⟩
      have HZ0 : Hid (Below wr.heap.size wr wr.drew) := (Below.refl _ _).drew
      have HS1 := Lib.hid (HSC.out _ HZ0.out)
      have KR1 : Hid (∀ z : World, Below wr.heap.size wr z → _) := fun z hz => K1.out _ hz
      refine wp_region_held_drew (S := fun z => Below wr.heap.size wr z ∧ z.cell? ⟨w.heap.size, 0, none⟩ = some (.int .i64 (n : Int)) ∧ z.cell? ⟨w.heap.size, 1, none⟩ = some (.slice A n c) ∧ z.cell? ⟨bl, ol + v, none⟩ = some (.int .i64 b) ∧ z.cell? ⟨bl, ol + k, none⟩ = some (.int .i64 a)) (by kernel_rfl) HS1.out (fun hHeld => ?_)
      refine pcY 0 rfl rfl (by kernel_rfl) (by rfl) (by intro w u; (try dsimp only at u); go_simp <;> with_reducible rfl) ‹_› (fun _ _ _ h => h) ?_; simp only [Act.put, sl0, sl1, sl2]
      iterate 2 (refine ptY rfl rfl (by kernel_rfl) (by rfl) (by intro w u; (try dsimp only at u); go_simp <;> with_reducible rfl) ‹_› (fun _ _ _ h => h) ?_; simp only [Act.put, sl0, sl1, sl2])
      refine wpAnyH_ready (rs := [3]) (by kernel_rfl) (by simp) ?_
      refine AllReadyH.cons rfl (fun K hK => ?_) AllReadyH.nil
      go_simp
      go_at_call 85; refine (KR1.out _ HZ0.out).mono ?_
      rintro e w4 ⟨rfl, hb4⟩
      have hz4 := bl_trans HZ0.out hb4
      refine hK.out _ _ (HSC.out _ hz4) (fun hHeld => ?_)
      clear hK K
      try simp only [Act.put, sl0, sl1, sl2]
      refine ptY rfl rfl (by kernel_rfl) (by rfl) (by intro w u; (try dsimp only at u); go_simp <;> with_reducible rfl) ‹_› (fun _ _ _ h => h) ?_; simp only [Act.put, sl0, sl1, sl2]
      iterate 9 (refine ptN rfl rfl (by kernel_rfl) (by rfl) ‹_› (fun _ _ _ h => h) ?_; simp only [Act.put, sl0, sl1, sl2])
      refine ptY rfl rfl (by kernel_rfl) (by rfl) (by intro w u; (try dsimp only at u); go_simp <;> with_reducible rfl) ‹_› (fun _ _ _ h => h) ?_; simp only [Act.put, sl0, sl1, sl2]
      refine wpAnyH_done (by kernel_rfl) ?_ _
      replace HR := Lib.hid (HR.out.keep hz4)
      replace HBr := Lib.hid (HBr.out.keep hz4)
      clear hb4 hz4 HSC HZ0 HS1 KR1
      go_wp2
      first
       | (refine ⟨⟨k + 1, by omega, by go_num, H3', HR⟩, ?_⟩
          simp [intOf] <;> omega)
       | (go_roundw
          case rel => exact ⟨k + 1, by omega, by go_num, H3', HR⟩
          case measure => (simp [intOf] <;> omega))
     ·have K1 := Lib.hid (edge_b HG0.out hvn hkn h1)
      by_cases hg : a = b
      ·have Hn : Hid (iclB (rw_ x) n l = false) := icl_no2 hvn hkv fun ht => Hp.out.1 ht ⟨h1, hg⟩
       have d2 : (a == b) = true := by simpa using hg
       have d3 : (b == a) = true := by simpa using hg.symm
       clear h1 hg
       go_wp2
       have HSC : Hid (∀ z : World, Below wr.heap.size wr z → (Below wr.heap.size wr z ∧ z.cell? ⟨w.heap.size, 0, none⟩ = some (.int .i64 (n : Int)) ∧ z.cell? ⟨w.heap.size, 1, none⟩ = some (.slice A n c) ∧ z.cell? ⟨bl, ol + v, none⟩ = some (.int .i64 b) ∧ z.cell? ⟨bl, ol + k, none⟩ = some (.int .i64 a))) := fun z hz => ⟨hz, up_ hz e0, up_ hz e1, up_ hz p0, up_ hz p1⟩
       have HZ0 : Hid (Below wr.heap.size wr wr.drew) := (Below.refl _ _).drew
       have HS1 := Lib.hid (HSC.out _ HZ0.out)
       have KR1 : Hid (∀ z : World, Below wr.heap.size wr z → _) := fun z hz => K1.out _ hz
       refine wp_region_held_drew (S := fun z => Below wr.heap.size wr z ∧ z.cell? ⟨w.heap.size, 0, none⟩ = some (.int .i64 (n : Int)) ∧ z.cell? ⟨w.heap.size, 1, none⟩ = some (.slice A n c) ∧ z.cell? ⟨bl, ol + v, none⟩ = some (.int .i64 b) ∧ z.cell? ⟨bl, ol + k, none⟩ = some (.int .i64 a)) (by kernel_rfl) HS1.out (fun hHeld => ?_)
       refine pcY 0 rfl rfl (by kernel_rfl) (by rfl) (by intro w u; (try dsimp only at u); go_simp <;> with_reducible rfl) ‹_› (fun _ _ _ h => h) ?_; simp only [Act.put, sl0, sl1, sl2]
       iterate 2 (refine ptY rfl rfl (by kernel_rfl) (by rfl) (by intro w u; (try dsimp only at u); go_simp <;> with_reducible rfl) ‹_› (fun _ _ _ h => h) ?_; simp only [Act.put, sl0, sl1, sl2])
       refine wpAnyH_ready (rs := [3]) (by kernel_rfl) (by simp) ?_
       refine AllReadyH.cons rfl (fun K hK => ?_) AllReadyH.nil
       go_simp
       go_at_call 85; refine (KR1.out _ HZ0.out).mono ?_
       rintro e w5 ⟨rfl, hb5⟩
       have hz5 := bl_trans HZ0.out hb5
       refine hK.out _ _ (HSC.out _ hz5) (fun hHeld => ?_)
       clear hK K
       try simp only [Act.put, sl0, sl1, sl2]
       iterate 11 (refine ptY rfl rfl (by kernel_rfl) (by rfl) (by intro w u; (try dsimp only at u); go_simp <;> with_reducible rfl) ‹_› (fun _ _ _ h => h) ?_; simp only [Act.put, sl0, sl1, sl2])
       refine wpAnyH_done (by kernel_rfl) ?_ _
       replace HR := Lib.hid (HR.out.keep hz5)
       replace HBr := Lib.hid (HBr.out.keep hz5)
       clear hb5 hz5 HSC HZ0 HS1 KR1
       go_wp2
       go_ret
       exact ⟨ret_bool (by rw [Hy.out, Hn.out]), HBr.out.below⟩
      ·have H3' : Hid (∀ u, u < k + 1 → Tcp (rw_ x) l v u) := fun u hu => by
        by_cases e : u < k
        ·exact H3.out u e
        ·obtain rfl : u = k := by omega
         exact Hp.out.2 (fun hh => hg hh.2)
       have d2 : (a == b) = false := by simpa using hg
       have d3 : (b == a) = false := by simpa using fun e : b = a => hg e.symm
       clear h1 hg
       go_wp2
       have HSC : Hid (∀ z : World, Below wr.heap.size wr z → (Below wr.heap.size wr z ∧ z.cell? ⟨w.heap.size, 0, none⟩ = some (.int .i64 (n : Int)) ∧ z.cell? ⟨w.heap.size, 1, none⟩ = some (.slice A n c) ∧ z.cell? ⟨bl, ol + v, none⟩ = some (.int .i64 b) ∧ z.cell? ⟨bl, ol + k, none⟩ = some (.int .i64 a))) := fun z hz => ⟨hz, up_ hz e0, up_ hz e1, up_ hz p0, up_ hz p1⟩
       have HZ0 : Hid (Below wr.heap.size wr wr.drew) := (Below.refl _ _).drew
       have HS1 := Lib.hid (HSC.out _ HZ0.out)
       have KR1 : Hid (∀ z : World, Below wr.heap.size wr z → _) := fun z hz => K1.out _ hz
       refine wp_region_held_drew (S := fun z => Below wr.heap.size wr z ∧ z.cell? ⟨w.heap.size, 0, none⟩ = some (.int .i64 (n : Int)) ∧ z.cell? ⟨w.heap.size, 1, none⟩ = some (.slice A n c) ∧ z.cell? ⟨bl, ol + v, none⟩ = some (.int .i64 b) ∧ z.cell? ⟨bl, ol + k, none⟩ = some (.int .i64 a)) (by kernel_rfl) HS1.out (fun hHeld => ?_)
       refine pcY 0 rfl rfl (by kernel_rfl) (by rfl) (by intro w u; (try dsimp only at u); go_simp <;> with_reducible rfl) ‹_› (fun _ _ _ h => h) ?_; simp only [Act.put, sl0, sl1, sl2]
       iterate 2 (refine ptY rfl rfl (by kernel_rfl) (by rfl) (by intro w u; (try dsimp only at u); go_simp <;> with_reducible rfl) ‹_› (fun _ _ _ h => h) ?_; simp only [Act.put, sl0, sl1, sl2])
       refine wpAnyH_ready (rs := [3]) (by kernel_rfl) (by simp) ?_
       refine AllReadyH.cons rfl (fun K hK => ?_) AllReadyH.nil
       go_simp
       go_at_call 85; refine (KR1.out _ HZ0.out).mono ?_
       rintro e w6 ⟨rfl, hb6⟩
       have hz6 := bl_trans HZ0.out hb6
       refine hK.out _ _ (HSC.out _ hz6) (fun hHeld => ?_)
       clear hK K
       try simp only [Act.put, sl0, sl1, sl2]
       iterate 11 (refine ptY rfl rfl (by kernel_rfl) (by rfl) (by intro w u; (try dsimp only at u); go_simp <;> with_reducible rfl) ‹_› (fun _ _ _ h => h) ?_; simp only [Act.put, sl0, sl1, sl2])
       refine wpAnyH_done (by kernel_rfl) ?_ _
       replace HR := Lib.hid (HR.out.keep hz6)
       replace HBr := Lib.hid (HBr.out.keep hz6)
       clear hb6 hz6 HSC HZ0 HS1 KR1
       go_wp2
       first
        | (refine ⟨⟨k + 1, by omega, by go_num, H3', HR⟩, ?_⟩
           simp [intOf] <;> omega)
        | (go_roundw
           case rel => exact ⟨k + 1, by omega, by go_num, H3', HR⟩
           case measure => (simp [intOf] <;> omega))
    ·have H2' : Hid (Tc2 (rw_ x) l (v + 1)) := H2.out.step fun u hu => H3.out u (by omega)
     have i2 : (v : Int) ≤ (k : Int) := by omega
     go_wp2
     go_roundw
     case rel => exact ⟨v + 1, by omega, by go_num, H1', H2', HR⟩
     case measure => (simp [intOf] <;> omega)
  ·obtain rfl : n = v := by omega
   have Hn : Hid (iclB (rw_ x) n l = true) := icl_yes H1.out H2.out
   go_wp2
   go_ret
   exact ⟨ret_bool (by rw [Hy.out, Hn.out]), HBr.out.below⟩
end Go.Proofs.YtdpkbfiggbcclaaGreat
