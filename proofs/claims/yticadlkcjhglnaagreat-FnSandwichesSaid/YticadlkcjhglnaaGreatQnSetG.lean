/-
  Several texts in one.
-/
import Derived.Test.YticadlkcjhglnaaGreatQnDrwD
import Derived.Test.YticadlkcjhglnaaGreatQnSet2I
import Derived.Test.YticadlkcjhglnaaGreatQnListS
import Derived.Test.YticadlkcjhglnaaGreatQnBarP
/-
-/
namespace Go.Proofs.YticadlkcjhglnaaGreat
open Go.RowKit
section
variable {w : World} {q nb cb : Nat} {A : Option Addr}
set_option maxRecDepth 100000 in
set_option maxHeartbeats 6400000 in
theorem l4Holey_s (hc : Cu w q A nb cb) : Calls Tryz.prog 70 #[.pointer (some ⟨q, 0, none⟩)] w (dgQ w q A nb cb) := by
 obtain ⟨W, hW⟩ : ∃ W : World, W = (w.alloc (Obj.cells #[Value.int IntKind.i64 0, Value.slice none 0 0] 26)) := ⟨_, rfl⟩
 have HD : Hid (D0 w W q A nb cb) := by rw [hW]; exact D0.new hc
 have HW := Lib.hid hW
 have KB := Lib.hid (l1Once_s (k := 3) HD.out.cu (by omega) (by omega))
 clear hW hc
 go_enter Tryz.func70, Tryz.ntmps70
 go_wp2_with fail
 rw [← HW.out]
 clear HW
 refine KB.out.mono ?_
 rintro e w1 ⟨y, rfl, hd⟩
 replace HD := Lib.hid (HD.out.draw hd)
 clear hd KB
 cases y
 rotate_left
 ·have KR := Lib.hid (l2Any_s HD.out.cu)
  have hq2 := HD.out.lt
  go_wp2_with fail
  refine KR.out.mono ?_
  rintro e w3 ⟨sz, B, m, d, x, rfl, hm1, hm7, ho, hd⟩
  have HD3 := Lib.hid (HD.out.draw hd)
  have HF := Lib.hid (dgQ.fin0 (sz := sz) hm1 hm7 HD3.out.cu HD3.out.fr HD3.out.l1 ho hq2)
  have d0 := HD3.out.d.c0
  have d1 := HD3.out.d.c1
  have d2 := HD3.out.d.f0
  have d3 := HD3.out.d.f1
  clear ho hd KR HD
  go_wp2
  exact bodyPost_ret (v := .agg #[.int .i64 sz, .slice B m d]) (by simp [results, Tryz.results70, go_sem, *]) rfl HF.out
 ·have KB := Lib.hid (l1Below_s (k := 3) HD.out.cu (by omega) (by omega))
  go_wp2_with fail
  refine KB.out.mono ?_
  rintro e w4 ⟨v, rfl, hv, hd⟩
  have HD4 := Lib.hid (HD.out.draw hd)
  obtain ⟨n, hn⟩ : ∃ n, n = v + 4 := ⟨_, rfl⟩
  have hv2 : (4 : Int) + (v : Int) = (n : Int) := by omega
  have hn1 : 1 ≤ n := by omega
  have hn6 : n ≤ 6 := by omega
  have hv9 := hv
  clear hn
  rename ∀ (a : Act) (w' : World), _ → _ => hK
  refine hK _ _ ?_
  have hw4 := HD4.out.lt
  have KG := Lib.hid (NamedGraph_s w4 (t := ⟨#[99, 121, 99, 108, 101]⟩) (.inr (.inl (by decide +kernel))) hn1 (by omega))
  clear hd KB HD
  go_wp2_with fail
  refine KG.out.mono ?_
  rintro e w5 ⟨A1, c1, x1, rfl, ho, hb⟩
  have HD5 := Lib.hid (HD4.out.keep hb)
  have hw5 := hb.size
  obtain ⟨W6, hW6⟩ : ∃ W6 : World, W6 = (w5.alloc (Obj.cells #[.int .i64 n, .slice A1 n c1] 26)) := ⟨_, rfl⟩
  have hb6 : Below w5.heap.size w5 W6 := by rw [hW6]; exact (Below.refl _ _).alloc (Nat.le_refl _) _
  have hg6 : GU W6 w5.heap.size (w.heap.size + 1) n := by
   rw [hW6]
   refine ⟨A1, c1, x1, GC.new _ _ _ _ _, (ho.alloc _).mono (by omega) (by simp), fun e => ?_⟩
   rcases ho.at_block with h | ⟨g, h, _, hlt⟩
   ·rw [h] at e; cases e
   ·rw [h] at e
    simp only [Option.some.injEq, Addr.mk.injEq, and_true] at e
    omega
  have HS := Lib.hid ((HD5.out.keep hb6).ds hg6 (Nat.lt_succ_self _) (by omega))
  have KB := Lib.hid (l1Below_s HS.out.cu (show 0 < n from hn1) (by omega))
  have HW6 := Lib.hid hW6
  clear hW6 hb6 hg6 ho hb KG HD4 HD5
  go_wp2_with fail
  rw [← HW6.out]
  clear HW6
  refine KB.out.mono ?_
  rintro e w7 ⟨a, rfl, ha, hd⟩
  replace HS := Lib.hid (HS.out.draw hd)
  clear hd KB
  have KB := Lib.hid (l1Below_s HS.out.cu (show 0 < n from hn1) (by omega))
  obtain ⟨_, _, _, hgA, _, _⟩ := HS.out.gu.ex
  have e0 := hgA.c0
  clear hgA
  go_wp2_with fail
  refine KB.out.mono ?_
  rintro e w8 ⟨b, rfl, hb, hd⟩
  replace HS := Lib.hid (HS.out.draw hd)
  clear hd KB
  have KB := Lib.hid (l1Once_s (k := 3) HS.out.cu (by omega) (by omega))
  go_wp2_with fail
  refine KB.out.mono ?_
  rintro e w9 ⟨y, rfl, hd⟩
  replace HS := Lib.hid (HS.out.draw hd)
  clear hd KB
  obtain ⟨A2, c2, x2, hg1, ho1, hne⟩ := HS.out.gu.ex
  have e0 := hg1.c0
  have e1 := hg1.c1
  have HG1 := Lib.hid hg1
  have hz1 : w5.heap.size < w9.heap.size := hg1.lt
  cases y
  ·have HF := Lib.hid (dgQ.fin hn1 (by omega) HS.out ho1)
   have d0 := HS.out.d.c0
   have d1 := HS.out.d.c1
   have d2 := HS.out.d.f0
   have d3 := HS.out.d.f1
   clear hg1 ho1 hne
   go_wp2
   exact bodyPost_ret (v := .agg #[.int .i64 n, .slice A2 n c2]) (by simp [results, Tryz.results70, go_sem, *]) rfl HF.out
  ·have KA : Hid (Calls Tryz.prog 98 #[.agg #[.int .i64 n, .slice A2 n c2], .int .i64 a, .int .i64 b] w9 _) := AddEdge_s (n : Int) A2 n c2 x2 a b w9 w9.heap.size ho1.rd (Nat.le_refl _) (by omega)
   clear hg1 ho1 hne
   go_wp2_with fail
   refine KA.out.mono ?_
   rintro e v5 ⟨A5, c5, rfl, hO5, hb5⟩
   have hn5 := HG1.out.keep hb5
   have n0 := hn5.c0
   have n1 := hn5.c1
   have n2 := hn5.f0
   have n3 := hn5.f1
   obtain ⟨V6, hV6⟩ : ∃ V6 : World, V6 = ((v5.setCell ⟨w5.heap.size, 0, none⟩ (.int .i64 n)).setCell ⟨w5.heap.size, 1, none⟩ (.slice A5 n c5)) := ⟨_, rfl⟩
   have HS6 : Hid (DS w V6 q A nb cb w5.heap.size (w.heap.size + 1) n) := by rw [hV6]; exact HS.out.set hb5 (hO5.mono (by omega) (Nat.le_refl _))
   have HG6 : Hid (GC V6 w5.heap.size n A5 n c5) := by rw [hV6]; exact hn5.set
   have ho6 : Own V6 (w.heap.size + 1) V6.heap.size 3 1 A5 n c5 (fun j => .int .i64 (aeX (n : Int) n x2 a b j)) := by
    rw [hV6]
    exact (hO5.keep (fr2 v5 w5.heap.size (.int .i64 n) (.slice A5 n c5)) (.inr (by omega))).mono (by omega) (fr2 v5 w5.heap.size (.int .i64 n) (.slice A5 n c5)).size
   have HF := Lib.hid (dgQ.fin hn1 (by omega) HS6.out ho6)
   have hd5 := HS.out.d.keep hb5
   have d0 := hd5.c0
   have d1 := hd5.c1
   have d2 := hd5.f0
   have d3 := hd5.f1
   have j1 : (w.heap.size = w5.heap.size) = False := by simp; omega
   have j2 : (w5.heap.size = w.heap.size) = False := by simp; omega
   have HV6 := Lib.hid hV6
   clear hO5 hb5 hn5 ho6 hV6 KA e0 e1 hd5
   go_wp2
   rw [← HV6.out]
   have r0 := HS6.out.d.c0
   have r1 := HS6.out.d.c1
   exact bodyPost_ret (v := .agg #[.int .i64 n, .slice A5 n c5]) (by simp [results, Tryz.results70, go_sem, *]) rfl HF.out
end
end Go.Proofs.YticadlkcjhglnaaGreat

/-
-/
namespace Go.Proofs.YticadlkcjhglnaaGreat
open Go.RowKit
def splB (r : Nat → Nat) (m s : Nat) : Bool := cliq r s && indB r ((2 ^ m - 1) ^^^ s)
section
variable (sz : Int) (A : Option Addr) (m c : Nat) (x : Nat → Int) (s : Int) (w : World)
set_option maxHeartbeats 1000000 in
theorem IsSet_sg (h : GA w A m c x) (hm : m ≤ 1048576) :
 Calls Tryz.prog 94 #[.agg #[.int .i64 sz, .slice A m c], .int .i64 s] w fun e w' => e = .returned (.bool (setB sz m x s)) ∧ Below w.heap.size w w' := by
 cases ho : okB sz m x
 ·have Hn : Hid (setB sz m x s = false) := by show _ = _; unfold setB; rw [ho]; rfl
  obtain ⟨W, hW⟩ : ∃ W : World, W = (w.alloc (Obj.cells #[Value.int IntKind.i64 sz, Value.slice A m c] 26)) := ⟨_, rfl⟩
  have HB : Hid (From w W) := by rw [hW]; exact From.alloc _ _
  have HK := Lib.hid (h.keep HB.out.below)
  have HC : Hid (GC W w.heap.size sz A m c) := by rw [hW]; exact GC.new _ _ _ _ _
  have HW := Lib.hid hW
  have Ho := Lib.hid ho
  clear hW h ho
  go_enter Tryz.func94, Tryz.ntmps94
  have e0 := HC.out.c0
  have e1 := HC.out.c1
  go_wp2_with fail
  rw [← HW.out]
  clear HW
  refine (IsGraph_sany sz A m c x W W.heap.size HK.out.rd (Nat.le_refl _) hm).mono ?_
  rintro e w1 ⟨rfl, hb1⟩
  rw [Ho.out]
  clear e0 e1
  replace HB := Lib.hid (HB.out.keep hb1)
  replace HK := Lib.hid (HK.out.keep hb1)
  replace HC := Lib.hid (HC.out.keep hb1)
  clear hb1
  have e0 := HC.out.c0
  have e1 := HC.out.c1
  go_wp2
  go_ret
  exact ⟨ret_bool Hn.out.symm, HB.out.below⟩
 obtain ⟨_, es, vg0, _⟩ := okB_ok' ho
 subst es
 have hn7 := vg0.n7
 have HG0 : GV w A m c (rw_ x) := h.gv ho
 by_cases hs : 0 ≤ s ∧ s < 2 ^ m
 ·have hb : setB (m : Int) m x s = true := by unfold setB; rw [ho, decide_eq_true hs]; rfl
  obtain ⟨_, _, t, rfl, ht⟩ := setB_parts hb
  rw [hb]
  exact IsSet_sv HG0 ht
 ·have Hn : Hid (setB (m : Int) m x s = false) := by show _ = _; unfold setB; rw [ho, decide_eq_false hs]; rfl
  obtain ⟨F, hF⟩ : ∃ F : Int, F = 2 ^ m := ⟨_, rfl⟩
  have p1 : IntKind.i64.wrap ((2 : Int) ^ m) = F := by rw [hF]; exact pow_shl m hn7
  have p2 : wrap64 ((2 : Int) ^ m) = F := by
   have := two_pow_int m hn7
   rw [hF]; exact Go.IntWalk.wrap64_in _ (by omega)
  rw [← hF] at hs
  obtain ⟨W, hW⟩ : ∃ W : World, W = (w.alloc (Obj.cells #[Value.int IntKind.i64 m, Value.slice A m c] 26)) := ⟨_, rfl⟩
  have HB : Hid (From w W) := by rw [hW]; exact From.alloc _ _
  have HK := Lib.hid (h.keep HB.out.below)
  have HC : Hid (GC W w.heap.size m A m c) := by rw [hW]; exact GC.new _ _ _ _ _
  have HW := Lib.hid hW
  have Ho := Lib.hid ho
  clear hW h ho vg0 HG0 hF
  go_enter Tryz.func94, Tryz.ntmps94
  have e0 := HC.out.c0
  have e1 := HC.out.c1
  go_wp2_with fail
  rw [← HW.out]
  clear HW
  refine (IsGraph_sany (m : Int) A m c x W W.heap.size HK.out.rd (Nat.le_refl _) hm).mono ?_
  rintro e w1 ⟨rfl, hb1⟩
  rw [Ho.out]
  clear e0 e1
  replace HB := Lib.hid (HB.out.keep hb1)
  replace HK := Lib.hid (HK.out.keep hb1)
  replace HC := Lib.hid (HC.out.keep hb1)
  clear hb1
  have e0 := HC.out.c0
  have e1 := HC.out.c1
  by_cases h0 : 0 ≤ s
  ·have i1 : F ≤ s := by omega
   clear hs
   go_wp2
   go_ret
   exact ⟨ret_bool (by rw [Hn.out]; first | rfl | exact decide_eq_false (by omega)), HB.out.below⟩
  ·have i1 : s < 0 := by omega
   clear hs h0
   go_wp2
   go_ret
   exact ⟨ret_bool Hn.out.symm, HB.out.below⟩
end
section
variable {A : Option Addr} {m c : Nat} {r : Nat → Nat} {w : World} {s : Nat}
theorem comp_lt (hm : m ≤ 7) (hs : s < 2 ^ m) : (2 ^ m - 1) ^^^ s < 2 ^ m := full_lt hm hs
set_option maxHeartbeats 1000000 in
theorem IsSplitPartition_v (h : GV w A m c r) (hs : s < 2 ^ m) :
 Calls Tryz.prog 195 #[.agg #[.int .i64 m, .slice A m c], .int .i64 s] w fun e w' => e = .returned (.bool (splB r m s)) ∧ Below w.heap.size w w' := by
 have hn7 := h.vg.n7
 have h128 := two_pow_le hn7
 have hcl := comp_lt hn7 hs
 have E := i64_andNot_nat (2 ^ m - 1) s (by omega) (by omega)
 rw [full_and hs] at E
 obtain ⟨t, ht⟩ : ∃ t, t = (2 ^ m - 1) ^^^ s := ⟨_, rfl⟩
 obtain ⟨F, hF⟩ : ∃ F, F = 2 ^ m - 1 := ⟨_, rfl⟩
 have KA : Hid (∀ z : World, Calls Tryz.prog 90 #[.agg #[.int .i64 m, .slice A m c]] z fun e w' => e = .returned (.int .i64 (F : Nat)) ∧ Below z.heap.size z w') := by rw [hF]; exact fun z => all_any m A c z hn7
 rw [← ht] at hcl
 rw [← ht, ← hF] at E
 have Ht := Lib.hid ht
 clear ht hF
 obtain ⟨W, hW⟩ : ∃ W : World, W = (w.alloc (Obj.cells #[Value.int IntKind.i64 m, Value.slice A m c] 26)) := ⟨_, rfl⟩
 have HB : Hid (From w W) := by rw [hW]; exact From.alloc _ _
 have HG : Hid (GBox W w.heap.size A m c r) := by rw [hW]; exact h.box
 have HW := Lib.hid hW
 clear hW h
 have e0 := HG.out.c0
 have e1 := HG.out.c1
 have HG0 := HG
 have KI : Hid (∀ z : World, Below W.heap.size W z → Calls Tryz.prog 199 #[.agg #[.int .i64 m, .slice A m c], .int .i64 (t : Int)] z fun e w' => e = .returned (.bool (indB r t)) ∧ Below z.heap.size z w') := fun z hz => IsIndependent_v (HG0.out.gv.keep hz) hcl
 have KC : Hid (∀ z : World, Below W.heap.size W z → Calls Tryz.prog 213 #[.agg #[.int .i64 m, .slice A m c], .int .i64 (s : Int)] z fun e w' => e = .returned (.bool (cliq r s)) ∧ Below z.heap.size z w') := fun z hz => IsClique_v (HG0.out.gv.keep hz) hs
 go_enter Tryz.func195, Tryz.ntmps195
 cases hc : cliq r s
 ·have Hn : Hid (splB r m s = false) := by show _ = _; unfold splB; rw [hc]; rfl
  rw [hc] at KC
  clear hc
  go_wp2
  rw [← HW.out]
  clear HW
  have HSC : Hid (∀ z : World, Below W.heap.size W z → (Below W.heap.size W z ∧ z.cell? ⟨w.heap.size, 0, none⟩ = some (.int .i64 m) ∧ z.cell? ⟨w.heap.size, 1, none⟩ = some (.slice A m c))) := fun z hz => ⟨hz, up_ hz e0, up_ hz e1⟩
  have HZ0 : Hid (Below W.heap.size W W.drew) := (Below.refl _ _).drew
  have HS1 := Lib.hid (HSC.out _ HZ0.out)
  have KR1 : Hid (∀ z : World, Below W.heap.size W z → _) := fun z hz => KC.out _ hz
  refine wp_region_held_drew (S := fun z => Below W.heap.size W z ∧ z.cell? ⟨w.heap.size, 0, none⟩ = some (.int .i64 m) ∧ z.cell? ⟨w.heap.size, 1, none⟩ = some (.slice A m c)) (by kernel_rfl) HS1.out (fun hHeld => ?_)
  refine pcY 0 rfl rfl (by kernel_rfl) (by rfl) (by intro w u; (try dsimp only at u); go_simp <;> with_reducible rfl) ‹_› (fun _ _ _ h => h) ?_; simp only [Act.put, sl0, sl1, sl2]
  refine ptY rfl rfl (by kernel_rfl) (by rfl) (by intro w u; (try dsimp only at u); go_simp <;> with_reducible rfl) ‹_› (fun _ _ _ h => h) ?_; simp only [Act.put, sl0, sl1, sl2]
  refine wpAnyH_ready (rs := [2]) (by kernel_rfl) (by simp) ?_
  refine AllReadyH.cons rfl (fun K hK => ?_) AllReadyH.nil
  go_simp
  go_at_call 213; refine (KR1.out _ HZ0.out).mono ?_
  rintro e w1 ⟨rfl, hb1⟩
  have hz1 := bl_trans HZ0.out hb1
  refine hK.out _ _ (HSC.out _ hz1) (fun hHeld => ?_)
  clear hK K
  try simp only [Act.put, sl0, sl1, sl2]
  refine ptY rfl rfl (by kernel_rfl) (by rfl) (by intro w u; (try dsimp only at u); go_simp <;> with_reducible rfl) ‹_› (fun _ _ _ h => h) ?_; simp only [Act.put, sl0, sl1, sl2]
  iterate 6 (refine ptN rfl rfl (by kernel_rfl) (by rfl) ‹_› (fun _ _ _ h => h) ?_; simp only [Act.put, sl0, sl1, sl2])
  iterate 2 (refine ptY rfl rfl (by kernel_rfl) (by rfl) (by intro w u; (try dsimp only at u); go_simp <;> with_reducible rfl) ‹_› (fun _ _ _ h => h) ?_; simp only [Act.put, sl0, sl1, sl2])
  refine wpAnyH_done (by kernel_rfl) ?_ _
  clear e0 e1
  replace HB := Lib.hid (HB.out.keep hz1)
  replace HG := Lib.hid (HG.out.keep hz1)
  clear hb1 hz1 HSC HZ0 HS1 KR1
  have e0 := HG.out.c0
  have e1 := HG.out.c1
  go_wp2
  go_ret
  exact ⟨ret_bool Hn.out.symm, HB.out.below⟩
 ·have Hn : Hid (splB r m s = indB r t) := by show _ = _; unfold splB; rw [hc, Ht.out]; rfl
  rw [hc] at KC
  clear hc
  go_wp2
  rw [← HW.out]
  clear HW
  have HSC : Hid (∀ z : World, Below W.heap.size W z → (Below W.heap.size W z ∧ z.cell? ⟨w.heap.size, 0, none⟩ = some (.int .i64 m) ∧ z.cell? ⟨w.heap.size, 1, none⟩ = some (.slice A m c))) := fun z hz => ⟨hz, up_ hz e0, up_ hz e1⟩
  have HZ0 : Hid (Below W.heap.size W W.drew) := (Below.refl _ _).drew
  have HS1 := Lib.hid (HSC.out _ HZ0.out)
  have KR1 : Hid (∀ z : World, Below W.heap.size W z → _) := fun z hz => KC.out _ hz
  have KR2 : Hid (∀ z : World, Below W.heap.size W z → _) := fun z hz => KA.out z
  have KR3 : Hid (∀ z : World, Below W.heap.size W z → _) := fun z hz => KI.out _ hz
  refine wp_region_held_drew (S := fun z => Below W.heap.size W z ∧ z.cell? ⟨w.heap.size, 0, none⟩ = some (.int .i64 m) ∧ z.cell? ⟨w.heap.size, 1, none⟩ = some (.slice A m c)) (by kernel_rfl) HS1.out (fun hHeld => ?_)
  refine pcY 0 rfl rfl (by kernel_rfl) (by rfl) (by intro w u; (try dsimp only at u); go_simp <;> with_reducible rfl) ‹_› (fun _ _ _ h => h) ?_; simp only [Act.put, sl0, sl1, sl2]
  refine ptY rfl rfl (by kernel_rfl) (by rfl) (by intro w u; (try dsimp only at u); go_simp <;> with_reducible rfl) ‹_› (fun _ _ _ h => h) ?_; simp only [Act.put, sl0, sl1, sl2]
  refine wpAnyH_ready (rs := [2]) (by kernel_rfl) (by simp) ?_
  refine AllReadyH.cons rfl (fun K hK => ?_) AllReadyH.nil
  go_simp
  go_at_call 213; refine (KR1.out _ HZ0.out).mono ?_
  rintro e w2 ⟨rfl, hb2⟩
  have hz2 := bl_trans HZ0.out hb2
  refine hK.out _ _ (HSC.out _ hz2) (fun hHeld => ?_)
  clear hK K
  try simp only [Act.put, sl0, sl1, sl2]
  iterate 3 (refine ptY rfl rfl (by kernel_rfl) (by rfl) (by intro w u; (try dsimp only at u); go_simp <;> with_reducible rfl) ‹_› (fun _ _ _ h => h) ?_; simp only [Act.put, sl0, sl1, sl2])
  refine pcY 7 rfl rfl (by kernel_rfl) (by rfl) (by intro w u; (try dsimp only at u); go_simp <;> with_reducible rfl) ‹_› (fun _ _ _ h => h) ?_; simp only [Act.put, sl0, sl1, sl2]
  refine wpAnyH_ready (rs := [6]) (by kernel_rfl) (by simp) ?_
  refine AllReadyH.cons rfl (fun K hK => ?_) AllReadyH.nil
  go_simp
  go_at_call 90; refine (KR2.out _ hz2).mono ?_
  rintro e w3 ⟨rfl, hb3⟩
  have hz3 := bl_trans hz2 hb3
  refine hK.out _ _ (HSC.out _ hz3) (fun hHeld => ?_)
  clear hK K
  try simp only [Act.put, sl0, sl1, sl2]
  refine pcY 8 rfl rfl (by kernel_rfl) (by rfl) (by intro w u; (try dsimp only at u); go_simp <;> with_reducible rfl) ‹_› (fun _ _ _ h => h) ?_; simp only [Act.put, sl0, sl1, sl2]
  refine wpAnyH_ready (rs := [9]) (by kernel_rfl) (by simp) ?_
  refine AllReadyH.cons rfl (fun K hK => ?_) AllReadyH.nil
  go_simp
  go_at_call 199; refine (KR3.out _ hz3).mono ?_
  rintro e w4 ⟨rfl, hb4⟩
  have hz4 := bl_trans hz3 hb4
  refine hK.out _ _ (HSC.out _ hz4) (fun hHeld => ?_)
  clear hK K
  try simp only [Act.put, sl0, sl1, sl2]
  iterate 2 (refine ptY rfl rfl (by kernel_rfl) (by rfl) (by intro w u; (try dsimp only at u); go_simp <;> with_reducible rfl) ‹_› (fun _ _ _ h => h) ?_; simp only [Act.put, sl0, sl1, sl2])
  refine wpAnyH_done (by kernel_rfl) ?_ _
  clear e0 e1
  replace HB := Lib.hid (HB.out.keep hz4)
  replace HG := Lib.hid (HG.out.keep hz4)
  clear hb2 hz2 hb3 hz3 hb4 hz4 HSC HZ0 HS1 KR1 KR2 KR3
  have e0 := HG.out.c0
  have e1 := HG.out.c1
  go_wp2
  go_ret
  exact ⟨ret_bool Hn.out.symm, HB.out.below⟩
set_option maxHeartbeats 1000000 in
theorem IsSplitPartition_sv (h : GV w A m c r) (hs : s < 2 ^ m) :
 Calls Tryz.prog 154 #[.agg #[.int .i64 m, .slice A m c], .int .i64 s] w fun e w' => e = .returned (.bool (splB r m s)) ∧ Below w.heap.size w w' := by
 have hn7 := h.vg.n7
 have h128 := two_pow_le hn7
 have hcl := comp_lt hn7 hs
 have hfs := full_sub hn7 hs
 obtain ⟨t, ht⟩ : ∃ t, t = (2 ^ m - 1) ^^^ s := ⟨_, rfl⟩
 obtain ⟨F, hF⟩ : ∃ F, F = 2 ^ m := ⟨_, rfl⟩
 have p1 : IntKind.i64.wrap ((2 : Int) ^ m) = (F : Int) := by rw [pow_shl m hn7, hF]; simp
 rw [← ht] at hcl
 rw [← ht, ← hF] at hfs
 have hpos := Nat.two_pow_pos m
 rw [← hF] at hpos h128 hs
 have s2 : IntKind.i64.wrap ((F : Int) - 1) = (F : Int) - 1 := Go.IntWalk.i64_in _ (by omega)
 have s3 : IntKind.i64.wrap ((F : Int) - 1 - (s : Int)) = (t : Int) := by rw [Go.IntWalk.i64_in _ (by omega)]; omega
 have Ht := Lib.hid ht
 have HF := Lib.hid hF
 clear ht hF hfs
 obtain ⟨W, hW⟩ : ∃ W : World, W = (w.alloc (Obj.cells #[Value.int IntKind.i64 m, Value.slice A m c] 26)) := ⟨_, rfl⟩
 have HB : Hid (From w W) := by rw [hW]; exact From.alloc _ _
 have HG : Hid (GBox W w.heap.size A m c r) := by rw [hW]; exact h.box
 have HW := Lib.hid hW
 clear hW h
 have e0 := HG.out.c0
 have e1 := HG.out.c1
 have HG0 := HG
 have KI : Hid (∀ z : World, Below W.heap.size W z → Calls Tryz.prog 157 #[.agg #[.int .i64 m, .slice A m c], .int .i64 (t : Int)] z fun e w' => e = .returned (.bool (indB r t)) ∧ Below z.heap.size z w') := fun z hz => IsIndependent_sv (HG0.out.gv.keep hz) hcl
 have KC : Hid (∀ z : World, Below W.heap.size W z → Calls Tryz.prog 172 #[.agg #[.int .i64 m, .slice A m c], .int .i64 (s : Int)] z fun e w' => e = .returned (.bool (cliq r s)) ∧ Below z.heap.size z w') := fun z hz => IsClique_sv (HG0.out.gv.keep hz) (by rw [← HF.out]; exact hs)
 go_enter Tryz.func154, Tryz.ntmps154
 cases hc : cliq r s
 ·have Hn : Hid (splB r m s = false) := by show _ = _; unfold splB; rw [hc]; rfl
  rw [hc] at KC
  clear hc
  go_wp2
  rw [← HW.out]
  clear HW
  have HSC : Hid (∀ z : World, Below W.heap.size W z → (Below W.heap.size W z ∧ z.cell? ⟨w.heap.size, 0, none⟩ = some (.int .i64 m) ∧ z.cell? ⟨w.heap.size, 1, none⟩ = some (.slice A m c))) := fun z hz => ⟨hz, up_ hz e0, up_ hz e1⟩
  have HZ0 : Hid (Below W.heap.size W W.drew) := (Below.refl _ _).drew
  have HS1 := Lib.hid (HSC.out _ HZ0.out)
  have KR1 : Hid (∀ z : World, Below W.heap.size W z → _) := fun z hz => KC.out _ hz
  refine wp_region_held_drew (S := fun z => Below W.heap.size W z ∧ z.cell? ⟨w.heap.size, 0, none⟩ = some (.int .i64 m) ∧ z.cell? ⟨w.heap.size, 1, none⟩ = some (.slice A m c)) (by kernel_rfl) HS1.out (fun hHeld => ?_)
  refine pcY 0 rfl rfl (by kernel_rfl) (by rfl) (by intro w u; (try dsimp only at u); go_simp <;> with_reducible rfl) ‹_› (fun _ _ _ h => h) ?_; simp only [Act.put, sl0, sl1, sl2]
  refine ptY rfl rfl (by kernel_rfl) (by rfl) (by intro w u; (try dsimp only at u); go_simp <;> with_reducible rfl) ‹_› (fun _ _ _ h => h) ?_; simp only [Act.put, sl0, sl1, sl2]
  refine wpAnyH_ready (rs := [2]) (by kernel_rfl) (by simp) ?_
  refine AllReadyH.cons rfl (fun K hK => ?_) AllReadyH.nil
  go_simp
  go_at_call 172; refine (KR1.out _ HZ0.out).mono ?_
  rintro e w1 ⟨rfl, hb1⟩
  have hz1 := bl_trans HZ0.out hb1
  refine hK.out _ _ (HSC.out _ hz1) (fun hHeld => ?_)
  clear hK K
  try simp only [Act.put, sl0, sl1, sl2]
  refine ptY rfl rfl (by kernel_rfl) (by rfl) (by intro w u; (try dsimp only at u); go_simp <;> with_reducible rfl) ‹_› (fun _ _ _ h => h) ?_; simp only [Act.put, sl0, sl1, sl2]
  iterate 8 (refine ptN rfl rfl (by kernel_rfl) (by rfl) ‹_› (fun _ _ _ h => h) ?_; simp only [Act.put, sl0, sl1, sl2])
  iterate 2 (refine ptY rfl rfl (by kernel_rfl) (by rfl) (by intro w u; (try dsimp only at u); go_simp <;> with_reducible rfl) ‹_› (fun _ _ _ h => h) ?_; simp only [Act.put, sl0, sl1, sl2])
  refine wpAnyH_done (by kernel_rfl) ?_ _
  clear e0 e1
  replace HB := Lib.hid (HB.out.keep hz1)
  replace HG := Lib.hid (HG.out.keep hz1)
  clear hb1 hz1 HSC HZ0 HS1 KR1
  have e0 := HG.out.c0
  have e1 := HG.out.c1
  go_wp2
  go_ret
  exact ⟨ret_bool Hn.out.symm, HB.out.below⟩
 ·have Hn : Hid (splB r m s = indB r t) := by show _ = _; unfold splB; rw [hc, Ht.out]; rfl
  rw [hc] at KC
  clear hc
  go_wp2
  rw [← HW.out]
  clear HW
  have HSC : Hid (∀ z : World, Below W.heap.size W z → (Below W.heap.size W z ∧ z.cell? ⟨w.heap.size, 0, none⟩ = some (.int .i64 m) ∧ z.cell? ⟨w.heap.size, 1, none⟩ = some (.slice A m c))) := fun z hz => ⟨hz, up_ hz e0, up_ hz e1⟩
  have HZ0 : Hid (Below W.heap.size W W.drew) := (Below.refl _ _).drew
  have HS1 := Lib.hid (HSC.out _ HZ0.out)
  have KR1 : Hid (∀ z : World, Below W.heap.size W z → _) := fun z hz => KC.out _ hz
  have KR2 : Hid (∀ z : World, Below W.heap.size W z → _) := fun z hz => KI.out _ hz
  refine wp_region_held_drew (S := fun z => Below W.heap.size W z ∧ z.cell? ⟨w.heap.size, 0, none⟩ = some (.int .i64 m) ∧ z.cell? ⟨w.heap.size, 1, none⟩ = some (.slice A m c)) (by kernel_rfl) HS1.out (fun hHeld => ?_)
  refine pcY 0 rfl rfl (by kernel_rfl) (by rfl) (by intro w u; (try dsimp only at u); go_simp <;> with_reducible rfl) ‹_› (fun _ _ _ h => h) ?_; simp only [Act.put, sl0, sl1, sl2]
  refine ptY rfl rfl (by kernel_rfl) (by rfl) (by intro w u; (try dsimp only at u); go_simp <;> with_reducible rfl) ‹_› (fun _ _ _ h => h) ?_; simp only [Act.put, sl0, sl1, sl2]
  refine wpAnyH_ready (rs := [2]) (by kernel_rfl) (by simp) ?_
  refine AllReadyH.cons rfl (fun K hK => ?_) AllReadyH.nil
  go_simp
  go_at_call 172; refine (KR1.out _ HZ0.out).mono ?_
  rintro e w2 ⟨rfl, hb2⟩
  have hz2 := bl_trans HZ0.out hb2
  refine hK.out _ _ (HSC.out _ hz2) (fun hHeld => ?_)
  clear hK K
  try simp only [Act.put, sl0, sl1, sl2]
  iterate 8 (refine ptY rfl rfl (by kernel_rfl) (by rfl) (by intro w u; (try dsimp only at u); go_simp <;> with_reducible rfl) ‹_› (fun _ _ _ h => h) ?_; simp only [Act.put, sl0, sl1, sl2])
  refine wpAnyH_ready (rs := [11]) (by kernel_rfl) (by simp) ?_
  refine AllReadyH.cons rfl (fun K hK => ?_) AllReadyH.nil
  go_simp
  go_at_call 157; refine (KR2.out _ hz2).mono ?_
  rintro e w3 ⟨rfl, hb3⟩
  have hz3 := bl_trans hz2 hb3
  refine hK.out _ _ (HSC.out _ hz3) (fun hHeld => ?_)
  clear hK K
  try simp only [Act.put, sl0, sl1, sl2]
  iterate 2 (refine ptY rfl rfl (by kernel_rfl) (by rfl) (by intro w u; (try dsimp only at u); go_simp <;> with_reducible rfl) ‹_› (fun _ _ _ h => h) ?_; simp only [Act.put, sl0, sl1, sl2])
  refine wpAnyH_done (by kernel_rfl) ?_ _
  clear e0 e1
  replace HB := Lib.hid (HB.out.keep hz3)
  replace HG := Lib.hid (HG.out.keep hz3)
  clear hb2 hz2 hb3 hz3 HSC HZ0 HS1 KR1 KR2
  have e0 := HG.out.c0
  have e1 := HG.out.c1
  go_wp2
  go_ret
  exact ⟨ret_bool Hn.out.symm, HB.out.below⟩
end
section
variable (sz : Int) (A : Option Addr) (m c : Nat) (x : Nat → Int) (s : Int) (w : World)
end
end Go.Proofs.YticadlkcjhglnaaGreat
