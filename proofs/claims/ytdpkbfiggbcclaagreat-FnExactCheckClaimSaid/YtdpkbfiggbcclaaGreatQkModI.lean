/-
  Several texts in one.
-/
import Derived.Test.YtdpkbfiggbcclaaGreatQkJoinI
import Derived.Test.YtdpkbfiggbcclaaGreatQkTake
import Derived.Test.YtdpkbfiggbcclaaGreatQkBest
import Derived.Test.YtdpkbfiggbcclaaGreatQkGC
import Derived.Laws.EntriesVeiled
import Derived.Test.YtdpkbfiggbcclaaGreatQkSet2I
import Derived.Test.YtdpkbfiggbcclaaGreatQkModP
import Derived.Test.YtdpkbfiggbcclaaGreatQkGB
/-
-/
namespace Go.Proofs.YtdpkbfiggbcclaaGreat
open Go.RowKit
def coR (r : Nat → Nat) (m v : Nat) : Nat := (2 ^ m - 1) ^^^ (r v ||| 2 ^ v)
section
variable {m : Nat} {r : Nat → Nat}
theorem or_pow_lt (vg : VG m r) {v : Nat} (hv : v < m) : r v ||| 2 ^ v < 2 ^ m := Nat.or_lt_two_pow (vg.lt v hv) (Nat.pow_lt_pow_right (by omega) hv)
theorem coR_sub (vg : VG m r) {v : Nat} (hv : v < m) : coR r m v = 2 ^ m - 1 - r v - 2 ^ v ∧ r v + 2 ^ v ≤ 2 ^ m - 1 := by
 have h1 := or_pow_lt vg hv
 have h2 : r v + 2 ^ v = r v ||| 2 ^ v := or_of_add (vg.irr v hv)
 unfold coR
 rw [full_sub vg.n7 h1, ← h2]
 rw [← h2] at h1
 omega
theorem coR_bit {v u : Nat} (hu : u < m) : (coR r m v).testBit u = (!((r v).testBit u || decide (v = u))) := by
 unfold coR
 rw [Nat.testBit_xor, Nat.testBit_two_pow_sub_one, Nat.testBit_or, Nat.testBit_two_pow, decide_eq_true hu]
 simp
theorem coR_vg (vg : VG m r) : VG m (coR r m) where
 n1 := vg.n1
 n7 := vg.n7
 lt := fun v hv => by unfold coR; exact full_lt vg.n7 (or_pow_lt vg hv)
 irr := fun v hv => by rw [coR_bit hv]; simp
 sym := fun v w hv hw => by
  rw [coR_bit hw, coR_bit hv, vg.sym v w hv hw]
  by_cases h : v = w
  ·subst h; rfl
  ·rw [decide_eq_false h, decide_eq_false (fun e => h e.symm)]
theorem coR_and {v : Nat} : ((2 ^ m - 1) ^^^ ((2 ^ m - 1) &&& r v)) ^^^ (((2 ^ m - 1) ^^^ ((2 ^ m - 1) &&& r v)) &&& 2 ^ v) = (2 ^ m - 1) ^^^ ((2 ^ m - 1) &&& (r v ||| 2 ^ v)) := by
 apply Nat.eq_of_testBit_eq
 intro i
 simp only [Nat.testBit_xor, Nat.testBit_and, Nat.testBit_or]
 cases (2 ^ m - 1).testBit i <;> cases (r v).testBit i <;> cases (2 ^ v).testBit i <;> rfl
end
end Go.Proofs.YtdpkbfiggbcclaaGreat

/-
-/
namespace Go.Proofs.YtdpkbfiggbcclaaGreat
open Go.RowKit
section
variable {m k v : Nat} {may hol : List Nat → Bool} {l : List Nat}
end
set_option maxRecDepth 100000 in
set_option maxHeartbeats 1000000 in
theorem clone_n (b o c : Nat) (l : List Nat) (w : World) (h : Rd w w.heap.size (some ⟨b, o, none⟩) l.length c (fun j => ((l.getD j 0 : Nat) : Int))) (h0 : l ≠ []) (hlen : l.length ≤ 7) :
 Calls Tryz.prog 300 #[.slice (some ⟨b, o, none⟩) l.length c] w fun e w' => ∃ g c', e = .returned (.slice (some ⟨g, 0, none⟩) l.length c') ∧ Own w' w.heap.size w'.heap.size 3 1 (some ⟨g, 0, none⟩) l.length c' (ni l) ∧ Below w.heap.size w w' := by
 have HO : Hid (Own (w.alloc (Obj.cells #[] 3)) w.heap.size (w.heap.size + 1) 3 1 (some ⟨w.heap.size, 0, none⟩) 0 0 (ni [])) :=
  .inr ⟨w.heap.size, #[], rfl, Nat.le_refl _, Nat.lt_succ_self _, heap_alloc_new w _, Nat.le_refl _, by unfold maxLen; omega, rfl, fun j hj => absurd hj (by omega)⟩
 have HR : Hid (Rd (w.alloc (Obj.cells #[] 3)) w.heap.size (some ⟨b, o, none⟩) l.length c (fun j => ((l.getD j 0 : Nat) : Int))) := h.keep ((Below.refl _ _).alloc (Nat.le_refl _) _) (Nat.le_refl _)
 have hpos : 0 < l.length := List.length_pos_iff.2 h0
 have H0 := Lib.hid hpos
 clear h h0 hpos
 have he : ∀ w : World, (binOp .eql 22 (.slice (some ⟨b, o, none⟩) l.length c) (.slice none 0 0)).run Tryz.prog w = .ok (.bool false) w := fun _ => rfl
 go_enter Tryz.func300, Tryz.ntmps300
 go_wp2_with (first | (at_builtin; (refine wpList_appendI _ rfl _ _ rfl rfl HO.out rfl HR.out (by simp) (by omega) (by omega) ?_; intro A' c' w1 hO hb)))
 rw [Nat.zero_add] at hO
 have hO2 := hO.congr (y := ni l) (fun j hj => by unfold thenI ni; simp)
 obtain ⟨g, rfl, _⟩ := hO2.at_ H0.out
 have HO2 := Lib.hid hO2
 have HB : Hid (Below w.heap.size w w1) := ((Below.refl _ _).alloc (Nat.le_refl _) _).trans hb
 clear hO hO2 hb
 go_wp2
 go_ret
 exact ⟨g, c', rfl, HO2.out, HB.out⟩
section
variable {m n H lo hi : Nat} {fm fh : FuncId} {cm ch : Array Value} {may hol : List Nat → Bool} {J : List (List Nat) → World → Prop}
end
end Go.Proofs.YtdpkbfiggbcclaaGreat

/-
-/
namespace Go.Proofs.YtdpkbfiggbcclaaGreat
open Go.RowKit
set_option maxRecDepth 100000 in
set_option maxHeartbeats 6400000 in
theorem ComplementOf_i (sz : Int) (A : Option Addr) (m c : Nat) (x : Nat → Int) (w : World) (h : GA w A m c x) (hm : m ≤ 1048576) :
 Calls Tryz.prog 335 #[.agg #[.int .i64 sz, .slice A m c]] w fun e w' => ∃ sz' A' m' c', e = .returned (.tuple #[.agg #[.int .i64 sz', .slice A' m' c'], .bool (okB sz m x)]) ∧ (okB sz m x = true → sz' = (m : Int) ∧ m' = m ∧ GV w' A' m c' (coR (rw_ x) m)) ∧ Below w.heap.size w w' := by
 obtain ⟨W, hW⟩ : ∃ W : World, W = ((w.alloc (Obj.cells #[Value.int IntKind.i64 sz, Value.slice A m c] 28)).alloc (Obj.cells #[Value.int IntKind.i64 0, Value.slice none 0 0] 28)) := ⟨_, rfl⟩
 have HB : Hid (From w W) := by rw [hW]; exact (From.alloc _ _).alloc_ _
 have HZ : Hid (w.heap.size + 2 = W.heap.size) := by rw [hW]; simp [Hid]
 have HS : Hid (From W W) := From.refl W
 have HK := Lib.hid (h.keep HB.out.below)
 have HC : Hid (GC W w.heap.size sz A m c) := by rw [hW]; exact (GC.new _ _ _ _ _).keep ((Below.refl _ _).alloc (Nat.le_refl _) _)
 have HD : Hid (GC W (w.heap.size + 1) 0 none 0 0) := by rw [hW]; constructor <;> simp [go_sem]
 have HW := Lib.hid hW
 clear hW h
 go_enter Tryz.func335, Tryz.ntmps335
 have e0 := HC.out.c0
 have e1 := HC.out.c1
 have d0 := HD.out.c0
 have d1 := HD.out.c1
 have d2 := HD.out.f0
 have d3 := HD.out.f1
 go_wp2_with fail
 rw [← HW.out]
 refine (IsGraph_any sz A m c x W W.heap.size HK.out.rd (Nat.le_refl _) hm).mono ?_
 rintro e w1 ⟨rfl, hb1⟩
 clear HW
 clear e0 e1 d0 d1 d2 d3
 replace HB := Lib.hid (HB.out.keep hb1)
 replace HS := Lib.hid (HS.out.keep hb1)
 replace HK := Lib.hid (HK.out.keep hb1)
 replace HC := Lib.hid (HC.out.keep hb1)
 replace HD := Lib.hid (HD.out.keep hb1)
 clear hb1
 have e0 := HC.out.c0
 have e1 := HC.out.c1
 have d0 := HD.out.c0
 have d1 := HD.out.c1
 have d2 := HD.out.f0
 have d3 := HD.out.f1
 cases ho : okB sz m x
 ·have Ho := Lib.hid ho
  clear ho
  go_wp2
  have HE := (HB.out.set (q := w.heap.size + 1) (by omega) (.int .i64 0) (.slice none 0 0)).below
  exact bodyPost_ret (v := .tuple #[.agg #[.int .i64 0, .slice none 0 0], .bool false]) (by simp [results, Tryz.results335, go_sem, *]) rfl ⟨0, none, 0, 0, by rw [Ho.out], (fun h => by rw [Ho.out] at h; cases h), HE⟩
 ·obtain ⟨_, es, vg0, _⟩ := okB_ok' ho
  subst es
  have hn1 := vg0.n1
  have hn7 := vg0.n7
  have HX := Lib.hid (okB_vg ho).2
  have HG : Hid (GV w1 A m c (rw_ x)) := HK.out.gv ho
  have Ho := Lib.hid ho
  obtain ⟨b, o, rfl⟩ := HG.out.addr
  have hbl := HG.out.bl
  have hY0 : w.heap.size + 2 ≤ w1.heap.size := by have := HS.out.below.size; have := HZ.out; omega
  clear ho vg0
  go_wp2_with fail
  refine (copyGraph_any (m : Int) (some ⟨b, o, none⟩) m c x w1 w1.heap.size HK.out.rd (Nat.le_refl _) hm).mono ?_
  rintro e w2 ⟨A', c', rfl, hO, hb2⟩
  clear e0 e1 d0 d1 d2 d3
  replace HB := Lib.hid (HB.out.keep hb2)
  replace HS := Lib.hid (HS.out.keep hb2)
  replace HK := Lib.hid (HK.out.keep hb2)
  replace HG := Lib.hid (HG.out.keep hb2)
  replace HC := Lib.hid (HC.out.keep hb2)
  replace HD := Lib.hid (HD.out.keep hb2)
  clear hb2
  have e0 := HC.out.c0
  have e1 := HC.out.c1
  have d0 := HD.out.c0
  have d1 := HD.out.c1
  have d2 := HD.out.f0
  have d3 := HD.out.f1
  obtain ⟨g, rfl, hg1, hg2, hOc⟩ := hO.only (by omega)
  have HOg : Hid (Own w2 g (g + 1) 3 1 (some ⟨g, 0, none⟩) m c' (fun j => .int .i64 (rw_ x j : Nat))) := hOc.congr (fun j hj => by rw [HX.out j (by omega)])
  obtain ⟨W2, hW2⟩ : ∃ W2 : World, W2 = (w2.alloc (Obj.cells #[Value.int IntKind.i64 (m : Int), Value.slice (some ⟨g, 0, none⟩) m c'] 28)) := ⟨_, rfl⟩
  have hb2 : Below w2.heap.size w2 W2 := by rw [hW2]; exact (Below.refl _ _).alloc (Nat.le_refl _) _
  have HQ : Hid (GC W2 w2.heap.size m (some ⟨g, 0, none⟩) m c') := by rw [hW2]; exact GC.new _ _ _ _ _
  have hz2 : w2.heap.size + 1 = W2.heap.size := by rw [hW2]; simp
  have HC2 := Lib.hid (HC.out.keep hb2)
  have HD2 := Lib.hid (HD.out.keep hb2)
  have HG2 := Lib.hid (HG.out.keep hb2)
  have HB2 := Lib.hid (HB.out.keep hb2)
  have HO2 : Hid (Own W2 g (g + 1) 3 1 (some ⟨g, 0, none⟩) m c' (fun j => .int .i64 (rw_ x j : Nat))) := HOg.out.keepB hb2 (by omega)
  have HW2 := Lib.hid hW2
  clear hW2 hb2 hOc hO HOg
  go_wp2_with fail
  rw [← HW2.out]
  clear HW2
  go_loopw [15] (fun k wr => ∃ (K : Nat), K ≤ m ∧ k = .int .i64 K ∧ Hid (Own wr g (g + 1) 3 1 (some ⟨g, 0, none⟩) m c' (fun j => .int .i64 ((if j < K then coR (rw_ x) m j else rw_ x j : Nat) : Int))) ∧ Hid (Fr g (g + 1) W2 wr)) (fun k _ => m - (intOf k).toNat)
  case atStart => exact ⟨0, Nat.zero_le _, rfl, HO2.out.congr (fun j hj => by rw [if_neg (by omega)]), Fr.refl _ _ _⟩
  case round =>
   obtain ⟨K, hK, rfl, HOr, HFr⟩ := hrel
   have HCr := Lib.hid (HC2.out.keepF HFr.out (.inl (by omega)))
   have HQr := Lib.hid (HQ.out.keepF HFr.out (.inr (by omega)))
   have e0 := HCr.out.c0
   have e1 := HCr.out.c1
   have g0 := HQr.out.c0
   have g1 := HQr.out.c1
   have zr := HFr.out.size
   by_cases hlt : K < m
   ·have q0 := frC_ HFr.out (HG2.out.row hlt) HG2.out.bl (.inl (by omega))
    have hr := HG2.out.vg.lt128 hlt
    obtain ⟨g', e9, _, _, hg3, hcg, hfg⟩ := HOr.out.at_ (by omega)
    simp only [Option.some.injEq, Addr.mk.injEq, and_true] at e9
    subst e9
    have cg := hcg K (by omega)
    have fg := hfg K
    rw [if_neg (by omega)] at cg
    obtain ⟨y, hy⟩ : ∃ y, y = rw_ x K := ⟨_, rfl⟩
    obtain ⟨M, hM⟩ : ∃ M, M = 2 ^ m - 1 := ⟨_, rfl⟩
    have h128 := two_pow_le hn7
    have hco : (M ^^^ (M &&& y)) ^^^ ((M ^^^ (M &&& y)) &&& 2 ^ K) = coR (rw_ x) m K := by
     rw [hM, hy, coR_and, full_and (or_pow_lt HG2.out.vg hlt)]
     rfl
    rw [← hy] at q0 cg hr
    have hMl : M < 128 := by omega
    have c2 : ((2 ^ K : Nat) : Int) = 2 ^ K := by simp
    have hx1 : M ^^^ (M &&& y) < 128 := Nat.xor_lt_two_pow (n := 7) (by omega) (Nat.and_lt_two_pow _ (by omega))
    have hK7 := two_pow_le (n := K) (by omega)
    have E1 := i64_andNot_nat M y (by omega) (by omega)
    have E2 := i64_andNot_nat (M ^^^ (M &&& y)) (2 ^ K) (by omega) (by omega)
    rw [c2, hco] at E2
    have p2 := pow_shl K (by omega)
    have KA : Hid (∀ z : World, Calls Tryz.prog 185 #[.agg #[.int .i64 (m : Int), .slice (some ⟨b, o, none⟩) m c]] z fun e w' => e = .returned (.int .i64 (M : Int)) ∧ Below z.heap.size z w') := fun z => by rw [hM]; exact all_any m _ c z hn7
    have i1 : (K : Int) < (m : Int) := by omega
    obtain ⟨v, hv⟩ : ∃ v, v = coR (rw_ x) m K := ⟨_, rfl⟩
    rw [← hv] at E2
    have Hv := Lib.hid hv
    have HSC : Hid (∀ z : World, Below wr.heap.size wr z → (Below wr.heap.size wr z ∧ z.cell? ⟨w.heap.size, 0, none⟩ = some (.int .i64 (m : Int)) ∧ z.cell? ⟨w.heap.size, 1, none⟩ = some (.slice (some ⟨b, o, none⟩) m c) ∧ z.cell? ⟨w2.heap.size, 1, none⟩ = some (.slice (some ⟨g, 0, none⟩) m c') ∧ z.cell? ⟨b, o + K, none⟩ = some (.int .i64 (y : Int)))) := fun z hz => ⟨hz, up_ hz e0, up_ hz e1, up_ hz g1, up_ hz q0⟩
    have HSS : Hid (∀ (z : World) (u : Value), Below wr.heap.size wr z → (z.setCell ⟨g, K, none⟩ u).cell? ⟨w.heap.size, 0, none⟩ = some (.int .i64 (m : Int)) ∧ (z.setCell ⟨g, K, none⟩ u).cell? ⟨w.heap.size, 1, none⟩ = some (.slice (some ⟨b, o, none⟩) m c) ∧ (z.setCell ⟨g, K, none⟩ u).cell? ⟨w2.heap.size, 1, none⟩ = some (.slice (some ⟨g, 0, none⟩) m c') ∧ (z.setCell ⟨g, K, none⟩ u).cell? ⟨b, o + K, none⟩ = some (.int .i64 (y : Int))) := fun z u hz => by
     have F := (Fr.refl g (g + 1) z).setCell (p := ⟨g, K, none⟩) (Nat.le_refl _) (Nat.lt_succ_self _) u
     obtain ⟨_, h1, h2, h3, h4⟩ := HSC.out z hz
     exact ⟨frC_ F h1 (World.block_lt_of_cell? _ _ h1) (.inl (by omega)), frC_ F h2 (World.block_lt_of_cell? _ _ h2) (.inl (by omega)), frC_ F h3 (World.block_lt_of_cell? _ _ h3) (.inr (by omega)), frC_ F h4 (World.block_lt_of_cell? _ _ h4) (.inl (by omega))⟩
    have HZ0 : Hid (Below wr.heap.size wr wr.drew) := (Below.refl _ _).drew
    have HS1 := Lib.hid (HSC.out _ HZ0.out).2
    clear hcg hfg hy hM hco hr hMl c2 hx1 hK7 h128 hv
    go_wp2
    go_region_held3 (fun z => z.cell? ⟨w.heap.size, 0, none⟩ = some (.int .i64 (m : Int)) ∧ z.cell? ⟨w.heap.size, 1, none⟩ = some (.slice (some ⟨b, o, none⟩) m c) ∧ z.cell? ⟨w2.heap.size, 1, none⟩ = some (.slice (some ⟨g, 0, none⟩) m c') ∧ z.cell? ⟨b, o + K, none⟩ = some (.int .i64 (y : Int)))
     (first | exact HS1.out | assumption | exact HSS.out _ _ hz5 | exact (HSC.out _ hz5).2 | fail)
     (first | (go_at_call 185; ((with_reducible refine (KA.out _).mono ?_); rintro e w5 ⟨rfl, hb5⟩; have hz5 := bl_trans HZ0.out hb5; have c5 := up_ hz5 cg; have f5 := upf hz5 fg hg3)))
    all_goals
     obtain ⟨W7, hW7⟩ : ∃ W7 : World, W7 = (w5.setCell ⟨g, K, none⟩ (.int .i64 (v : Int))) := ⟨_, rfl⟩
     rw [← hW7]
     have HF7 : Hid (Fr g (g + 1) W2 W7) := by rw [hW7]; exact (HFr.out.trans (Fr.of_below hz5)).setCell (p := ⟨g, K, none⟩) (Nat.le_refl _) (Nat.lt_succ_self _) _
     have HO7 : Hid (Own W7 g (g + 1) 3 1 (some ⟨g, 0, none⟩) m c' (fun j => .int .i64 ((if j < K + 1 then coR (rw_ x) m j else rw_ x j : Nat) : Int))) := by
      rw [hW7]
      refine ((HOr.out.keepB hz5 (by omega)).set_ K _).congr (fun j hj => ?_)
      by_cases h1 : j = K
      ·subst h1; rw [if_pos rfl, if_pos (by omega), Hv.out]
      ·rw [if_neg h1]
       by_cases h2 : j < K
       ·rw [if_pos h2, if_pos (by omega)]
       ·rw [if_neg h2, if_neg (by omega)]
     clear hW7 hz5 hb5 c5 f5 HSC HSS HZ0 HS1 KA E1 E2 p2
     go_wp2
     go_roundw
     case rel => exact ⟨K + 1, by omega, by go_num, HO7, HF7⟩
     case measure => (simp [intOf] <;> omega)
   ·obtain rfl : m = K := by omega
    have i1 : (m : Int) ≤ (m : Int) := Int.le_refl _
    have HDr := Lib.hid (HD2.out.keepF HFr.out (.inl (by omega)))
    have d0 := HDr.out.c0
    have d1 := HDr.out.c1
    have d2 := HDr.out.f0
    have d3 := HDr.out.f1
    go_wp2
    have F := fr2 wr (w.heap.size + 1) (.int .i64 (m : Int)) (.slice (some ⟨g, 0, none⟩) m c')
    have F2 := F.size
    have O1 := ((HOr.out.keep F (.inr (by omega))).congr (y := fun j => .int .i64 (coR (rw_ x) m j : Nat)) (fun j hj => by rw [if_pos (by omega)])).mono (Nat.le_refl _) (Nat.le_trans (by omega) F2)
    have HE := ((⟨HB2.out.below.trans (HFr.out.below (B := w.heap.size) (by omega) (by omega))⟩ : From w wr).set (q := w.heap.size + 1) (by omega) (.int .i64 (m : Int)) (.slice (some ⟨g, 0, none⟩) m c')).below
    exact bodyPost_ret (v := .tuple #[.agg #[.int .i64 (m : Int), .slice (some ⟨g, 0, none⟩) m c'], .bool true]) (by simp [results, Tryz.results335, go_sem, *]) rfl ⟨m, some ⟨g, 0, none⟩, m, c', by rw [Ho.out], (fun _ => ⟨rfl, rfl, ⟨coR_vg HG2.out.vg, O1.rd⟩⟩), HE⟩
end Go.Proofs.YtdpkbfiggbcclaaGreat

/-
-/
namespace Go.Proofs.YtdpkbfiggbcclaaGreat
open Go.RowKit
section
variable {A : Option Addr} {m c : Nat} {r : Nat → Nat}
theorem made_own (w : World) (n : Nat) (hn : n ≤ 1048576) : ∃ W : World, (Instr.makeSlice 22 (.int .i64 (n : Int)) (.int .i64 (n : Int))).run Tryz.prog w = .ok (.slice (some ⟨w.heap.size, 0, none⟩) n n) W ∧ Own W w.heap.size (w.heap.size + 1) 3 1 (some ⟨w.heap.size, 0, none⟩) n n (fun _ => .int .i64 0) ∧ Below w.heap.size w W := by
 refine ⟨_, run_make_row' (P := Tryz.prog) 22 3 (.int .i64 0) 8 Tryz.underlying22 info_int rfl .i64 .i64 n (by omega) (by omega) w, ?_, (Below.refl _ _).alloc (Nat.le_refl _) _⟩
 obtain ⟨cc, q1, q2, q3⟩ := World.rowIs_made w (.int .i64 0) n 3
 exact .inr ⟨_, cc, rfl, Nat.le_refl _, Nat.lt_succ_self _, q1, Nat.le_refl _, by unfold maxLen; omega, by omega, fun j hj => by rw [q3 j (by omega)]⟩
end
end Go.Proofs.YtdpkbfiggbcclaaGreat

/-
-/
namespace Go.Proofs.YtdpkbfiggbcclaaGreat
open Go.RowKit
def bmK (P : Nat → Bool) : Nat → Nat
 | 0 => 0
 | n + 1 => if P n = true then bmK P n ||| 2 ^ n else bmK P n
theorem bmK_bit {P : Nat → Bool} {i : Nat} : ∀ n, (bmK P n).testBit i = (decide (i < n) && P i) := by
 intro n
 induction n with
 | zero => simp [bmK]
 | succ n ih =>
   rw [bmK]
   by_cases h : P n = true
   ·rw [if_pos h, Nat.testBit_or, ih, Nat.testBit_two_pow]
    by_cases e : n = i
    ·subst e; simp [h]
    ·by_cases e2 : i < n
     ·simp [e, e2, show i < n + 1 by omega]
     ·simp [e, e2, show ¬ i < n + 1 by omega]
   ·rw [if_neg h, ih]
    by_cases e : i = n
    ·subst e; simp [h]
    ·by_cases e2 : i < n
     ·simp [e2, show i < n + 1 by omega]
     ·simp [e2, show ¬ i < n + 1 by omega]
theorem bmK_lt {P : Nat → Bool} : ∀ n, bmK P n < 2 ^ n := by
 intro n
 induction n with
 | zero => exact Nat.one_pos
 | succ n ih =>
   have h1 : 2 ^ n < 2 ^ (n + 1) := Nat.pow_lt_pow_right (by omega) (Nat.lt_succ_self _)
   rw [bmK]
   split
   ·exact Nat.or_lt_two_pow (by omega) h1
   ·omega
def stB (p : Nat → Nat → Bool) (b a j i : Nat) : Bool := (decide (i < j) && p i j && (decide (j < b) || decide (j = b ∧ i < a))) || (decide (j < i) && p j i && (decide (i < b) || decide (i = b ∧ j < a)))
def grS (p : Nat → Nat → Bool) (n b a j : Nat) : Nat := bmK (stB p b a j) n
theorem grS_lt {p : Nat → Nat → Bool} {n b a j : Nat} : grS p n b a j < 2 ^ n := bmK_lt n
theorem grS_zero {p : Nat → Nat → Bool} {n j : Nat} : grS p n 0 0 j = 0 := by
 apply Nat.eq_of_testBit_eq
 intro i
 unfold grS
 rw [bmK_bit]
 simp [stB]
theorem grS_next {p : Nat → Nat → Bool} {n b j : Nat} : grS p n b b j = grS p n (b + 1) 0 j := by
 apply Nat.eq_of_testBit_eq
 intro i
 unfold grS
 rw [bmK_bit, bmK_bit]
 congr 1
 unfold stB
 by_cases h1 : i < j
 ·have h2 : ¬ j < i := by omega
  have e : (decide (j < b) || decide (j = b ∧ i < b)) = (decide (j < b + 1) || decide (j = b + 1 ∧ i < 0)) := by
   rw [Bool.eq_iff_iff]; simp; omega
  rw [e, decide_eq_false h2]; simp
 ·by_cases h2 : j < i
  ·have e : (decide (i < b) || decide (i = b ∧ j < b)) = (decide (i < b + 1) || decide (i = b + 1 ∧ j < 0)) := by
    rw [Bool.eq_iff_iff]; simp; omega
   rw [e, decide_eq_false h1]; simp
  ·rw [decide_eq_false h1, decide_eq_false h2]; simp
theorem grS_no {p : Nat → Nat → Bool} {n b a j : Nat} (hp : p a b = false) : grS p n b (a + 1) j = grS p n b a j := by
 apply Nat.eq_of_testBit_eq
 intro i
 unfold grS
 rw [bmK_bit, bmK_bit]
 congr 1
 unfold stB
 by_cases h1 : i = a ∧ j = b
 ·obtain ⟨rfl, rfl⟩ := h1
  simp only [hp, Bool.and_false, Bool.false_and, Bool.false_or]
  by_cases h3 : j < i
  ·have h4 : ¬ i = j := by omega
   simp [h4]
  ·simp [h3]
 ·by_cases h2 : j = a ∧ i = b
  ·obtain ⟨rfl, rfl⟩ := h2
   simp only [hp, Bool.and_false, Bool.false_and, Bool.or_false]
   by_cases h3 : i < j
   ·have h4 : ¬ j = i := by omega
    simp [h4]
   ·simp [h3]
  ·have e1 : decide (j = b ∧ i < a + 1) = decide (j = b ∧ i < a) := by rw [decide_eq_decide]; omega
   have e2 : decide (i = b ∧ j < a + 1) = decide (i = b ∧ j < a) := by rw [decide_eq_decide]; omega
   rw [e1, e2]
theorem grS_yes {p : Nat → Nat → Bool} {n b a j : Nat} (hp : p a b = true) (hab : a < b) (hb : b < n) : grS p n b (a + 1) j = addN (grS p n b a) a b j := by
 apply Nat.eq_of_testBit_eq
 intro i
 have hx : ∀ t k : Nat, (t ^^^ 2 ^ k).testBit i = (t.testBit i ^^ decide (k = i)) := fun t k => by rw [Nat.testBit_xor, Nat.testBit_two_pow]
 unfold addN
 by_cases h1 : j = a
 ·subst h1
  rw [if_pos rfl, hx]
  unfold grS
  rw [bmK_bit, bmK_bit]
  by_cases h2 : b = i
  ·subst h2
   simp [stB, hp, hab, hb, show ¬ b < j by omega]
  ·have : stB p b (j + 1) j i = stB p b j j i := by
    unfold stB
    have e1 : decide (j = b ∧ i < j + 1) = decide (j = b ∧ i < j) := by rw [decide_eq_decide]; omega
    have e2 : decide (i = b ∧ j < j + 1) = decide (i = b ∧ j < j) := by rw [decide_eq_decide]; omega
    rw [e1, e2]
   rw [this]; simp [h2]
 ·rw [if_neg h1]
  by_cases h2 : j = b
  ·subst h2
   rw [if_pos rfl, hx]
   unfold grS
   rw [bmK_bit, bmK_bit]
   by_cases h3 : a = i
   ·subst h3
    simp [stB, hp, hab, show a < n by omega, show ¬ j < a by omega]
   ·have : stB p j (a + 1) j i = stB p j a j i := by
     unfold stB
     have e1 : decide (j = j ∧ i < a + 1) = decide (j = j ∧ i < a) := by rw [decide_eq_decide]; omega
     have e2 : decide (i = j ∧ j < a + 1) = decide (i = j ∧ j < a) := by rw [decide_eq_decide]; omega
     rw [e1, e2]
    rw [this]; simp [h3]
  ·rw [if_neg h2]
   unfold grS
   rw [bmK_bit, bmK_bit]
   congr 1
   unfold stB
   have e1 : decide (j = b ∧ i < a + 1) = decide (j = b ∧ i < a) := by rw [decide_eq_decide]; omega
   have e2 : decide (i = b ∧ j < a + 1) = decide (i = b ∧ j < a) := by rw [decide_eq_decide]; omega
   rw [e1, e2]
end Go.Proofs.YtdpkbfiggbcclaaGreat

/-
-/
namespace Go.Proofs.YtdpkbfiggbcclaaGreat
open Go.RowKit
set_option maxRecDepth 100000 in
set_option maxHeartbeats 3200000 in
theorem IsModel_i (Al : Option Addr) (n cl : Nat) (L : List Int) (Ar : Option Addr) (k cr : Nat) (R : List Int) (w : World) (hl : LI w Al n cl L) (hr : LI w Ar k cr R) :
 Calls Tryz.prog 384 #[.agg #[.slice Al n cl, .slice Ar k cr]] w fun e w' => e = .returned (.bool (imB L R)) ∧ Below w.heap.size w w' := by
 obtain ⟨W, hW⟩ : ∃ W : World, W = (w.alloc (Obj.cells #[Value.slice Al n cl, Value.slice Ar k cr] 141)) := ⟨_, rfl⟩
 have HB : Hid (From w W) := by rw [hW]; exact From.alloc _ _
 have HL := Lib.hid (hl.keep HB.out.below)
 have HR := Lib.hid (hr.keep HB.out.below)
 have HI : Hid (IB W w.heap.size Al n cl Ar k cr) := by rw [hW]; constructor <;> simp [go_sem]
 have HW := Lib.hid hW
 have HN := Lib.hid hl.len
 have HK := Lib.hid hr.len
 clear hW hl hr
 by_cases hn : 1 ≤ n ∧ n ≤ 7
 rotate_left
 ·have Hn : Hid (imB L R = false) := im_len (by rw [← HN.out]; exact hn)
  have KW : Hid (decide ((1 : Int) ≤ (n : Int) ∧ (n : Int) ≤ 7) = false) := by show _ = _; exact decide_eq_false (by omega)
  clear hn
  go_enter Tryz.func384, Tryz.ntmps384
  have e0 := HI.out.c0
  have e1 := HI.out.c1
  go_wp2_with fail
  rw [← HW.out]
  refine (within_b (n := (n : Int)) (lo := 1) (hi := 7) W KW.out).mono ?_
  rintro e w1 ⟨rfl, hb1⟩
  clear HW
  clear e0 e1
  replace HB := Lib.hid (HB.out.keep hb1)
  replace HI := Lib.hid (HI.out.keep hb1)
  clear hb1
  have e0 := HI.out.c0
  have e1 := HI.out.c1
  go_wp2
  go_ret
  exact ⟨ret_bool Hn.out.symm, HB.out.below⟩
 have KW : Hid (decide ((1 : Int) ≤ (n : Int) ∧ (n : Int) ≤ 7) = true) := by show _ = _; exact decide_eq_true (by omega)
 by_cases hnk : k = n
 rotate_left
 ·have Hn : Hid (imB L R = false) := im_same (by rw [← HN.out, ← HK.out]; exact hnk)
  have d1 : ((k : Int) != (n : Int)) = true := by simp; omega
  clear hn hnk
  go_enter Tryz.func384, Tryz.ntmps384
  have e0 := HI.out.c0
  have e1 := HI.out.c1
  go_wp2_with fail
  rw [← HW.out]
  refine (within_b (n := (n : Int)) (lo := 1) (hi := 7) W KW.out).mono ?_
  rintro e w2 ⟨rfl, hb2⟩
  clear HW
  clear e0 e1
  replace HB := Lib.hid (HB.out.keep hb2)
  replace HI := Lib.hid (HI.out.keep hb2)
  clear hb2
  have e0 := HI.out.c0
  have e1 := HI.out.c1
  go_wp2
  go_ret
  exact ⟨ret_bool Hn.out.symm, HB.out.below⟩
 subst hnk
 have d1 : ((k : Int) != (k : Int)) = false := by simp
 go_enter Tryz.func384, Tryz.ntmps384
 have e0 := HI.out.c0
 have e1 := HI.out.c1
 go_wp2_with fail
 rw [← HW.out]
 refine (within_b (n := (k : Int)) (lo := 1) (hi := 7) W KW.out).mono ?_
 rintro e w3 ⟨rfl, hb3⟩
 clear HW
 clear e0 e1
 replace HB := Lib.hid (HB.out.keep hb3)
 replace HI := Lib.hid (HI.out.keep hb3)
 replace HL := Lib.hid (HL.out.keep hb3)
 replace HR := Lib.hid (HR.out.keep hb3)
 clear hb3
 have e0 := HI.out.c0
 have e1 := HI.out.c1
 clear KW
 go_wp2
 go_loop [22] (fun iv => ∃ i : Nat, i ≤ k ∧ iv = .int .i64 i ∧ Hid (Im1 L R i)) (fun iv => k - (intOf iv).toNat)
 case atStart => exact ⟨0, Nat.zero_le _, rfl, Im1.zero⟩
 case round =>
  obtain ⟨i, hi, rfl, H1⟩ := hrel
  by_cases hik : i < k
  ·have i1 : (i : Int) < (k : Int) := by omega
   obtain ⟨bl, ol, rfl⟩ := HL.out.addr (by omega)
   obtain ⟨br, or_, rfl⟩ := HR.out.addr (by omega)
   have p0 := HL.out.at hik
   have p1 := HR.out.at hik
   have hno := fun h => im_no (L := L) (R := R) (k := i) (by rw [← HN.out]; exact hik) h
   have hst := fun h => H1.out.step (L := L) (R := R) (k := i) h
   obtain ⟨a, ha⟩ : ∃ a : Int, a = L.getD i 0 := ⟨_, rfl⟩
   obtain ⟨b, hb⟩ : ∃ b : Int, b = R.getD i 0 := ⟨_, rfl⟩
   rw [← ha] at p0 hno hst
   rw [← hb] at p1 hno hst
   clear ha hb
   by_cases h0 : a < 0
   ·have Hn : Hid (imB L R = false) := hno (by omega)
    clear hno hst
    go_wp2
    go_ret
    exact ⟨ret_bool Hn.out.symm, HB.out.below⟩
   have j0 : 0 ≤ a := by omega
   by_cases h1 : b < a
   ·have Hn : Hid (imB L R = false) := hno (by omega)
    clear hno hst h0
    go_wp2
    go_ret
    exact ⟨ret_bool Hn.out.symm, HB.out.below⟩
   have j1 : a ≤ b := by omega
   by_cases h2 : 99 < b
   ·have Hn : Hid (imB L R = false) := hno (by omega)
    clear hno hst h0 h1
    go_wp2
    go_ret
    exact ⟨ret_bool Hn.out.symm, HB.out.below⟩
   have j2 : b ≤ 99 := by omega
   have H1' : Hid (Im1 L R (i + 1)) := hst ⟨j0, j1, j2⟩
   clear hno hst h0 h1 h2
   go_wp2
   go_round
   case rel => exact ⟨i + 1, by omega, by go_num, H1'⟩
   case measure => (simp [intOf] <;> omega)
  ·have Hy : Hid (imB L R = true) := im_yes (by rw [← HN.out]; exact hn) (by rw [← HN.out, ← HK.out]) (by rw [← HN.out]; have e : i = k := by omega
                                                                                                          rw [← e]; exact H1.out)
   have i1 : (k : Int) ≤ (i : Int) := by omega
   go_wp2
   go_ret
   exact ⟨ret_bool Hy.out.symm, HB.out.below⟩
end Go.Proofs.YtdpkbfiggbcclaaGreat
