/-
  Several texts in one.
-/
import Derived.Test.YtdpkbfiggbcclaaGreatQmJoinI
import Derived.Test.YtdpkbfiggbcclaaGreatQmListZ
import Derived.Test.YtdpkbfiggbcclaaGreatQmClaim
import Derived.Test.YtdpkbfiggbcclaaGreatQmFirst
import Derived.Test.YtdpkbfiggbcclaaGreatQmThoB
/-
-/
namespace Go.Proofs.YtdpkbfiggbcclaaGreat
open Go.RowKit
def coR (r : Nat → Nat) (m v : Nat) : Nat := (2 ^ m - 1) ^^^ (r v ||| 2 ^ v)
section
variable {m : Nat} {r : Nat → Nat}
theorem or_pow_lt (vg : VG m r) {v : Nat} (hv : v < m) : r v ||| 2 ^ v < 2 ^ m := Nat.or_lt_two_pow (vg.lt v hv) (Nat.pow_lt_pow_right (by omega) hv)
theorem coR_sub (vg : VG m r) {v : Nat} (hv : v < m) : coR r m v = 2 ^ m - 1 - r v - 2 ^ v ∧ r v + 2 ^ v ≤ 2 ^ m - 1 := by
 have h1 := or_pow_lt vg hv;have h2 : r v + 2 ^ v = r v ||| 2 ^ v := or_of_add (vg.irr v hv);unfold coR;rw [full_sub vg.n7 h1, ← h2];rw [← h2] at h1;omega
theorem coR_bit {v u : Nat} (hu : u < m) : (coR r m v).testBit u = (!((r v).testBit u || decide (v = u))) := by
 unfold coR;rw [Nat.testBit_xor, Nat.testBit_two_pow_sub_one, Nat.testBit_or, Nat.testBit_two_pow, decide_eq_true hu];simp
theorem coR_vg (vg : VG m r) : VG m (coR r m) where
 n1 := vg.n1
 n7 := vg.n7
 lt := fun v hv => by unfold coR; exact full_lt vg.n7 (or_pow_lt vg hv)
 irr := fun v hv => by rw [coR_bit hv]; simp
 sym := fun v w hv hw => by
  rw [coR_bit hw, coR_bit hv, vg.sym v w hv hw]
  by_cases h : v = w
  ·subst h; rfl
  ·rw [decide_eq_false h, decide_eq_false (fun e => h e.symm)]
theorem coR_and {v : Nat} : ((2 ^ m - 1) ^^^ ((2 ^ m - 1) &&& r v)) ^^^ (((2 ^ m - 1) ^^^ ((2 ^ m - 1) &&& r v)) &&& 2 ^ v) = (2 ^ m - 1) ^^^ ((2 ^ m - 1) &&& (r v ||| 2 ^ v)) := by
 apply Nat.eq_of_testBit_eq;intro i;simp only [Nat.testBit_xor, Nat.testBit_and, Nat.testBit_or];cases (2 ^ m - 1).testBit i <;> cases (r v).testBit i <;> cases (2 ^ v).testBit i <;> rfl
end
set_option maxHeartbeats 1000000
def splB (r : Nat → Nat) (m s : Nat) : Bool := cliq r s && indB r ((2 ^ m - 1) ^^^ s)
section
variable (sz : Int) (A : Option Addr) (m c : Nat) (x : Nat → Int) (s : Int) (w : World)
end
section
variable {A : Option Addr} {m c : Nat} {r : Nat → Nat} {w : World} {s : Nat}
theorem comp_lt (hm : m ≤ 7) (hs : s < 2 ^ m) : (2 ^ m - 1) ^^^ s < 2 ^ m := full_lt hm hs
theorem IsSplitPartition_v (h : GV w A m c r) (hs : s < 2 ^ m) :
 Calls Tryz.prog 255 #[.agg #[.int .i64 m, .slice A m c], .int .i64 s] w fun e w' => e = .returned (.bool (splB r m s)) ∧ Below w.heap.size w w' := by
 have hn7 := h.vg.n7;have h128 := two_pow_le hn7;have hcl := comp_lt hn7 hs;have E := i64_andNot_nat (2 ^ m - 1) s (by omega) (by omega);rw [full_and hs] at E;obtain ⟨t, ht⟩ : ∃ t, t = (2 ^ m - 1) ^^^ s := ⟨_, rfl⟩;obtain ⟨F, hF⟩ : ∃ F, F = 2 ^ m - 1 := ⟨_, rfl⟩;have KA : Hid (∀ z : World, Calls Tryz.prog 185 #[.agg #[.int .i64 m, .slice A m c]] z fun e w' => e = .returned (.int .i64 (F : Nat)) ∧ Below z.heap.size z w') := by rw [hF]; exact fun z => all_any m A c z hn7
 rw [← ht] at hcl;rw [← ht, ← hF] at E;have Ht := hh_ ht;clear ht hF;obtain ⟨W, hW, HB, HG⟩ := gbW h;have HW := hh_ hW;clear hW h;obtain ⟨e0, e1⟩ := gx_ HG;have HG0 := HG;have KI : Hid (∀ z : World, Below W.heap.size W z → Calls Tryz.prog 135 #[.agg #[.int .i64 m, .slice A m c], .int .i64 (t : Int)] z fun e w' => e = .returned (.bool (indB r t)) ∧ Below z.heap.size z w') := fun z hz => IsIndependent_v (HG0.gv.keep hz) hcl
 have KC : Hid (∀ z : World, Below W.heap.size W z → Calls Tryz.prog 131 #[.agg #[.int .i64 m, .slice A m c], .int .i64 (s : Int)] z fun e w' => e = .returned (.bool (cliq r s)) ∧ Below z.heap.size z w') := fun z hz => IsClique_v (HG0.gv.keep hz) hs
 go_enter Tryz.func255, Tryz.ntmps255;cases hc : cliq r s
 ·have Hn : Hid (splB r m s = false) := by show _ = _; unfold splB; rw [hc]; rfl
  rw [hc] at KC;clear hc;go_wp2;rw [← HW.out];clear HW;obtain ⟨HSC, HZ0, HS1⟩ := hsc2 e0 e1;have KR1 : Hid (∀ z : World, Below W.heap.size W z → _) := fun z hz => KC.out _ hz
  refine wpH HS1.out (fun hHeld => ?_);refine pcY 0 ?_;refine ptY ?_;refine w1H 2 (fun K hK => ?_);go_simp;go_at_call 131; refine (KR1.out _ HZ0.out).mono ?_
  rintro e w1 ⟨rfl, hb1⟩;have hz1 := bl_trans HZ0.out hb1;refine hK.out _ _ (HSC.out _ hz1) (fun hHeld => ?_);clear hK K;try simp only [Act.put, sl0, sl1, sl2]
  refine ptY ?_;iterate 6 (refine ptN ?_)
  iterate 2 (refine ptY ?_)
  refine wpAnyH_done (by kernel_rfl) ?_ _;clear e0 e1;replace HB := hh_ (HB.keep hz1);replace HG := hh_ (HG.keep hz1);clear hb1 hz1 HSC HZ0 HS1 KR1;obtain ⟨e0, e1⟩ := gx_ HG;go_wp2;go_ret;exact ⟨ret_bool Hn.symm, HB.below⟩
 ·have Hn : Hid (splB r m s = indB r t) := by show _ = _; unfold splB; rw [hc, Ht.out]; rfl
  rw [hc] at KC;clear hc;go_wp2;rw [← HW.out];clear HW;obtain ⟨HSC, HZ0, HS1⟩ := hsc2 e0 e1;have KR1 : Hid (∀ z : World, Below W.heap.size W z → _) := fun z hz => KC.out _ hz
  have KR2 : Hid (∀ z : World, Below W.heap.size W z → _) := fun z hz => KA.out z
  have KR3 : Hid (∀ z : World, Below W.heap.size W z → _) := fun z hz => KI.out _ hz
  refine wpH HS1.out (fun hHeld => ?_);refine pcY 0 ?_;refine ptY ?_;refine w1H 2 (fun K hK => ?_);go_simp;go_at_call 131; refine (KR1.out _ HZ0.out).mono ?_
  rintro e w2 ⟨rfl, hb2⟩;have hz2 := bl_trans HZ0.out hb2;refine hK.out _ _ (HSC.out _ hz2) (fun hHeld => ?_);clear hK K;try simp only [Act.put, sl0, sl1, sl2]
  iterate 3 (refine ptY ?_)
  refine pcY 7 ?_;refine w1H 6 (fun K hK => ?_);go_simp;go_at_call 185; refine (KR2.out _ hz2).mono ?_
  rintro e w3 ⟨rfl, hb3⟩;have hz3 := bl_trans hz2 hb3;refine hK.out _ _ (HSC.out _ hz3) (fun hHeld => ?_);clear hK K;try simp only [Act.put, sl0, sl1, sl2]
  refine pcY 8 ?_;refine w1H 9 (fun K hK => ?_);go_simp;go_at_call 135; refine (KR3.out _ hz3).mono ?_
  rintro e w4 ⟨rfl, hb4⟩;have hz4 := bl_trans hz3 hb4;refine hK.out _ _ (HSC.out _ hz4) (fun hHeld => ?_);clear hK K;try simp only [Act.put, sl0, sl1, sl2]
  iterate 2 (refine ptY ?_)
  refine wpAnyH_done (by kernel_rfl) ?_ _;clear e0 e1;replace HB := hh_ (HB.keep hz4);replace HG := hh_ (HG.keep hz4);clear hb2 hz2 hb3 hz3 hb4 hz4 HSC HZ0 HS1 KR1 KR2 KR3;obtain ⟨e0, e1⟩ := gx_ HG;go_wp2;go_ret;exact ⟨ret_bool Hn.symm, HB.below⟩
theorem IsSplitPartition_sv (h : GV w A m c r) (hs : s < 2 ^ m) :
 Calls Tryz.prog 235 #[.agg #[.int .i64 m, .slice A m c], .int .i64 s] w fun e w' => e = .returned (.bool (splB r m s)) ∧ Below w.heap.size w w' := by
 have hn7 := h.vg.n7;have h128 := two_pow_le hn7;have hcl := comp_lt hn7 hs;have hfs := full_sub hn7 hs;obtain ⟨t, ht⟩ : ∃ t, t = (2 ^ m - 1) ^^^ s := ⟨_, rfl⟩;obtain ⟨F, hF⟩ : ∃ F, F = 2 ^ m := ⟨_, rfl⟩;have p1 : IntKind.i64.wrap ((2 : Int) ^ m) = (F : Int) := by rw [pow_shl m hn7, hF]; simp
 rw [← ht] at hcl;rw [← ht, ← hF] at hfs;have hpos := Nat.two_pow_pos m;rw [← hF] at hpos h128 hs;have s2 : IntKind.i64.wrap ((F : Int) - 1) = (F : Int) - 1 := Go.IntWalk.i64_in _ (by omega);have s3 : IntKind.i64.wrap ((F : Int) - 1 - (s : Int)) = (t : Int) := by rw [Go.IntWalk.i64_in _ (by omega)]; omega
 have Ht := hh_ ht;have HF := hh_ hF;clear ht hF hfs;obtain ⟨W, hW, HB, HG⟩ := gbW h;have HW := hh_ hW;clear hW h;obtain ⟨e0, e1⟩ := gx_ HG;have HG0 := HG;have KI : Hid (∀ z : World, Below W.heap.size W z → Calls Tryz.prog 124 #[.agg #[.int .i64 m, .slice A m c], .int .i64 (t : Int)] z fun e w' => e = .returned (.bool (indB r t)) ∧ Below z.heap.size z w') := fun z hz => IsIndependent_sv (HG0.gv.keep hz) hcl
 have KC : Hid (∀ z : World, Below W.heap.size W z → Calls Tryz.prog 120 #[.agg #[.int .i64 m, .slice A m c], .int .i64 (s : Int)] z fun e w' => e = .returned (.bool (cliq r s)) ∧ Below z.heap.size z w') := fun z hz => IsClique_sv (HG0.gv.keep hz) (by rw [← HF.out]; exact hs)
 go_enter Tryz.func235, Tryz.ntmps235;cases hc : cliq r s
 ·have Hn : Hid (splB r m s = false) := by show _ = _; unfold splB; rw [hc]; rfl
  rw [hc] at KC;clear hc;go_wp2;rw [← HW.out];clear HW;obtain ⟨HSC, HZ0, HS1⟩ := hsc2 e0 e1;have KR1 : Hid (∀ z : World, Below W.heap.size W z → _) := fun z hz => KC.out _ hz
  refine wpH HS1.out (fun hHeld => ?_);refine pcY 0 ?_;refine ptY ?_;refine w1H 2 (fun K hK => ?_);go_simp;go_at_call 120; refine (KR1.out _ HZ0.out).mono ?_
  rintro e w1 ⟨rfl, hb1⟩;have hz1 := bl_trans HZ0.out hb1;refine hK.out _ _ (HSC.out _ hz1) (fun hHeld => ?_);clear hK K;try simp only [Act.put, sl0, sl1, sl2]
  refine ptY ?_;iterate 8 (refine ptN ?_)
  iterate 2 (refine ptY ?_)
  refine wpAnyH_done (by kernel_rfl) ?_ _;clear e0 e1;replace HB := hh_ (HB.keep hz1);replace HG := hh_ (HG.keep hz1);clear hb1 hz1 HSC HZ0 HS1 KR1;obtain ⟨e0, e1⟩ := gx_ HG;go_wp2;go_ret;exact ⟨ret_bool Hn.symm, HB.below⟩
 ·have Hn : Hid (splB r m s = indB r t) := by show _ = _; unfold splB; rw [hc, Ht.out]; rfl
  rw [hc] at KC;clear hc;go_wp2;rw [← HW.out];clear HW;obtain ⟨HSC, HZ0, HS1⟩ := hsc2 e0 e1;have KR1 : Hid (∀ z : World, Below W.heap.size W z → _) := fun z hz => KC.out _ hz
  have KR2 : Hid (∀ z : World, Below W.heap.size W z → _) := fun z hz => KI.out _ hz
  refine wpH HS1.out (fun hHeld => ?_);refine pcY 0 ?_;refine ptY ?_;refine w1H 2 (fun K hK => ?_);go_simp;go_at_call 120; refine (KR1.out _ HZ0.out).mono ?_
  rintro e w2 ⟨rfl, hb2⟩;have hz2 := bl_trans HZ0.out hb2;refine hK.out _ _ (HSC.out _ hz2) (fun hHeld => ?_);clear hK K;try simp only [Act.put, sl0, sl1, sl2]
  iterate 8 (refine ptY ?_)
  refine w1H 11 (fun K hK => ?_);go_simp;go_at_call 124; refine (KR2.out _ hz2).mono ?_
  rintro e w3 ⟨rfl, hb3⟩;have hz3 := bl_trans hz2 hb3;refine hK.out _ _ (HSC.out _ hz3) (fun hHeld => ?_);clear hK K;try simp only [Act.put, sl0, sl1, sl2]
  iterate 2 (refine ptY ?_)
  refine wpAnyH_done (by kernel_rfl) ?_ _;clear e0 e1;replace HB := hh_ (HB.keep hz3);replace HG := hh_ (HG.keep hz3);clear hb2 hz2 hb3 hz3 HSC HZ0 HS1 KR1 KR2;obtain ⟨e0, e1⟩ := gx_ HG;go_wp2;go_ret;exact ⟨ret_bool Hn.symm, HB.below⟩
end
section
variable (sz : Int) (A : Option Addr) (m c : Nat) (x : Nat → Int) (s : Int) (w : World)
end
section
variable {r : Nat → Nat} {k j v c m : Nat} {l : List Nat}
end
section
variable {r : Nat → Nat} {m k : Nat}
end
def lqN (r : Nat → Nat) (m : Nat) : Nat := lgK (cliq r) (2 ^ m)
theorem lq_lt (r : Nat → Nat) (m : Nat) : lqN r m < 2 ^ m := lgK_lt _ (Nat.two_pow_pos m)
set_option maxHeartbeats 1000000
def lsQ (w : World) (o : Option (List Nat)) (e : Ending) (w' : World) : Prop :=
 ∃ A' c', e = .returned (.tuple #[.slice A' (o.getD []).length c', .bool o.isSome]) ∧ ON w.heap.size w' A' c' (o.getD []) ∧ Below w.heap.size w w'
theorem lsQ.no {w w' : World} (hb : Below w.heap.size w w') : lsQ w none (.returned (.tuple #[.slice none 0 0, .bool false])) w' := ⟨none, 0, rfl, ⟨Own.nil _ _ _ _ _ _⟩, hb⟩
theorem lsQ.yes {w w' : World} {A : Option Addr} {c : Nat} {l : List Nat} (ho : ON w.heap.size w' A c l) (hb : Below w.heap.size w w') : lsQ w (some l) (.returned (.tuple #[.slice A l.length c, .bool true])) w' := ⟨A, c, rfl, ho, hb⟩
theorem lsQ.up {w w' : World} {o : Option (List Nat)} {e : Ending} {W : World} (h : lsQ W o e w') (hb : Below w.heap.size w W) : lsQ w o e w' := by
 obtain ⟨A, c, h1, h2, h3⟩ := h;exact ⟨A, c, h1, h2.mono hb.size, hb.trans (h3.mono hb.size)⟩
def lsK (p : Nat → Bool) (n : Nat) : Option Nat := (List.range n).find? p
def lsV : Option Nat → Value
 | none => .tuple #[.int .i64 0, .bool false]
 | some k => .tuple #[.int .i64 (k : Int), .bool true]
theorem lsV_none : lsV none = .tuple #[.int .i64 0, .bool false] := rfl
theorem lsV_some (k : Nat) : lsV (some k) = .tuple #[.int .i64 (k : Int), .bool true] := rfl
theorem lsK_yes {p : Nat → Bool} {n k : Nat} (hk : k < n) (hp : p k = true) (hmin : ∀ j, j < k → p j = false) : lsK p n = some k := by
 unfold lsK;rw [List.find?_range_eq_some];exact ⟨hp, by simp [hk], fun j hj => by simp [hmin j hj]⟩
theorem lsK_no {p : Nat → Bool} {n : Nat} (h : ∀ j, j < n → p j = false) : lsK p n = none := by
 unfold lsK;rw [List.find?_eq_none];intro j hj;simp [h j (List.mem_range.1 hj)]
theorem wpList_copyN (W : World) {ops : Array Oper} {rest : List Oper} {o : Oper} {a : Act} {Q : Exit → Act → World → Prop} (hgd : o.guard = none) (s z : Operand)
 (ho : o.op = .call { callee := .builtin .append, args := #[s, z], argTypes := #[22, 22] })
 (Al : Option Addr) (cl : Nat) (l : List Nat) (h : LN W Al cl l) (hl : l.length ≤ 1073741824) (H : Nat) (hH : W.heap.size = H) (hs : a.eval s = .slice (some ⟨H, 0, none⟩) 0 0) (hz : a.eval z = .slice Al l.length cl)
 (hK : ∀ A' c' w', Own w' W.heap.size w'.heap.size 3 1 A' l.length c' (ni l) → Below W.heap.size W w' → wpList Tryz.prog ops Q rest (a.put o.dst (.slice A' l.length c')) w') :
 wpList Tryz.prog ops Q (o :: rest) a (W.alloc (Obj.cells #[] 3)) := by
 subst hH;have HO : Own (W.alloc (Obj.cells #[] 3)) W.heap.size (W.heap.size + 1) 3 1 (some ⟨W.heap.size, 0, none⟩) 0 0 (ni []) :=
  .inr ⟨W.heap.size, #[], rfl, nr_, Nat.lt_succ_self _, heap_alloc_new W _, nr_, by unfold maxLen; omega, rfl, fun j hj => absurd hj (by omega)⟩
 have HB : Below W.heap.size W (W.alloc (Obj.cells #[] 3)) := br_.alloc nr_ _;refine wpList_appendI _ hgd s z ho hs HO hz (h.rd.keep HB nr_) HB.size (by omega) hl fun A' c' w' h1 h2 => ?_
 have h3 : Own w' W.heap.size w'.heap.size 3 1 A' l.length c' (ni l) := by
  have := h1;rw [Nat.zero_add] at this;exact this.congr fun j hj => by unfold thenI ni; simp
 have := hK A' c' w' h3 (HB.trans h2);rw [Nat.zero_add];exact this
section
variable {A : Option Addr} {m c : Nat} {r : Nat → Nat} {fn : FuncId} {caps : Array Value} {p : Nat → Bool}
theorem least_g (hef : Ent fn) (w : World) (h : GV w A m c r)
 (HF : ∀ (s : Nat) (z : World), s < 2 ^ m → Below w.heap.size w z → Calls Tryz.prog fn (#[.agg #[.int .i64 m, .slice A m c], .int .i64 s] ++ caps) z (fun e z' => e = .returned (.bool (p s)) ∧ Below z.heap.size z z')) :
 Calls Tryz.prog 358 #[.agg #[.int .i64 m, .slice A m c], .func (.func fn) #[] caps] w fun e w' => e = .returned (lsV (lsK p (2 ^ m))) ∧ Below w.heap.size w w' := by
 have hn7 := h.vg.n7;unfold Ent at hef;have h128 := two_pow_le hn7;have hpos := Nat.two_pow_pos m;have s1 : wrap64 (((2 ^ m - 1 : Nat) : Int) + 1) = ((2 ^ m : Nat) : Int) := by
  rw [Go.IntWalk.wrap64_in _ (by omega)]; omega
 obtain ⟨W, hW, HB, HG⟩ := gbW h;have HW := hh_ hW;clear hW h;obtain ⟨e0, e1⟩ := gx_ HG;have HF := hh_ HF;have HS := hh_ s1;go_enter Tryz.func358, Tryz.ntmps358;go_wp2_with fail
 rw [← HW.out];refine (IsGraph_v HG.gv).mono ?_;rintro e w1 ⟨rfl, hb1⟩;clear HW;clear e0 e1;obtain ⟨HB, HG, e0, e1⟩ := kG_ HB HG hb1;clear hb1;go_wp2_with fail
 refine (all_v HG.gv).mono ?_;rintro e w2 ⟨rfl, hb2⟩;clear e0 e1;obtain ⟨HB, HG, e0, e1⟩ := kG_ HB HG hb2;clear hb2;go_wp2;go_loopw [13] (fun i wr => ∃ k : Nat, k ≤ 2 ^ m ∧ i = .int .i64 k ∧ Hid (∀ u, u < k → p u = false) ∧ Hid (From w2 wr)) (fun i _ => 2 ^ m - (intOf i).toNat);case atStart => exact ⟨0, Nat.zero_le _, rfl, (fun u hu => absurd hu (by omega)), From.refl _⟩
 case round =>
  obtain ⟨k, hk, rfl, hall, HR⟩ := hrel;clear e0 e1;replace HB := hh_ (HB.keep HR.below);replace HG := hh_ (HG.keep HR.below);obtain ⟨e0, e1⟩ := gx_ HG;by_cases hlt : k < 2 ^ m
  ·have i1 : (k : Int) < ((2 ^ m : Nat) : Int) := by omega
   have KF := hh_ (HF.out k _ hlt HB.below);go_wp2_with fail
   refine (KF.out).mono ?_;rintro e w3 ⟨rfl, hb3⟩;clear e0 e1;replace HB := hh_ (HB.keep hb3);replace HG := hh_ (HG.keep hb3);replace HR := hh_ (HR.keep hb3);clear hb3;obtain ⟨e0, e1⟩ := gx_ HG;cases hp : p k
   ·have Hn : Hid (∀ u, u < k + 1 → p u = false) := fun u hu => by
     by_cases huk : u < k
     ·exact hall.out u huk
     ·obtain rfl : u = k := by omega
      exact hp
    clear hp KF;go_wp2;go_roundw;case rel => exact ⟨k + 1, by omega, by go_num, Hn, HR⟩
    case measure => simp [intOf]; omega
   ·have Hn : Hid (lsK p (2 ^ m) = some k) := lsK_yes hlt hp hall.out;clear hp KF;go_wp2;go_ret2;exact ⟨by rw [Hn.out]; rfl, HB.below⟩
  ·have hkm : k = 2 ^ m := by omega
   have Hn : Hid (lsK p (2 ^ m) = none) := lsK_no fun u hu => hall.out u (by omega)
   have i1 : ((2 ^ m : Nat) : Int) ≤ (k : Int) := by omega
   clear hkm;go_wp2;go_ret2;exact ⟨by rw [Hn.out]; rfl, HB.below⟩
end
theorem least_no {sz : Int} {A : Option Addr} {m c : Nat} {x : Nat → Int} {w : World} {f : Value} (h : GA w A m c x) (hm : m ≤ 1048576) (hok : okB sz m x = false) :
 Calls Tryz.prog 358 #[.agg #[.int .i64 sz, .slice A m c], f] w fun e w' => e = .returned (lsV none) ∧ Below w.heap.size w w' := by
 obtain ⟨W, hW, HB, HK, HC⟩ := gaW sz h;have HW := hh_ hW;have Ho := hh_ hok;clear hW h hok;go_enter Tryz.func358, Tryz.ntmps358;obtain ⟨e0, e1⟩ := gc_ HC;go_wp2_with fail
 rw [← HW.out];clear HW;refine (IsGraph_any sz A m c x W W.heap.size HK.rd nr_ hm).mono ?_;rintro e w1 ⟨rfl, hb1⟩;rw [Ho.out];clear e0 e1;obtain ⟨HB, HK, HC, e0, e1⟩ := kC_ HB HK HC hb1;clear hb1;go_wp2;go_ret2;exact ⟨rfl, HB.below⟩
set_option maxHeartbeats 1000000
structure TwoO (z : World) (lo g h : Nat) (T : List Nat) (n c c2 : Nat) (d : Nat → Bool) : Prop where
 oi : Own z g (g + 1) 3 1 (some ⟨g, 0, none⟩) T.length c (ni T)
 ob : Own z h (h + 1) 4 1 (some ⟨h, 0, none⟩) n c2 (fun j => .bool (d j))
 ne : g ≠ h
 lg : lo ≤ g ∧ g < z.heap.size
 lh : lo ≤ h ∧ h < z.heap.size
theorem TwoO.alloc {z : World} {lo g h n c c2 : Nat} {T : List Nat} {d : Nat → Bool} (k : TwoO z lo g h T n c c2 d) (o : Obj) : TwoO (z.alloc o) lo g h T n c c2 d :=
 ⟨k.oi.alloc o, k.ob.alloc o, k.ne, ⟨k.lg.1, by have := k.lg.2; simp; omega⟩, ⟨k.lh.1, by have := k.lh.2; simp; omega⟩⟩
theorem TwoO.drew {z : World} {lo g h n c c2 : Nat} {T : List Nat} {d : Nat → Bool} (k : TwoO z lo g h T n c c2 d) : TwoO z.drew lo g h T n c c2 d := ⟨k.oi.drew, k.ob.drew, k.ne, k.lg, k.lh⟩
theorem TwoO.keep {z z' : World} {lo g h n c c2 : Nat} {T : List Nat} {d : Nat → Bool} (k : TwoO z lo g h T n c c2 d) (hb : Below z.heap.size z z') : TwoO z' lo g h T n c c2 d :=
 ⟨k.oi.keepB hb k.lg.2, k.ob.keepB hb k.lh.2, k.ne, ⟨k.lg.1, Nat.lt_of_lt_of_le k.lg.2 hb.size⟩, ⟨k.lh.1, Nat.lt_of_lt_of_le k.lh.2 hb.size⟩⟩
theorem TwoO.new (w : World) : TwoO ((w.alloc (Obj.cells #[] 3)).alloc (Obj.cells #[] 4)) w.heap.size w.heap.size (w.heap.size + 1) [] 0 0 0 (fun _ => false) := by
 refine ⟨?_, ?_, by omega, ⟨nr_, by simp; omega⟩, ⟨by omega, by simp⟩⟩
 ·refine Own.alloc ?_ _;exact .inr ⟨w.heap.size, #[], rfl, nr_, Nat.lt_succ_self _, heap_alloc_new w _, nr_, by unfold maxLen; omega, rfl, fun j hj => absurd hj (by simp)⟩
 ·have hn := heap_alloc_new (w.alloc (Obj.cells #[] 3)) (Obj.cells #[] 4);have he : (w.alloc (Obj.cells #[] 3)).heap.size = w.heap.size + 1 := by simp
  rw [he] at hn;exact .inr ⟨w.heap.size + 1, #[], rfl, nr_, Nat.lt_succ_self _, hn, nr_, by unfold maxLen; omega, rfl, fun j hj => absurd hj (by omega)⟩
section
variable {ops : Array Oper} {o : Oper} {a : Act} {K : Act → World → Prop} {Q : Exit → Act → World → Prop} {E : Prop} {lo g h n c c2 : Nat} {T : List Nat} {d : Nat → Bool}
theorem step_twoI (W : World) (hgd : o.guard = none) (s y : Operand)
 (ho : o.op = .call { callee := .builtin .append, args := #[s, y], argTypes := #[22, 22] })
 (hT : TwoO W lo g h T n c c2 d) (hs : a.eval s = .slice (some ⟨g, 0, none⟩) T.length c)
 (B cx v : Nat) (hy : a.eval y = .slice (some ⟨B, 0, none⟩) 1 cx) (hB : W.heap[B]? = some (.cells #[.int .i64 (v : Int)] 3 (0, 0))) (hn : T.length ≤ 1073741824)
 (hK : ∀ g' cap w', TwoO w' lo g' h (T ++ [v]) n cap c2 d → Below lo W w' → Fr g (g + 1) W w' → K (a.put o.dst (.slice (some ⟨g', 0, none⟩) (T.length + 1) cap)) w') :
 if Region.wanted o (yielded ops a.tmps) = true then Oper.wp Tryz.prog o a W K Q else E := by
 refine step_pushI W hgd s y ho g c T hT.oi hT.lg.2 v hs B cx hB hy hn ?_;intro g' cap w' h1 h2 h3 h4;have hl := hT.lg;have hh := hT.lh;have hne := hT.ne;refine hK g' cap w' ⟨by rw [List.length_append]; exact h1, hT.ob.keep h4 (by omega), by omega, ⟨by omega, h3⟩, ⟨hh.1, Nat.lt_of_lt_of_le hh.2 h4.size⟩⟩ (h4.below hl.1 (by omega)) h4
theorem step_twoB (W : World) (hgd : o.guard = none) (s y : Operand)
 (ho : o.op = .call { callee := .builtin .append, args := #[s, y], argTypes := #[40, 40] })
 (hT : TwoO W lo g h T n c c2 d) (hs : a.eval s = .slice (some ⟨h, 0, none⟩) n c2)
 (B cx : Nat) (v : Bool) (hy : a.eval y = .slice (some ⟨B, 0, none⟩) 1 cx) (hB : W.heap[B]? = some (.cells #[.bool v] 4 (0, 0))) (hn : n ≤ 1073741824)
 (hK : ∀ h' cap w', TwoO w' lo g h' T (n + 1) c cap (fun j => if j < n then d j else v) → Below lo W w' → Fr h (h + 1) W w' → K (a.put o.dst (.slice (some ⟨h', 0, none⟩) (n + 1) cap)) w') :
 if Region.wanted o (yielded ops a.tmps) = true then Oper.wp Tryz.prog o a W K Q else E := by
 refine step_pushB W hgd s y ho h c2 n d hT.ob hT.lh.2 v hs B cx hB hy hn ?_;intro g' cap w' h1 h2 h3 h4;have hl := hT.lg;have hh := hT.lh;have hne := hT.ne;refine hK g' cap w' ⟨hT.oi.keep h4 (by omega), h1, by omega, ⟨hl.1, Nat.lt_of_lt_of_le hl.2 h4.size⟩, ⟨by omega, h3⟩⟩ (h4.below hh.1 (by omega)) h4
end
theorem thG_take {r : Nat → Nat} {left k v : Nat} {l : List Nat} (hk : k < l.length) (hv : l[k] = v) : thG r left (l.take (k + 1)) = if thB r left v = true then some v else thG r left (l.take k) := by
 rw [List.take_succ_eq_append_getElem hk, thG_snoc, hv]
section
variable {A : Option Addr} {m c : Nat} {r : Nat → Nat} {w : World}
end
section
variable (sz : Int) (A : Option Addr) (m c : Nat) (x : Nat → Int) (w : World)
theorem ThresholdOrder_no (h : GA w A m c x) (hm : m ≤ 1048576) (hok : okB sz m x = false) :
 Calls Tryz.prog 313 #[.agg #[.int .i64 sz, .slice A m c]] w fun e w' => ∃ V1 V2, e = .returned (.tuple #[V1, V2, .bool (none : Option (List Nat)).isSome]) ∧ Below w.heap.size w w' := by
 obtain ⟨W, hW, HB, HK, HC⟩ := gaW sz h;have HW := hh_ hW;have KF : Hid (Calls Tryz.prog 88 #[.agg #[.int .i64 sz, .slice A m c]] W fun e w' => e = .returned (.bool false) ∧ Below W.heap.size W w') := by
  have := IsGraph_any sz A m c x W W.heap.size HK.rd nr_ hm;rwa [hok] at this
 clear hW h hok;go_enter Tryz.func313, Tryz.ntmps313;obtain ⟨e0, e1⟩ := gc_ HC;go_wp2_with fail
 rw [← HW.out];refine (KF.out).mono ?_;rintro e w1 ⟨rfl, hb1⟩;clear HW;clear e0 e1;obtain ⟨HB, HK, HC, e0, e1⟩ := kC_ HB HK HC hb1;clear hb1;clear KF;go_wp2;go_ret3;exact ⟨_, _, rfl, HB.below⟩
end
set_option maxHeartbeats 1600000
def joinOf (r : Nat → Nat) : Nat → List Nat → List Bool
 | _, [] => []
 | left, v :: l => decide (r v &&& left ≠ 0) :: joinOf r (left ^^^ 2 ^ v) l
def remA : Nat → List Nat → Nat
 | left, [] => left
 | left, v :: l => remA (left ^^^ 2 ^ v) l
theorem joinOf_len {r : Nat → Nat} : ∀ {l : List Nat} {left : Nat}, (joinOf r left l).length = l.length
 | [], _ => rfl
 | _ :: l, _ => by rw [joinOf, List.length_cons, List.length_cons, joinOf_len]
theorem remA_snoc {v : Nat} : ∀ {T : List Nat} {left : Nat}, remA left (T ++ [v]) = remA left T ^^^ 2 ^ v
 | [], _ => rfl
 | _ :: T, _ => by rw [List.cons_append, remA, remA, remA_snoc]
theorem joinOf_snoc {r : Nat → Nat} {v : Nat} : ∀ {T : List Nat} {left : Nat}, joinOf r left (T ++ [v]) = joinOf r left T ++ [decide (r v &&& remA left T ≠ 0)]
 | [], _ => rfl
 | _ :: T, _ => by rw [List.cons_append, joinOf, joinOf, joinOf_snoc, remA]; rfl
def JN (r : Nat → Nat) (m left : Nat) (T : List Nat) (d : Nat → Bool) : Prop := left = remA (2 ^ m - 1) T ∧ ∀ j, j < T.length → d j = (joinOf r (2 ^ m - 1) T).getD j false
theorem JN.nil {r : Nat → Nat} {m : Nat} {d : Nat → Bool} : JN r m (2 ^ m - 1) [] d := ⟨rfl, fun j hj => absurd hj (by simp)⟩
theorem JN.snoc {r : Nat → Nat} {m left v : Nat} {T : List Nat} {d : Nat → Bool} (h : JN r m left T d) {t : Bool} (ht : t = decide (r v &&& left ≠ 0)) : JN r m (left ^^^ 2 ^ v) (T ++ [v]) (fun j => if j < T.length then d j else t) := by
 obtain ⟨h1, h2⟩ := h;refine ⟨by rw [remA_snoc, ← h1], fun j hj => ?_⟩;rw [joinOf_snoc, ← h1];by_cases e : j < T.length
 ·show (if j < T.length then d j else t) = _;rw [if_pos e, h2 j e];simp [List.getD, List.getElem?_append_left (show j < (joinOf r (2 ^ m - 1) T).length by rw [joinOf_len]; exact e)]
 ·rw [List.length_append, List.length_singleton] at hj;obtain rfl : j = T.length := by omega
  show (if T.length < T.length then d T.length else t) = _;rw [if_neg (by omega), ht];simp [List.getD, joinOf_len]
def swq (b : Nat → Bool) (n k t : Nat) : Bool := if t < k ∨ n ≤ t + k then b (n - 1 - t) else b t
theorem swq_zero {b : Nat → Bool} {n t : Nat} (h : t < n) : swq b n 0 t = b t := by unfold swq; rw [if_neg (by omega)]
theorem swq_all {b : Nat → Bool} {n k t : Nat} (h : n ≤ 2 * k + 1) (ht : t < n) : swq b n k t = b (n - 1 - t) := by
 unfold swq;by_cases e : t < k ∨ n ≤ t + k
 ·rw [if_pos e]
 ·rw [if_neg e, show n - 1 - t = t by omega]
theorem swq_step {b : Nat → Bool} {n k j t : Nat} (hjk : j + k + 1 = n) (hlt : k < j) : (if t = j then swq b n k k else if t = k then swq b n k j else swq b n k t) = swq b n (k + 1) t := by
 unfold swq;rw [if_neg (show ¬ (k < k ∨ n ≤ k + k) by omega), if_neg (show ¬ (j < k ∨ n ≤ j + k) by omega)];by_cases e : t = j
 ·rw [if_pos e, if_pos (by omega), show n - 1 - t = k by omega]
 ·rw [if_neg e];by_cases e2 : t = k
  ·rw [if_pos e2, if_pos (by omega), show n - 1 - t = j by omega]
  ·rw [if_neg e2];by_cases e3 : t < k ∨ n ≤ t + k
   ·rw [if_pos e3, if_pos (by omega)]
   ·rw [if_neg e3, if_neg (by omega)]
def thQ (w : World) (j : List Nat → List Bool) (o : Option (List Nat)) (e : Ending) (w' : World) : Prop :=
 ∃ A1 c1 A2 c2, e = .returned (.tuple #[.slice A1 (o.getD []).length c1, .slice A2 (o.getD []).length c2, .bool o.isSome]) ∧ ON w.heap.size w' A1 c1 (o.getD []).reverse ∧
   Own w' w.heap.size w'.heap.size 4 1 A2 (o.getD []).length c2 (fun t => .bool ((j (o.getD [])).reverse.getD t false)) ∧ Below w.heap.size w w'
theorem thQ.no {w w' : World} {j : List Nat → List Bool} (hb : Below w.heap.size w w') : thQ w j none (.returned (.tuple #[.slice none 0 0, .slice none 0 0, .bool false])) w' := ⟨none, 0, none, 0, rfl, ⟨Own.nil _ _ _ _ _ _⟩, Own.nil _ _ _ _ _ _, hb⟩
set_option maxRecDepth 100000 in
theorem Reverse_bc (g c n lo hi : Nat) (b : Nat → Bool) (w : World) (h : Own w lo hi 4 1 (some ⟨g, 0, none⟩) n c (fun j => .bool (b j))) (hlen : n ≤ 1048576) (h0 : 0 < n) :
 Calls Tryz.prog 374 #[.slice (some ⟨g, 0, none⟩) n c] w fun e w' => e = .returned (.tuple #[]) ∧ Own w' lo hi 4 1 (some ⟨g, 0, none⟩) n c (fun t => .bool (b (n - 1 - t))) ∧ Fr lo hi w w' := by
 have H1 := hh_ h;clear h;go_enter Tryz.func374, Tryz.ntmps374;go_wp2;go_loopw [2, 3] (fun i jv wr => ∃ (k j : Nat), Hid (j + k + 1 = n) ∧ k ≤ n ∧ i = .int .i64 k ∧ jv = .int .i64 j ∧ Hid (Own wr lo hi 4 1 (some ⟨g, 0, none⟩) n c (fun t => .bool (swq b n k t))) ∧ Hid (Fr lo hi w wr)) (fun i _ _ => n - (intOf i).toNat);case atStart => exact ⟨0, n - 1, (by show _ = _; omega), Nat.zero_le _, rfl, by congr 1; omega, H1.congr (fun t ht => by rw [swq_zero (by omega)]), Fr.refl _ _ _⟩
 case round =>
  clear H1;obtain ⟨k, j, hjk, hk, rfl, rfl, HO, HR⟩ := hrel;obtain ⟨q, hq⟩ : ∃ q, q = swq b n k := ⟨_, rfl⟩;have Hq := hh_ hq;replace HO : Hid (Own wr lo hi 4 1 (some ⟨g, 0, none⟩) n c (fun t => .bool (q t))) := by rw [Hq.out]; exact HO.out
  clear hq;have hjk1 : j + k + 1 ≤ n := by rw [hjk.out]; exact nr_
  by_cases hlt : k < j
  ·obtain ⟨g', e1, hg1, hg2, hg3, hc, hf⟩ := HO.at_ (by omega);simp only [Option.some.injEq, Addr.mk.injEq, and_true] at e1;subst e1;have q0 := hc k (by omega);have q1 := hc j (by omega);have f0 := hf k;have f1 := hf j;have i1 : (k : Int) < j := by omega
   have i2 : (j : Int) < n := by omega
   have i3 : (k : Int) < n := by omega
   have ne1 : (j = k) = False := by simp; omega
   have ne2 : (k = j) = False := by simp; omega
   obtain ⟨y0, hy0⟩ : ∃ y, y = q k := ⟨_, rfl⟩;obtain ⟨y1, hy1⟩ : ∃ y, y = q j := ⟨_, rfl⟩;rw [← hy0] at q0;rw [← hy1] at q1;have Hy0 := hh_ hy0;have Hy1 := hh_ hy1;have Hlt := hh_ hlt;clear hy0 hy1 hc hf;go_wp2;go_region
   have HO5 : Hid (Own ((wr.setCell ⟨g, k, none⟩ (.bool y1)).setCell ⟨g, j, none⟩ (.bool y0)).drew lo hi 4 1 (some ⟨g, 0, none⟩) n c (fun t => .bool (if t = j then y0 else if t = k then y1 else q t))) := by
    refine (((HO.set_ k _).set_ j _).drew).congr (fun t ht => ?_);by_cases h1 : t = j
    ·rw [if_pos h1, if_pos h1]
    ·rw [if_neg h1, if_neg h1];by_cases h2 : t = k
     ·rw [if_pos h2, if_pos h2]
     ·rw [if_neg h2, if_neg h2]
   have HR5 : Hid (Fr lo hi w ((wr.setCell ⟨g, k, none⟩ (.bool y1)).setCell ⟨g, j, none⟩ (.bool y0)).drew) := ((HR.setCell (p := ⟨g, k, none⟩) hg1 hg2 _).setCell (p := ⟨g, j, none⟩) hg1 hg2 _).drew;have Hjk5 : Hid ((j - 1) + (k + 1) + 1 = n) := by show _ = _; have := hjk.out; omega
   have ej : ((j : Int) - 1) = ((j - 1 : Nat) : Int) := by omega
   have Hej := hh_ ej;clear q0 q1 f0 f1 ne1 ne2 ej;go_wp2;go_roundw;case rel => exact ⟨k + 1, j - 1, Hjk5, by omega, by go_num, by rw [Hej.out], HO5.congr (fun t _ => by rw [Hy0.out, Hy1.out, Hq.out, swq_step hjk.out Hlt.out]), HR5⟩
   case measure => simp [intOf]; omega
  ·have i1 : (j : Int) ≤ k := by omega
   go_wp2;go_end0;exact ⟨rfl, HO.congr (fun t ht => by rw [Hq.out, swq_all (by have := hjk.out; omega) (by omega)]), HR.out⟩
end Go.Proofs.YtdpkbfiggbcclaaGreat
