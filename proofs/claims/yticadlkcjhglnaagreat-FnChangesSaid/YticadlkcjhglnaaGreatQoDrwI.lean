/-
  Several texts in one.
-/
import Derived.Test.YticadlkcjhglnaaGreatQoIndI
import Derived.Test.YticadlkcjhglnaaGreatQoSet2S
import Derived.Test.YticadlkcjhglnaaGreatQoWgtS
import Derived.Test.YticadlkcjhglnaaGreatQoSetG
import Derived.Test.YticadlkcjhglnaaGreatQoFillS
import Derived.Test.YticadlkcjhglnaaGreatQoGA
import Derived.Test.YticadlkcjhglnaaGreatQoGB
import Derived.Test.YticadlkcjhglnaaGreatQoGC
import Derived.Test.YticadlkcjhglnaaGreatQoV
/-
-/
namespace Go.Proofs.YticadlkcjhglnaaGreat
open Go.RowKit
set_option maxHeartbeats 6400000
set_option maxRecDepth 100000 in
theorem InducedOn_sv {A : Option Addr} {m c : Nat} {r : Nat → Nat} {s : Nat} {w : World} (h : GV w A m c r) (hs : s < 2 ^ m) (h0 : s ≠ 0) :
 Calls Tryz.prog 36 #[.agg #[.int .i64 m, .slice A m c], .int .i64 s] w fun e w' => ∃ A' c', e = .returned (.tuple #[.agg #[.int .i64 (cn s : Nat), .slice A' (cn s) c'], .bool true]) ∧ Own w' w.heap.size w'.heap.size 3 1 A' (cn s) c' (fun j => .int .i64 (inR r s j : Nat)) ∧ Below w.heap.size w w' := by
 have hn7 := h.vg.n7;have h128 := two_pow_le hn7;have HV := hh_ h.vg;have Hs := hh_ hs;have hc7 := cn_le s;have hc1 := cn_one (by omega) h0;have hne : ((s : Int) == 0) = false := by simp; omega
 have Hat : Hid (∀ i, (hi : i < (listN s).length) → (listN s)[i] = lsN s i) := fun i hi => lsN_at hi
 have Hls : Hid (∀ i, i < (listN s).length → lsN s i < m) := fun i hi => (lsN_bit hs hi).1
 have Hall : Hid (∀ i, bmR r s i (listN s).length = inR r s i) := fun i => bmR_all r s i
 obtain ⟨W, hW⟩ : ∃ W, W = ((w.alloc (Obj.cells #[.int .i64 m, .slice A m c] 26)).alloc (Obj.cells #[.int .i64 0, .slice none 0 0] 26)) := ⟨_, rfl⟩;have HB : Hid (From w W) := by rw [hW]; exact (From.alloc _ _).alloc_ _
 have HG : Hid (GBox W w.heap.size A m c r) := by rw [hW]; exact h.box.keep (br_.alloc nr_ _)
 have HQ : Hid (GC W (w.heap.size + 1) 0 none 0 0) := by
  rw [hW];have := GC.new (w.alloc (Obj.cells #[.int .i64 m, .slice A m c] 26)) 0 none 0 0;show GC _ _ _ _ _ _;simpa using this
 have HW := hh_ hW;have KL : Hid (∀ z, Calls Tryz.prog 95 #[.int .i64 s] z fun e w' => ∃ A c, e = .returned (.slice A (listN s).length c) ∧ ON z.heap.size w' A c (listN s) ∧ Below z.heap.size z w') := fun z => ListOf_sv s (by omega) z
 rw [show cn s = (listN s).length from rfl] at hc7 hc1 ⊢;obtain ⟨n, hn⟩ : ∃ n, n = (listN s).length := ⟨_, rfl⟩;have Hn := hh_ hn;clear hW h h0 hs;go_enter Tryz.func36, Tryz.ntmps36;obtain ⟨e0, e1⟩ := gx_ HG;go_wp2_with fail
 rw [← HW.out];clear HW;refine (IsSet_sv HG.gv Hs.out).mono ?_;rintro e w1 ⟨rfl, hb1⟩;clear e0 e1;replace HB := hh_ (HB.keep hb1);replace HQ := hh_ (HQ.keep hb1);replace HG := hh_ (HG.keep hb1);clear hb1;obtain ⟨e0, e1⟩ := gx_ HG;go_wp2_with fail
 refine (KL.out w1).mono ?_;rintro e w2 ⟨Al, cl, rfl, ho2, hb2⟩;have HL := hh_ ho2;have hzl := hb2.size;clear e0 e1;replace HB := hh_ (HB.keep hb2);replace HQ := hh_ (HQ.keep hb2);replace HG := hh_ (HG.keep hb2);clear hb2 ho2 KL;obtain ⟨e0, e1⟩ := gx_ HG;rw [← hn] at hc7 hc1 ⊢;clear hn;obtain ⟨W3, hW3⟩ : ∃ W3, W3 = (w2.alloc (Obj.cells #[.int .i64 n, .slice none 0 0] 26)) := ⟨_, rfl⟩;have hb3 : Below w2.heap.size w2 W3 := by rw [hW3]; exact br_.alloc nr_ _
 have HU3 : Hid (GC W3 w2.heap.size n none (rwL r s 0).length 0) := by rw [hW3]; exact GC.new _ _ _ _ _
 have HR3 : Hid (Below w2.heap.size w2 W3) := hb3;have HO3 : Hid (Own W3 (w2.heap.size + 1) W3.heap.size 3 1 none (rwL r s 0).length 0 (ni (rwL r s 0))) := Own.nil _ _ _ _ _ _;have hz3 : W3.heap.size = w2.heap.size + 1 := by rw [hW3]; simp
 have HW3 := hh_ hW3;clear hW3 hb3;go_wp2;rw [← HW3.out];clear HW3 e0 e1;go_loopw [8] (fun iv wr => ∃ (i : Nat) (A' : Option Addr) (c' : Nat), i ≤ n ∧ iv = .int .i64 i ∧ Hid (Own wr (w2.heap.size + 1) wr.heap.size 3 1 A' (rwL r s i).length c' (ni (rwL r s i))) ∧ Hid (GC wr w2.heap.size n A' (rwL r s i).length c') ∧ Hid (Below w2.heap.size w2 wr)) (fun iv _ => n - (intOf iv).toNat);case atStart => exact ⟨0, none, 0, Nat.zero_le _, rfl, HO3, HU3, HR3⟩
 case round =>
  clear HO3 HU3 HR3 hz3;obtain ⟨i, A', c', hi, rfl, HO, HU, HR⟩ := hrel;by_cases hin : i < n
  ·have i1 : (i : Int) < n := by omega
   have Hb0 : Hid (bmR r s i 0 = 0) := bmR_zero r s i;obtain ⟨wo, rfl⟩ : ∃ wo, wo = wr := ⟨_, rfl⟩;have HRf : Hid (From wo wo) := From.refl wo;have zq := HR.size;go_wp2;go_loopw [9, 10] (fun rv kv wr => ∃ k : Nat, k ≤ n ∧ kv = .int .i64 k ∧ rv = .int .i64 (bmR r s i k : Nat) ∧ Hid (From wo wr)) (fun _ kv _ => n - (intOf kv).toNat);case atStart => exact ⟨0, Nat.zero_le _, rfl, by rw [Hb0.out]; rfl, HRf⟩
   case round =>
    clear HRf;obtain ⟨k, hk, rfl, rfl, HRf⟩ := hrel;have HBq : Hid (Below w2.heap.size w2 wr) := HR.trans (HRf.below.mono zq);have hbl := bmR_lt r s i k;have h2k := two_pow_le (n := k) (by omega);obtain ⟨B, hB⟩ : ∃ B, B = bmR r s i k := ⟨_, rfl⟩;rw [← hB] at hbl ⊢;have HBd := hh_ hB;clear hB;by_cases hkn : k < n
    ·have i2 : (k : Int) < n := by omega
     have HLr := hh_ (HL.keep HBq.out);obtain ⟨b5, o5, rfl⟩ := HL.ln.addr (by rw [← Hn.out]; omega);have p0 := HLr.ln.at (j := i) (by rw [← Hn.out]; omega);have p1 := HLr.ln.at (j := k) (by rw [← Hn.out]; omega);rw [Hat.out i (by rw [← Hn.out]; omega)] at p0;rw [Hat.out k (by rw [← Hn.out]; omega)] at p1;obtain ⟨y, hy⟩ : ∃ y, y = lsN s i := ⟨_, rfl⟩;obtain ⟨u, hu⟩ : ∃ u, u = lsN s k := ⟨_, rfl⟩;have hym : y < m := by rw [hy]; exact Hls.out i (by rw [← Hn.out]; omega)
     have hum : u < m := by rw [hu]; exact Hls.out k (by rw [← Hn.out]; omega)
     have hbit : (r (lsN s i)).testBit (lsN s k) = (r y).testBit u := by rw [hy, hu]
     rw [← hy] at p0;rw [← hu] at p1;have HGr := hh_ (HG.keep HBq.out);clear hy hu HLr;cases hb : (r y).testBit u
     ·have KE := hh_ (edge_b HGr.gv hym hum hb);have Hs1 : Hid (B = bmR r s i (k + 1)) := by show _ = _; rw [bmR_no (hbit.trans hb), HBd.out]
      clear hb hbit;have e0 := HGr.c0;have e1 := HGr.c1;go_wp2;obtain ⟨HSC, HZ0, HS1⟩ := hsc4 e0 e1 p0 p1;have KR1 : Hid (∀ z : World, Below wr.heap.size wr z → _) := fun z hz => KE.out _ hz
      go_region_held3 (fun z => Below wr.heap.size wr z ∧ z.cell? ⟨w.heap.size, 0, none⟩ = some (.int .i64 m) ∧ z.cell? ⟨w.heap.size, 1, none⟩ = some (.slice A m c) ∧ z.cell? ⟨b5, o5 + i, none⟩ = some (.int .i64 (y : Nat)) ∧ z.cell? ⟨b5, o5 + k, none⟩ = some (.int .i64 (u : Nat)))
       (first | exact HS1.out | assumption | exact HSC.out _ hz1 | fail)
       (first | (go_at_call 61; ((with_reducible refine (KR1.out _ HZ0.out).mono ?_); rintro e w1 ⟨rfl, hb1⟩; have hz1 := bl_trans HZ0.out hb1)))
      clear e0 e1;replace HRf := hh_ (HRf.keep hz1);replace HGr := hh_ (HGr.keep hz1);clear hb1 hz1 HSC HZ0 HS1 KR1;have e0 := HGr.c0;have e1 := HGr.c1;go_wp2;go_roundw;case rel => exact ⟨k + 1, by omega, by go_num, by rw [← Hs1.out], HRf⟩
      case measure => (simp [intOf] <;> omega)
     ·have KE := hh_ (edge_b HGr.gv hym hum hb);have Hs1 : Hid (B + 2 ^ k = bmR r s i (k + 1)) := by show _ = _; rw [bmR_yes (hbit.trans hb), HBd.out]
      obtain ⟨z, hz⟩ : ∃ z, z = 2 ^ k := ⟨_, rfl⟩;have p2 : IntKind.i64.wrap ((2 : Int) ^ k) = (z : Int) := by rw [pow_shl k (by omega), hz]; simp
      have s3 : IntKind.i64.wrap ((B : Int) + (z : Int)) = ((B + z : Nat) : Int) := by rw [Go.IntWalk.i64_in _ (by omega)]; simp
      rw [← hz] at Hs1;clear hb hbit hz;have e0 := HGr.c0;have e1 := HGr.c1;go_wp2;obtain ⟨HSC, HZ0, HS1⟩ := hsc4 e0 e1 p0 p1;have KR1 : Hid (∀ z : World, Below wr.heap.size wr z → _) := fun z hz => KE.out _ hz
      go_region_held3 (fun z => Below wr.heap.size wr z ∧ z.cell? ⟨w.heap.size, 0, none⟩ = some (.int .i64 m) ∧ z.cell? ⟨w.heap.size, 1, none⟩ = some (.slice A m c) ∧ z.cell? ⟨b5, o5 + i, none⟩ = some (.int .i64 (y : Nat)) ∧ z.cell? ⟨b5, o5 + k, none⟩ = some (.int .i64 (u : Nat)))
       (first | exact HS1.out | assumption | exact HSC.out _ hz2 | fail)
       (first | (go_at_call 61; ((with_reducible refine (KR1.out _ HZ0.out).mono ?_); rintro e w2 ⟨rfl, hb2⟩; have hz2 := bl_trans HZ0.out hb2)))
      clear e0 e1;replace HRf := hh_ (HRf.keep hz2);replace HGr := hh_ (HGr.keep hz2);clear hb2 hz2 HSC HZ0 HS1 KR1;have e0 := HGr.c0;have e1 := HGr.c1;go_wp2;go_roundw;case rel => exact ⟨k + 1, by omega, by go_num, by rw [← Hs1.out]; first | rfl | exact congrArg (Value.int .i64) s3, HRf⟩
      case measure => (simp [intOf] <;> omega)
    ·obtain rfl : n = k := by omega
     have Hrow : Hid (B = inR r s i) := by show _ = _; rw [HBd.out]; have := Hall.out i; rwa [← Hn.out] at this
     have HOr : Hid (Own wr (w2.heap.size + 1) wr.heap.size 3 1 A' (rwL r s i).length c' (ni (rwL r s i))) := (HO.keepB HRf.below nr_).mono nr_ HRf.below.size;have HUr := hh_ (HU.keep HRf.below);have hql := HUr.lt;have d1 := HUr.c1;have hlen : (rwL r s i).length ≤ 7 := by rw [rwL_len]; omega
     have HSn : Hid (rwL r s i ++ [B] = rwL r s (i + 1)) := by show _ = _; rw [Hrow.out]; exact rwL_snoc r s i
     obtain ⟨T, hT⟩ : ∃ T, T = rwL r s i := ⟨_, rfl⟩;rw [← hT] at HOr HUr d1 hlen HSn;clear hT HO HU;go_wp2_with (first | (at_builtin; (refine wpList_pushN wr rfl _ _ rfl (w2.heap.size + 1) wr.heap.size A' c' T HOr.out (by omega) B rfl 1 wr.heap.size rfl rfl (by omega) ?_; intro g3 c3 w3 hO3 hb3; have m0 := up hb3 HUr.c0 (by omega); have m1 := up hb3 HUr.c1 (by omega); have m2 := upf hb3 HUr.f0 (by omega); have m3 := upf hb3 HUr.f1 (by omega))))
     have F : Fr w2.heap.size (w2.heap.size + 1) w3 (w3.setCell ⟨w2.heap.size, 1, none⟩ (.slice (some ⟨g3, 0, none⟩) (T.length + 1) c3)) := (Fr.refl _ _ w3).setCell (p := ⟨w2.heap.size, 1, none⟩) nr_ (Nat.lt_succ_self _) _;have HOn : Hid (Own (w3.setCell ⟨w2.heap.size, 1, none⟩ (.slice (some ⟨g3, 0, none⟩) (T.length + 1) c3)) (w2.heap.size + 1) (w3.setCell ⟨w2.heap.size, 1, none⟩ (.slice (some ⟨g3, 0, none⟩) (T.length + 1) c3)).heap.size 3 1 (some ⟨g3, 0, none⟩) (rwL r s (i + 1)).length c3 (ni (rwL r s (i + 1)))) := by
      rw [← HSn.out, List.length_append];exact (hO3.keep F (.inr nr_)).mono nr_ F.size
     have HUn : Hid (GC (w3.setCell ⟨w2.heap.size, 1, none⟩ (.slice (some ⟨g3, 0, none⟩) (T.length + 1) c3)) w2.heap.size n (some ⟨g3, 0, none⟩) (rwL r s (i + 1)).length c3) := by
      rw [← HSn.out, List.length_append];constructor <;> simp [go_sem, m0, m1, m2, m3]
     have HRn : Hid (Below w2.heap.size w2 (w3.setCell ⟨w2.heap.size, 1, none⟩ (.slice (some ⟨g3, 0, none⟩) (T.length + 1) c3))) := (HBq.trans (hb3.mono (Nat.le_succ _))).setCell (p := ⟨w2.heap.size, 1, none⟩) nr_ _;clear F hO3 hb3 m0 m1 m2 m3 d1 HOr HUr;go_wp2;go_roundw;case rel => exact ⟨i + 1, _, _, by omega, by go_num, HOn, HUn, HRn⟩
     case measure => (simp [intOf] <;> omega)
  ·obtain rfl : n = i := by omega
   have hlen : (rwL r s n).length = n := rwL_len r s n;have HOf : Hid (Own wr (w2.heap.size + 1) wr.heap.size 3 1 A' n c' (fun j => .int .i64 (inR r s j : Nat))) := by
    have := HO.out;rw [hlen] at this;exact this.congr fun j hj => by unfold ni; rw [rwL_at (by omega)]
   rw [hlen] at HU;have e0 := HU.c0;have e1 := HU.c1;have hql := HU.lt;have hqq := HQ.lt;have HQr := hh_ (HQ.keep HR.out);have d0 := HQr.c0;have d1 := HQr.c1;have d2 := HQr.f0;have d3 := HQr.f1;have F := fr2 wr (w.heap.size + 1) (.int .i64 (n : Int)) (.slice A' n c');have hz1 := HB.below.size;have HBz : Hid (From w wr) := ⟨HB.below.trans (HR.mono hz1)⟩;have HE := (HBz.set (q := w.heap.size + 1) (Nat.le_succ _) (.int .i64 (n : Int)) (.slice A' n c')).below;have HOE := (HOf.keep F (.inr (by omega))).mono (by omega : w.heap.size ≤ w2.heap.size + 1) F.size;clear HO hlen;go_wp2;exact bodyPost_ret (v := .tuple #[.agg #[.int .i64 (n : Int), .slice A' n c'], .bool true]) (by simp [results, Tryz.results36, go_sem, *]) rfl ⟨A', c', by rw [← Hn.out], by rw [← Hn.out]; exact HOE, HE⟩
set_option maxHeartbeats 6400000
section
variable {w : World} {q nb cb : Nat} {A : Option Addr}
set_option maxRecDepth 100000 in
theorem InducedOn_sn (sz : Int) (A : Option Addr) (m c : Nat) (x : Nat → Int) (s : Int) (w : World) (h : GA w A m c x) (hm : m ≤ 1048576) (hn : setB sz m x s = false) :
 Calls Tryz.prog 36 #[.agg #[.int .i64 sz, .slice A m c], .int .i64 s] w fun e w' => e = .returned (.tuple #[.agg #[.int .i64 0, .slice none 0 0], .bool false]) ∧ Below w.heap.size w w' := by
 obtain ⟨W, hW⟩ : ∃ W, W = ((w.alloc (Obj.cells #[.int .i64 sz, .slice A m c] 26)).alloc (Obj.cells #[.int .i64 0, .slice none 0 0] 26)) := ⟨_, rfl⟩;have HB : Hid (From w W) := by rw [hW]; exact (From.alloc _ _).alloc_ _
 have HZ : Hid (w.heap.size + 2 = W.heap.size) := by rw [hW]; simp [Hid]
 have HS : Hid (From W W) := From.refl W;have HK := hh_ (h.keep HB.below);have HC : Hid (GC W w.heap.size sz A m c) := by rw [hW]; exact (GC.new _ _ _ _ _).keep (br_.alloc nr_ _)
 have HD : Hid (GC W (w.heap.size + 1) 0 none 0 0) := by rw [hW]; constructor <;> simp [go_sem]
 have HW := hh_ hW;have Hn := hh_ hn;clear hW h hn;go_enter Tryz.func36, Tryz.ntmps36;obtain ⟨e0, e1⟩ := gc_ HC;have d0 := HD.c0;have d1 := HD.c1;have d2 := HD.f0;have d3 := HD.f1;go_wp2_with fail
 rw [← HW.out];clear HW;refine (IsSet_sg sz A m c x s W HK hm).mono ?_;rw [Hn.out];rintro e w1 ⟨rfl, hb1⟩;clear e0 e1 d0 d1 d2 d3;replace HB := hh_ (HB.keep hb1);replace HS := hh_ (HS.keep hb1);replace HK := hh_ (HK.keep hb1);replace HC := hh_ (HC.keep hb1);replace HD := hh_ (HD.keep hb1);clear hb1;obtain ⟨e0, e1⟩ := gc_ HC;have d0 := HD.c0;have d1 := HD.c1;have d2 := HD.f0;have d3 := HD.f1;go_wp2;have HE := (HB.set (q := w.heap.size + 1) (by omega) (.int .i64 0) (.slice none 0 0)).below;exact bodyPost_ret (v := .tuple #[.agg #[.int .i64 0, .slice none 0 0], .bool false]) (by simp [results, Tryz.results36, go_sem, *]) rfl ⟨rfl, HE⟩
theorem dgQ.below {e : Ending} {w' w2 : World} (h : dgQ w q A nb cb e w') (hb : Below w'.heap.size w' w2) : dgQ w q A nb cb e w2 := by
 obtain ⟨sz, B, m, d, x, rfl, h1, h2, ho, hd⟩ := h;exact ⟨sz, B, m, d, x, rfl, h1, h2, (ho.keepB hb nr_).mono nr_ hb.size, hd.cu.keep hb, hd.fr.trans (Fr.of_below hb)⟩
set_option maxRecDepth 100000 in
theorem l30Small_s (hc : Cu w q A nb cb) : Calls Tryz.prog 96 #[.pointer (some ⟨q, 0, none⟩)] w (dgQ w q A nb cb) := by
 obtain ⟨W, hW⟩ : ∃ W, W = (w.alloc (Obj.cells #[.int .i64 0, .slice none 0 0] 26)) := ⟨_, rfl⟩;have HD : Hid (D0 w W q A nb cb) := by rw [hW]; exact D0.new hc
 have HW := hh_ hW;have KB := hh_ (l4Holey_s HD.cu);have hlW : w.heap.size < W.heap.size := HD.lt;clear hW hc;go_enter Tryz.func96, Tryz.ntmps96;go_wp2_with fail
 rw [← HW.out];clear HW;refine KB.mono ?_;rintro e w1 ⟨sz, B, m, d, x, rfl, hm1, hm7, ho, hd⟩;replace HD := hh_ (HD.draw hd);have HO := hh_ ho;have hl1 := hd.fr.size;clear hd KB ho;have hql : q < w.heap.size := HD.l1;obtain ⟨W2, hW2⟩ : ∃ W2, W2 = (w1.alloc (Obj.cells #[.int .i64 sz, .slice B m d] 26)) := ⟨_, rfl⟩;have hb2 : Below w1.heap.size w1 W2 := by rw [hW2]; exact br_.alloc nr_ _
 have HD1 := HD;have HO1 := HO;replace HD := hh_ (HD.keep hb2);replace HO := hh_ (HO.keepB hb2 nr_);have HG : Hid (GC W2 w1.heap.size sz B m d) := by rw [hW2]; exact GC.new _ _ _ _ _
 have hz2 : w1.heap.size < W2.heap.size := by rw [hW2]; simp
 have j1 : (w.heap.size = w1.heap.size) = False := by simp; omega
 have j2 : (w1.heap.size = w.heap.size) = False := by simp; omega
 have HW2 := hh_ hW2;clear hW2 hb2;by_cases h5 : 5 < sz
 rotate_left
 ·have i5 : decide (5 < sz) = false := by simp; omega
  have HF := hh_ ((dgQ.fin0 (sz := sz) hm1 hm7 HD1.cu HD1.fr HD1.l1 HO1.out hlW).below (br_.alloc nr_ (Obj.cells #[.int .i64 sz, .slice B m d] 26)));have d0 := HD1.d.c0;have d1 := HD1.d.c1;have d2 := HD1.d.f0;have d3 := HD1.d.f1;have hlt1 : w.heap.size < w1.heap.size := by omega
  clear HW2 HD HO HG;go_wp2;exact bodyPost_ret (v := .agg #[.int .i64 sz, .slice B m d]) (by simp [results, Tryz.results96, go_sem, *]) rfl HF.out
 ·have i5 : decide (5 < sz) = true := by simp; omega
  have KB := hh_ (l1Once_s (k := 12) HD.cu (by omega) (by omega));go_wp2_with fail
  rw [← HW2.out];clear HW2;refine KB.mono ?_;rintro e w3 ⟨y, rfl, hd⟩;replace HD := hh_ (HD.draw hd);replace HO := hh_ (HO.keep hd.fr (.inr (by omega)));replace HG := hh_ (HG.keepF hd.fr (.inr (by omega)));have hl3 := hd.fr.size;clear hd KB HD1 HO1;rename ∀ (a : Act) (w' : World), _ → _ => hK
  refine hK _ _ ?_;clear hK;cases y
  ·obtain ⟨e0, e1⟩ := gc_ HG;cases hok : okB sz m x
   ·have Hns : Hid (setB sz m x 31 = false) := by show _ = _; unfold setB; rw [hok]; rfl
    have KI := hh_ (InducedOn_sn sz B m d x 31 w3 ⟨HO.rd.keep br_ (by omega)⟩ (by omega) Hns.out);clear hok Hns;go_wp2_with fail
    refine KI.mono ?_;rintro e w4 ⟨rfl, hb⟩;replace HD := hh_ (HD.keep hb);replace HO := hh_ (HO.keepB hb (by omega));replace HG := hh_ (HG.keep hb);have hl4 := hb.size;have HF := hh_ ((dgQ.fin0 (sz := sz) hm1 hm7 HD.cu HD.fr HD.l1 (HO.mono nr_ (by omega)) hlW).below (br_.alloc nr_ (Obj.cells #[.int .i64 0, .slice none 0 0] 26)));rename ∀ (a : Act) (w' : World), _ → _ => hK
    refine hK _ _ ?_;clear hK hb KI;have hlt4 : w.heap.size < w4.heap.size := by omega
    have hlt5 : w1.heap.size < w4.heap.size := by omega
    have j3 : (w.heap.size = w4.heap.size) = False := by simp; omega
    have j4 : (w4.heap.size = w.heap.size) = False := by simp; omega
    obtain ⟨e0, e1⟩ := gc_ HG;have d0 := HD.d.c0;have d1 := HD.d.c1;have d2 := HD.d.f0;have d3 := HD.d.f1;go_wp2;exact bodyPost_ret (v := .agg #[.int .i64 sz, .slice B m d]) (by simp [results, Tryz.results96, go_sem, *]) rfl HF.out
   ·obtain ⟨_, es, vg0, _⟩ := okB_ok' hok;subst es;have hm6 : 6 ≤ m := by omega
    have h64 := Nat.pow_le_pow_right (n := 2) (by decide) hm6;have h31 : cn 31 = 5 := by decide
    have HV : GV w3 B m d (rw_ x) := GV.of HO.rd (by omega) hok;have KI : Hid (Calls Tryz.prog 36 #[.agg #[.int .i64 (m : Int), .slice B m d], .int .i64 31] w3 _) := InducedOn_sv (s := 31) HV (by omega) (by omega);rw [h31] at KI;clear hok HV vg0;go_wp2_with fail
    refine KI.mono ?_;rintro e w4 ⟨A4, c4, rfl, ho, hb⟩;replace HD := hh_ (HD.keep hb);have hl4 := hb.size;have HF := hh_ ((dgQ.fin0 (sz := 5) (by decide) (by decide) HD.cu HD.fr HD.l1 ho (by omega)).below (br_.alloc nr_ (Obj.cells #[.int .i64 5, .slice A4 5 c4] 26)));rename ∀ (a : Act) (w' : World), _ → _ => hK
    refine hK _ _ ?_;clear hK hb KI;have hlt4 : w.heap.size < w4.heap.size := by omega
    have hlt5 : w1.heap.size < w4.heap.size := by omega
    have j3 : (w.heap.size = w4.heap.size) = False := by simp; omega
    have j4 : (w4.heap.size = w.heap.size) = False := by simp; omega
    have d0 := HD.d.c0;have d1 := HD.d.c1;have d2 := HD.d.f0;have d3 := HD.d.f1;go_wp2;exact bodyPost_ret (v := .agg #[.int .i64 5, .slice A4 5 c4]) (by simp [results, Tryz.results96, go_sem, *]) rfl HF.out
  ·have HF := hh_ (dgQ.fin0 (sz := sz) hm1 hm7 HD.cu HD.fr HD.l1 (HO.mono nr_ (by omega)) hlW);obtain ⟨e0, e1⟩ := gc_ HG;have d0 := HD.d.c0;have d1 := HD.d.c1;have d2 := HD.d.f0;have d3 := HD.d.f1;go_wp2;exact bodyPost_ret (v := .agg #[.int .i64 sz, .slice B m d]) (by simp [results, Tryz.results96, go_sem, *]) rfl HF.out
end
set_option maxHeartbeats 1000000
def nmL : List ByteArray := [⟨#[99, 104, 111, 114, 100, 97, 108]⟩, ⟨#[105, 110, 116, 101, 114, 118, 97, 108]⟩, ⟨#[112, 114, 111, 112, 101, 114]⟩, ⟨#[99, 111, 103, 114, 97, 112, 104]⟩, ⟨#[115, 112, 108, 105, 116]⟩, ⟨#[116, 104, 114, 101, 115, 104, 111, 108, 100]⟩, ⟨#[98, 105, 112, 97, 114, 116, 105, 116, 101]⟩, ⟨#[115, 116, 114, 111, 110, 103]⟩, ⟨#[112, 101, 114, 102, 101, 99, 116]⟩]
def nm (j : Nat) : ByteArray := nmL.getD j ⟨#[]⟩
theorem nm_own (w : World) : Own (w.alloc (Obj.cells #[.string ⟨#[99, 104, 111, 114, 100, 97, 108]⟩, .string ⟨#[105, 110, 116, 101, 114, 118, 97, 108]⟩, .string ⟨#[112, 114, 111, 112, 101, 114]⟩, .string ⟨#[99, 111, 103, 114, 97, 112, 104]⟩, .string ⟨#[115, 112, 108, 105, 116]⟩, .string ⟨#[116, 104, 114, 101, 115, 104, 111, 108, 100]⟩, .string ⟨#[98, 105, 112, 97, 114, 116, 105, 116, 101]⟩, .string ⟨#[115, 116, 114, 111, 110, 103]⟩, .string ⟨#[112, 101, 114, 102, 101, 99, 116]⟩] 9)) w.heap.size (w.heap.size + 1) 9 1 (some ⟨w.heap.size, 0, none⟩) 9 9 (strs nm) :=
 .inr ⟨w.heap.size, _, rfl, nr_, Nat.lt_succ_self _, heap_alloc_new w _, nr_, by unfold maxLen; omega, rfl, fun j hj => by
  have hc : j = 0 ∨ j = 1 ∨ j = 2 ∨ j = 3 ∨ j = 4 ∨ j = 5 ∨ j = 6 ∨ j = 7 ∨ j = 8 := by omega
  rcases hc with rfl | rfl | rfl | rfl | rfl | rfl | rfl | rfl | rfl <;> rfl⟩
set_option maxRecDepth 100000 in
theorem ClassNames_sv (w : World) : Calls Tryz.prog 148 #[] w fun e w' => ∃ A c, e = .returned (.slice A 9 c) ∧ Own w' w.heap.size w'.heap.size 9 1 A 9 c (strs nm) ∧ Below w.heap.size w w' := by
 have H := hh_ (nm_own w);go_enter Tryz.func148, Tryz.ntmps148;go_wp2;go_ret;exact ⟨_, 9, rfl, H.mono nr_ (by simp), br_.alloc nr_ _⟩
set_option maxHeartbeats 3200000
section
variable {w : World} {q nb cb : Nat} {A : Option Addr}
set_option maxRecDepth 100000 in
theorem l29Name_s (hc : Cu w q A nb cb) : Calls Tryz.prog 100 #[.pointer (some ⟨q, 0, none⟩)] w fun e w' => ∃ t : ByteArray, e = .returned (.string t) ∧ Dr w q A nb cb w' := by
 have HD : Hid (Dr w q A nb cb w) := Dr.of hc br_;have hql : q < w.heap.size := hc.lt;clear hc;have KN : Hid (∀ z, Calls Tryz.prog 148 #[] z _) := fun z => ClassNames_sv z
 go_enter Tryz.func100, Tryz.ntmps100;go_wp2_with fail
 refine (KN.out w).mono ?_;rintro e w1 ⟨A1, c1, rfl, ho, hb⟩;replace HD := hh_ (HD.trans (Dr.of HD.cu hb));have HO := hh_ ho;have hl1 := hb.size;clear hb ho KN;have KB := hh_ (l1Once_s (k := 18) HD.cu (by omega) (by omega));go_wp2_with fail
 refine KB.mono ?_;rintro e w2 ⟨y, rfl, hd⟩;replace HD := hh_ (HD.trans hd);replace HO := hh_ (HO.keep hd.fr (.inr (by omega)));have hl2 := hd.fr.size;clear hd KB;cases y
 ·have KB := hh_ (l1Below_s (k := 9) HD.cu (by omega) (by omega));go_wp2_with fail
  refine KB.mono ?_;rintro e w3 ⟨v, rfl, hv, hd⟩;replace HD := hh_ (HD.trans hd);replace HO := hh_ (HO.keep hd.fr (.inr (by omega)));obtain ⟨g, eB, _, _, _, hcl, _⟩ := HO.at_ (by omega);subst eB;have k1 : w3.cell? ⟨g, v, none⟩ = some (.string (nm v)) := hcl v (by omega);have i1 : (v : Int) < 9 := by omega
  clear hd KB hcl;rename ∀ (a : Act) (w' : World), _ → _ => hK
  refine hK _ _ ?_;clear hK;go_wp2;go_ret;exact ⟨_, rfl, HD.out⟩
 ·rename ∀ (a : Act) (w' : World), _ → _ => hK
  refine hK _ _ ?_;clear hK;obtain ⟨W4, hW4⟩ : ∃ W4, W4 = w2.alloc (Obj.cells #[.string ⟨#[]⟩, .string ⟨#[67, 104, 111, 114, 100, 97, 108]⟩, .string ⟨#[112, 108, 97, 110, 97, 114]⟩] 9) := ⟨_, rfl⟩;have hb4 : Below w2.heap.size w2 W4 := by rw [hW4]; exact br_.alloc nr_ _
  have hl4 : w2.heap.size < W4.heap.size := by rw [hW4]; simp
  have HL : Hid (LT W4 w2.heap.size 3 fun _ => True) := by
   refine ⟨fun j hj => ?_⟩;rw [hW4];have hj3 : j = 0 ∨ j = 1 ∨ j = 2 := by omega
   rcases hj3 with rfl | rfl | rfl <;> exact ⟨_, trivial, by simp [go_sem]; rfl⟩
  replace HD := hh_ (HD.trans (Dr.of HD.cu hb4));have KP := hh_ (l1Pick_s (k := 3) HD.cu HL.out (by omega) hl4 (by omega) (by omega));have HW4 := hh_ hW4;clear hW4 hb4 HL;go_wp2_with fail
  rw [← HW4.out];clear HW4;refine KP.mono ?_;rintro e w5 ⟨t, rfl, _, hd⟩;replace HD := hh_ (HD.trans hd);clear hd KP;rename ∀ (a : Act) (w' : World), _ → _ => hK
  refine hK _ _ ?_;clear hK;go_wp2;go_ret;exact ⟨_, rfl, HD.out⟩
end
def PrE (E : List (Nat × Nat)) : List (List Int) := E.map fun p => [(p.1 : Int), (p.2 : Int)]
structure EdN (r : Nat → Nat) (m : Nat) (E : List (Nat × Nat)) : Prop where
 inc : ∀ p ∈ E, p.1 < p.2 ∧ p.2 < m
 new : ∀ p ∈ E, (r p.1).testBit p.2 = false
 nd : E.Nodup
section
variable {r : Nat → Nat} {m b : Nat} {E : List (Nat × Nat)}
end
theorem fr4 (w : World) (q : Nat) (a b c d : Value) : Fr q (q + 2) w ((((w.setCell ⟨q, 0, none⟩ a).setCell ⟨q, 1, none⟩ b).setCell ⟨q + 1, 0, none⟩ c).setCell ⟨q + 1, 1, none⟩ d) :=
 ((((Fr.refl _ _ w).setCell (p := ⟨q, 0, none⟩) nr_ (by show q < q + 2; omega) _).setCell (p := ⟨q, 1, none⟩) nr_ (by show q < q + 2; omega) _).setCell (p := ⟨q + 1, 0, none⟩) (by show q ≤ q + 1; omega) (by show q + 1 < q + 2; omega) _).setCell (p := ⟨q + 1, 1, none⟩) (by show q ≤ q + 1; omega) (by show q + 1 < q + 2; omega) _
section
variable {w : World} {q nb cb : Nat} {A : Option Addr}
end
set_option maxHeartbeats 3200000
set_option maxRecDepth 100000 in
theorem l1New_s {n c : Nat} {A : Option Addr} {w : World} (hb : By w w.heap.size A n c) (hn : n ≤ 1048576) :
 Calls Tryz.prog 63 #[.slice A n c] w fun e w' => ∃ q, e = .returned (.pointer (some ⟨q, 0, none⟩)) ∧ w.heap.size ≤ q ∧ Cu w' q A n c ∧ Below w.heap.size w w' := by
 have HBy := hh_ hb;have Hc : Hid (∀ j, j < n → ∃ b o, ∃ u : Nat, A = some ⟨b, o, none⟩ ∧ u < 256 ∧ w.cell? ⟨b, o + j, none⟩ = some (.int .u8 u)) := fun j hj => by
  obtain ⟨b, o, e, _, h⟩ := hb.2 (by omega);obtain ⟨u, hu, pu⟩ := h j hj;exact ⟨b, o, u, e, hu, pu⟩
 have fin : ∀ z : Int, Hid (∃ q, Ending.returned (Value.pointer (some ⟨w.heap.size, 0, none⟩)) = .returned (.pointer (some ⟨q, 0, none⟩)) ∧ w.heap.size ≤ q ∧ Cu (w.alloc (Obj.cells #[.slice A n c, .int .i64 0, .int .i64 z] 96)) q A n c ∧ Below w.heap.size w (w.alloc (Obj.cells #[.slice A n c, .int .i64 0, .int .i64 z] 96))) := fun z =>
  ⟨w.heap.size, rfl, nr_, ⟨⟨0, z, Nat.zero_le _, by simp [go_sem], by simp [go_sem], by simp [go_sem]⟩, by simp [go_sem], by simp [go_sem], hb.keep (br_.alloc nr_ _) nr_, hn⟩, br_.alloc nr_ _⟩
 have Hfin := hh_ fin;clear hb fin;go_enter Tryz.func63, Tryz.ntmps63;go_wp2;go_loop [3, 4] (fun h i => ∃ (k : Nat) (z : Int), k ≤ n ∧ i = .int .i64 k ∧ h = .int .i64 z) (fun _ i => n - (intOf i).toNat);case atStart => exact ⟨0, _, Nat.zero_le _, rfl, rfl⟩
 case round =>
  obtain ⟨k, z, hk, rfl, rfl⟩ := hrel;by_cases hkn : k < n
  ·have i1 : (k : Int) < n := by omega
   by_cases h4 : k < 4000
   ·have i2 : (k : Int) < 4000 := by omega
    obtain ⟨b, o, u, rfl, hu, pu⟩ := Hc.out k hkn;go_wp2;go_round;case rel => exact ⟨k + 1, _, by omega, by go_num, rfl⟩
    case measure => (simp [intOf] <;> omega)
   ·have i2 : (4000 : Int) ≤ k := by omega
    go_wp2;go_ret;exact (Hfin.out _).out
  ·have i1 : (n : Int) ≤ k := by omega
   go_wp2;go_ret;exact (Hfin.out _).out
section
variable {w V W U W' : World} {s1 s2 : Int} {B1 B2 : Option Addr} {m1 m2 d1 d2 : Nat} {x1 x2 : Nat → Int} {q nb cb : Nat} {A : Option Addr}
end
section
variable {w : World} {n c : Nat} {A : Option Addr}
end
end Go.Proofs.YticadlkcjhglnaaGreat
