/-
  Several texts in one.
-/
import Derived.Test.YtdpkbfiggbcclaaGreatQmListZ
import Derived.Test.YtdpkbfiggbcclaaGreatQmGB
import Derived.Test.YtdpkbfiggbcclaaGreatRows
import Derived.Test.YtdpkbfiggbcclaaGreatQmGA
import Derived.Deep.RegionHeld3
import Derived.Deep.QuietTactic
import Derived.BigQuiet
import Derived.ProofKit
import Derived.OpenShut
import Derived.ShutString
import Derived.Lib.SmallJoins
import Derived.Carry
import Derived.Deep.Slices
import Derived.Deep.Fields
import Derived.ChangeSame
/-
-/
namespace Go.Proofs.YtdpkbfiggbcclaaGreat
open Go.RowKit
set_option maxHeartbeats 1000000
section
variable {A : Option Addr} {m c : Nat} {r : Nat → Nat}
theorem IsIndependent_sv {w : World} (h : GV w A m c r) {s : Nat} (hs : s < 2 ^ m) :
 Calls Tryz.prog 124 #[.agg #[.int .i64 m, .slice A m c], .int .i64 s] w fun e w' => e = .returned (.bool (indB r s)) ∧ Below w.heap.size w w' := by
 have hn7 := h.vg.n7;have hp := two_pow_le hn7;obtain ⟨b, o, rfl⟩ := h.addr;have HV := hh_ h.vg;obtain ⟨W, hW⟩ : ∃ W, W = (w.alloc (Obj.cells #[.int .i64 m, .slice (some ⟨b, o, none⟩) m c] 28)) := ⟨_, rfl⟩;have HB : Hid (From w W) := by rw [hW]; exact From.alloc _ _
 have HG : Hid (GBox W w.heap.size (some ⟨b, o, none⟩) m c r) := by rw [hW]; exact h.box
 have HW := hh_ hW;clear hW h;obtain ⟨e0, e1⟩ := gx_ HG;go_enter Tryz.func124, Tryz.ntmps124;go_wp2_with fail
 rw [← HW.out];refine (IsSet_sv HG.gv hs).mono ?_;rintro e w1 ⟨rfl, hb1⟩;clear HW;clear e0 e1;obtain ⟨HB, HG, e0, e1⟩ := kG_ HB HG hb1;clear hb1;go_wp2;go_loopw [5] (fun i wr => ∃ k : Nat, k ≤ m ∧ i = .int .i64 k ∧ Hid (∀ v, v < k → s.testBit v = true → r v &&& s = 0) ∧ Hid (From w1 wr)) (fun i _ => m - (intOf i).toNat);case atStart => exact ⟨0, Nat.zero_le _, rfl, (fun v hv => absurd hv (by omega)), From.refl _⟩
 case round =>
  obtain ⟨k, hk, rfl, hall, HR⟩ := hrel;clear e0 e1;replace HB := hh_ (HB.keep HR.below);replace HG := hh_ (HG.keep HR.below);obtain ⟨e0, e1⟩ := gx_ HG;by_cases hlt : k < m
  ·have q0 := HG.gv.row hlt;have hr := HV.lt128 hlt;have E1 := and_one_i64 (s : Int) k (by omega) (by omega);rw [Int.toNat_natCast] at E1;have E2 := i64_and_nat (r k) s (by omega) (by omega);have i1 : (k : Int) < m := by omega
   cases ht : s.testBit k
   ·rw [ht] at E1;have Ht := hh_ ht;clear ht E2;go_wp2;go_roundw;case rel =>
     refine ⟨k + 1, by omega, by go_num, fun v hv hb => ?_, HR⟩;by_cases hvk : v < k
     ·exact hall.out v hvk hb
     ·obtain rfl : v = k := by omega
      rw [Ht.out] at hb; cases hb
    case measure => simp [intOf]; omega
   ·rw [ht] at E1;by_cases hz : r k &&& s = 0
    ·have hne : (bits BinOp.and .i64 (r k : Int) (s : Int) != 0) = false := by rw [E2, hz]; rfl
     have Hz := hh_ hz;clear ht hz E2;go_wp2;go_roundw;case rel =>
      refine ⟨k + 1, by omega, by go_num, fun v hv hb => ?_, HR⟩;by_cases hvk : v < k
      ·exact hall.out v hvk hb
      ·obtain rfl : v = k := by omega
       exact Hz.out
     case measure => simp [intOf]; omega
    ·have hne : (bits BinOp.and .i64 (r k : Int) (s : Int) != 0) = true := by rw [E2, bne_iff_ne]; omega
     have hno : Hid (indB r s = false) := indB_no (by omega) ht hz;clear ht hz E2;go_wp2;go_ret;exact ⟨ret_bool hno.symm, HB.below⟩
  ·have hyes : Hid (indB r s = true) := indB_yes fun v hv hb => hall.out v (by have := bit_lt hs hb; omega) hb
   have i1 : (m : Int) ≤ k := by omega
   go_wp2;go_ret;exact ⟨ret_bool hyes.symm, HB.below⟩
end
set_option maxHeartbeats 1600000
def stN : List Int → Nat
 | [] => 0
 | v :: l => 2 ^ v.toNat ||| stN l
theorem stN_bit {l : List Int} {u : Nat} (h : ∀ v ∈ l, 0 ≤ v) : (stN l).testBit u = true ↔ (u : Int) ∈ l := by
 induction l with
 | nil => simp [stN]
 | cons v l ih =>
   rw [stN, Nat.testBit_or, Nat.testBit_two_pow, Bool.or_eq_true, ih (fun v hv => h v (by simp [hv])), List.mem_cons, decide_eq_true_eq];have := h v (by simp);constructor
   ·rintro (h1 | h1)
    ·left; omega
    ·exact .inr h1
   ·rintro (h1 | h1)
    ·left; omega
    ·exact .inr h1
theorem stN_lt {l : List Int} {m : Nat} (h : ∀ v ∈ l, 0 ≤ v ∧ v < (m : Int)) : stN l < 2 ^ m := by
 induction l with
 | nil => exact Nat.two_pow_pos m
 | cons v l ih =>
   have := h v (by simp);exact Nat.or_lt_two_pow (Nat.pow_lt_pow_right (by omega) (by omega)) (ih (fun v hv => h v (by simp [hv])))
theorem stN_append (l k : List Int) : stN (l ++ k) = stN l ||| stN k := by
 induction l with
 | nil => simp [stN]
 | cons v l ih => rw [List.cons_append, stN, stN, ih, Nat.or_assoc]
theorem or_of_add {a u : Nat} (h : a.testBit u = false) : a + 2 ^ u = a ||| 2 ^ u := by
 rw [add_pow_bit h];apply Nat.eq_of_testBit_eq;intro i;rw [Nat.testBit_or, Nat.testBit_xor, Nat.testBit_two_pow];by_cases hi : u = i
 ·subst hi; simp [h]
 ·simp [hi]
theorem take_snocz {l : List Int} {k : Nat} (hk : k < l.length) : l.take (k + 1) = l.take k ++ [l.getD k 0] := by
 have e : l.getD k 0 = l[k] := by simp [List.getD, hk]
 rw [e, List.take_succ_eq_append_getElem hk]
theorem stN_take {l : List Int} {k : Nat} (hk : k < l.length) : stN (l.take (k + 1)) = stN (l.take k) ||| 2 ^ (l.getD k 0).toNat := by
 rw [take_snocz hk, stN_append]; simp [stN]
noncomputable def soN (l : List Int) : Int := if vzB 7 l = true then (stN l : Int) else 0
theorem soN_yes {l : List Int} (h : vzB 7 l = true) : soN l = (stN l : Int) := by unfold soN; rw [if_pos h]
theorem soN_no {l : List Int} (h : vzB 7 l = false) : soN l = 0 := by unfold soN; rw [h]; rfl
theorem VZ.step {m : Nat} {l : List Int} {k : Nat} (hk : k < l.length) (h : VZ m (l.take k)) (h0 : 0 ≤ l.getD k 0) (h1 : l.getD k 0 < m) (hn : l.getD k 0 ∉ l.take k) : VZ m (l.take (k + 1)) := by
 refine ⟨nodupz_take hk h.1 hn, fun v hv => ?_⟩;rw [take_snocz hk, List.mem_append, List.mem_singleton] at hv;rcases hv with hv | rfl
 ·exact h.2 v hv
 ·exact ⟨h0, h1⟩
theorem SetOf_s (Al : Option Addr) (n cl : Nat) (l : List Int) (w : World) (hl : LI w Al n cl l) (hn : n ≤ 1048576) :
 Calls Tryz.prog 383 #[.slice Al n cl] w fun e w' => e = .returned (.tuple #[.int .i64 (soN l), .bool (vzB 7 l)]) ∧ w = w' := by
 have HL := hh_ hl;have HN := hh_ hl.len;clear hl;go_enter Tryz.func383, Tryz.ntmps383;go_wp2;go_loop [4, 5] (fun s i => ∃ k : Nat, k ≤ n ∧ i = .int .i64 k ∧ s = .int .i64 (stN (l.take k) : Nat) ∧ Hid (VZ 7 (l.take k))) (fun _ i => n - (intOf i).toNat);case atStart => exact ⟨0, Nat.zero_le _, rfl, rfl, List.nodup_nil, fun v hv => by cases hv⟩
 case round =>
  obtain ⟨k, hk, rfl, rfl, hall⟩ := hrel;by_cases hlt : k < n
  ·have hkl : k < l.length := by rw [← HN.out]; exact hlt
   obtain ⟨b, o, rfl⟩ := HL.addr (by omega);have q0 := HL.at hlt;have hmem := getD_mem hkl;have hst := stN_take hkl;have hs7 := stN_lt hall.out.2;obtain ⟨u, hu⟩ : ∃ u : Int, u = l.getD k 0 := ⟨_, rfl⟩;rw [← hu] at q0 hmem hst;have i1 : (k : Int) < n := by omega
   by_cases hr : 0 ≤ u ∧ u < 7
   ·obtain ⟨r1, r2⟩ := hr;obtain ⟨v, rfl⟩ := Int.eq_ofNat_of_zero_le r1;rw [Int.toNat_natCast] at hst;have hv7 : 2 ^ v < 2 ^ 7 := Nat.pow_lt_pow_right (by omega) (by omega);have E1 := and_one_i64 (stN (l.take k) : Int) v (by omega) (by omega);rw [Int.toNat_natCast] at E1;have p1 := pow_shl v (by omega);have hpc := pow_cast v;cases ht : (stN (l.take k)).testBit v
    ·have hnin : (v : Int) ∉ l.take k := fun h => by rw [(stN_bit (fun v hv => (hall.out.2 v hv).1)).2 h] at ht; cases ht
     have hyes : Hid (VZ 7 (l.take (k + 1))) := hall.step hkl (by rw [← hu]; exact r1) (by rw [← hu]; exact r2) (by rw [← hu]; exact hnin);have E2 : wrap64 ((stN (l.take k) : Int) + 2 ^ v) = (stN (l.take (k + 1)) : Int) := by
      have e : (stN (l.take k) : Int) + 2 ^ v = (stN (l.take (k + 1)) : Int) := by rw [hst, ← or_of_add ht]; simp
      rw [Go.IntWalk.wrap64_in _ (by omega), e]
     rw [ht] at E1;clear ht hnin hst hu hmem hpc;go_wp2_with (first | (go_at_call 191; refine (l1In_yes _ _ _ _ r1 (by omega)).mono ?_; rintro e w' ⟨rfl, rfl⟩))
     go_round;case rel => exact ⟨k + 1, by omega, by go_num, congrArg (Value.int .i64) E2, hyes⟩
     case measure => simp [intOf]; omega
    ·have hin : (v : Int) ∈ l.take k := (stN_bit (fun v hv => (hall.out.2 v hv).1)).1 ht;have hno : Hid (vzB 7 l = false) := vzB_no fun h => not_nodupz hkl (by rw [← hu]; exact hin) h.1
     have hz : Hid (soN l = 0) := soN_no hno.out;rw [ht] at E1;clear ht hin hst hu hmem hpc;go_wp2_with (first | (go_at_call 191; refine (l1In_yes _ _ _ _ r1 (by omega)).mono ?_; rintro e w' ⟨rfl, rfl⟩))
     go_ret2;exact ⟨by rw [hno.out, hz.out]; rfl, rfl⟩
   ·have hno : Hid (vzB 7 l = false) := vzB_no fun h => hr (h.2 u hmem)
    have hz : Hid (soN l = 0) := soN_no hno.out;have hr' : Hid (u < 0 ∨ 6 < u) := by show _ ∨ _; omega
    clear hr hst hu hmem;go_wp2_with (first | (go_at_call 191; refine (l1In_no _ _ _ _ hr'.out).mono ?_; rintro e w' ⟨rfl, rfl⟩))
    go_ret2;exact ⟨by rw [hno.out, hz.out]; rfl, rfl⟩
  ·have hyes : Hid (vzB 7 l = true) := by
    refine vzB_yes ?_;have := hall.out;rwa [List.take_of_length_le (by rw [← HN.out]; omega)] at this
   have he : Hid (l.take k = l) := List.take_of_length_le (by rw [← HN.out]; omega);have hz : Hid (soN l = (stN l : Int)) := soN_yes hyes.out;have i1 : (n : Int) ≤ k := by omega
   go_wp2;go_ret2;exact ⟨by rw [hyes.out, hz.out]; simp only [he.out]; rfl, rfl⟩
theorem IsSet_s (sz : Int) (A : Option Addr) (m c : Nat) (x : Nat → Int) (s : Nat) (w : World) (h : GA w A m c x) (ho : okB sz m x = true) :
 Calls Tryz.prog 186 #[.agg #[.int .i64 sz, .slice A m c], .int .i64 s] w fun e w' => e = .returned (.bool (decide (s < 2 ^ m))) ∧ Below w.heap.size w w' := by
 obtain ⟨_, es, vg0, _⟩ := okB_ok' ho;subst es;have hn7 := vg0.n7;have p1 := pow_shl m hn7;have hpc := pow_cast m;have HV := hh_ (h.gv ho);clear ho vg0;have h := HV;obtain ⟨r, hr⟩ : ∃ r, r = rw_ x := ⟨_, rfl⟩;rw [← hr] at h;obtain ⟨W, hW, HB, HG⟩ := gbW h;have HW := hh_ hW;clear hW h;obtain ⟨e0, e1⟩ := gx_ HG;by_cases hlt : s < 2 ^ m
 ·rw [decide_eq_true hlt];have i1 : (s : Int) < 2 ^ m := by omega
  clear hlt;go_enter Tryz.func186, Tryz.ntmps186;go_wp2_with fail
  rw [← HW.out];refine (IsGraph_sv HG.gv).mono ?_;rintro e w1 ⟨rfl, hb1⟩;clear HW;clear e0 e1;obtain ⟨HB, HG, e0, e1⟩ := kG_ HB HG hb1;clear hb1;go_wp2;go_ret;exact ⟨rfl, HB.below⟩
 ·rw [decide_eq_false hlt];have i1 : (2 : Int) ^ m ≤ (s : Int) := by omega
  clear hlt;go_enter Tryz.func186, Tryz.ntmps186;go_wp2_with fail
  rw [← HW.out];refine (IsGraph_sv HG.gv).mono ?_;rintro e w2 ⟨rfl, hb2⟩;clear HW;clear e0 e1;obtain ⟨HB, HG, e0, e1⟩ := kG_ HB HG hb2;clear hb2;go_wp2;go_ret;exact ⟨ret_bool (decide_eq_false (by omega)), HB.below⟩
theorem l4Distinct_z (sz : Int) (A : Option Addr) (m c : Nat) (x : Nat → Int) (Al : Option Addr) (n cl : Nat) (l : List Int) (w : World) (h : GA w A m c x) (hl : LI w Al n cl l) (hm : m ≤ 1048576) (hn : n ≤ 1048576) :
 Calls Tryz.prog 339 #[.agg #[.int .i64 sz, .slice A m c], .slice Al n cl] w fun e w' => e = .returned (.bool (vrB sz m x l)) ∧ Below w.heap.size w w' := by
 obtain ⟨W, hW⟩ : ∃ W, W = (w.alloc (Obj.cells #[.int .i64 sz, .slice A m c] 28)) := ⟨_, rfl⟩;have HB : Hid (From w W) := by rw [hW]; exact From.alloc _ _
 have HK := hh_ (h.keep HB.below);have HL := hh_ (hl.keep HB.below);have HC : Hid (GC W w.heap.size sz A m c) := by rw [hW]; exact GC.new _ _ _ _ _
 have HW := hh_ hW;clear hW h hl;go_enter Tryz.func339, Tryz.ntmps339;go_wp2_with fail
 rw [← HW.out];clear HW;refine (SetOf_s Al n cl l W HL.out hn).mono ?_;rintro e w' ⟨rfl, rfl⟩;obtain ⟨e0, e1⟩ := gc_ HC;go_wp2_with fail
 refine (IsGraph_sany sz A m c x W W.heap.size HK.rd nr_ hm).mono ?_;rintro e w1 ⟨rfl, hb1⟩;clear e0 e1;obtain ⟨HB, HK, HC, e0, e1⟩ := kC_ HB HK HC hb1;clear hb1;cases ho : okB sz m x
 ·have hno : Hid (vrB sz m x l = false) := vrB_bad ho;clear ho;go_wp2;go_ret;exact ⟨ret_bool hno.symm, HB.below⟩
 ·have hv : Hid (vrB sz m x l = vzB m l) := vrB_ok ho;obtain ⟨_, es, vg0, _⟩ := okB_ok' ho;subst es;have hn7 := vg0.n7;have Ho := hh_ ho;clear ho vg0;cases h7 : vzB 7 l
  ·have hno : Hid (vzB m l = false) := vzB_no fun h => by
    rw [vzB_yes ⟨h.1, fun v hv => by have := h.2 v hv; omega⟩] at h7; cases h7
   clear h7;go_wp2;go_ret;exact ⟨ret_bool (by rw [hv.out, hno.out]), HB.below⟩
  ·have hz : Hid (soN l = (stN l : Int)) := soN_yes h7;have hV := vzB_iff.1 h7;have hlt := stN_lt hV.2;have hd : Hid (decide (stN l < 2 ^ m) = vrB (m : Int) m x l) := by
    show _ = _;rw [hv.out];by_cases h : VZ m l
    ·rw [vzB_yes h, decide_eq_true (stN_lt h.2)]
    ·rw [vzB_no h, decide_eq_false];intro hs;refine h ⟨hV.1, fun v hv => ?_⟩;have h0 := (hV.2 v hv).1;obtain ⟨u, rfl⟩ := Int.eq_ofNat_of_zero_le h0;have := bit_lt hs ((stN_bit (fun v hv => (hV.2 v hv).1)).2 hv);omega
   rw [hz.out];obtain ⟨S, hS⟩ : ∃ S, S = stN l := ⟨_, rfl⟩;rw [← hS] at hd ⊢;clear h7 hV hlt hz hS;go_wp2_with fail
   refine (IsSet_s (m : Int) A m c x S _ HK Ho.out).mono ?_;rintro e w2 ⟨rfl, hb2⟩;clear e0 e1;obtain ⟨HB, HK, HC, e0, e1⟩ := kC_ HB HK HC hb2;clear hb2;go_wp2;go_ret;exact ⟨ret_bool hd.out, HB.below⟩
set_option maxHeartbeats 1000000
theorem LN.li {w : World} {A : Option Addr} {c : Nat} {l : List Nat} (h : LN w A c l) : LI w A l.length c (l.map fun v : Nat => (v : Int)) :=
 ⟨by simp, h.rd.congr fun k hk => by simp [List.getD, hk]⟩
section
variable {fn : FuncId} {caps : Array Value} {p : Int → Bool}
theorem IndexFunc_g (hef : Ent fn) {Al : Option Addr} {n cl : Nat} {l : List Int} (w : World) (hl : LI w Al n cl l) (hn : n ≤ 1048576)
 (HF : ∀ (v : Int) (z : World), v ∈ l → Below w.heap.size w z → Calls Tryz.prog fn (#[.int .i64 v] ++ caps) z (fun e z' => e = .returned (.bool (p v)) ∧ Below z.heap.size z z')) :
 Calls Tryz.prog 353 #[.slice Al n cl, .func (.func fn) #[] caps] w fun e w' => e = .returned (.int .i64 (fIdx (fun j => p (l.getD j 0)) n)) ∧ Below w.heap.size w w' := by
 unfold Ent at hef;have HL := hh_ hl;have HN := hh_ hl.len;have HF := hh_ HF;clear hl;go_enter Tryz.func353, Tryz.ntmps353;go_wp2;go_loopw [8] (fun i wr => ∃ k : Nat, k ≤ n ∧ i = .int .i64 k ∧ Hid (∀ j, j < k → p (l.getD j 0) = false) ∧ Hid (Below w.heap.size w wr)) (fun i _ => n - (intOf i).toNat);case atStart => exact ⟨0, Nat.zero_le _, rfl, (fun j hj => absurd hj (by omega)), br_⟩
 case round =>
  obtain ⟨k, hk, rfl, hall, hbr⟩ := hrel;have zr := hbr.size;by_cases hlt : k < n
  ·have HLr := hh_ (HL.keep hbr.out);obtain ⟨b, o, rfl⟩ := HLr.addr (by omega);have q0 := HLr.at hlt;have K1 := hh_ (HF.out (l.getD k 0) wr (getD_mem (by rw [← HN.out]; exact hlt)) hbr.out);obtain ⟨v, hv⟩ : ∃ v : Int, v = l.getD k 0 := ⟨_, rfl⟩;have Hv := hh_ hv;rw [← hv] at q0 K1;have i1 : (k : Int) < n := by omega
   cases hp : p v
   ·rw [hp] at K1;have Hp : Hid (p (l.getD k 0) = false) := by rw [← hv]; exact hp
    clear hp hv;go_wp2_with fail
    refine K1.mono ?_;rintro e w3 ⟨rfl, hb3⟩;have HB3 : Hid (Below w.heap.size w w3) := hbr.trans (hb3.mono zr);clear hb3 hbr q0;go_wp2;go_roundw;case rel =>
     refine ⟨k + 1, by omega, by go_num, fun j hj => ?_, HB3⟩;by_cases hjk : j < k
     ·exact hall.out j hjk
     ·obtain rfl : j = k := by omega
      exact Hp.out
    case measure => simp [intOf]; omega
   ·rw [hp] at K1;have Hi : Hid (fIdx (fun j => p (l.getD j 0)) n = k) := fIdx_yes hlt (by rw [← hv]; exact hp) hall.out;clear hp hv;go_wp2_with fail
    refine K1.mono ?_;rintro e w3 ⟨rfl, hb3⟩;have HB3 : Hid (Below w.heap.size w w3) := hbr.trans (hb3.mono zr);clear hb3 hbr q0;go_wp2;go_ret;exact ⟨ret_int Hi.symm, HB3⟩
  ·have Hi : Hid (fIdx (fun j => p (l.getD j 0)) n = -1) := fIdx_no fun j hj => hall.out j (by omega)
   have i1 : (n : Int) ≤ k := by omega
   go_wp2;go_ret;exact ⟨ret_int Hi.symm, hbr.out⟩
theorem fIdx_any {l : List Int} : decide (0 ≤ fIdx (fun j => p (l.getD j 0)) l.length) = l.any p := by
 cases h : l.any p
 ·rw [fIdx_no (p := fun j => p (l.getD j 0)) (fun j hj => ?_)]
  ·rfl
  ·rw [List.any_eq_false] at h;have := h _ (getD_mem hj);simpa using this
 ·rw [List.any_eq_true] at h;obtain ⟨v, hv, hp⟩ := h;rw [decide_eq_true_eq];unfold fIdx;cases e : (List.range l.length).find? (fun j => p (l.getD j 0)) with
  | some k => show (0 : Int) ≤ k; omega
  | none =>
    rw [List.find?_eq_none] at e;obtain ⟨j, hj, e2⟩ := List.mem_iff_getElem.1 hv;have := e j (List.mem_range.2 hj);simp [List.getD, hj, e2, hp] at this
theorem ContainsFunc_g (hef : Ent fn) {Al : Option Addr} {n cl : Nat} {l : List Int} (w : World) (hl : LI w Al n cl l) (hn : n ≤ 1048576)
 (HF : ∀ (v : Int) (z : World), v ∈ l → Below w.heap.size w z → Calls Tryz.prog fn (#[.int .i64 v] ++ caps) z (fun e z' => e = .returned (.bool (p v)) ∧ Below z.heap.size z z')) :
 Calls Tryz.prog 344 #[.slice Al n cl, .func (.func fn) #[] caps] w fun e w' => e = .returned (.bool (l.any p)) ∧ Below w.heap.size w w' := by
 have K := hh_ (IndexFunc_g hef w hl hn HF);have hlen := hl.len;have HA : Hid (decide (0 ≤ fIdx (fun j => p (l.getD j 0)) n) = l.any p) := by rw [hlen]; exact fIdx_any
 clear hl HF hlen;obtain ⟨t, ht⟩ : ∃ t, t = fIdx (fun j => p (l.getD j 0)) n := ⟨_, rfl⟩;rw [← ht] at K HA;clear ht;go_enter Tryz.func344, Tryz.ntmps344;go_wp2_with fail
 refine K.mono ?_;rintro e w1 ⟨rfl, hb1⟩;have HB := hh_ hb1;clear hb1;go_wp2;go_ret;exact ⟨ret_bool HA.out, HB⟩
end
end Go.Proofs.YtdpkbfiggbcclaaGreat

/-
-/
/-
 Contracts of the law's helpers on slices of edits.
-/
namespace Go.Proofs.YtdpkbfiggbcclaaGreat
open Go.RowKit
set_option maxHeartbeats 400000
end Go.Proofs.YtdpkbfiggbcclaaGreat
/-
 Contracts of the law's helpers on slices of at most nine strings.
-/
namespace Go.Proofs.YtdpkbfiggbcclaaGreat
open Go.RowKit
end Go.Proofs.YtdpkbfiggbcclaaGreat
/-
 How the laws' arguments read: slices of integers, graphs, integers, strings.
-/
namespace Go.Proofs.YtdpkbfiggbcclaaGreat
open Go.ChangeShapes Go.WideShapes Go.ChangeAt Go.RowKit
theorem own : ownKnob Tryz.prog.godebug = none := by kernel_rfl
theorem laidOut : laidOutB Tryz.prog = true := by kernel_rfl
section
variable {H : Type} {enc : TypeId × Value → H} {w : World} {base : Nat} {spare : Nat → Bool} {held : Bool}
theorem rd_of_cells {a : Addr} {n c : Nat} {x : Nat → Int} (hl : n ≤ c) (hc : ∀ i, i < n → w.cell? (a.add i) = some (.int .i64 (x i))) : Rd w w.heap.size (some a) n c x := by
 refine ⟨hl, fun hn => ?_⟩;obtain ⟨b, o, s⟩ := a;have h0 := hc 0 hn;have hs : s = none := by simpa [Addr.add] using World.cell?_spot h0
 subst hs;have hadd : ∀ k, (⟨b, o, none⟩ : Addr).add k = ⟨b, o + k, none⟩ := fun k => by unfold Addr.add; split <;> simp_all
 refine ⟨b, o, rfl, ?_, fun k hk => by rw [← hadd]; exact hc k hk⟩;have := World.block_lt_of_cell? w _ h0;rw [hadd] at this;exact this
theorem open_intS {fuel : Nat} {v : Value} {y : DataW H × List MemPlace} (h : DataW.trod enc Tryz.prog w base spare held fuel 22 [v] = some y) :
 ∃ A n c x, v = .slice A n c ∧ Rd w w.heap.size A n c x ∧ n ≤ maxLen := by
 rcases open_ints Tryz.underlying22 Tryz.underlying3 (by kernel_rfl) h with ⟨hcs, _⟩ | ⟨a, l, c, zs, hcs, _, hl, hm, hz, _, hcell, _⟩
 ·simp only [List.cons.injEq, and_true] at hcs;exact ⟨none, 0, 0, fun _ => 0, hcs, Rd.nil _ _ _ _ _, Nat.zero_le _⟩
 ·simp only [List.cons.injEq, and_true] at hcs;refine ⟨some a, l, c, fun i => zs.getD i 0, hcs, rd_of_cells hl (fun i hi => hcell i ?_), Nat.le_trans hl hm⟩;rw [hz]; split <;> omega
set_option maxRecDepth 100000 in
theorem open_graph {r : Reach} {b0 : Nat} {v : Value} {d : DataW H} {p : List MemPlace} (hv : Value.okWide Tryz.prog w r b0 24 v)
 (h : DataW.Trod enc Tryz.prog w base spare held 24 v d p) :
 ∃ sz A n c x, v = .agg #[.int .i64 sz, .slice A n c] ∧ Rd w w.heap.size A n c x ∧ n ≤ maxLen := by
 obtain ⟨v0, v1, y0, y1, m, rfl, _, _, h0, h1⟩ := Go.Joins.open_agg2 Tryz.underlying24 (by kernel_rfl) (by kernel_rfl) hv h;obtain ⟨sz, e0, _, _⟩ := DataW.trod_int Tryz.underlying3 h0;simp only [List.cons.injEq, and_true] at e0;subst e0;obtain ⟨A, n, c, x, rfl, hr, hn⟩ := open_intS h1;exact ⟨sz, A, n, c, x, rfl, hr, hn⟩
theorem places_lt {t : TypeId} {v : Value} {d : DataW H} {p : List MemPlace} (h : DataW.Trod enc Tryz.prog w base spare held t v d p) : ∀ x ∈ p, x.block < w.heap.size := by
 obtain ⟨m, hm⟩ := h;exact DataW.trod_lt m _ _ _ hm
end
end Go.Proofs.YtdpkbfiggbcclaaGreat
/-
 How further arguments read (slices of edits); small laws that the generated walks use.
-/
namespace Go.Proofs.YtdpkbfiggbcclaaGreat
open Go.ChangeShapes Go.WideShapes Go.ChangeAt Go.RowKit Go.Deep
theorem bd {w w' : World} (h : Below w.drew.heap.size w.drew w') : Below w.heap.size w w' := ⟨h.os, h.tape, h.output, h.size, h.block⟩
theorem upFr {lo hi b o : Nat} {W w1 : World} {v : Value} (hf : Fr lo hi W w1) (e : W.cell? ⟨b, o, none⟩ = some v) (h : b < W.heap.size) (h2 : b < lo ∨ hi ≤ b) : w1.cell? ⟨b, o, none⟩ = some v := (hf.cell (p := ⟨b, o, none⟩) h h2).trans e
theorem Own.marked {w : World} {lo hi n c : Nat} {e : TypeId} {A : Option Addr} {k : Int} {x : Nat → Value} (h : Own w lo hi e 1 A n c (mks k x n)) : Own w lo hi e 1 A n c (fun j => .int .i64 (k + j)) :=
 h.congr (fun j hj => by unfold mks; rw [if_pos (by omega)])
section
variable {H : Type} {enc : TypeId × Value → H} {w : World} {base : Nat} {spare : Nat → Bool} {held : Bool}
end
end Go.Proofs.YtdpkbfiggbcclaaGreat
/-
 Contract of the law's helper that asks whether a graph holds its marks.
-/
namespace Go.Proofs.YtdpkbfiggbcclaaGreat
open Go.RowKit
theorem heldGraph_yes (sz : Int) (A : Option Addr) (n c : Nat) (k : Int) (w : World) (B : Nat) (h : Rd w B A n c (fun j => k + j)) (hn : n ≤ 1048576) (hk0 : 0 ≤ k) (hk1 : k ≤ 1099511627776) (hB : B ≤ w.heap.size) :
 Calls Tryz.prog 143 #[.agg #[.int .i64 sz, .slice A n c], .int .i64 k] w fun e w' => e = .returned (.int .i64 (k + n)) ∧ Below w.heap.size w w' := by
 have hk2 : 0 ≤ k + n := by omega
 have HB : Hid (Below w.heap.size w (w.alloc (Obj.cells #[.int .i64 sz, .slice A n c] 28))) := br_.alloc nr_ _;have HK := hh_ (h.keep (HB.mono hB) nr_);clear h;go_enter Tryz.func143, Tryz.ntmps143;go_wp2_with fail
 refine (heldIntS_yes A n c k _ B HK.out (by omega) hk0 (by omega)).mono ?_;rintro e w' ⟨rfl, rfl⟩;clear HK;go_wp2;go_ret;exact ⟨rfl, HB.out⟩
end Go.Proofs.YtdpkbfiggbcclaaGreat
/-
 How arguments read: slices of slices of integers; integers; strings.
-/
namespace Go.Proofs.YtdpkbfiggbcclaaGreat
open Go.ChangeShapes Go.WideShapes Go.ChangeAt Go.RowKit Go.Deep
section
variable {H : Type} {enc : TypeId × Value → H} {w : World} {base : Nat} {spare : Nat → Bool} {held : Bool}
end
set_option maxHeartbeats 1000000
structure Clm where
 K : Int
 s : Int
 A0 : Option Addr
 n0 : Nat
 c0 : Nat
 x0 : Nat → Int
 t : ByteArray
 A1 : Option Addr
 n1 : Nat
 c1 : Nat
 x1 : Nat → Int
 A2 : Option Addr
 n2 : Nat
 c2 : Nat
 x2 : Nat → Int
 A3 : Option Addr
 c3 : Nat
 D : List Dsc
def RdK (w : World) (B : Nat) (k : Clm) : Prop := Rd w B k.A0 k.n0 k.c0 k.x0 ∧ Rd w B k.A1 k.n1 k.c1 k.x1 ∧ Rd w B k.A2 k.n2 k.c2 k.x2 ∧ RdD w B k.A3 k.c3 k.D
def OwnK (w : World) (lo hi : Nat) (k : Clm) : Prop := Own w lo hi 3 1 k.A0 k.n0 k.c0 (fun j => .int .i64 (k.x0 j)) ∧ Own w lo hi 3 1 k.A1 k.n1 k.c1 (fun j => .int .i64 (k.x1 j)) ∧ Own w lo hi 3 1 k.A2 k.n2 k.c2 (fun j => .int .i64 (k.x2 j)) ∧ OwnD w lo hi k.A3 k.c3 k.D
def SmK (k : Clm) : Prop := k.n0 ≤ 1048576 ∧ k.t.size ≤ 1048576 ∧ k.n1 ≤ 1048576 ∧ k.n2 ≤ 1048576 ∧ k.D.length ≤ 1048576 ∧ tot k.D ≤ 1048576
def SameK (a b : Clm) : Prop := a.K = b.K ∧ a.s = b.s ∧ a.n0 = b.n0 ∧ a.x0 = b.x0 ∧ a.t = b.t ∧ a.n1 = b.n1 ∧ a.x1 = b.x1 ∧ a.n2 = b.n2 ∧ a.x2 = b.x2 ∧ lists a.D = lists b.D
section
variable {w w' : World} {lo hi lo' hi' B B' : Nat} {k j : Clm}
theorem RdK.keep (h : RdK w B k) (hb : Below B w w') (hB : B ≤ B') : RdK w' B' k := ⟨h.1.keep hb hB, h.2.1.keep hb hB, h.2.2.1.keep hb hB, h.2.2.2.keep hb hB⟩
theorem OwnK.rdK (h : OwnK w lo hi k) : RdK w hi k := ⟨h.1.rd, h.2.1.rd, h.2.2.1.rd, h.2.2.2.rdD⟩
theorem OwnK.keepB (h : OwnK w lo hi k) (hf : Below B w w') (hB : hi ≤ B) : OwnK w' lo hi k := ⟨h.1.keepB hf hB, h.2.1.keepB hf hB, h.2.2.1.keepB hf hB, h.2.2.2.keepB hf hB⟩
theorem OwnK.keep {a b : Nat} (h : OwnK w lo hi k) (hf : Fr a b w w') (hab : hi ≤ a ∨ b ≤ lo) : OwnK w' lo hi k := ⟨h.1.keep hf hab, h.2.1.keep hf hab, h.2.2.1.keep hf hab, h.2.2.2.keep hf hab⟩
theorem OwnK.mono (h : OwnK w lo hi k) (h1 : lo' ≤ lo) (h2 : hi ≤ hi') : OwnK w lo' hi' k := ⟨h.1.mono h1 h2, h.2.1.mono h1 h2, h.2.2.1.mono h1 h2, h.2.2.2.mono h1 h2⟩
theorem SameK.symm (h : SameK k j) : SameK j k := by
 obtain ⟨h1, h2, h3, h4, h5, h6, h7, h8, h9, h10⟩ := h;exact ⟨h1.symm, h2.symm, h3.symm, h4.symm, h5.symm, h6.symm, h7.symm, h8.symm, h9.symm, h10.symm⟩
theorem SameK.trans {i : Clm} (h : SameK i k) (g : SameK k j) : SameK i j := by
 obtain ⟨h1, h2, h3, h4, h5, h6, h7, h8, h9, h10⟩ := h;obtain ⟨g1, g2, g3, g4, g5, g6, g7, g8, g9, g10⟩ := g;exact ⟨h1.trans g1, h2.trans g2, h3.trans g3, h4.trans g4, h5.trans g5, h6.trans g6, h7.trans g7, h8.trans g8, h9.trans g9, h10.trans g10⟩
theorem SameK.small (h : SameK k j) (hs : SmK k) : SmK j := by
 obtain ⟨_, _, h3, _, h5, h6, _, h8, _, h10⟩ := h;obtain ⟨s1, s2, s3, s4, s5, s6⟩ := hs;exact ⟨h3 ▸ s1, h5 ▸ s2, h6 ▸ s3, h8 ▸ s4, (len_lists h10) ▸ s5, (tot_lists h10) ▸ s6⟩
end
set_option maxRecDepth 100000 in
theorem eqClaim_yes (k j : Clm) (w : World) (B1 B2 : Nat) (h1 : RdK w B1 k) (h2 : RdK w B2 j) (hB1 : B1 ≤ w.heap.size) (hB2 : B2 ≤ w.heap.size) (hj : SameK k j) (hs : SmK k) :
 Calls Tryz.prog 38 #[.agg #[.int .i64 k.K, .int .i64 k.s, .slice k.A0 k.n0 k.c0, .string k.t, .slice k.A1 k.n1 k.c1, .slice k.A2 k.n2 k.c2, .slice k.A3 k.D.length k.c3], .agg #[.int .i64 j.K, .int .i64 j.s, .slice j.A0 j.n0 j.c0, .string j.t, .slice j.A1 j.n1 j.c1, .slice j.A2 j.n2 j.c2, .slice j.A3 j.D.length j.c3]] w fun e w' => e = .returned (.bool true) ∧ Below w.heap.size w w' := by
 obtain ⟨hs0, hst, hs1, hs2, hs3, hs4⟩ := hs;obtain ⟨K, s, A0, n0, c0, x0, t, A1, n1, c1, x1, A2, n2, c2, x2, A3, c3, D⟩ := k;obtain ⟨K', s', C0, m0, d0, y0, t', C1, m1, d1, y1, C2, m2, d2, y2, C3, d3, E⟩ := j;obtain ⟨e1, e2, e3, e4, e5, e6, e7, e8, e9, e10⟩ := hj;simp only at e1 e2 e3 e4 e5 e6 e7 e8 e9 e10 hs0 hst hs1 hs2 hs3 hs4 h1 h2 ⊢;subst e1 e2 e3 e4 e5 e6 e7 e8 e9;have H1 := hh_ h1;have H2 := hh_ h2;have HL := hh_ e10;clear h1 h2 e10;obtain ⟨w0, hW⟩ : ∃ W, W = (w.alloc (Obj.cells #[.int .i64 K, .int .i64 s, .slice A0 n0 c0, .string t, .slice A1 n1 c1, .slice A2 n2 c2, .slice A3 D.length c3] 54)).alloc (Obj.cells #[.int .i64 K, .int .i64 s, .slice C0 n0 d0, .string t, .slice C1 n1 d1, .slice C2 n2 d2, .slice C3 E.length d3] 54) := ⟨_, rfl⟩;have HB : Hid (Below w.heap.size w w0) := by rw [hW]; exact (br_.alloc nr_ _).alloc (by simp) _
 have hz0 : w0.heap.size = w.heap.size + 2 := by rw [hW]; simp
 have a0_w0 : w0.cell? ⟨w.heap.size, 0, none⟩ = some (.int .i64 K) := by rw [hW]; simp [go_sem]
 have a1_w0 : w0.cell? ⟨w.heap.size, 1, none⟩ = some (.int .i64 s) := by rw [hW]; simp [go_sem]
 have a2_w0 : w0.cell? ⟨w.heap.size, 2, none⟩ = some (.slice A0 n0 c0) := by rw [hW]; simp [go_sem]
 have a3_w0 : w0.cell? ⟨w.heap.size, 3, none⟩ = some (.string t) := by rw [hW]; simp [go_sem]
 have a4_w0 : w0.cell? ⟨w.heap.size, 4, none⟩ = some (.slice A1 n1 c1) := by rw [hW]; simp [go_sem]
 have a5_w0 : w0.cell? ⟨w.heap.size, 5, none⟩ = some (.slice A2 n2 c2) := by rw [hW]; simp [go_sem]
 have a6_w0 : w0.cell? ⟨w.heap.size, 6, none⟩ = some (.slice A3 D.length c3) := by rw [hW]; simp [go_sem]
 have b0_w0 : w0.cell? ⟨w.heap.size + 1, 0, none⟩ = some (.int .i64 K) := by rw [hW]; simp [go_sem]
 have b1_w0 : w0.cell? ⟨w.heap.size + 1, 1, none⟩ = some (.int .i64 s) := by rw [hW]; simp [go_sem]
 have b2_w0 : w0.cell? ⟨w.heap.size + 1, 2, none⟩ = some (.slice C0 n0 d0) := by rw [hW]; simp [go_sem]
 have b3_w0 : w0.cell? ⟨w.heap.size + 1, 3, none⟩ = some (.string t) := by rw [hW]; simp [go_sem]
 have b4_w0 : w0.cell? ⟨w.heap.size + 1, 4, none⟩ = some (.slice C1 n1 d1) := by rw [hW]; simp [go_sem]
 have b5_w0 : w0.cell? ⟨w.heap.size + 1, 5, none⟩ = some (.slice C2 n2 d2) := by rw [hW]; simp [go_sem]
 have b6_w0 : w0.cell? ⟨w.heap.size + 1, 6, none⟩ = some (.slice C3 E.length d3) := by rw [hW]; simp [go_sem]
 have za_w0 : w.heap.size < w0.heap.size := by omega
 have zb_w0 : w.heap.size + 1 < w0.heap.size := by omega
 have SZ : Hid (w.heap.size + 2 ≤ w0.heap.size) := by show _ ≤ _; omega
 have HW := hh_ hW;clear hW hz0;go_enter Tryz.func38, Tryz.ntmps38;go_wp2_with fail
 rw [← HW.out];clear HW;refine (eqGraph_yes s A0 C0 n0 c0 d0 x0 w0 w.heap.size w.heap.size ((H1.out.1.keep (HB.mono hB1) hB1)) ((H2.out.1.keep (HB.mono hB2) hB2)) HB.size HB.size hs0).mono ?_;rintro e w1 ⟨rfl, hb⟩;have zz := hb.size;have a0_w1 := up hb a0_w0 za_w0;have a1_w1 := up hb a1_w0 za_w0;have a2_w1 := up hb a2_w0 za_w0;have a3_w1 := up hb a3_w0 za_w0;have a4_w1 := up hb a4_w0 za_w0;have a5_w1 := up hb a5_w0 za_w0;have a6_w1 := up hb a6_w0 za_w0;have b0_w1 := up hb b0_w0 zb_w0;have b1_w1 := up hb b1_w0 zb_w0;have b2_w1 := up hb b2_w0 zb_w0;have b3_w1 := up hb b3_w0 zb_w0;have b4_w1 := up hb b4_w0 zb_w0;have b5_w1 := up hb b5_w0 zb_w0;have b6_w1 := up hb b6_w0 zb_w0;have za_w1 := Nat.lt_of_lt_of_le za_w0 zz;have zb_w1 := Nat.lt_of_lt_of_le zb_w0 zz;replace HB := hh_ (HB.trans (hb.mono HB.size));replace SZ := hh_ (And.intro SZ.out zz);clear zz hb a0_w0 a1_w0 a2_w0 a3_w0 a4_w0 a5_w0 a6_w0 b0_w0 b1_w0 b2_w0 b3_w0 b4_w0 b5_w0 b6_w0 za_w0 zb_w0
 go_wp2_with fail
 refine (eqIntS_yes A1 C1 n1 c1 d1 x1 w1 w.heap.size w.heap.size ((H1.out.2.1.keep (HB.mono hB1) hB1)) ((H2.out.2.1.keep (HB.mono hB2) hB2)) HB.size HB.size (by omega)).mono ?_;rintro e w2 ⟨rfl, hb⟩;have zz := hb.size;have a0_w2 := up hb a0_w1 za_w1;have a1_w2 := up hb a1_w1 za_w1;have a2_w2 := up hb a2_w1 za_w1;have a3_w2 := up hb a3_w1 za_w1;have a4_w2 := up hb a4_w1 za_w1;have a5_w2 := up hb a5_w1 za_w1;have a6_w2 := up hb a6_w1 za_w1;have b0_w2 := up hb b0_w1 zb_w1;have b1_w2 := up hb b1_w1 zb_w1;have b2_w2 := up hb b2_w1 zb_w1;have b3_w2 := up hb b3_w1 zb_w1;have b4_w2 := up hb b4_w1 zb_w1;have b5_w2 := up hb b5_w1 zb_w1;have b6_w2 := up hb b6_w1 zb_w1;have za_w2 := Nat.lt_of_lt_of_le za_w1 zz;have zb_w2 := Nat.lt_of_lt_of_le zb_w1 zz;replace HB := hh_ (HB.trans (hb.mono HB.size));replace SZ := hh_ (And.intro SZ.out zz);clear zz hb a0_w1 a1_w1 a2_w1 a3_w1 a4_w1 a5_w1 a6_w1 b0_w1 b1_w1 b2_w1 b3_w1 b4_w1 b5_w1 b6_w1 za_w1 zb_w1
 go_wp2_with fail
 refine (eqIntS_yes A2 C2 n2 c2 d2 x2 w2 w.heap.size w.heap.size ((H1.out.2.2.1.keep (HB.mono hB1) hB1)) ((H2.out.2.2.1.keep (HB.mono hB2) hB2)) HB.size HB.size (by omega)).mono ?_;rintro e w3 ⟨rfl, hb⟩;have zz := hb.size;have a0_w3 := up hb a0_w2 za_w2;have a1_w3 := up hb a1_w2 za_w2;have a2_w3 := up hb a2_w2 za_w2;have a3_w3 := up hb a3_w2 za_w2;have a4_w3 := up hb a4_w2 za_w2;have a5_w3 := up hb a5_w2 za_w2;have a6_w3 := up hb a6_w2 za_w2;have b0_w3 := up hb b0_w2 zb_w2;have b1_w3 := up hb b1_w2 zb_w2;have b2_w3 := up hb b2_w2 zb_w2;have b3_w3 := up hb b3_w2 zb_w2;have b4_w3 := up hb b4_w2 zb_w2;have b5_w3 := up hb b5_w2 zb_w2;have b6_w3 := up hb b6_w2 zb_w2;have za_w3 := Nat.lt_of_lt_of_le za_w2 zz;have zb_w3 := Nat.lt_of_lt_of_le zb_w2 zz;replace HB := hh_ (HB.trans (hb.mono HB.size));replace SZ := hh_ (And.intro SZ.out zz);clear zz hb a0_w2 a1_w2 a2_w2 a3_w2 a4_w2 a5_w2 a6_w2 b0_w2 b1_w2 b2_w2 b3_w2 b4_w2 b5_w2 b6_w2 za_w2 zb_w2
 go_wp2_with fail
 refine (eqIntSS_yes A3 C3 c3 d3 D E w3 w.heap.size w.heap.size ((H1.out.2.2.2.keep (HB.mono hB1) hB1)) ((H2.out.2.2.2.keep (HB.mono hB2) hB2)) HB.size HB.size HL.out (by omega) (by omega)).mono ?_;rintro e w4 ⟨rfl, hb⟩;have zz := hb.size;have a0_w4 := up hb a0_w3 za_w3;have a1_w4 := up hb a1_w3 za_w3;have a2_w4 := up hb a2_w3 za_w3;have a3_w4 := up hb a3_w3 za_w3;have a4_w4 := up hb a4_w3 za_w3;have a5_w4 := up hb a5_w3 za_w3;have a6_w4 := up hb a6_w3 za_w3;have b0_w4 := up hb b0_w3 zb_w3;have b1_w4 := up hb b1_w3 zb_w3;have b2_w4 := up hb b2_w3 zb_w3;have b3_w4 := up hb b3_w3 zb_w3;have b4_w4 := up hb b4_w3 zb_w3;have b5_w4 := up hb b5_w3 zb_w3;have b6_w4 := up hb b6_w3 zb_w3;have za_w4 := Nat.lt_of_lt_of_le za_w3 zz;have zb_w4 := Nat.lt_of_lt_of_le zb_w3 zz;replace HB := hh_ (HB.trans (hb.mono HB.size));replace SZ := hh_ (And.intro SZ.out zz);clear zz hb a0_w3 a1_w3 a2_w3 a3_w3 a4_w3 a5_w3 a6_w3 b0_w3 b1_w3 b2_w3 b3_w3 b4_w3 b5_w3 b6_w3 za_w3 zb_w3
 go_wp2;go_ret;exact ⟨rfl, HB⟩
end Go.Proofs.YtdpkbfiggbcclaaGreat
