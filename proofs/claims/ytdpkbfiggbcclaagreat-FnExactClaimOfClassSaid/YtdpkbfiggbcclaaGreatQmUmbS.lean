/-
  Several texts in one.
-/
import Derived.Test.YtdpkbfiggbcclaaGreatQmGC
import Derived.Test.YtdpkbfiggbcclaaGreatQmThjP
import Derived.Test.YtdpkbfiggbcclaaGreatQmSimI
import Derived.Test.YtdpkbfiggbcclaaGreatQmClaim
import Derived.Test.YtdpkbfiggbcclaaGreatQmThoB
import Derived.Test.YtdpkbfiggbcclaaGreatQmListZ
import Derived.Test.YtdpkbfiggbcclaaGreatQmGA
import Derived.Test.YtdpkbfiggbcclaaGreatQmJoinI
/-
-/
namespace Go.Proofs.YtdpkbfiggbcclaaGreat
open Go.RowKit
set_option maxHeartbeats 1600000
noncomputable def sgF (r : Nat → Nat) (left : Nat) : Option Nat := fsF (fun left v => simB r v left) left
theorem sgF_bit {r : Nat → Nat} {left v : Nat} (h : sgF r left = some v) : v < 7 ∧ left.testBit v = true := fsF_bit h
theorem sgF_place {r : Nat → Nat} {left v : Nat} (h : sgF r left = some v) : ∃ k, ∃ hk : k < (listN left).length, (listN left)[k] = v ∧ simB r v left = true ∧ ∀ j (hj : j < k), simB r ((listN left)[j]'(by omega)) left = false := fsF_place (p := fun left v => simB r v left) h
theorem sgF_none' {r : Nat → Nat} {left : Nat} (h : sgF r left = none) : ∀ j (hj : j < (listN left).length), simB r (listN left)[j] left = false := fsF_none' (p := fun left v => simB r v left) h
theorem sgF_least {r : Nat → Nat} {left v : Nat} (hv : v < 7) (hb : left.testBit v = true) (hy : simB r v left = true) (hmin : ∀ u, u < v → left.testBit u = true → simB r u left = false) : sgF r left = some v := fsF_least (p := fun left v => simB r v left) hv hb hy hmin
theorem sgF_no {r : Nat → Nat} {left : Nat} (h : ∀ u, u < 7 → left.testBit u = true → simB r u left = false) : sgF r left = none := fsF_no (p := fun left v => simB r v left) h
theorem IndexFunc_M (A : Option Addr) (c : Nat) (l : List Nat) (p : Nat → Bool) (bg bl : Nat) (w : World) (B : Nat) (h : Rd w B A l.length c (fun j => ((l.getD j 0 : Nat) : Int))) (hB : B ≤ w.heap.size) (hl : l.length ≤ 7)
 (HF : Hid (∀ (j : Nat) (hj : j < l.length) (w' : World), Below w.heap.size w w' → Calls Tryz.prog 361 #[.int .i64 (l[j] : Int), .pointer (some ⟨bg, 0, none⟩), .pointer (some ⟨bl, 0, none⟩)] w' fun e w'' => e = .returned (.bool (p j)) ∧ Below w'.heap.size w' w'')) :
 Calls Tryz.prog 353 #[.slice A l.length c, .func (.func 361) #[] #[.pointer (some ⟨bg, 0, none⟩), .pointer (some ⟨bl, 0, none⟩)]] w fun e w' => e = .returned (.int .i64 (fIdx p l.length)) ∧ Below w.heap.size w w' := by
 have HR := hh_ h;clear h;go_enter Tryz.func353, Tryz.ntmps353;go_wp2;go_loopw [8] (fun i wr => ∃ k : Nat, k ≤ l.length ∧ i = .int .i64 k ∧ Hid (∀ j, j < k → p j = false) ∧ Hid (Below w.heap.size w wr)) (fun i _ => l.length - (intOf i).toNat);case atStart => exact ⟨0, Nat.zero_le _, rfl, (fun j hj => absurd hj (by omega)), br_⟩
 case round =>
  obtain ⟨k, hk, rfl, hall, hbr⟩ := hrel;have zr := hbr.size;by_cases hlt : k < l.length
  ·obtain ⟨b, o, rfl, hb, hc⟩ := HR.pos (by omega);have q0 : wr.cell? ⟨b, o + k, none⟩ = some (.int .i64 (l[k] : Int)) := ((hbr.cell (p := ⟨b, o + k, none⟩) (by show b < _; omega)).trans (hc k hlt)).trans (by simp [List.getD, hlt]);have K1 := hh_ (HF.out k hlt wr hbr.out);obtain ⟨v, hv⟩ : ∃ v : Nat, v = l[k] := ⟨_, rfl⟩;rw [← hv] at q0 K1;have i1 : (k : Int) < l.length := by omega
   clear hc hv;cases hp : p k
   ·rw [hp] at K1;have Hp := hh_ hp;clear hp;go_wp2_with fail
    refine K1.mono ?_;rintro e w3 ⟨rfl, hb3⟩;have HB3 : Hid (Below w.heap.size w w3) := hbr.trans (hb3.mono zr);clear hb3 hbr q0;go_wp2;go_roundw;case rel =>
     refine ⟨k + 1, by omega, by go_num, fun j hj => ?_, HB3⟩;by_cases hjk : j < k
     ·exact hall.out j hjk
     ·obtain rfl : j = k := by omega
      exact Hp.out
    case measure => simp [intOf]; omega
   ·rw [hp] at K1;have Hi : Hid (fIdx p l.length = k) := fIdx_yes hlt hp hall.out;clear hp;go_wp2_with fail
    refine K1.mono ?_;rintro e w3 ⟨rfl, hb3⟩;have HB3 : Hid (Below w.heap.size w w3) := hbr.trans (hb3.mono zr);clear hb3 hbr q0;go_wp2;go_ret;exact ⟨ret_int Hi.symm, HB3⟩
  ·have Hi : Hid (fIdx p l.length = -1) := fIdx_no fun j hj => hall.out j (by omega)
   have i1 : (l.length : Int) ≤ (k : Int) := by omega
   go_wp2;go_ret;exact ⟨ret_int Hi.symm, hbr.out⟩
set_option maxRecDepth 100000 in
theorem smo_i (m : Nat) (A : Option Addr) (c : Nat) (x : Nat → Int) (s v bg bl : Nat) (w : World) (B : Nat) (h : Rd w B A m c x) (hB : B ≤ w.heap.size) (hok : okB m m x = true) (hs : s < 2 ^ m) (hv : v < m)
 (e0 : w.cell? ⟨bg, 0, none⟩ = some (.int .i64 m)) (e1 : w.cell? ⟨bg, 1, none⟩ = some (.slice A m c)) (e2 : w.cell? ⟨bl, 0, none⟩ = some (.int .i64 s)) :
 Calls Tryz.prog 361 #[.int .i64 (v : Int), .pointer (some ⟨bg, 0, none⟩), .pointer (some ⟨bl, 0, none⟩)] w fun e w' => e = .returned (.bool (simB (rw_ x) v s)) ∧ Below w.heap.size w w' := by
 have HG : Hid (GV w A m c (rw_ x)) := GV.of h hB hok;have KS := hh_ (IsSimple_v HG hs hv);have HF : Hid (From w w) := From.refl w;clear h hok;go_enter Tryz.func361, Tryz.ntmps361;go_wp2_with fail
 refine KS.mono ?_;rintro e w1 ⟨rfl, hb1⟩;replace HF := hh_ (HF.keep hb1);clear hb1;go_wp2;go_ret;exact ⟨rfl, HF.below⟩
noncomputable def orG (F : (Nat → Nat) → Nat → Option Nat) (sz : Int) (m : Nat) (x : Nat → Int) : Option (List Nat) := if okB sz m x = true then redL (F (rw_ x)) (2 ^ m - 1) else none
theorem orG_no {F : (Nat → Nat) → Nat → Option Nat} {sz : Int} {m : Nat} {x : Nat → Int} (h : okB sz m x = false) : orG F sz m x = none := by unfold orG; rw [h]; rfl
theorem orG_eq {F : (Nat → Nat) → Nat → Option Nat} {sz : Int} {m : Nat} {x : Nat → Int} {o : Option (List Nat)} (h : okB sz m x = true) (h2 : redL (F (rw_ x)) (2 ^ m - 1) = o) : orG F sz m x = o := by unfold orG; rw [if_pos h, h2]
theorem ni_snocL {T : List Nat} {k j v : Nat} (h : k = T.length) (hj : j < k + 1) : (if j < k then ni T j else Value.int .i64 (v : Int)) = ni (T ++ [v]) j := by
 subst h;unfold ni;by_cases e : j < T.length
 ·rw [if_pos e]; simp [List.getD, List.getElem?_append_left e]
 ·obtain rfl : j = T.length := by omega
  rw [if_neg e]; simp [List.getD]
def Tp (r : Nat → Nat) (s v w : Nat) : Prop := w ≠ v ∧ s.testBit w = true ∧ ∀ u, s.testBit u = true → u ≠ v → u ≠ w → (r v).testBit u = (r w).testBit u
noncomputable def tpB (r : Nat → Nat) (s v w : Nat) : Bool := @decide (Tp r s v w) (Classical.propDecidable _)
noncomputable def tkB (r : Nat → Nat) (s v : Nat) : Nat → Bool
 | 0 => false
 | n + 1 => tkB r s v n || tpB r s v n
section
variable {r : Nat → Nat} {s v w n m : Nat}
theorem tp_yes (h : Tp r s v w) : tpB r s v w = true := @decide_eq_true _ (Classical.propDecidable _) h
theorem tp_no (h : ¬ Tp r s v w) : tpB r s v w = false := @decide_eq_false _ (Classical.propDecidable _) h
theorem tk_iff : ∀ n, tkB r s v n = true ↔ ∃ w, w < n ∧ tpB r s v w = true := by
 intro n;induction n with
 | zero =>
   constructor
   ·intro h; cases h
   ·rintro ⟨w, h, _⟩; omega
 | succ n ih =>
   rw [tkB, Bool.or_eq_true, ih];constructor
   ·rintro (⟨w, h1, h2⟩ | h)
    ·exact ⟨w, by omega, h2⟩
    ·exact ⟨n, Nat.lt_succ_self _, h⟩
   ·rintro ⟨w, h1, h2⟩;by_cases e : w < n
    ·exact .inl ⟨w, e, h2⟩
    ·obtain rfl : w = n := by omega
     exact .inr h2
theorem tp_bit (h : tpB r s v w = true) : s.testBit w = true := (@of_decide_eq_true _ (Classical.propDecidable _) h).2.1
theorem tk_any (hs : s < 2 ^ m) (hm : m ≤ 7) : ((listN s).map fun w : Nat => (w : Int)).any (fun w => tpB r s v w.toNat) = tkB r s v m := by
 rw [Bool.eq_iff_iff, List.any_eq_true, tk_iff];constructor
 ·rintro ⟨w, hw, h⟩;rw [List.mem_map] at hw;obtain ⟨u, hu, rfl⟩ := hw;rw [Int.toNat_natCast] at h;exact ⟨u, bit_lt hs (tp_bit h), h⟩
 ·rintro ⟨w, hw, h⟩;exact ⟨(w : Int), List.mem_map.2 ⟨w, mem_listN.2 ⟨by omega, tp_bit h⟩, rfl⟩, by rw [Int.toNat_natCast]; exact h⟩
def prN (v w : Nat) : Nat := 2 ^ v ||| 2 ^ w
theorem pr_bit {u : Nat} : (prN v w).testBit u = (decide (v = u) || decide (w = u)) := by unfold prN; rw [Nat.testBit_or, Nat.testBit_two_pow, Nat.testBit_two_pow]
theorem tw_i (hw : w ≠ v) (hb : s.testBit w = true) : (((r v ^^^ r w) &&& s) ^^^ (((r v ^^^ r w) &&& s) &&& prN v w) = 0) ↔ Tp r s v w := by
 constructor
 ·intro h;refine ⟨hw, hb, fun u h1 h2 h3 => ?_⟩;have := congrArg (fun t => t.testBit u) h;simp only [Nat.testBit_xor, Nat.testBit_and, Nat.zero_testBit, pr_bit, h1, Bool.and_true, decide_eq_false (fun e : v = u => h2 e.symm), decide_eq_false (fun e : w = u => h3 e.symm), Bool.or_self, Bool.and_false, Bool.xor_false] at this;cases h4 : (r v).testBit u <;> cases h5 : (r w).testBit u <;> simp_all
 ·rintro ⟨_, _, h⟩;apply Nat.eq_of_testBit_eq;intro u;simp only [Nat.testBit_xor, Nat.testBit_and, Nat.zero_testBit, pr_bit];by_cases h1 : v = u
  ·simp [h1]
  ·by_cases h2 : w = u
   ·simp [h2]
   ·cases h3 : s.testBit u
    ·simp
    ·have := h u h3 (fun e => h1 e.symm) (fun e => h2 e.symm);simp [h1, h2, this]
theorem pr_in (hv : s.testBit v = true) : (s &&& prN v w = prN v w) ↔ s.testBit w = true := by
 constructor
 ·intro h;have := congrArg (fun t => t.testBit w) h;simp only [Nat.testBit_and, pr_bit, decide_true, Bool.or_true, Bool.and_true] at this;exact this
 ·intro h;apply Nat.eq_of_testBit_eq;intro u;rw [Nat.testBit_and, pr_bit];by_cases h1 : v = u
  ·subst h1; simp [hv]
  ·by_cases h2 : w = u
   ·subst h2; simp [h]
   ·simp [h1, h2]
theorem pr_sub (hs : s < 128) (h : s &&& prN v w = prN v w) : s - prN v w = s ^^^ prN v w ∧ prN v w ≤ s := by
 have hle : prN v w ≤ s := by rw [← h]; exact Nat.and_le_left
 have := xor_sub hs (prN v w);rw [h] at this;exact ⟨by omega, hle⟩
theorem tw_s (hw : w ≠ v) (hb : s.testBit w = true) (hv : s.testBit v = true) : (r v &&& (s ^^^ prN v w) = r w &&& (s ^^^ prN v w)) ↔ Tp r s v w := by
 constructor
 ·intro h;refine ⟨hw, hb, fun u h1 h2 h3 => ?_⟩;have := congrArg (fun t => t.testBit u) h;simp only [Nat.testBit_xor, Nat.testBit_and, pr_bit, h1, decide_eq_false (fun e : v = u => h2 e.symm), decide_eq_false (fun e : w = u => h3 e.symm), Bool.or_self, Bool.xor_false, Bool.and_true] at this;exact this
 ·rintro ⟨_, _, h⟩;apply Nat.eq_of_testBit_eq;intro u;simp only [Nat.testBit_xor, Nat.testBit_and, pr_bit];by_cases h1 : v = u
  ·subst h1; simp [hv]
  ·by_cases h2 : w = u
   ·subst h2; simp [hb]
   ·cases h3 : s.testBit u
    ·simp [h1, h2]
    ·have := h u h3 (fun e => h1 e.symm) (fun e => h2 e.symm);simp [h1, h2, this]
end
set_option maxHeartbeats 3200000
set_option maxRecDepth 100000 in
theorem twinF {A : Option Addr} {m c q : Nat} {r : Nat → Nat} {s v u : Nat} {w : World} (h : GBox w q A m c r) (e2 : w.cell? ⟨q + 1, 0, none⟩ = some (.int .i64 (s : Int))) (e3 : w.cell? ⟨q + 2, 0, none⟩ = some (.int .i64 (v : Int))) (hs : s < 2 ^ m) (hv : v < m) (hu : u < m) (hb : s.testBit u = true) :
 Calls Tryz.prog 347 #[.int .i64 (u : Int), .pointer (some ⟨q + 2, 0, none⟩), .pointer (some ⟨q, 0, none⟩), .pointer (some ⟨q + 1, 0, none⟩)] w fun e w' => e = .returned (.bool (tpB r s v u)) ∧ Below w.heap.size w w' := by
 have hn7 := h.gv.vg.n7;have h128 := two_pow_le hn7;have e1 := h.c1;obtain ⟨b0, o0, rfl⟩ := h.gv.addr;have q0 := h.gv.row hv;have q1 := h.gv.row hu;have hr0 := h.gv.vg.lt128 hv;have hr1 := h.gv.vg.lt128 hu;have htw := fun hne => tw_i (r := r) (s := s) (v := v) (w := u) hne hb
 obtain ⟨y, hy⟩ : ∃ y, y = r v := ⟨_, rfl⟩;obtain ⟨x, hx⟩ : ∃ x, x = r u := ⟨_, rfl⟩;rw [← hy] at q0 hr0 htw;rw [← hx] at q1 hr1 htw;have h2v := two_pow_le (n := v) (by omega);have h2u := two_pow_le (n := u) (by omega);obtain ⟨zv, hzv⟩ : ∃ z, z = 2 ^ v := ⟨_, rfl⟩;obtain ⟨zu, hzu⟩ : ∃ z, z = 2 ^ u := ⟨_, rfl⟩;have p1 : IntKind.i64.wrap ((2 : Int) ^ v) = (zv : Int) := by rw [pow_shl v (by omega), hzv]; simp
 have p2 : IntKind.i64.wrap ((2 : Int) ^ u) = (zu : Int) := by rw [pow_shl u (by omega), hzu]; simp
 have E1 := i64_or_nat zv zu (by omega) (by omega);obtain ⟨pr, hpr⟩ : ∃ pr, pr = prN v u := ⟨_, rfl⟩;have hprlt : zv ||| zu < 2 ^ 8 := Nat.or_lt_two_pow (by omega) (by omega);rw [show zv ||| zu = pr by rw [hpr, hzv, hzu]; rfl] at E1 hprlt;rw [← hpr] at htw;have E2 : bits .xor .i64 (y : Int) (x : Int) = ((y ^^^ x : Nat) : Int) := by
  have := i64_xor (y : Int) (x : Int) (by omega) (by omega) (by omega) (by omega);simpa using this
 have hxl : y ^^^ x < 2 ^ 7 := Nat.xor_lt_two_pow (by omega) (by omega);obtain ⟨a, ha⟩ : ∃ a, a = y ^^^ x := ⟨_, rfl⟩;rw [← ha] at E2 hxl htw;have E3 := i64_and_nat a s (by omega) (by omega);obtain ⟨b, hb'⟩ : ∃ b, b = a &&& s := ⟨_, rfl⟩;have hbl : b < 128 := by rw [hb']; exact Nat.lt_of_le_of_lt Nat.and_le_left (by omega)
 rw [← hb'] at E3 htw;have E4 := i64_andNot_nat b pr (by omega) (by omega);obtain ⟨d, hd⟩ : ∃ d, d = b ^^^ (b &&& pr) := ⟨_, rfl⟩;rw [← hd] at E4 htw;have i1 : (v : Int) < m := by omega
 have i2 : (u : Int) < m := by omega
 have HF : Hid (From w w) := From.refl w;clear h hb hy hx hzv hzu hpr ha hb' hd hr0 hr1 h2v h2u hprlt hxl hbl hv hu;by_cases hne : u = v
 ·subst hne;have Hn : Hid (tpB r s u u = false) := tp_no fun h => h.1 rfl
  have d1 : ((u : Int) != (u : Int)) = false := by simp
  clear htw;go_enter Tryz.func347, Tryz.ntmps347;go_wp2;go_quiet (fail)
  go_wp2;go_quiet (fail)
  go_wp2;go_ret;exact ⟨ret_bool Hn.symm, ((HF.drewN _).drewN _).below⟩
 ·have d1 : ((u : Int) != (v : Int)) = true := by simp; omega
  have htw := htw hne;by_cases h0 : d = 0
  ·have Hn : Hid (tpB r s v u = true) := tp_yes (htw.1 h0);have d2 : ((d : Int) == 0) = true := by simp; omega
   clear htw hne h0;go_enter Tryz.func347, Tryz.ntmps347;go_wp2;go_quiet (fail)
   go_wp2;go_quiet (fail)
   go_wp2;go_ret;exact ⟨ret_bool Hn.symm, ((HF.drewN _).drewN _).below⟩
  ·have Hn : Hid (tpB r s v u = false) := tp_no fun h => h0 (htw.2 h)
   have d2 : ((d : Int) == 0) = false := by simp; omega
   clear htw hne h0;go_enter Tryz.func347, Tryz.ntmps347;go_wp2;go_quiet (fail)
   go_wp2;go_quiet (fail)
   go_wp2;go_ret;exact ⟨ret_bool Hn.symm, ((HF.drewN _).drewN _).below⟩
set_option maxRecDepth 100000 in
theorem twinIn_v {A : Option Addr} {m c : Nat} {r : Nat → Nat} {s v : Nat} {w : World} (h : GV w A m c r) (hs : s < 2 ^ m) (hv : v < m) :
 Calls Tryz.prog 254 #[.agg #[.int .i64 m, .slice A m c], .int .i64 (s : Int), .int .i64 (v : Int)] w fun e w' => e = .returned (.bool (tkB r s v m)) ∧ Below w.heap.size w w' := by
 have hn7 := h.vg.n7;have hs128 : s < 128 := Nat.lt_of_lt_of_le hs (two_pow_le hn7);obtain ⟨W, hW⟩ : ∃ W, W = (((w.alloc (Obj.cells #[.int .i64 m, .slice A m c] 28)).alloc (Obj.cells #[.int .i64 (s : Int)] 3)).alloc (Obj.cells #[.int .i64 (v : Int)] 3)) := ⟨_, rfl⟩;have HB : Hid (From w W) := by rw [hW]; exact ((From.alloc _ _).alloc_ _).alloc_ _
 have HG : Hid (GBox W w.heap.size A m c r) := by rw [hW]; exact (h.box.keep (br_.alloc nr_ _)).keep (br_.alloc nr_ _)
 have HS : Hid (CL W (w.heap.size + 1) 0 (.int .i64 (s : Int))) := by rw [hW]; constructor; simp [go_sem]
 have HV : Hid (CL W (w.heap.size + 2) 0 (.int .i64 (v : Int))) := by rw [hW]; constructor; simp [go_sem]
 have HW := hh_ hW;clear hW h;go_enter Tryz.func254, Tryz.ntmps254;have e2 := HS.c;have e3 := HV.c;go_wp2_with fail
 rw [← HW.out];refine (ListOf_v s hs128 W).mono ?_;rintro e w1 ⟨AL, cL, rfl, hOL, hb1⟩;clear HW;clear e2 e3;replace HB := hh_ (HB.keep hb1);replace HG := hh_ (HG.keep hb1);replace HS := hh_ (HS.keep hb1);replace HV := hh_ (HV.keep hb1);clear hb1;have e2 := HS.c;have e3 := HV.c;have HLI := hh_ hOL.ln.li;have hL7 : (listN s).length ≤ 7 := listN_len s;have HG0 := HG;have HS0 := HS;have HV0 := HV;have KC := hh_ (ContainsFunc_g (p := fun z => tpB r s v z.toNat) (caps := #[.pointer (some ⟨w.heap.size + 2, 0, none⟩), .pointer (some ⟨w.heap.size, 0, none⟩), .pointer (some ⟨w.heap.size + 1, 0, none⟩)]) (ent_of Tryz.func347 (by kernel_rfl) rfl) w1 HLI.out (by omega) (fun z Z hz hZ => by
  rw [List.mem_map] at hz;obtain ⟨u, hu, rfl⟩ := hz;rw [Int.toNat_natCast];exact twinF (HG0.keep hZ) (HS0.keep hZ).c (HV0.keep hZ).c hs hv (bit_lt hs (mem_listN.1 hu).2) (mem_listN.1 hu).2))
 have HY : Hid ((((listN s).map fun w : Nat => (w : Int)).any (fun w => tpB r s v w.toNat)) = tkB r s v m) := tk_any hs hn7;obtain ⟨b, hb⟩ : ∃ b, b = (((listN s).map fun w : Nat => (w : Int)).any (fun w => tpB r s v w.toNat)) := ⟨_, rfl⟩;rw [← hb] at KC HY;obtain ⟨N, hN⟩ : ∃ N, N = (listN s).length := ⟨_, rfl⟩;rw [← hN] at KC ⊢;clear hb hOL hN HLI hL7;go_wp2_with fail
 refine (KC.out).mono ?_;rintro e w2 ⟨rfl, hb2⟩;clear e2 e3;replace HB := hh_ (HB.keep hb2);replace HG := hh_ (HG.keep hb2);replace HS := hh_ (HS.keep hb2);replace HV := hh_ (HV.keep hb2);clear hb2;have e2 := HS.c;have e3 := HV.c;go_wp2;go_ret;exact ⟨ret_bool HY.out, HB.below⟩
noncomputable def twP (m : Nat) (r : Nat → Nat) (left v : Nat) : Bool := tkB r left v m
noncomputable def twF (m : Nat) (r : Nat → Nat) (left : Nat) : Option Nat := if cn left ≤ 1 then (listN left).head? else fsF (twP m r) left
section
variable {m left v : Nat} {r : Nat → Nat}
theorem twF_many (h : ¬ cn left ≤ 1) : twF m r left = fsF (twP m r) left := by unfold twF; rw [if_neg h]
theorem twF_bit (h0 : ¬ cn left ≤ 1) (h : twF m r left = some v) : v < 7 ∧ left.testBit v = true := fsF_bit (by rw [← twF_many h0]; exact h)
theorem twF_place (h0 : ¬ cn left ≤ 1) (h : twF m r left = some v) : ∃ k, ∃ hk : k < (listN left).length, (listN left)[k] = v ∧ tkB r left v m = true ∧ ∀ j (hj : j < k), tkB r left ((listN left)[j]'(by omega)) m = false := fsF_place (p := twP m r) (by rw [← twF_many h0]; exact h)
theorem twF_none' (h0 : ¬ cn left ≤ 1) (h : twF m r left = none) : ∀ j (hj : j < (listN left).length), tkB r left (listN left)[j] m = false := fsF_none' (p := twP m r) (by rw [← twF_many h0]; exact h)
theorem twF_least (h0 : ¬ cn left ≤ 1) (hv : v < 7) (hb : left.testBit v = true) (hy : tkB r left v m = true) (hmin : ∀ u, u < v → left.testBit u = true → tkB r left u m = false) : twF m r left = some v := by rw [twF_many h0]; exact fsF_least (p := twP m r) hv hb hy hmin
theorem twF_no (h0 : ¬ cn left ≤ 1) (h : ∀ u, u < 7 → left.testBit u = true → tkB r left u m = false) : twF m r left = none := by rw [twF_many h0]; exact fsF_no (p := twP m r) h
theorem cn_many (h : ¬ cn left ≤ 1) : left ≠ 0 := by
 rintro rfl;exact h (by rw [cn_zero]; omega)
theorem tw_last (h : cn left ≤ 1) (hl : left < 128) : redL (twF m r) left = some (listN left) := by
 by_cases h0 : left = 0
 ·subst h0; rw [redL_zero]; rfl
 unfold cn at h;cases hL : listN left with
 | nil =>
   exfalso;apply h0;apply Nat.eq_of_testBit_eq;intro u;rw [Nat.zero_testBit];cases hb : left.testBit u
   ·rfl
   ·have : u ∈ listN left := mem_listN.2 ⟨bit_lt (show left < 2 ^ 7 from hl) hb, hb⟩;rw [hL] at this;cases this
 | cons v t =>
   have ht : t = [] := by
    cases t with
    | nil => rfl
    | cons a b => rw [hL] at h; simp at h
   subst ht;have hv : v ∈ listN left := by rw [hL]; simp
   have hb := mem_listN.1 hv;have hF : twF m r left = some v := by unfold twF; rw [if_pos (by unfold cn; exact h), hL]; rfl
   have hx : left ^^^ 2 ^ v = 0 := by
    apply Nat.eq_of_testBit_eq;intro u;rw [Nat.zero_testBit, Nat.testBit_xor, Nat.testBit_two_pow];by_cases e : v = u
    ·subst e; simp [hb.2]
    ·cases hb2 : left.testBit u
     ·simp [e]
     ·have : u ∈ listN left := mem_listN.2 ⟨bit_lt (show left < 2 ^ 7 from hl) hb2, hb2⟩;rw [hL] at this;simp at this;exact absurd this.symm e
   rw [redL_some hb.2 hF, hx, redL_zero]; rfl
theorem tw_end {f : Option (List Nat)} {T : List Nat} (h : cn left ≤ 1) (hl : left < 128) (e : f = (redL (twF m r) left).map (T ++ ·)) : f = some (T ++ listN left) := by rw [e, tw_last h hl]; rfl
theorem thenI_ni {T L : List Nat} {k j : Nat} (h : k = T.length) : thenI k (ni T) (fun j => ((L.getD j 0 : Nat) : Int)) j = ni (T ++ L) j := by
 subst h;unfold thenI ni;by_cases e : j < T.length
 ·rw [if_pos e]; simp [List.getD, List.getElem?_append_left e]
 ·rw [if_neg e]; simp [List.getD, List.getElem?_append_right (show T.length ≤ j by omega)]
end
set_option maxHeartbeats 1000000
def slO (r : Nat → Nat) (m : Nat) : Option Nat := lsK (splB r m) (2 ^ m)
section
variable {A : Option Addr} {m c : Nat} {r : Nat → Nat}
theorem SplitOf_v {w : World} (h : GV w A m c r) :
 Calls Tryz.prog 281 #[.agg #[.int .i64 m, .slice A m c]] w fun e w' => e = .returned (lsV (slO r m)) ∧ Below w.heap.size w w' := by
 obtain ⟨W, hW, HB, HG⟩ := gbW h;have HW := hh_ hW;clear hW h;obtain ⟨e0, e1⟩ := gx_ HG;go_enter Tryz.func281, Tryz.ntmps281;go_wp2_with fail
 rw [← HW.out];refine (least_g (p := splB r m) (caps := #[]) (ent_of Tryz.func255 (by kernel_rfl) rfl) W HG.gv (fun s z hs hb => IsSplitPartition_v (HG.gv.keep hb) hs)).mono ?_;rintro e w1 ⟨rfl, hb1⟩;clear HW;clear e0 e1;obtain ⟨HB, HG, e0, e1⟩ := kG_ HB HG hb1;clear hb1;have HS : Hid (slO r m = lsK (splB r m) (2 ^ m)) := rfl;rw [← HS.out];cases hso : slO r m with
 | none =>
   have Hn := hh_ hso;clear hso;rw [lsV_none];go_wp2;go_ret2;exact ⟨by rw [Hn.out]; rfl, HB.below⟩
 | some k =>
   have Hn := hh_ hso;clear hso;rw [lsV_some];go_wp2;go_ret2;exact ⟨by rw [Hn.out]; rfl, HB.below⟩
end
section
variable (sz : Int) (A : Option Addr) (m c : Nat) (x : Nat → Int) (w : World)
theorem SplitOf_no (h : GA w A m c x) (hm : m ≤ 1048576) (hok : okB sz m x = false) :
 Calls Tryz.prog 281 #[.agg #[.int .i64 sz, .slice A m c]] w fun e w' => e = .returned (lsV none) ∧ Below w.heap.size w w' := by
 obtain ⟨W, hW, HB, HK, HC⟩ := gaW sz h;have HW := hh_ hW;have KF := hh_ (least_no (f := .func (.func 255) #[] #[]) HK hm hok);clear hW h hok;go_enter Tryz.func281, Tryz.ntmps281;obtain ⟨e0, e1⟩ := gc_ HC;go_wp2_with fail
 rw [← HW.out];refine (KF.out).mono ?_;rintro e w1 ⟨rfl, hb1⟩;clear HW;clear e0 e1;obtain ⟨HB, HK, HC, e0, e1⟩ := kC_ HB HK HC hb1;clear hb1;clear KF;rw [lsV_none];go_wp2;go_ret2;exact ⟨rfl, HB.below⟩
end
section
variable {r : Nat → Nat} {m v k : Nat} {l : List Int} {lim : Int}
end
theorem within_b {n lo hi : Int} (w : World) {b : Bool} (h : decide (lo ≤ n ∧ n ≤ hi) = b) : Calls Tryz.prog 193 #[.int .i64 n, .int .i64 lo, .int .i64 hi] w fun e w' => e = .returned (.bool b) ∧ Below w.heap.size w w' :=
 (within_any n lo hi w).mono fun _ _ ⟨h1, h2⟩ => ⟨by rw [h1, ← h]; simp, h2 ▸ br_⟩
set_option maxHeartbeats 3200000
theorem edge_b {A : Option Addr} {m c : Nat} {r : Nat → Nat} {W : World} (h : GV W A m c r) {v u : Nat} (hv : v < m) (hu : u < m) {b : Bool} (hb : (r v).testBit u = b) : ∀ z : World, Below W.heap.size W z → Calls Tryz.prog 85 #[.agg #[.int .i64 m, .slice A m c], .int .i64 v, .int .i64 u] z fun e w' => e = .returned (.bool b) ∧ Below z.heap.size z w' := fun z hz => by
 have := l2Edge_v (h.keep hz) hv hu
 rwa [hb] at this
set_option maxRecDepth 100000 in
theorem l12Umbrella_v {A : Option Addr} {m c : Nat} {r : Nat → Nat} {Al : Option Addr} {cl : Nat} {l : List Nat} {w : World} (h : GV w A m c r) (hl : LN w Al cl l) (hlt : ∀ v ∈ l, v < m) (hlen : l.length ≤ 7) :
 Calls Tryz.prog 338 #[.agg #[.int .i64 m, .slice A m c], .slice Al l.length cl] w fun e w' => e = .returned (.bool (umB r l)) ∧ Below w.heap.size w w' := by
 have hn7 := h.vg.n7;have HL := hh_ hl;have Hlt := hh_ hlt;have HV := hh_ h.vg;clear hl hlt;obtain ⟨W, hW, HB, HG⟩ := gbW h;have HW := hh_ hW;clear hW h;obtain ⟨e0, e1⟩ := gx_ HG;replace HL := hh_ (HL.keep HB.below);have HR0 : Hid (From W W) := From.refl W;go_enter Tryz.func338, Tryz.ntmps338;go_wp2_with fail
 rw [← HW.out];clear HW e0 e1;go_wp2;go_loopw [5] (fun i wr => ∃ k : Nat, k ≤ l.length ∧ i = .int .i64 k ∧ Hid (Um1 r l k) ∧ Hid (From W wr)) (fun i _ => l.length - (intOf i).toNat);case atStart => exact ⟨0, Nat.zero_le _, rfl, Um1.zero, HR0⟩
 case round =>
  clear HR0;obtain ⟨i, hi, rfl, H1, HR⟩ := hrel;by_cases hil : i < l.length
  ·have i1 : (i : Int) < l.length := by omega
   have s1 : wrap64 ((i : Int) + 2) = ((i + 2 : Nat) : Int) := by rw [Go.IntWalk.wrap64_in _ (by omega)]; simp
   go_wp2;go_loopw [6] (fun j wr => ∃ k : Nat, i + 2 ≤ k ∧ k ≤ l.length + 1 ∧ j = .int .i64 k ∧ Hid (Um2 r l i k) ∧ Hid (From W wr)) (fun j _ => l.length + 1 - (intOf j).toNat);case atStart => exact ⟨i + 2, nr_, by omega, by first | rfl | exact congrArg (Value.int .i64) s1 | simp, Um2.zero, HR⟩
   case round =>
    clear HR s1;obtain ⟨k, hk2, hk, rfl, H2, HR⟩ := hrel;by_cases hkl : k < l.length
    ·have i2 : (k : Int) < l.length := by omega
     have s1 : wrap64 ((i : Int) + 1) = ((i + 1 : Nat) : Int) := by rw [Go.IntWalk.wrap64_in _ (by omega)]; simp
     go_wp2;go_loopw [7] (fun j wr => ∃ t : Nat, i + 1 ≤ t ∧ t ≤ k ∧ j = .int .i64 t ∧ Hid (Um3 r l i k t) ∧ Hid (From W wr)) (fun j _ => k - (intOf j).toNat);case atStart => exact ⟨i + 1, nr_, by omega, by first | rfl | exact congrArg (Value.int .i64) s1 | simp, Um3.zero, HR⟩
     case round =>
      clear HR s1;obtain ⟨j, hij, hjk, rfl, H3, HR⟩ := hrel;by_cases hlt : j < k
      ·have i4 : (j : Int) < k := by omega
       have i5 : (j : Int) < l.length := by omega
       have HGr := hh_ (HG.keep HR.below);have HLr := hh_ (HL.keep HR.below);obtain ⟨bl, ol, rfl⟩ := HLr.addr (by omega);have e0 := HGr.c0;have e1 := HGr.c1;have p0 := HLr.cell hil;have p1 := HLr.cell hkl;have hjl : j < l.length := by omega
       have p2 := HLr.cell hjl;have hu := getD_lt Hlt.out hil;have hv := getD_lt Hlt.out hkl;have hy := getD_lt Hlt.out hjl;have Hub : Hid (Ub r l i k j ↔ ((r (l.getD i 0)).testBit (l.getD k 0) = true → (r (l.getD i 0)).testBit (l.getD j 0) = true ∧ (r (l.getD j 0)).testBit (l.getD k 0) = true)) := by
        show _ ↔ _;unfold Ub;rw [HV.sym _ _ hy hv]
       obtain ⟨u, hu'⟩ : ∃ u, u = l.getD i 0 := ⟨_, rfl⟩;obtain ⟨v, hv'⟩ : ∃ v, v = l.getD k 0 := ⟨_, rfl⟩;obtain ⟨y, hy'⟩ : ∃ y, y = l.getD j 0 := ⟨_, rfl⟩;rw [← hu', ← hv', ← hy'] at Hub;rw [← hu'] at p0 hu;rw [← hv'] at p1 hv;rw [← hy'] at p2 hy;have HBr := hh_ (HB.up HR.out);have HG0 := HGr;clear hu' hv' hy';cases b1 : (r u).testBit v
       ·have K1 := hh_ (edge_b HG0.gv hu hv b1);have H3' : Hid (Um3 r l i k (j + 1)) := H3.step (Hub.out.2 fun hb => by rw [b1] at hb; cases hb);clear b1;go_wp2;obtain ⟨HSC, HZ0, HS1⟩ := hsc5 e0 e1 p0 p1 p2;have KR1 : Hid (∀ z : World, Below wr.heap.size wr z → _) := fun z hz => K1.out _ hz
        refine wpH HS1.out (fun hHeld => ?_);refine pcY 0 ?_;iterate 8 (refine ptY ?_)
        refine w1H 9 (fun K hK => ?_);go_simp;go_at_call 85; refine (KR1.out _ HZ0.out).mono ?_
        rintro e w1 ⟨rfl, hb1⟩;have hz1 := bl_trans HZ0.out hb1;refine hK.out _ _ (HSC.out _ hz1) (fun hHeld => ?_);clear hK K;try simp only [Act.put, sl0, sl1, sl2]
        refine ptY ?_;iterate 24 (refine ptN ?_)
        refine ptY ?_;refine wpAnyH_done (by kernel_rfl) ?_ _;replace HR := hh_ (HR.keep hz1);replace HBr := hh_ (HBr.keep hz1);clear hb1 hz1 HSC HZ0 HS1 KR1;go_wp2;go_roundw;case rel => exact ⟨j + 1, by omega, by omega, by go_num, H3', HR⟩
        case measure => (simp [intOf] <;> omega)
       ·have K1 := hh_ (edge_b HG0.gv hu hv b1);have B1 := hh_ b1;clear b1;cases b2 : (r u).testBit y
        ·have K2 := hh_ (edge_b HG0.gv hu hy b2);have Hn : Hid (umB r l = false) := um_bad (i := i) (k := k) (j := j) (by omega) hlt hkl fun hb => by
          have := (Hub.out.1 hb B1.out).1;rw [b2] at this; cases this
         clear b2;go_wp2;obtain ⟨HSC, HZ0, HS1⟩ := hsc5 e0 e1 p0 p1 p2;have KR1 : Hid (∀ z : World, Below wr.heap.size wr z → _) := fun z hz => K1.out _ hz
         have KR2 : Hid (∀ z : World, Below wr.heap.size wr z → _) := fun z hz => K2.out _ hz
         refine wpH HS1.out (fun hHeld => ?_);refine pcY 0 ?_;iterate 8 (refine ptY ?_)
         refine w1H 9 (fun K hK => ?_);go_simp;go_at_call 85; refine (KR1.out _ HZ0.out).mono ?_
         rintro e w2 ⟨rfl, hb2⟩;have hz2 := bl_trans HZ0.out hb2;refine hK.out _ _ (HSC.out _ hz2) (fun hHeld => ?_);clear hK K;try simp only [Act.put, sl0, sl1, sl2]
         iterate 10 (refine ptY ?_)
         refine w1H 20 (fun K hK => ?_);go_simp;go_at_call 85; refine (KR2.out _ hz2).mono ?_
         rintro e w3 ⟨rfl, hb3⟩;have hz3 := bl_trans hz2 hb3;refine hK.out _ _ (HSC.out _ hz3) (fun hHeld => ?_);clear hK K;try simp only [Act.put, sl0, sl1, sl2]
         iterate 2 (refine ptY ?_)
         iterate 11 (refine ptN ?_)
         iterate 2 (refine ptY ?_)
         refine wpAnyH_done (by kernel_rfl) ?_ _;replace HR := hh_ (HR.keep hz3);replace HBr := hh_ (HBr.keep hz3);clear hb2 hz2 hb3 hz3 HSC HZ0 HS1 KR1 KR2;go_wp2;go_ret;exact ⟨ret_bool Hn.symm, HBr.below⟩
        ·have K2 := hh_ (edge_b HG0.gv hu hy b2);have B2 := hh_ b2;clear b2;cases b3 : (r y).testBit v
         ·have K3 := hh_ (edge_b HG0.gv hy hv b3);have Hn : Hid (umB r l = false) := um_bad (i := i) (k := k) (j := j) (by omega) hlt hkl fun hb => by
           have := (Hub.out.1 hb B1.out).2;rw [b3] at this; cases this
          clear b3;go_wp2;obtain ⟨HSC, HZ0, HS1⟩ := hsc5 e0 e1 p0 p1 p2;have KR1 : Hid (∀ z : World, Below wr.heap.size wr z → _) := fun z hz => K1.out _ hz
          have KR2 : Hid (∀ z : World, Below wr.heap.size wr z → _) := fun z hz => K2.out _ hz
          have KR3 : Hid (∀ z : World, Below wr.heap.size wr z → _) := fun z hz => K3.out _ hz
          refine wpH HS1.out (fun hHeld => ?_);refine pcY 0 ?_;iterate 8 (refine ptY ?_)
          refine w1H 9 (fun K hK => ?_);go_simp;go_at_call 85; refine (KR1.out _ HZ0.out).mono ?_
          rintro e w4 ⟨rfl, hb4⟩;have hz4 := bl_trans HZ0.out hb4;refine hK.out _ _ (HSC.out _ hz4) (fun hHeld => ?_);clear hK K;try simp only [Act.put, sl0, sl1, sl2]
          iterate 10 (refine ptY ?_)
          refine w1H 20 (fun K hK => ?_);go_simp;go_at_call 85; refine (KR2.out _ hz4).mono ?_
          rintro e w5 ⟨rfl, hb5⟩;have hz5 := bl_trans hz4 hb5;refine hK.out _ _ (HSC.out _ hz5) (fun hHeld => ?_);clear hK K;try simp only [Act.put, sl0, sl1, sl2]
          iterate 11 (refine ptY ?_)
          refine w1H 32 (fun K hK => ?_);go_simp;go_at_call 85; refine (KR3.out _ hz5).mono ?_
          rintro e w6 ⟨rfl, hb6⟩;have hz6 := bl_trans hz5 hb6;refine hK.out _ _ (HSC.out _ hz6) (fun hHeld => ?_);clear hK K;try simp only [Act.put, sl0, sl1, sl2]
          iterate 3 (refine ptY ?_)
          refine wpAnyH_done (by kernel_rfl) ?_ _;replace HR := hh_ (HR.keep hz6);replace HBr := hh_ (HBr.keep hz6);clear hb4 hz4 hb5 hz5 hb6 hz6 HSC HZ0 HS1 KR1 KR2 KR3;go_wp2;go_ret;exact ⟨ret_bool Hn.symm, HBr.below⟩
         ·have K3 := hh_ (edge_b HG0.gv hy hv b3);have H3' : Hid (Um3 r l i k (j + 1)) := H3.step (Hub.out.2 fun _ => ⟨B2.out, b3⟩);clear b3;go_wp2;obtain ⟨HSC, HZ0, HS1⟩ := hsc5 e0 e1 p0 p1 p2;have KR1 : Hid (∀ z : World, Below wr.heap.size wr z → _) := fun z hz => K1.out _ hz
          have KR2 : Hid (∀ z : World, Below wr.heap.size wr z → _) := fun z hz => K2.out _ hz
          have KR3 : Hid (∀ z : World, Below wr.heap.size wr z → _) := fun z hz => K3.out _ hz
          refine wpH HS1.out (fun hHeld => ?_);refine pcY 0 ?_;iterate 8 (refine ptY ?_)
          refine w1H 9 (fun K hK => ?_);go_simp;go_at_call 85; refine (KR1.out _ HZ0.out).mono ?_
          rintro e w7 ⟨rfl, hb7⟩;have hz7 := bl_trans HZ0.out hb7;refine hK.out _ _ (HSC.out _ hz7) (fun hHeld => ?_);clear hK K;try simp only [Act.put, sl0, sl1, sl2]
          iterate 10 (refine ptY ?_)
          refine w1H 20 (fun K hK => ?_);go_simp;go_at_call 85; refine (KR2.out _ hz7).mono ?_
          rintro e w8 ⟨rfl, hb8⟩;have hz8 := bl_trans hz7 hb8;refine hK.out _ _ (HSC.out _ hz8) (fun hHeld => ?_);clear hK K;try simp only [Act.put, sl0, sl1, sl2]
          iterate 11 (refine ptY ?_)
          refine w1H 32 (fun K hK => ?_);go_simp;go_at_call 85; refine (KR3.out _ hz8).mono ?_
          rintro e w9 ⟨rfl, hb9⟩;have hz9 := bl_trans hz8 hb9;refine hK.out _ _ (HSC.out _ hz9) (fun hHeld => ?_);clear hK K;try simp only [Act.put, sl0, sl1, sl2]
          iterate 3 (refine ptY ?_)
          refine wpAnyH_done (by kernel_rfl) ?_ _;replace HR := hh_ (HR.keep hz9);replace HBr := hh_ (HBr.keep hz9);clear hb7 hz7 hb8 hz8 hb9 hz9 HSC HZ0 HS1 KR1 KR2 KR3;go_wp2;go_roundw;case rel => exact ⟨j + 1, by omega, by omega, by go_num, H3', HR⟩
          case measure => (simp [intOf] <;> omega)
      ·have H2' : Hid (Um2 r l i (k + 1)) := H2.step fun j' h1 h2 => H3.out j' h1 (by omega)
       have i4 : (k : Int) ≤ j := by omega
       go_wp2;go_roundw;case rel => exact ⟨k + 1, by omega, by omega, by go_num, H2', HR⟩
       case measure => (simp [intOf] <;> omega)
    ·have H1' : Hid (Um1 r l (i + 1)) := H1.step H2.out (by omega);have i2 : (l.length : Int) ≤ (k : Int) := by omega
     go_wp2;go_roundw;case rel => exact ⟨i + 1, by omega, by go_num, H1', HR⟩
     case measure => (simp [intOf] <;> omega)
  ·have Hy : Hid (umB r l = true) := um_yes (H1.all (by omega));have HBr := hh_ (HB.up HR.out);have i1 : (l.length : Int) ≤ (i : Int) := by omega
   go_wp2;go_ret;exact ⟨ret_bool Hy.symm, HBr.below⟩
end Go.Proofs.YtdpkbfiggbcclaaGreat
