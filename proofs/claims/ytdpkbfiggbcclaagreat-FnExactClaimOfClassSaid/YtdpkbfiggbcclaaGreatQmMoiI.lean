/-
-/
import Derived.Test.YtdpkbfiggbcclaaGreatQmMooP
import Derived.Test.YtdpkbfiggbcclaaGreatQmUmbS
namespace Go.Proofs.YtdpkbfiggbcclaaGreat
open Go.RowKit
set_option maxHeartbeats 6400000
theorem has_bm {s v : Nat} (w : World) (hs : s < 128) (hv : v < 64) : Calls Tryz.prog 90 #[.int .i64 (s : Int), .int .i64 (v : Int)] w fun e w' => e = .returned (.bool (s.testBit v)) ∧ Below w.heap.size w w' :=
 (has_v w hs hv).mono fun _ _ ⟨h1, h2⟩ => ⟨h1, h2 ▸ br_⟩
set_option maxRecDepth 100000 in
theorem mo1F {n q s : Nat} {w : World} (hn : n ≤ 7) (hs : s < 2 ^ n) (e0 : w.cell? ⟨q, 0, none⟩ = some (.int .i64 n)) :
 Calls Tryz.prog 390 #[.int .i64 (s : Int), .pointer (some ⟨q, 0, none⟩)] w fun e w' => e = .returned (.bool false) ∧ Below w.heap.size w w' := by
 have h1 := two_pow_int n hn;have h2 := pow_shl n hn;have h3 : ((2 ^ n : Nat) : Int) = 2 ^ n := by simp
 have h4 : IntKind.i64.wrap ((2 : Int) ^ n - 1) = 2 ^ n - 1 := Go.IntWalk.i64_in _ (by omega);have KW : Hid (decide ((0 : Int) ≤ s ∧ (s : Int) ≤ 2 ^ n - 1) = true) := by show _ = _; exact decide_eq_true (by omega)
 have HF : Hid (From w w) := From.refl w;clear h3;go_enter Tryz.func390, Tryz.ntmps390;go_wp2_with fail
 refine (within_b (n := (s : Int)) (lo := 0) (hi := 2 ^ n - 1) w KW.out).mono ?_;rintro e w1 ⟨rfl, hb1⟩;replace HF := hh_ (HF.keep hb1);clear hb1;go_wp2;go_ret;exact ⟨rfl, HF.below⟩
set_option maxRecDepth 100000 in
theorem mo2F {v q s : Nat} {w : World} (hv : v < 64) (hs : s < 128) (e0 : w.cell? ⟨q, 0, none⟩ = some (.int .i64 v)) :
 Calls Tryz.prog 391 #[.int .i64 (s : Int), .pointer (some ⟨q, 0, none⟩)] w fun e w' => e = .returned (.bool (s.testBit v)) ∧ Below w.heap.size w w' := by
 have HF : Hid (From w w) := From.refl w;go_enter Tryz.func391, Tryz.ntmps391;go_wp2_with fail
 refine (has_bm (s := s) (v := v) w hs hv).mono ?_;rintro e w1 ⟨rfl, hb1⟩;replace HF := hh_ (HF.keep hb1);clear hb1;go_wp2;go_ret;exact ⟨rfl, HF.below⟩
section
variable {A : Option Addr} {c n : Nat} {l : List Nat} {w : World}
set_option maxRecDepth 100000 in
theorem ModelOfOrder_i (hl : LN w A c l) (hlt : ∀ s ∈ l, s < 2 ^ n) (hn1 : 1 ≤ n) (hn7 : n ≤ 7) (hlen : l.length ≤ 1048576) :
 Calls Tryz.prog 355 #[.slice A l.length c, .int .i64 n] w (ivQ w (mdV l n)) := by
 obtain ⟨W, hW⟩ : ∃ W, W = ((w.alloc (Obj.cells #[.int .i64 n] 3)).alloc (Obj.cells #[.slice none 0 0, .slice none 0 0] 141)) := ⟨_, rfl⟩;have HB : Hid (From w W) := by rw [hW]; exact (From.alloc _ _).alloc_ _
 have HL := hh_ (hl.keep HB.below);have HN : Hid (CL W w.heap.size 0 (.int .i64 n)) := by rw [hW]; constructor; simp [go_sem]
 have HD : Hid (MB W (w.heap.size + 1) none 0 0 none 0 0) := by
  rw [hW];have := MB.new (w.alloc (Obj.cells #[.int .i64 n] 3));have e : (w.alloc (Obj.cells #[.int .i64 n] 3)).heap.size = w.heap.size + 1 := by simp
  rw [e] at this;exact this
 have HW := hh_ hW;have HT := hh_ hlt;have KN : Hid (decide ((1 : Int) ≤ n ∧ (n : Int) ≤ 7) = true) := by show _ = _; exact decide_eq_true (by omega)
 clear hW hl hlt;by_cases hk : 1 ≤ l.length ∧ l.length ≤ 20
 rotate_left
 ·have Hn : Hid (mdV l n = none) := mdV_no (mdF_len hk);have KW : Hid (decide ((1 : Int) ≤ l.length ∧ (l.length : Int) ≤ 20) = false) := by show _ = _; exact decide_eq_false (by omega)
  clear hk;go_enter Tryz.func355, Tryz.ntmps355;have d0 := HD.c0;have d1 := HD.c1;have d2 := HD.f0;have d3 := HD.f1;have e0 := HN.c;go_wp2_with fail
  rw [← HW.out];refine (within_b (n := (n : Int)) (lo := 1) (hi := 7) W KN.out).mono ?_;rintro e w1 ⟨rfl, hb1⟩;clear HW;clear d0 d1 d2 d3 e0;replace HB := hh_ (HB.keep hb1);replace HD := hh_ (HD.keep hb1);replace HN := hh_ (HN.keep hb1);clear hb1;have d0 := HD.c0;have d1 := HD.c1;have d2 := HD.f0;have d3 := HD.f1;have e0 := HN.c;go_wp2_with fail
  refine (within_b (n := (l.length : Int)) (lo := 1) (hi := 20) _ KW.out).mono ?_;rintro e w2 ⟨rfl, hb2⟩;clear d0 d1 d2 d3 e0;replace HB := hh_ (HB.keep hb2);replace HD := hh_ (HD.keep hb2);replace HN := hh_ (HN.keep hb2);clear hb2;have d0 := HD.c0;have d1 := HD.c1;have d2 := HD.f0;have d3 := HD.f1;have e0 := HN.c;go_wp2;have HE := (HB.set (q := w.heap.size + 1) (by omega) (.slice none 0 0) (.slice none 0 0)).below;exact bodyPost_ret (v := .tuple #[.agg #[.slice none 0 0, .slice none 0 0], .bool false]) (by simp [results, Tryz.results355, go_sem, *]) rfl (by rw [Hn.out]; exact ivQ.no HE)
 obtain ⟨hk1, hk2⟩ := hk;have KW : Hid (decide ((1 : Int) ≤ l.length ∧ (l.length : Int) ≤ 20) = true) := by show _ = _; exact decide_eq_true (by omega)
 have hmz : Hid (∀ s ∈ l, s < 128) := fun s hs => Nat.lt_of_lt_of_le (HT.out s hs) (two_pow_le hn7)
 have hli : Hid (∀ v ∈ (l.map fun s : Nat => (s : Int)), ∃ s : Nat, v = (s : Int) ∧ s ∈ l) := fun v hv => by
  obtain ⟨s, hs, rfl⟩ := List.mem_map.1 hv;exact ⟨s, rfl, hs⟩
 go_enter Tryz.func355, Tryz.ntmps355;have e0 := HN.c;go_wp2_with fail
 rw [← HW.out];refine (within_b (n := (n : Int)) (lo := 1) (hi := 7) W KN.out).mono ?_;rintro e w3 ⟨rfl, hb3⟩;clear HW;clear e0;replace HB := hh_ (HB.keep hb3);replace HL := hh_ (HL.keep hb3);replace HD := hh_ (HD.keep hb3);replace HN := hh_ (HN.keep hb3);clear hb3;have e0 := HN.c;go_wp2_with fail
 refine (within_b (n := (l.length : Int)) (lo := 1) (hi := 20) _ KW.out).mono ?_;rintro e w4 ⟨rfl, hb4⟩;clear e0;replace HB := hh_ (HB.keep hb4);replace HL := hh_ (HL.keep hb4);replace HD := hh_ (HD.keep hb4);replace HN := hh_ (HN.keep hb4);clear hb4;have e0 := HN.c;clear KN KW;have HN1 := HN;have KC := hh_ (ContainsFunc_g (p := fun _ => false) (caps := #[.pointer (some ⟨w.heap.size, 0, none⟩)]) (ent_of Tryz.func390 (by kernel_rfl) rfl) w4 HL.li hlen (fun v z hv hz => by
  obtain ⟨s, rfl, hs⟩ := hli.out v hv;exact mo1F hn7 (HT.out s hs) (HN1.keep hz).c))
 have hany : ((l.map fun s : Nat => (s : Int)).any fun _ => false) = false := by simp
 rw [hany] at KC;clear hany HN1;go_wp2_with fail
 refine (KC.out).mono ?_;rintro e w5 ⟨rfl, hb5⟩;clear e0;replace HB := hh_ (HB.keep hb5);replace HL := hh_ (HL.keep hb5);replace HD := hh_ (HD.keep hb5);replace HN := hh_ (HN.keep hb5);clear hb5;have e0 := HN.c;clear KC;obtain ⟨W3, hW3⟩ : ∃ W3, W3 = (w5.alloc (Obj.cells #[.slice none 0 0, .slice none 0 0] 141)) := ⟨_, rfl⟩;have HB3 : Hid (Below w5.heap.size w5 W3) := by rw [hW3]; exact br_.alloc nr_ _
 have HM3 : Hid (MB W3 w5.heap.size none 0 0 none 0 0) := by rw [hW3]; exact MB.new _
 have hq3 : w.heap.size + 1 < w5.heap.size := HD.lt;have HWx := hh_ hW3;clear hW3;have hq4 : w.heap.size < w5.heap.size := by omega
 go_wp2_with fail
 rw [← HWx.out];clear HWx;go_loopw [28] (fun i wr => ∃ (k : Nat) (T U : List Nat) (A1 : Option Addr) (k1 : Nat) (A2 : Option Addr) (k2 : Nat), k ≤ n ∧ i = .int .i64 k ∧ Hid (T = mdL l k) ∧ Hid (U = mdR l k) ∧ Hid (TwoN wr (w5.heap.size + 1) A1 k1 T A2 k2 U) ∧ Hid (MB wr w5.heap.size A1 T.length k1 A2 U.length k2) ∧ Hid (Below w5.heap.size w5 wr) ∧ Hid (∀ v, v < k → ∃ f, fpO l v = some f)) (fun i _ => n - (intOf i).toNat);case atStart => exact ⟨0, [], [], none, 0, none, 0, Nat.zero_le _, rfl, rfl, rfl, TwoN.nil _ _, HM3, HB3, (fun v hv => absurd hv (by omega))⟩
 case round =>
  obtain ⟨k, T, U, A1, k1, A2, k2, hkn, rfl, HTe, HUe, HTr, HMr, HBr, HFr⟩ := hrel;obtain ⟨wo, rfl⟩ : ∃ wo, wo = wr := ⟨_, rfl⟩;have hqr : w5.heap.size < wo.heap.size := HMr.lt;by_cases hlt : k < n
  ·have i1 : (k : Int) < n := by omega
   obtain ⟨W5, hW5⟩ : ∃ W5, W5 = (wo.alloc (Obj.cells #[.int .i64 k] 3)) := ⟨_, rfl⟩;have HB5 : Hid (Below wo.heap.size wo W5) := by rw [hW5]; exact br_.alloc nr_ _
   have HV5 : Hid (CL W5 wo.heap.size 0 (.int .i64 k)) := by rw [hW5]; constructor; simp [go_sem]
   have HL5 : Hid (LN W5 A c l) := (HL.keep HBr.out).keep HB5;have KI := hh_ (IndexFunc_g (p := fun z => z.toNat.testBit k) (caps := #[.pointer (some ⟨wo.heap.size, 0, none⟩)]) (ent_of Tryz.func391 (by kernel_rfl) rfl) W5 HL5.li hlen (fun v z hv hz => by
    obtain ⟨s, rfl, hs⟩ := hli.out v hv;exact mo2F (by omega) (hmz.out s hs) (HV5.keep hz).c))
   rw [fpO_idxZ] at KI;have HWy := hh_ hW5;clear hW5;cases ho : fpO l k with
   | none =>
     have Hn : Hid (mdV l n = none) := mdV_no (by rw [mdF_is hk1 hk2]; exact mdB_no hlt ho);rw [ho] at KI;clear ho;go_wp2_with fail
     rw [← HWy.out];clear HWy;refine KI.mono ?_;rintro e v6 ⟨rfl, hb6⟩;have HBx : Hid (Below w5.heap.size w5 v6) := HBr.trans ((bl_trans HB5 hb6).mono (Nat.le_of_lt hqr));have hdx := HD.keepB HBx.out hq3;have d0 := hdx.c0;have d1 := hdx.c1;have d2 := hdx.f0;have d3 := hdx.f1;clear KI hb6 hdx HV5 HL5;go_wp2;have HE := ((HB.keep HBx.out).set (q := w.heap.size + 1) (by omega) (.slice none 0 0) (.slice none 0 0)).below;exact bodyPost_ret (v := .tuple #[.agg #[.slice none 0 0, .slice none 0 0], .bool false]) (by simp [results, Tryz.results355, go_sem, *]) rfl (by rw [Hn.out]; exact ivQ.no HE)
   | some f =>
     obtain ⟨hf1, hf2, hf3⟩ := fpO_some ho;have HF2 : Hid (∀ v, v < k + 1 → ∃ f, fpO l v = some f) := fun v hv => by
      by_cases e : v < k
      ·exact HFr.out v e
      ·obtain rfl : v = k := by omega
       exact ⟨f, ho⟩
     have HTf := hh_ (mdL_succ ho);have Hend := hh_ (lmK_end ho);have Hat := hh_ (lmK_at hf3);rw [ho] at KI;clear ho hf2 hf3;have i2 : (0 : Int) ≤ f := by omega
     go_wp2_with fail
     rw [← HWy.out];clear HWy;refine KI.mono ?_;rintro e v6 ⟨rfl, hb6⟩;have HBx : Hid (Below wo.heap.size wo v6) := bl_trans HB5 hb6;have HVx := hh_ (HV5.keep hb6);have HLx := hh_ (HL5.keep hb6);clear KI hb6 HV5 HL5 HB5;go_wp2;go_loopw [9, 10] (fun la iv wz => ∃ i : Nat, f ≤ i ∧ i ≤ l.length ∧ iv = .int .i64 i ∧ la = .int .i64 (lmK l k f i) ∧ Hid (From v6 wz)) (fun _ iv _ => l.length - (intOf iv).toNat);case atStart => exact ⟨f, nr_, Nat.le_of_lt hf1, rfl, by rw [Hat.out], From.refl _⟩
     case round =>
      obtain ⟨i, hfi, hil, rfl, rfl, HBz⟩ := hrel;by_cases hik : i < l.length
      ·have i3 : (i : Int) < l.length := by omega
       have HLz := hh_ (HLx.keep HBz.below);have HVz := hh_ (HVx.keep HBz.below);obtain ⟨b, o, rfl⟩ := HLz.addr (by omega);have p0 := HLz.at hik;obtain ⟨s, hs⟩ : ∃ s, s = l[i] := ⟨_, rfl⟩;have hs128 : s < 128 := by rw [hs]; exact hmz.out _ (List.getElem_mem _)
       have hsd : l.getD i 0 = s := by rw [hs]; simp [List.getD, hik]
       rw [← hs] at p0;have v0 := HVz.c;cases hb : s.testBit k
       ·have Hs : Hid (lmK l k f (i + 1) = lmK l k f i) := lmK_no (by rw [hsd]; exact hb);have KH : Hid (∀ z : World, Calls Tryz.prog 90 #[.int .i64 (s : Int), .int .i64 (k : Int)] z fun e w' => e = .returned (.bool false) ∧ Below z.heap.size z w') := fun z => by rw [← hb]; exact has_bm z hs128 (by omega)
        clear hs hsd hb;obtain ⟨HSC, HZ0, HS1⟩ := hsc2 p0 v0;have KR1 : Hid (∀ z : World, Below wr.heap.size wr z → _) := fun z hz => KH.out z
        go_wp2;go_region_held3 (fun z => Below wr.heap.size wr z ∧ z.cell? ⟨b, o + i, none⟩ = some (.int .i64 s) ∧ z.cell? ⟨wo.heap.size, 0, none⟩ = some (.int .i64 k))
         (first | exact HS1.out | assumption | exact HSC.out _ hz6 | fail)
         (first | (go_at_call 90; ((with_reducible refine (KR1.out _ HZ0.out).mono ?_); rintro e w6 ⟨rfl, hb6⟩; have hz6 := bl_trans HZ0.out hb6)))
        replace HBz := hh_ (HBz.keep hz6);clear hb6 hz6 HSC HZ0 HS1 KR1;go_wp2;go_roundw;case rel => exact ⟨i + 1, by omega, by omega, by go_num, by rw [Hs.out], HBz⟩
        case measure => (simp [intOf] <;> omega)
       ·have Hs : Hid (lmK l k f (i + 1) = (i : Int)) := lmK_yes hfi (by rw [hsd]; exact hb);have KH : Hid (∀ z : World, Calls Tryz.prog 90 #[.int .i64 (s : Int), .int .i64 (k : Int)] z fun e w' => e = .returned (.bool true) ∧ Below z.heap.size z w') := fun z => by rw [← hb]; exact has_bm z hs128 (by omega)
        clear hs hsd hb;obtain ⟨HSC, HZ0, HS1⟩ := hsc2 p0 v0;have KR1 : Hid (∀ z : World, Below wr.heap.size wr z → _) := fun z hz => KH.out z
        go_wp2;go_region_held3 (fun z => Below wr.heap.size wr z ∧ z.cell? ⟨b, o + i, none⟩ = some (.int .i64 s) ∧ z.cell? ⟨wo.heap.size, 0, none⟩ = some (.int .i64 k))
         (first | exact HS1.out | assumption | exact HSC.out _ hz7 | fail)
         (first | (go_at_call 90; ((with_reducible refine (KR1.out _ HZ0.out).mono ?_); rintro e w7 ⟨rfl, hb7⟩; have hz7 := bl_trans HZ0.out hb7)))
        replace HBz := hh_ (HBz.keep hz7);clear hb7 hz7 HSC HZ0 HS1 KR1;go_wp2;go_roundw;case rel => exact ⟨i + 1, by omega, by omega, by go_num, by rw [Hs.out], HBz⟩
        case measure => (simp [intOf] <;> omega)
      ·obtain rfl : i = l.length := by omega
       obtain ⟨z, hz⟩ : ∃ z, z = (lmK l k f l.length).toNat := ⟨_, rfl⟩;obtain ⟨hz1, hz2⟩ := Hend.out;rw [← hz] at hz1 hz2;have HUf := hh_ (mdR_succ hz1);rw [hz2];have i4 : (l.length : Int) ≤ (l.length : Int) := Int.le_refl _;have hTl : T.length ≤ 7 := by rw [HTe.out, mdL_len]; omega
       have hUl : U.length ≤ 7 := by rw [HUe.out, mdR_len]; omega
       have HBr2 : Hid (Below wo.heap.size wo wr) := bl_trans HBx.out HBz.below;have hTz := HTr.keep HBr2.out;have hMz := HMr.keep HBr2.out;have hqz : w5.heap.size < wr.heap.size := hMz.lt;have c0 := hMz.c0;have c1 := hMz.c1;have TT := hh_ hTz;have T1 : Hid (TwoN ((wr.alloc (Obj.cells #[.int .i64 (f : Int)] 3)).drew) (w5.heap.size + 1) A1 k1 T A2 k2 U) := (hTz.alloc _).drew;have T2 : Hid (TwoN (((wr.alloc (Obj.cells #[.int .i64 (f : Int)] 3)).alloc (Obj.cells #[.int .i64 (z : Int)] 3)).drew) (w5.heap.size + 1) A1 k1 T A2 k2 U) := ((hTz.alloc _).alloc _).drew;have T3 : Hid (TwoN (((wr.alloc (Obj.cells #[.int .i64 (z : Int)] 3)).alloc (Obj.cells #[.int .i64 (f : Int)] 3)).drew) (w5.heap.size + 1) A1 k1 T A2 k2 U) := ((hTz.alloc _).alloc _).drew;have M1 : Hid (MB ((wr.alloc (Obj.cells #[.int .i64 (f : Int)] 3)).drew) w5.heap.size A1 T.length k1 A2 U.length k2) := (hMz.keep (br_.alloc nr_ _)).drew
       have M2 : Hid (MB (((wr.alloc (Obj.cells #[.int .i64 (f : Int)] 3)).alloc (Obj.cells #[.int .i64 (z : Int)] 3)).drew) w5.heap.size A1 T.length k1 A2 U.length k2) := (hMz.keep ((br_.alloc nr_ _).alloc (by simp) _)).drew;have M3 : Hid (MB (((wr.alloc (Obj.cells #[.int .i64 (z : Int)] 3)).alloc (Obj.cells #[.int .i64 (f : Int)] 3)).drew) w5.heap.size A1 T.length k1 A2 U.length k2) := (hMz.keep ((br_.alloc nr_ _).alloc (by simp) _)).drew;have P1 : Hid (((wr.alloc (Obj.cells #[.int .i64 (f : Int)] 3)).drew).heap[wr.heap.size]? = some (.cells #[.int .i64 (f : Int)] 3 (0, 0)) ∧ w5.heap.size + 1 ≤ ((wr.alloc (Obj.cells #[.int .i64 (f : Int)] 3)).drew).heap.size) := ⟨heap_alloc_new wr _, by show _ ≤ (wr.alloc _).heap.size; simp; omega⟩;have P2 : Hid ((((wr.alloc (Obj.cells #[.int .i64 (f : Int)] 3)).alloc (Obj.cells #[.int .i64 (z : Int)] 3)).drew).heap[wr.heap.size]? = some (.cells #[.int .i64 (f : Int)] 3 (0, 0)) ∧ w5.heap.size + 1 ≤ (((wr.alloc (Obj.cells #[.int .i64 (f : Int)] 3)).alloc (Obj.cells #[.int .i64 (z : Int)] 3)).drew).heap.size) := ⟨(Below.heap_alloc (wr.alloc (Obj.cells #[.int .i64 (f : Int)] 3)) _ _ (by simp)).trans (heap_alloc_new wr _), by show _ ≤ ((wr.alloc _).alloc _).heap.size; simp; omega⟩
       have P3 : Hid ((((wr.alloc (Obj.cells #[.int .i64 (z : Int)] 3)).alloc (Obj.cells #[.int .i64 (f : Int)] 3)).drew).heap[wr.heap.size + 1]? = some (.cells #[.int .i64 (f : Int)] 3 (0, 0)) ∧ w5.heap.size + 1 ≤ (((wr.alloc (Obj.cells #[.int .i64 (z : Int)] 3)).alloc (Obj.cells #[.int .i64 (f : Int)] 3)).drew).heap.size) := by
        have hn := heap_alloc_new (wr.alloc (Obj.cells #[.int .i64 (z : Int)] 3)) (Obj.cells #[.int .i64 (f : Int)] 3);have he : (wr.alloc (Obj.cells #[.int .i64 (z : Int)] 3)).heap.size = wr.heap.size + 1 := by simp
        rw [he] at hn;exact ⟨hn, by show _ ≤ ((wr.alloc _).alloc _).heap.size; simp; omega⟩
       have Q2 : Hid ((((wr.alloc (Obj.cells #[.int .i64 (f : Int)] 3)).alloc (Obj.cells #[.int .i64 (z : Int)] 3)).drew).heap[wr.heap.size + 1]? = some (.cells #[.int .i64 (z : Int)] 3 (0, 0)) ∧ wr.heap.size + 1 < (((wr.alloc (Obj.cells #[.int .i64 (f : Int)] 3)).alloc (Obj.cells #[.int .i64 (z : Int)] 3)).drew).heap.size) := by
        have hn := heap_alloc_new (wr.alloc (Obj.cells #[.int .i64 (f : Int)] 3)) (Obj.cells #[.int .i64 (z : Int)] 3);have he : (wr.alloc (Obj.cells #[.int .i64 (f : Int)] 3)).heap.size = wr.heap.size + 1 := by simp
        rw [he] at hn;exact ⟨hn, by show _ < ((wr.alloc _).alloc _).heap.size; simp⟩
       have Q3 : Hid ((((wr.alloc (Obj.cells #[.int .i64 (z : Int)] 3)).alloc (Obj.cells #[.int .i64 (f : Int)] 3)).drew).heap[wr.heap.size]? = some (.cells #[.int .i64 (z : Int)] 3 (0, 0)) ∧ wr.heap.size < (((wr.alloc (Obj.cells #[.int .i64 (z : Int)] 3)).alloc (Obj.cells #[.int .i64 (f : Int)] 3)).drew).heap.size) := ⟨(Below.heap_alloc (wr.alloc (Obj.cells #[.int .i64 (z : Int)] 3)) _ _ (by simp)).trans (heap_alloc_new wr _), by show _ < ((wr.alloc _).alloc _).heap.size; simp; omega⟩;have n6 : T.length ≤ 1073741824 := by omega
       have n7 : U.length ≤ 1073741824 := by omega
       clear hTz hMz hz hz1 hz2;go_wp2;go_region_law
        (first
          | ((refine step_twoN _ (by rfl) _ _ (by rfl) T1.out P1.out.2 (by rfl) wr.heap.size 1 f (by rfl) P1.out.1 n6 ?_; intro gA kA wA hTA hbA hgA; have hMA := M1.keepB hbA (Nat.lt_succ_self _); have mA0 := hMA.c0; have mA1 := hMA.c1; have nA := hMA.lt))
          | ((refine step_twoN _ (by rfl) _ _ (by rfl) T2.out P2.out.2 (by rfl) wr.heap.size 1 f (by rfl) P2.out.1 n6 ?_; intro gA kA wA hTA hbA hgA; have hMA := M2.keepB hbA (Nat.lt_succ_self _); have mA0 := hMA.c0; have mA1 := hMA.c1; have nA := hMA.lt; have hPA := (TT.other hgA (Nat.le_succ _) Q2.out.2).trans Q2.out.1))
          | ((refine step_twoN _ (by rfl) _ _ (by rfl) T3.out P3.out.2 (by rfl) (wr.heap.size + 1) 1 f (by rfl) P3.out.1 n6 ?_; intro gA kA wA hTA hbA hgA; have hMA := M3.keepB hbA (Nat.lt_succ_self _); have mA0 := hMA.c0; have mA1 := hMA.c1; have nA := hMA.lt; have hPA := (TT.other hgA nr_ Q3.out.2).trans Q3.out.1))
          | ((refine step_twoN _ (by rfl) _ _ (by rfl) ((hTA.alloc _).swap) (by simp; omega) (by rfl) wA.heap.size 1 z (by rfl) (heap_alloc_new wA _) n7 ?_; intro gB kB wB hTB hbB hgB; have hbC := (hbA.alloc (Nat.succ_le_of_lt nA) _).trans hbB; have hMB := (hMA.keep (br_.alloc nr_ _)).keepB hbB (Nat.lt_succ_self _); have m0 := hMB.c0; have m1 := hMB.c1; have m2 := hMB.f0; have m3 := hMB.f1))
          | ((refine step_twoN _ (by rfl) _ _ (by rfl) hTA.swap (by omega) (by rfl) (wr.heap.size + 1) 1 z (by rfl) hPA n7 ?_; intro gB kB wB hTB hbB hgB; have hbC := hbA.trans hbB; have hMB := hMA.keepB hbB (Nat.lt_succ_self _); have m0 := hMB.c0; have m1 := hMB.c1; have m2 := hMB.f0; have m3 := hMB.f1))
          | ((refine step_twoN _ (by rfl) _ _ (by rfl) hTA.swap (by omega) (by rfl) wr.heap.size 1 z (by rfl) hPA n7 ?_; intro gB kB wB hTB hbB hgB; have hbC := hbA.trans hbB; have hMB := hMA.keepB hbB (Nat.lt_succ_self _); have m0 := hMB.c0; have m1 := hMB.c1; have m2 := hMB.f0; have m3 := hMB.f1))
          | fail)
       all_goals
        obtain ⟨W9, hW9⟩ : ∃ W9, W9 = ((wB.setCell ⟨w5.heap.size, 0, none⟩ (.slice (some ⟨gA, 0, none⟩) (T.length + 1) kA)).setCell ⟨w5.heap.size, 1, none⟩ (.slice (some ⟨gB, 0, none⟩) (U.length + 1) kB)) := ⟨_, rfl⟩;rw [← hW9];have hla : (T ++ [f]).length = T.length + 1 := by rw [List.length_append]; rfl
        have hlb : (U ++ [z]).length = U.length + 1 := by rw [List.length_append]; rfl
        have HM9 : Hid (MB W9 w5.heap.size (some ⟨gA, 0, none⟩) (T ++ [f]).length kA (some ⟨gB, 0, none⟩) (U ++ [z]).length kB) := by rw [hW9, hla, hlb]; exact hMB.set
        have HF9 : Hid (Fr w5.heap.size (w5.heap.size + 1) wB W9) := by rw [hW9]; exact fr2 _ _ _ _
        have HT9 : Hid (TwoN W9 (w5.heap.size + 1) (some ⟨gA, 0, none⟩) kA (T ++ [f]) (some ⟨gB, 0, none⟩) kB (U ++ [z])) := hTB.swap.keepF HF9.out nr_;have HB9 : Hid (Below w5.heap.size w5 W9) := by
         have h1 : Below w5.heap.size w5 wr := HBr.trans (HBr2.mono (Nat.le_of_lt hqr));have h2 : Below w5.heap.size wr wB := by
          first
           | exact (((br_.alloc (Nat.le_of_lt hqz) _)).drew).trans (hbC.mono (Nat.le_succ _))
           | exact ((((br_.alloc (Nat.le_of_lt hqz) _)).alloc (by simp; omega) _).drew).trans (hbC.mono (Nat.le_succ _))
         exact (h1.trans h2).trans (HF9.below nr_ (by have := hMB.lt; omega))
        have HTn : Hid (T ++ [f] = mdL l (k + 1)) := by show _ = _; rw [HTf.out, HTe.out]
        have HUn : Hid (U ++ [z] = mdR l (k + 1)) := by show _ = _; rw [HUf.out, HUe.out]
        clear hW9 hla hlb hTA hbA hgA hTB hbB hgB hbC hMA hMB m0 m1 m2 m3 mA0 mA1 nA c0 c1 T1 T2 T3 M1 M2 M3 P1 P2 P3 Q2 Q3 TT;try clear hPA
        go_wp2;go_roundw;case rel => exact ⟨k + 1, T ++ [f], U ++ [z], _, _, _, _, by omega, by go_num, HTn, HUn, HT9, HM9, HB9, HF2⟩
        case measure => (simp [intOf] <;> omega)
  ·obtain rfl : n = k := by omega
   have Hy : Hid (mdV l n = some (mdL l n, mdR l n)) := mdV_yes (by rw [mdF_is hk1 hk2]; exact mdB_yes HFr.out);have i1 : (n : Int) ≤ n := Int.le_refl _;have c0 := HMr.c0;have c1 := HMr.c1;have hdx := HD.keepB HBr.out hq3;have d0 := hdx.c0;have d1 := hdx.c1;have d2 := hdx.f0;have d3 := hdx.f1;clear hdx;go_wp2;have F := fr2 wo (w.heap.size + 1) (.slice A1 T.length k1) (.slice A2 U.length k2);have O1 := (HTr.keepF F (by omega)).mono (show w.heap.size ≤ w5.heap.size + 1 by omega);have HE := ((HB.keep HBr.out).set (q := w.heap.size + 1) (by omega) (.slice A1 T.length k1) (.slice A2 U.length k2)).below;exact bodyPost_ret (v := .tuple #[.agg #[.slice A1 T.length k1, .slice A2 U.length k2], .bool true]) (by simp [results, Tryz.results355, go_sem, *]) rfl (by rw [Hy.out, ← HTe.out, ← HUe.out]; exact ivQ.yes O1 HE)
end
end Go.Proofs.YtdpkbfiggbcclaaGreat
