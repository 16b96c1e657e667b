/-
  Several texts in one.
-/
import Derived.Test.YtfabbohijhjpcaaGreatDoorRcGB
import Derived.Test.YtfabbohijhjpcaaGreatDoorRcOriP
import Derived.Test.YtfabbohijhjpcaaGreatDoorRcArcM
import Derived.Test.YtfabbohijhjpcaaGreatDoorRcFillP
/-
-/
namespace Go.Proofs.YtfabbohijhjpcaaGreatDoor
open Go.RowKit
def sl (n : Nat) (x : Nat → Int) (m : Nat) (y : Nat → Int) : Bool := decide (n = m ∧ ∀ i, i < n → x i = y i)
theorem sl_len {n m : Nat} {x y : Nat → Int} (h : n ≠ m) : sl n x m y = false := by
 unfold sl; exact decide_eq_false fun k => h k.1
theorem sl_no {n : Nat} {x y : Nat → Int} {k : Nat} (hk : k < n) (h : x k ≠ y k) : sl n x n y = false := by
 unfold sl; exact decide_eq_false fun q => h (q.2 k hk)
theorem sl_yes {n : Nat} {x y : Nat → Int} (h : ∀ i, i < n → x i = y i) : sl n x n y = true := by
 unfold sl; exact decide_eq_true ⟨rfl, h⟩
set_option maxHeartbeats 1000000 in
theorem Equal_any (A1 A2 : Option Addr) (n1 n2 c1 c2 : Nat) (x1 x2 : Nat → Int) (w : World) (B : Nat) (h1 : Rd w B A1 n1 c1 x1) (h2 : Rd w B A2 n2 c2 x2) (hB : B ≤ w.heap.size) (hn1 : n1 ≤ 1073741824) (hn2 : n2 ≤ 1073741824) :
 Calls Tryz.prog 299 #[.slice A1 n1 c1, .slice A2 n2 c2] w fun e w' => e = .returned (.bool (sl n1 x1 n2 x2)) ∧ Below w.heap.size w w' := by
 by_cases hne : n1 = n2
 rotate_left
 ·have e := Lib.hid (sl_len (x := x1) (y := x2) hne)
  have hne' : (n1 : Int) ≠ (n2 : Int) := by omega
  go_enter Tryz.func299, Tryz.ntmps299
  go_wp2
  go_ret
  exact ⟨ret_bool e.out.symm, Below.refl _ _⟩
 subst hne
 have H1 := Lib.hid h1
 have H2 := Lib.hid h2
 clear h1 h2
 go_enter Tryz.func299, Tryz.ntmps299
 go_wp2
 go_loopw [13] (fun i wr => ∃ k : Nat, k ≤ n1 ∧ i = .int .i64 k ∧ Hid (∀ j, j < k → x1 j = x2 j) ∧ Below w.heap.size w wr) (fun i _ => n1 - (intOf i).toNat)
 case atStart => exact ⟨0, Nat.zero_le _, rfl, (fun j hj => absurd hj (by omega)), Below.refl _ _⟩
 case round =>
  obtain ⟨k, hk, rfl, hall, hbr⟩ := hrel
  by_cases hlt : k < n1
  ·obtain ⟨b1, o1, rfl, l1, c1'⟩ := H1.out.pos (by omega)
   obtain ⟨b2, o2, rfl, l2, c2'⟩ := H2.out.pos (by omega)
   have f1 := (hbr.cell (p := ⟨b1, o1 + k, none⟩) (by show b1 < _; omega)).trans (c1' k hlt)
   have f2 := (hbr.cell (p := ⟨b2, o2 + k, none⟩) (by show b2 < _; omega)).trans (c2' k hlt)
   have hi : (k : Int) < (n1 : Int) := by omega
   clear c1' c2'
   by_cases hq : x1 k = x2 k
   ·have HB := Lib.hid hbr
    have Hq := Lib.hid hq
    rw [← hq] at f2
    clear hbr hq
    go_wp2
    go_quiet (fail)
    go_wp2
    go_roundw
    case rel =>
     refine ⟨k + 1, by omega, by go_num, fun j hj => ?_, below_drewN HB.out _⟩
     by_cases hjk : j < k
     ·exact hall.out j hjk
     ·obtain rfl : j = k := by omega
      exact Hq.out
    case measure => simp [intOf]; omega
   ·have HB := Lib.hid hbr
    have e := Lib.hid (sl_no hlt hq)
    clear hbr
    go_wp2
    go_quiet (fail)
    go_wp2
    go_ret
    exact ⟨ret_bool e.out.symm, below_drewN HB.out _⟩
  ·have hge : (n1 : Int) ≤ (k : Int) := by omega
   have HB := Lib.hid hbr
   have e := Lib.hid (sl_yes (n := n1) (x := x1) (y := x2) fun j hj => hall.out j (by omega))
   clear hbr
   go_wp2
   go_ret
   exact ⟨ret_bool e.out.symm, HB.out⟩
end Go.Proofs.YtfabbohijhjpcaaGreatDoor

/-
-/
namespace Go.Proofs.YtfabbohijhjpcaaGreatDoor
def bfP (t : Nat → Nat) (v : Nat) (k : Nat) : Nat := ((List.range k).filter fun u => (t u).testBit v).length
def osK (t : Nat → Nat) (m : Nat) : Nat → Nat → Nat
 | 0 => fun _ => 0
 | k + 1 => fun j => if j = bfP t k m then k else osK t m k j
def tnK (t : Nat → Nat) (j : Nat) : Nat → Nat
 | 0 => 0
 | k + 1 => if (t k).testBit j = true then tnK t j k ||| 2 ^ k else tnK t j k
def pmA (t1 t2 : Nat → Nat) (v : Nat) : Nat := t2 v ||| t1 v
def pmB (t1 t2 : Nat → Nat) (m v : Nat) : Nat := t2 v ||| tnK t1 v m
section
variable {t t1 t2 r r1 r2 : Nat → Nat} {m v u j k : Nat}
theorem bfP_yes (h : (t k).testBit v = true) : bfP t v (k + 1) = bfP t v k + 1 := by unfold bfP; rw [List.range_succ, List.filter_append]; simp [h]
theorem bfP_no (h : (t k).testBit v = false) : bfP t v (k + 1) = bfP t v k := by unfold bfP; rw [List.range_succ, List.filter_append]; simp [h]
theorem bfP_le : bfP t v k ≤ k := by
 unfold bfP
 have := List.length_filter_le (fun u => (t u).testBit v) (List.range k)
 rwa [List.length_range] at this
theorem bfP_lt (h : (t v).testBit v = false) (hv : v < k) : bfP t v k < k := by
 unfold bfP
 have h1 := filter_less (P := fun u => (t u).testBit v) (Q := fun _ => true) (l := List.range k) (fun _ _ _ => rfl) ⟨v, List.mem_range.2 hv, rfl, h⟩
 have h2 : (List.range k).filter (fun _ => true) = List.range k := List.filter_eq_self.2 (fun _ _ => rfl)
 rwa [h2, List.length_range] at h1
theorem tnK_bit : ∀ k, (tnK t j k).testBit u = (decide (u < k) && (t u).testBit j)
 | 0 => by show (0 : Nat).testBit u = _; simp
 | k + 1 => by
   have ih := tnK_bit k
   show (if (t k).testBit j = true then tnK t j k ||| 2 ^ k else tnK t j k).testBit u = _
   by_cases hku : k = u
   ·subst hku
    have h1 : decide (k < k) = false := decide_eq_false (by omega)
    have h2 : decide (k < k + 1) = true := decide_eq_true (by omega)
    rw [h2, Bool.true_and]
    split
    ·rename_i hb; rw [Nat.testBit_or, Nat.testBit_two_pow_self, hb]; simp
    ·rename_i hb; rw [ih, h1]; simp only [Bool.false_and]; simpa using hb
   ·have h1 : decide (u < k + 1) = decide (u < k) := by
     by_cases h : u < k
     ·rw [decide_eq_true h, decide_eq_true (by omega)]
     ·rw [decide_eq_false h, decide_eq_false (by omega)]
    rw [h1]
    split
    ·rw [Nat.testBit_or, Nat.testBit_two_pow, decide_eq_false hku, Bool.or_false]; exact ih
    ·exact ih
theorem pmA_bit : (pmA t1 t2 v).testBit u = ((t2 v).testBit u || (t1 v).testBit u) := by unfold pmA; rw [Nat.testBit_or]
theorem pmB_bit (hu : u < m) : (pmB t1 t2 m v).testBit u = ((t2 v).testBit u || (t1 u).testBit v) := by
 unfold pmB; rw [Nat.testBit_or, tnK_bit, decide_eq_true hu, Bool.true_and]
theorem tIn.irr (h : tIn m r t) (vg : VG m r) (hv : v < m) : (t v).testBit v = false := by
 cases hb : (t v).testBit v
 ·rfl
 ·have := (h v hv v hb).2
  rw [vg.irr v hv] at this; cases this
theorem pmA_irr (h1 : (t1 v).testBit v = false) (h2 : (t2 v).testBit v = false) : (pmA t1 t2 v).testBit v = false := by rw [pmA_bit, h1, h2]; rfl
theorem pmB_irr (hv : v < m) (h1 : (t1 v).testBit v = false) (h2 : (t2 v).testBit v = false) : (pmB t1 t2 m v).testBit v = false := by rw [pmB_bit hv, h1, h2]; rfl
theorem tnK_lt (hm : k ≤ m) : tnK t j k < 2 ^ m := by
 refine Nat.lt_pow_two_of_testBit _ fun i hi => ?_
 rw [tnK_bit, decide_eq_false (by omega)]; rfl
theorem pmA_lt (h1 : t1 v < 2 ^ m) (h2 : t2 v < 2 ^ m) : pmA t1 t2 v < 2 ^ m := Nat.or_lt_two_pow h2 h1
theorem pmB_lt (h2 : t2 v < 2 ^ m) : pmB t1 t2 m v < 2 ^ m := Nat.or_lt_two_pow h2 (tnK_lt (Nat.le_refl _))
end
end Go.Proofs.YtfabbohijhjpcaaGreatDoor

/-
-/
namespace Go.Proofs.YtfabbohijhjpcaaGreatDoor
open Go.RowKit
def ixL (L : List (Nat × Nat)) (p : Nat × Nat) : Int := fIdx (fun j => decide (L.getD j (0, 0) = p)) L.length
section
variable {L : List (Nat × Nat)} {p : Nat × Nat}
theorem ixL_in (h : L.contains p = true) : ∃ k : Nat, ixL L p = (k : Int) := by
 unfold ixL fIdx
 cases hf : (List.range L.length).find? (fun j => decide (L.getD j (0, 0) = p)) with
 | some k => exact ⟨k, rfl⟩
 | none =>
   exfalso
   rw [List.find?_eq_none] at hf
   obtain ⟨i, hi, e⟩ := List.mem_iff_getElem.1 (by simpa using h : p ∈ L)
   have := hf i (List.mem_range.2 hi)
   simp [List.getD, hi, e] at this
theorem ixL_out (h : L.contains p = false) : ixL L p = -1 := by
 refine fIdx_no fun j hj => ?_
 have hn : ¬ p ∈ L := by simpa using h
 have : L[j] ≠ p := fun e => hn (e ▸ List.getElem_mem hj)
 simpa [List.getD, hj] using this
theorem ixL_neg : decide (ixL L p < 0) = !L.contains p := by
 cases h : L.contains p
 ·rw [ixL_out h]; rfl
 ·obtain ⟨k, hk⟩ := ixL_in h
  rw [hk, decide_eq_false (by omega)]; rfl
end
section
variable {fn : FuncId} {caps : Array Value} {P : Nat × Nat → Bool}
set_option maxHeartbeats 1600000 in
theorem IndexFunc_a (hef : Ent fn) {lo hi : Nat} {A : Option Addr} {c : Nat} {L : List (Nat × Nat)} (w : World) (h : OC lo hi w A c L) (hn : L.length ≤ 1048576)
 (HF : ∀ (g cap : Nat) (q : Nat × Nat) (z : World), AC z g cap q → Below w.heap.size w z → Calls Tryz.prog fn (#[.slice (some ⟨g, 0, none⟩) 2 cap] ++ caps) z (fun e z' => e = .returned (.bool (P q)) ∧ Below z.heap.size z z')) :
 Calls Tryz.prog 297 #[.slice A L.length c, .func (.func fn) #[] caps] w fun e w' => e = .returned (.int .i64 (fIdx (fun j => P (L.getD j (0, 0))) L.length)) ∧ Below w.heap.size w w' := by
 unfold Ent at hef
 have HL := Lib.hid h
 have HF := Lib.hid HF
 obtain ⟨n, hnl⟩ : ∃ n, n = L.length := ⟨_, rfl⟩
 have HN := Lib.hid hnl
 rw [← hnl] at hn ⊢
 clear h hnl
 go_enter Tryz.func297, Tryz.ntmps297
 go_wp2
 go_loopw [8] (fun i wr => ∃ k : Nat, k ≤ n ∧ i = .int .i64 k ∧ Hid (∀ j, j < k → P (L.getD j (0, 0)) = false) ∧ Hid (Below w.heap.size w wr)) (fun i _ => n - (intOf i).toNat)
 case atStart => exact ⟨0, Nat.zero_le _, rfl, (fun j hj => absurd hj (by omega)), Below.refl _ _⟩
 case round =>
  obtain ⟨k, hk, rfl, hall, hbr⟩ := hrel
  have zr := hbr.out.size
  by_cases hlt : k < n
  ·have HLr := Lib.hid (HL.out.keep hbr.out)
   have hkL : k < L.length := by rw [← HN.out]; exact hlt
   obtain ⟨b, rfl⟩ := HLr.out.addr (by omega)
   obtain ⟨g, cap, q0, hg, hac⟩ := HLr.out.arc hkL
   have K1 := Lib.hid (HF.out g cap L[k] wr hac hbr.out)
   obtain ⟨v, hv⟩ : ∃ v, v = L[k] := ⟨_, rfl⟩
   have hv2 : v = L.getD k (0, 0) := by rw [hv]; simp [List.getD, hkL]
   rw [← hv] at K1
   have i1 : (k : Int) < (n : Int) := by omega
   cases hp : P v
   ·rw [hp] at K1
    have Hp : Hid (P (L.getD k (0, 0)) = false) := by rw [← hv2]; exact hp
    clear hp hv hv2 hac hkL hg
    go_wp2_with fail
    refine K1.out.mono ?_
    rintro e w3 ⟨rfl, hb3⟩
    have HB3 : Hid (Below w.heap.size w w3) := hbr.out.trans (hb3.mono zr)
    clear hb3 hbr q0
    go_wp2
    go_roundw
    case rel =>
     refine ⟨k + 1, by omega, by go_num, fun j hj => ?_, HB3⟩
     by_cases hjk : j < k
     ·exact hall.out j hjk
     ·obtain rfl : j = k := by omega
      exact Hp.out
    case measure => simp [intOf]; omega
   ·rw [hp] at K1
    have Hi : Hid (fIdx (fun j => P (L.getD j (0, 0))) n = k) := fIdx_yes hlt (by rw [← hv2]; exact hp) hall.out
    clear hp hv hv2 hac hkL hg
    go_wp2_with fail
    refine K1.out.mono ?_
    rintro e w3 ⟨rfl, hb3⟩
    have HB3 : Hid (Below w.heap.size w w3) := hbr.out.trans (hb3.mono zr)
    clear hb3 hbr q0
    go_wp2
    go_ret
    exact ⟨ret_int Hi.out.symm, HB3.out⟩
  ·have Hi : Hid (fIdx (fun j => P (L.getD j (0, 0))) n = -1) := fIdx_no fun j hj => hall.out j (by omega)
   have i1 : (n : Int) ≤ (k : Int) := by omega
   go_wp2
   go_ret
   exact ⟨ret_int Hi.out.symm, hbr.out⟩
end
section
variable {lo hi c : Nat} {A : Option Addr} {L : List (Nat × Nat)} {w : World}
theorem sl_arc (p q : Nat × Nat) : sl 2 (fun i => ([(q.1 : Int), (q.2 : Int)] : List Int).getD i 0) 2 (fun i => ([(p.1 : Int), (p.2 : Int)] : List Int).getD i 0) = decide (q = p) := by
 unfold sl
 refine decide_eq_decide.2 ⟨fun ⟨_, h⟩ => ?_, fun h => ⟨rfl, fun i _ => by rw [h]⟩⟩
 have h0 := h 0 (by omega)
 have h1 := h 1 (by omega)
 simp at h0 h1
 exact Prod.ext (by omega) (by omega)
set_option maxHeartbeats 1600000 in
theorem indexOf_1 {X g cap g2 cap2 : Nat} {p q : Nat × Nat} {z : World} (hX : z.cell? ⟨X, 0, none⟩ = some (.slice (some ⟨g, 0, none⟩) 2 cap)) (hp : AC z g cap p) (hq : AC z g2 cap2 q) :
 Calls Tryz.prog 298 #[.slice (some ⟨g2, 0, none⟩) 2 cap2, .pointer (some ⟨X, 0, none⟩)] z fun e w' => e = .returned (.bool (decide (q = p))) ∧ Below z.heap.size z w' := by
 have KE : Hid (Calls Tryz.prog 299 #[.slice (some ⟨g2, 0, none⟩) 2 cap2, .slice (some ⟨g, 0, none⟩) 2 cap] z _) := Equal_any (some ⟨g2, 0, none⟩) (some ⟨g, 0, none⟩) 2 2 cap2 cap (fun i => ([(q.1 : Int), (q.2 : Int)] : List Int).getD i 0) (fun i => ([(p.1 : Int), (p.2 : Int)] : List Int).getD i 0) z z.heap.size (hq.own.rd.keep (Below.refl _ _) hq.lt) (hp.own.rd.keep (Below.refl _ _) hp.lt) (Nat.le_refl _) (by omega) (by omega)
 rw [sl_arc] at KE
 clear hp hq
 go_enter Tryz.func298, Tryz.ntmps298
 go_wp2_with fail
 refine KE.out.mono ?_
 rintro e w1 ⟨rfl, hb⟩
 have HB := Lib.hid hb
 clear hb
 go_wp2
 go_ret
 exact ⟨rfl, HB.out⟩
set_option maxHeartbeats 1600000 in
theorem indexOf_v {g cap : Nat} {p : Nat × Nat} (h : OC lo hi w A c L) (hp : AC w g cap p) (hn : L.length ≤ 1048576) :
 Calls Tryz.prog 220 #[.slice A L.length c, .slice (some ⟨g, 0, none⟩) 2 cap] w fun e w' => e = .returned (.int .i64 (ixL L p)) ∧ Below w.heap.size w w' := by
 obtain ⟨W, hW⟩ : ∃ W : World, W = (w.alloc (Obj.cells #[Value.slice (some ⟨g, 0, none⟩) 2 cap] 24)) := ⟨_, rfl⟩
 have HB : Hid (From w W) := by rw [hW]; exact From.alloc _ _
 have e0 : W.cell? ⟨w.heap.size, 0, none⟩ = some (.slice (some ⟨g, 0, none⟩) 2 cap) := by rw [hW]; simp [go_sem]
 have HP := Lib.hid (hp.keep HB.out.below)
 have KI : Hid (Calls Tryz.prog 297 #[.slice A L.length c, .func (.func 298) #[] #[.pointer (some ⟨w.heap.size, 0, none⟩)]] W _) := IndexFunc_a (P := fun q => decide (q = p)) (ent_of Tryz.func298 (by kernel_rfl) rfl) W (h.keep HB.out.below) hn (fun g2 cap2 q z hq hb => indexOf_1 (up_ hb e0) (HP.out.keep hb) hq)
 have HW := Lib.hid hW
 clear hW h hp
 go_enter Tryz.func220, Tryz.ntmps220
 go_wp2_with fail
 rw [← HW.out]
 clear HW
 refine KI.out.mono ?_
 rintro e w1 ⟨rfl, hb⟩
 replace HB := Lib.hid (HB.out.keep hb)
 clear hb KI
 go_wp2
 go_ret
 exact ⟨rfl, HB.out.below⟩
set_option maxHeartbeats 1600000 in
theorem l13Find_v {a b : Nat} (h : OC lo hi w A c L) (hn : L.length ≤ 1048576) :
 Calls Tryz.prog 198 #[.slice A L.length c, .int .i64 (a : Int), .int .i64 (b : Int)] w fun e w' => e = .returned (.int .i64 (ixL L (a, b))) ∧ Below w.heap.size w w' := by
 have HL := Lib.hid h
 obtain ⟨n, hnl⟩ : ∃ n, n = L.length := ⟨_, rfl⟩
 have HN := Lib.hid hnl
 rw [← hnl] at hn ⊢
 clear h hnl
 go_enter Tryz.func198, Tryz.ntmps198
 go_wp2
 go_loopw [7] (fun i wr => ∃ k : Nat, k ≤ n ∧ i = .int .i64 k ∧ Hid (∀ j, j < k → decide (L.getD j (0, 0) = (a, b)) = false) ∧ Hid (Below w.heap.size w wr)) (fun i _ => n - (intOf i).toNat)
 case atStart => exact ⟨0, Nat.zero_le _, rfl, (fun j hj => absurd hj (by omega)), Below.refl _ _⟩
 case round =>
  obtain ⟨k, hk, rfl, hall, hbr⟩ := hrel
  by_cases hlt : k < n
  ·have HLr := Lib.hid (HL.out.keep hbr.out)
   have hkL : k < L.length := by rw [← HN.out]; exact hlt
   obtain ⟨b0, rfl⟩ := HLr.out.addr (by omega)
   obtain ⟨g, cap, q0, hg, hac⟩ := HLr.out.arc hkL
   have q1 := hac.c0
   have q2 := hac.c1
   have hcap := hac.le
   obtain ⟨v, hv⟩ : ∃ v, v = L[k] := ⟨_, rfl⟩
   have hv2 : v = L.getD k (0, 0) := by rw [hv]; simp [List.getD, hkL]
   rw [← hv] at q1 q2
   obtain ⟨v1, v2⟩ := v
   have i1 : (k : Int) < (n : Int) := by omega
   by_cases hp : (v1, v2) = (a, b)
   ·have Hi : Hid (ixL L (a, b) = k) := by
     show ixL L (a, b) = k
     unfold ixL
     rw [← HN.out]
     exact fIdx_yes hlt (by rw [← hv2]; exact decide_eq_true hp) hall.out
    obtain ⟨rfl, rfl⟩ := Prod.mk.inj hp
    clear hp hv hv2 hac hkL hg
    go_wp2
    go_ret
    exact ⟨ret_int Hi.out.symm, hbr.out⟩
   ·have Hp : Hid (decide (L.getD k (0, 0) = (a, b)) = false) := by rw [← hv2]; exact decide_eq_false hp
    by_cases h1 : v1 = a
    ·have h2 : v2 ≠ b := fun e => hp (by rw [h1, e])
     subst h1
     have j2 : ((v2 : Int) == (b : Int)) = false := by simp; omega
     clear hp hv hv2 hac hkL hg h2
     go_wp2
     go_roundw
     case rel =>
      refine ⟨k + 1, by omega, by go_num, fun j hj => ?_, hbr⟩
      by_cases hjk : j < k
      ·exact hall.out j hjk
      ·obtain rfl : j = k := by omega
       exact Hp.out
     case measure => simp [intOf]; omega
    ·have j1 : ((v1 : Int) == (a : Int)) = false := by simp; omega
     clear hp hv hv2 hac hkL hg h1
     go_wp2
     go_roundw
     case rel =>
      refine ⟨k + 1, by omega, by go_num, fun j hj => ?_, hbr⟩
      by_cases hjk : j < k
      ·exact hall.out j hjk
      ·obtain rfl : j = k := by omega
       exact Hp.out
     case measure => simp [intOf]; omega
  ·have Hi : Hid (ixL L (a, b) = -1) := by
    show ixL L (a, b) = -1
    unfold ixL
    rw [← HN.out]
    exact fIdx_no fun j hj => hall.out j (by omega)
   have i1 : (n : Int) ≤ (k : Int) := by omega
   go_wp2
   go_ret
   exact ⟨ret_int Hi.out.symm, hbr.out⟩
end
end Go.Proofs.YtfabbohijhjpcaaGreatDoor
