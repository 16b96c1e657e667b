/-
  Several texts in one.
-/
import Derived.Test.YtdpkbfiggbcclaaGreatQkElzI
/-
-/
namespace Go.Proofs.YtdpkbfiggbcclaaGreat
open Go.RowKit
theorem all_range {m : Nat} {l : List Int} {p : Int → Bool} (hV : VZ m l) (hlen : l.length = m) : l.all p = (List.range m).all fun v => p (v : Int) := by
 rw [Bool.eq_iff_iff, List.all_eq_true, List.all_eq_true]
 constructor
 ·intro h v hv
  rw [List.mem_range] at hv
  exact h _ (hV.all hlen (by omega) (by omega))
 ·intro h v hv
  obtain ⟨h0, h1⟩ := hV.2 v hv
  have := h v.toNat (List.mem_range.2 (by omega))
  rwa [Int.toNat_of_nonneg h0] at this
theorem all_snoc {m v : Nat} {p : Nat → Bool} (hv : v < m) (h : p v = false) : (List.range m).all p = false := by
 rw [List.all_eq_false]
 exact ⟨v, List.mem_range.2 hv, by rw [h]; simp⟩
theorem all_yes {m : Nat} {p : Nat → Bool} (h : ∀ v, v < m → p v = true) : (List.range m).all p = true := by
 rw [List.all_eq_true]
 exact fun v hv => h v (List.mem_range.1 hv)
set_option maxRecDepth 100000 in
set_option maxHeartbeats 1600000 in
theorem IsElimination_s (sz : Int) (A : Option Addr) (m c : Nat) (x : Nat → Int) (Al : Option Addr) (n cl : Nat) (l : List Int) (w : World) (h : GA w A m c x) (hl : LI w Al n cl l) (hm : m ≤ 1048576) (hn : n ≤ 1048576) :
 Calls Tryz.prog 230 #[.agg #[.int .i64 sz, .slice A m c], .slice Al n cl] w fun e w' => e = .returned (.bool (elB sz m x l)) ∧ Below w.heap.size w w' := by
 obtain ⟨W, hW⟩ : ∃ W : World, W = (w.alloc (Obj.cells #[Value.int IntKind.i64 sz, Value.slice A m c] 28)) := ⟨_, rfl⟩
 have HB : Hid (From w W) := by rw [hW]; exact From.alloc _ _
 have HK := Lib.hid (h.keep HB.out.below)
 have HL := Lib.hid (hl.keep HB.out.below)
 have HC : Hid (GC W w.heap.size sz A m c) := by rw [hW]; exact GC.new _ _ _ _ _
 have HW := Lib.hid hW
 clear hW h hl
 go_enter Tryz.func230, Tryz.ntmps230
 have e0 := HC.out.c0
 have e1 := HC.out.c1
 go_wp2_with fail
 rw [← HW.out]
 refine (IsOrder_sz sz A m c x Al n cl l W HK.out HL.out hm hn).mono ?_
 rintro e w1 ⟨rfl, hb1⟩
 clear HW
 clear e0 e1
 replace HB := Lib.hid (HB.out.keep hb1)
 replace HK := Lib.hid (HK.out.keep hb1)
 replace HL := Lib.hid (HL.out.keep hb1)
 replace HC := Lib.hid (HC.out.keep hb1)
 clear hb1
 have e0 := HC.out.c0
 have e1 := HC.out.c1
 cases ho : orB sz m x l
 ·have Hn : Hid (elB sz m x l = false) := elB_no ho
  clear ho
  go_wp2
  go_ret
  exact ⟨ret_bool Hn.out.symm, HB.out.below⟩
 obtain ⟨hok, hV, hlen⟩ := orB_parts ho
 obtain ⟨_, es, vg0, _⟩ := okB_ok' hok
 subst es
 have HG : Hid (GV w1 A m c (rw_ x)) := HK.out.gv hok
 have HV := Lib.hid hV
 have HN := Lib.hid hlen
 have hn7 := vg0.n7
 have Hy : Hid (elB (m : Int) m x l = (List.range m).all fun v => cliq (rw_ x) (ltN (rw_ x) l (v : Int))) := by show _ = _; rw [elB_yes ho, all_range hV hlen]
 have HR0 : Hid (From w1 w1) := From.refl w1
 clear ho hok hV hlen vg0
 go_wp2
 go_loopw [5] (fun i wr => ∃ v : Nat, v ≤ m ∧ i = .int .i64 v ∧ Hid (∀ u, u < v → cliq (rw_ x) (ltN (rw_ x) l (u : Int)) = true) ∧ Hid (From w1 wr)) (fun i _ => m - (intOf i).toNat)
 case atStart => exact ⟨0, Nat.zero_le _, rfl, (fun u hu => absurd hu (by omega)), HR0⟩
 case round =>
  clear HR0 e0 e1
  obtain ⟨v, hv, rfl, hall, HR⟩ := hrel
  have HBr := Lib.hid (HB.out.up HR.out)
  have HCr := Lib.hid (HC.out.keep HR.out.below)
  have HGr := Lib.hid (HG.out.keep HR.out.below)
  have HLr := Lib.hid (HL.out.keep HR.out.below)
  have e0 := HCr.out.c0
  have e1 := HCr.out.c1
  by_cases hvm : v < m
  ·have i1 : (v : Int) < (m : Int) := by omega
   have hmem : (v : Int) ∈ l := HV.out.all HN.out (by omega) (by omega)
   have KL : Hid (∀ z : World, Below wr.heap.size wr z → Calls Tryz.prog 336 #[.agg #[.int .i64 m, .slice A m c], .slice Al n cl, .int .i64 (v : Int)] z fun e w' => e = .returned (.int .i64 (ltN (rw_ x) l (v : Int) : Nat)) ∧ Below z.heap.size z w') := fun z hz => LaterNeighbours_sv (HGr.out.keep hz) (HLr.out.keep hz) HV.out HN.out hmem
   have hlt : ltN (rw_ x) l (v : Int) < 2 ^ m := ltN_lt HG.out.vg (by omega) (by omega)
   obtain ⟨t, ht⟩ : ∃ t, t = ltN (rw_ x) l (v : Int) := ⟨_, rfl⟩
   have Ht := Lib.hid ht
   rw [← ht] at KL hlt
   have KI : Hid (∀ z : World, Below wr.heap.size wr z → Calls Tryz.prog 120 #[.agg #[.int .i64 m, .slice A m c], .int .i64 (t : Int)] z fun e w' => e = .returned (.bool (cliq (rw_ x) t)) ∧ Below z.heap.size z w') := fun z hz => IsClique_sv (HGr.out.keep hz) hlt
   clear ht hmem
   cases hc : cliq (rw_ x) t
   ·rw [hc] at KI
    have Hn : Hid (elB (m : Int) m x l = false) := by show _ = _; rw [Hy.out]; exact all_snoc hvm (by rw [← Ht.out]; exact hc)
    clear hc
    go_wp2
    have HSC : Hid (∀ z : World, Below wr.heap.size wr z → (Below wr.heap.size wr z ∧ z.cell? ⟨w.heap.size, 0, none⟩ = some (.int .i64 m) ∧ z.cell? ⟨w.heap.size, 1, none⟩ = some (.slice A m c))) := fun z hz => ⟨hz, up_ hz e0, up_ hz e1⟩
    have HZ0 : Hid (Below wr.heap.size wr wr.drew) := (Below.refl _ _).drew
    have HS1 := Lib.hid (HSC.out _ HZ0.out)
    have KR1 : Hid (∀ z : World, Below wr.heap.size wr z → _) := fun z hz => KL.out _ hz
    have KR2 : Hid (∀ z : World, Below wr.heap.size wr z → _) := fun z hz => KI.out _ hz
    go_region_held3 (fun z => Below wr.heap.size wr z ∧ z.cell? ⟨w.heap.size, 0, none⟩ = some (.int .i64 m) ∧ z.cell? ⟨w.heap.size, 1, none⟩ = some (.slice A m c))
     (first | exact HS1.out | assumption | exact HSC.out _ hz3 | exact HSC.out _ hz2 | fail)
     (first | (go_at_call 336; ((with_reducible refine (KR1.out _ HZ0.out).mono ?_); rintro e w2 ⟨rfl, hb2⟩; have hz2 := bl_trans HZ0.out hb2)) | (go_at_call 120; ((with_reducible refine (KR2.out _ hz2).mono ?_); rintro e w3 ⟨rfl, hb3⟩; have hz3 := bl_trans hz2 hb3)))
    replace HR := Lib.hid (HR.out.keep hz3)
    replace HBr := Lib.hid (HBr.out.keep hz3)
    clear hb2 hz2 hb3 hz3 HSC HZ0 HS1 KR1 KR2
    go_wp2
    go_ret
    exact ⟨ret_bool Hn.out.symm, HBr.out.below⟩
   ·rw [hc] at KI
    have Hc : Hid (cliq (rw_ x) (ltN (rw_ x) l (v : Int)) = true) := by rw [← Ht.out]; exact hc
    clear hc
    go_wp2
    have HSC : Hid (∀ z : World, Below wr.heap.size wr z → (Below wr.heap.size wr z ∧ z.cell? ⟨w.heap.size, 0, none⟩ = some (.int .i64 m) ∧ z.cell? ⟨w.heap.size, 1, none⟩ = some (.slice A m c))) := fun z hz => ⟨hz, up_ hz e0, up_ hz e1⟩
    have HZ0 : Hid (Below wr.heap.size wr wr.drew) := (Below.refl _ _).drew
    have HS1 := Lib.hid (HSC.out _ HZ0.out)
    have KR1 : Hid (∀ z : World, Below wr.heap.size wr z → _) := fun z hz => KL.out _ hz
    have KR2 : Hid (∀ z : World, Below wr.heap.size wr z → _) := fun z hz => KI.out _ hz
    go_region_held3 (fun z => Below wr.heap.size wr z ∧ z.cell? ⟨w.heap.size, 0, none⟩ = some (.int .i64 m) ∧ z.cell? ⟨w.heap.size, 1, none⟩ = some (.slice A m c))
     (first | exact HS1.out | assumption | exact HSC.out _ hz5 | exact HSC.out _ hz4 | fail)
     (first | (go_at_call 336; ((with_reducible refine (KR1.out _ HZ0.out).mono ?_); rintro e w4 ⟨rfl, hb4⟩; have hz4 := bl_trans HZ0.out hb4)) | (go_at_call 120; ((with_reducible refine (KR2.out _ hz4).mono ?_); rintro e w5 ⟨rfl, hb5⟩; have hz5 := bl_trans hz4 hb5)))
    replace HR := Lib.hid (HR.out.keep hz5)
    replace HBr := Lib.hid (HBr.out.keep hz5)
    clear hb4 hz4 hb5 hz5 HSC HZ0 HS1 KR1 KR2
    go_wp2
    go_roundw
    case rel =>
     refine ⟨v + 1, by omega, by go_num, fun u hu => ?_, HR⟩
     by_cases huv : u < v
     ·exact hall.out u huv
     ·obtain rfl : u = v := by omega
      exact Hc.out
    case measure => (simp [intOf] <;> omega)
  ·have Hn : Hid (elB (m : Int) m x l = true) := by show _ = _; rw [Hy.out]; exact all_yes fun v hv => hall.out v (by omega)
   obtain rfl : m = v := by omega
   go_wp2
   go_ret
   exact ⟨ret_bool Hn.out.symm, HBr.out.below⟩
end Go.Proofs.YtdpkbfiggbcclaaGreat

/-
-/
namespace Go.Proofs.YtdpkbfiggbcclaaGreat
open Go.RowKit
def Ub (r : Nat → Nat) (l : List Nat) (i k j : Nat) : Prop := (r (l.getD i 0)).testBit (l.getD k 0) = true → (r (l.getD i 0)).testBit (l.getD j 0) = true ∧ (r (l.getD k 0)).testBit (l.getD j 0) = true
def Um (r : Nat → Nat) (l : List Nat) : Prop := ∀ i k j, i < j → j < k → k < l.length → Ub r l i k j
noncomputable def umB (r : Nat → Nat) (l : List Nat) : Bool := @decide (Um r l) (Classical.propDecidable _)
section
variable {r : Nat → Nat} {l : List Nat}
theorem um_yes (h : Um r l) : umB r l = true := @decide_eq_true _ (Classical.propDecidable _) h
theorem um_no (h : ¬ Um r l) : umB r l = false := @decide_eq_false _ (Classical.propDecidable _) h
def Um1 (r : Nat → Nat) (l : List Nat) (i : Nat) : Prop := ∀ i', i' < i → ∀ k j, i' < j → j < k → k < l.length → Ub r l i' k j
def Um2 (r : Nat → Nat) (l : List Nat) (i k : Nat) : Prop := ∀ k', k' < k → ∀ j, i < j → j < k' → Ub r l i k' j
def Um3 (r : Nat → Nat) (l : List Nat) (i k j : Nat) : Prop := ∀ j', i < j' → j' < j → Ub r l i k j'
theorem Um1.zero : Um1 r l 0 := fun i' h => absurd h (by omega)
theorem Um2.zero {i : Nat} : Um2 r l i (i + 2) := fun k' h j h1 h2 => absurd h1 (by omega)
theorem Um3.zero {i k : Nat} : Um3 r l i k (i + 1) := fun j' h1 h2 => absurd h1 (by omega)
theorem Um3.step {i k j : Nat} (h : Um3 r l i k j) (h2 : Ub r l i k j) : Um3 r l i k (j + 1) := fun j' h3 h4 => by
 by_cases e : j' < j
 ·exact h j' h3 e
 ·obtain rfl : j' = j := by omega
  exact h2
theorem Um2.step {i k : Nat} (h : Um2 r l i k) (h2 : Um3 r l i k k) : Um2 r l i (k + 1) := fun k' h3 j h4 h5 => by
 by_cases e : k' < k
 ·exact h k' e j h4 h5
 ·obtain rfl : k' = k := by omega
  exact h2 j h4 h5
theorem Um2.skip {i k : Nat} (h : Um2 r l i k) (h2 : (r (l.getD i 0)).testBit (l.getD k 0) = false) : Um2 r l i (k + 1) := h.step fun j _ _ h3 => by rw [h2] at h3; cases h3
theorem Um1.step {i k : Nat} (h : Um1 r l i) (h2 : Um2 r l i k) (hk : l.length ≤ k) : Um1 r l (i + 1) := fun i' h3 k' j h4 h5 h6 => by
 by_cases e : i' < i
 ·exact h i' e k' j h4 h5 h6
 ·obtain rfl : i' = i := by omega
  exact h2 k' (by omega) j h4 h5
theorem Um1.all {i : Nat} (h : Um1 r l i) (hi : l.length ≤ i) : Um r l := fun i' k j h1 h2 h3 => h i' (by omega) k j h1 h2 h3
theorem um_bad {i k j : Nat} (h1 : i < j) (h2 : j < k) (h3 : k < l.length) (h : ¬ Ub r l i k j) : umB r l = false := um_no fun hu => h (hu i k j h1 h2 h3)
end
def nats (l : List Int) : List Nat := l.map Int.toNat
theorem LI.ln {w : World} {A : Option Addr} {n c : Nat} {l : List Int} {m : Nat} (h : LI w A n c l) (hV : VZ m l) : LN w A c (nats l) := by
 have hl : (nats l).length = n := by rw [h.len]; unfold nats; simp
 refine ⟨?_⟩
 rw [hl]
 refine h.rd.congr fun k hk => ?_
 have hk2 : k < l.length := by rw [← h.len]; exact hk
 have := (hV.2 _ (getD_mem hk2)).1
 unfold nats
 simp only [List.getD, List.getElem?_map, List.getElem?_eq_getElem hk2, Option.map_some, Option.getD_some] at this ⊢
 omega
theorem nats_lt {m : Nat} {l : List Int} (hV : VZ m l) : ∀ v ∈ nats l, v < m := by
 intro v hv
 unfold nats at hv
 rw [List.mem_map] at hv
 obtain ⟨u, hu, rfl⟩ := hv
 have := hV.2 u hu
 omega
theorem nats_len {l : List Int} : (nats l).length = l.length := by unfold nats; simp
theorem getD_lt {m : Nat} {l : List Nat} (h : ∀ v ∈ l, v < m) {j : Nat} (hj : j < l.length) : l.getD j 0 < m := by
 have : l.getD j 0 = l[j] := by simp [List.getD, hj]
 rw [this]; exact h _ (List.getElem_mem hj)
end Go.Proofs.YtdpkbfiggbcclaaGreat

/-
-/
namespace Go.Proofs.YtdpkbfiggbcclaaGreat
open Go.RowKit
theorem has_q {s v : Nat} {b : Bool} (hs : s < 128) (hv : v < 64) (hb : s.testBit v = b) : ∀ w : World, Calls Tryz.prog 90 #[.int .i64 (s : Int), .int .i64 (v : Int)] w fun e w' => e = .returned (.bool b) ∧ w' = w := fun w =>
 (has_v w hs hv).mono fun _ _ ⟨h1, h2⟩ => ⟨by rw [h1, hb], h2.symm⟩
theorem LN.cell {w : World} {b o c j : Nat} {l : List Nat} (h : LN w (some ⟨b, o, none⟩) c l) (hj : j < l.length) : w.cell? ⟨b, o + j, none⟩ = some (.int .i64 (l.getD j 0 : Nat)) := by
 rw [h.at hj]; simp [List.getD, hj]
set_option maxRecDepth 100000 in
set_option maxHeartbeats 3200000 in
theorem isUmbrella_v {A : Option Addr} {m c : Nat} {r : Nat → Nat} {Al : Option Addr} {cl : Nat} {l : List Nat} {w : World} (h : GV w A m c r) (hl : LN w Al cl l) (hlt : ∀ v ∈ l, v < m) (hlen : l.length ≤ 7) :
 Calls Tryz.prog 346 #[.agg #[.int .i64 m, .slice A m c], .slice Al l.length cl] w fun e w' => e = .returned (.bool (umB r l)) ∧ Below w.heap.size w w' := by
 have hn7 := h.vg.n7
 have HL := Lib.hid hl
 have Hlt := Lib.hid hlt
 have HV := Lib.hid h.vg
 obtain ⟨b0, o0, rfl⟩ := h.addr
 clear hl hlt
 obtain ⟨W, hW⟩ : ∃ W : World, W = (w.alloc (Obj.cells #[Value.int IntKind.i64 m, Value.slice (some ⟨b0, o0, none⟩) m c] 28)) := ⟨_, rfl⟩
 have HB : Hid (From w W) := by rw [hW]; exact From.alloc _ _
 have HG : Hid (GBox W w.heap.size (some ⟨b0, o0, none⟩) m c r) := by rw [hW]; exact h.box
 have HW := Lib.hid hW
 clear hW h
 have e0 := HG.out.c0
 have e1 := HG.out.c1
 replace HL := Lib.hid (HL.out.keep HB.out.below)
 have HR0 : Hid (From W W) := From.refl W
 go_enter Tryz.func346, Tryz.ntmps346
 go_wp2_with fail
 rw [← HW.out]
 clear HW e0 e1
 go_wp2
 go_loopw [11] (fun i wr => ∃ k : Nat, k ≤ l.length ∧ i = .int .i64 k ∧ Hid (Um1 r l k) ∧ Hid (From W wr)) (fun i _ => l.length - (intOf i).toNat)
 case atStart => exact ⟨0, Nat.zero_le _, rfl, Um1.zero, HR0⟩
 case round =>
  clear HR0
  obtain ⟨i, hi, rfl, H1, HR⟩ := hrel
  by_cases hil : i < l.length
  ·have i1 : (i : Int) < (l.length : Int) := by omega
   have s1 : wrap64 ((i : Int) + 2) = ((i + 2 : Nat) : Int) := by rw [Go.IntWalk.wrap64_in _ (by omega)]; simp
   have s2 : IntKind.i64.wrap ((i : Int) + 2) = ((i + 2 : Nat) : Int) := by rw [Go.IntWalk.i64_in _ (by omega)]; simp
   go_wp2
   go_loopw [6] (fun j wr => ∃ k : Nat, i + 2 ≤ k ∧ k ≤ l.length + 1 ∧ j = .int .i64 k ∧ Hid (Um2 r l i k) ∧ Hid (From W wr)) (fun j _ => l.length + 1 - (intOf j).toNat)
   case atStart => exact ⟨i + 2, Nat.le_refl _, by omega, by first | rfl | exact congrArg (Value.int .i64) s1 | simp, Um2.zero, HR⟩
   case round =>
    clear HR s1 s2
    obtain ⟨k, hk2, hk, rfl, H2, HR⟩ := hrel
    by_cases hkl : k < l.length
    ·have i2 : (k : Int) < (l.length : Int) := by omega
     have HGr := Lib.hid (HG.out.keep HR.out.below)
     have HLr := Lib.hid (HL.out.keep HR.out.below)
     obtain ⟨bl, ol, rfl⟩ := HLr.out.addr (by omega)
     have e1 := HGr.out.c1
     have p0 := HLr.out.cell hil
     have p1 := HLr.out.cell hkl
     have hu := getD_lt Hlt.out hil
     have hv := getD_lt Hlt.out hkl
     obtain ⟨u, hu'⟩ : ∃ u, u = l.getD i 0 := ⟨_, rfl⟩
     obtain ⟨v, hv'⟩ : ∃ v, v = l.getD k 0 := ⟨_, rfl⟩
     rw [← hu'] at p0 hu
     rw [← hv'] at p1 hv
     have Hu := Lib.hid hu'
     have Hv := Lib.hid hv'
     have q0 := HGr.out.gv.row hu
     have hr := HV.out.lt128 hu
     obtain ⟨x, hx⟩ : ∃ x, x = r u := ⟨_, rfl⟩
     rw [← hx] at q0 hr
     have i3 : (u : Int) < (m : Int) := by omega
     have Hx := Lib.hid hx
     clear hu' hv' hx
     cases he : x.testBit v
     ·have K1 := Lib.hid (has_q hr (by omega) he)
      have H2' : Hid (Um2 r l i (k + 1)) := H2.out.skip (by rw [← Hu.out, ← Hv.out, ← Hx.out]; exact he)
      clear he
      go_wp2
      go_quiet (first | (go_at_call 90; with_reducible exact Calls.quiet_of_same (K1.out _)))
      go_wp2
      go_roundw
      case rel => exact ⟨k + 1, by omega, by omega, by go_num, H2', HR.out.drewN _⟩
      case measure => (simp [intOf] <;> omega)
     ·have K1 := Lib.hid (has_q hr (by omega) he)
      have He := Lib.hid he
      have s1 : wrap64 ((i : Int) + 1) = ((i + 1 : Nat) : Int) := by rw [Go.IntWalk.wrap64_in _ (by omega)]; simp
      have s2 : IntKind.i64.wrap ((i : Int) + 1) = ((i + 1 : Nat) : Int) := by rw [Go.IntWalk.i64_in _ (by omega)]; simp
      have hcl := HLr.out.le
      clear he
      go_wp2
      go_quiet (first | (go_at_call 90; with_reducible exact Calls.quiet_of_same (K1.out _)))
      have HRq : Hid (From W (wr.drewN nq)) := HR.out.drewN _
      obtain ⟨wq, hwq⟩ : ∃ wq : World, wq = wr.drewN nq := ⟨_, rfl⟩
      rw [← hwq] at HRq ⊢
      clear hwq HGr HLr e1 p0 p1 q0 HR K1
      go_wp2
      go_loopw [42] (fun j wr => ∃ t : Nat, t ≤ k - (i + 1) ∧ j = .int .i64 t ∧ Hid (Um3 r l i k (i + 1 + t)) ∧ Hid (From W wr)) (fun j _ => k - (i + 1) - (intOf j).toNat)
      case atStart => exact ⟨0, Nat.zero_le _, rfl, Um3.zero, HRq⟩
      case round =>
       clear HRq s1 s2
       obtain ⟨t, ht, rfl, H3, HR⟩ := hrel
       by_cases htk : t < k - (i + 1)
       ·have i4 : (t : Int) < ((k - (i + 1) : Nat) : Int) := by omega
        have HGr := Lib.hid (HG.out.keep HR.out.below)
        have HLr := Lib.hid (HL.out.keep HR.out.below)
        have e1 := HGr.out.c1
        have p0 := HLr.out.cell hil
        have p1 := HLr.out.cell hkl
        rw [← Hu.out] at p0
        rw [← Hv.out] at p1
        have hj : i + 1 + t < l.length := by omega
        have p2 := HLr.out.cell hj
        have hy := getD_lt Hlt.out hj
        obtain ⟨y, hy'⟩ : ∃ y, y = l.getD (i + 1 + t) 0 := ⟨_, rfl⟩
        rw [← hy'] at p2 hy
        have Hy := Lib.hid hy'
        rw [show ol + (i + 1 + t) = ol + (i + 1) + t by omega] at p2
        have q0 := HGr.out.gv.row hu
        rw [← Hx.out] at q0
        have q1 := HGr.out.gv.row hv
        have hr2 := HV.out.lt128 hv
        obtain ⟨x2, hx2⟩ : ∃ x2, x2 = r v := ⟨_, rfl⟩
        rw [← hx2] at q1 hr2
        have Hx2 := Lib.hid hx2
        have i5 : (v : Int) < (m : Int) := by omega
        have HBr := Lib.hid (HB.out.up HR.out)
        clear hy' hx2 hj
        cases h1 : x.testBit y
        ·have K1 := Lib.hid (has_q hr (by omega) h1)
         have Hn : Hid (umB r l = false) := um_bad (i := i) (k := k) (j := i + 1 + t) (by omega) (by omega) hkl fun hb => by
          have := (hb (by rw [← Hu.out, ← Hv.out, ← Hx.out]; exact He.out)).1
          rw [← Hu.out, ← Hy.out, ← Hx.out, h1] at this
          cases this
         clear h1
         go_wp2
         go_quiet (first | (go_at_call 90; with_reducible exact Calls.quiet_of_same (K1.out _)))
         go_wp2
         go_ret
         exact ⟨ret_bool Hn.out.symm, (HBr.out.drewN _).below⟩
        ·have K1 := Lib.hid (has_q hr (by omega) h1)
         have H1' := Lib.hid h1
         clear h1
         cases h2 : x2.testBit y
         ·have K2 := Lib.hid (has_q hr2 (by omega) h2)
          have Hn : Hid (umB r l = false) := um_bad (i := i) (k := k) (j := i + 1 + t) (by omega) (by omega) hkl fun hb => by
           have := (hb (by rw [← Hu.out, ← Hv.out, ← Hx.out]; exact He.out)).2
           rw [← Hv.out, ← Hy.out, ← Hx2.out, h2] at this
           cases this
          clear h2
          go_wp2
          go_quiet (first | (go_at_call 90; with_reducible exact Calls.quiet_of_same (K1.out _)) | (go_at_call 90; with_reducible exact Calls.quiet_of_same (K2.out _)))
          go_wp2
          go_ret
          exact ⟨ret_bool Hn.out.symm, (HBr.out.drewN _).below⟩
         ·have K2 := Lib.hid (has_q hr2 (by omega) h2)
          have H3' : Hid (Um3 r l i k (i + 1 + (t + 1))) := H3.out.step fun _ => ⟨by rw [← Hu.out, ← Hy.out, ← Hx.out]; exact H1'.out, by rw [← Hv.out, ← Hy.out, ← Hx2.out]; exact h2⟩
          clear h2
          go_wp2
          go_quiet (first | (go_at_call 90; with_reducible exact Calls.quiet_of_same (K1.out _)) | (go_at_call 90; with_reducible exact Calls.quiet_of_same (K2.out _)))
          go_wp2
          go_roundw
          case rel => exact ⟨t + 1, by omega, by go_num, H3', HR.out.drewN _⟩
          case measure => (simp [intOf] <;> omega)
       ·have H2' : Hid (Um2 r l i (k + 1)) := H2.out.step fun j h1 h2 => H3.out j h1 (by omega)
        have i4 : ((k - (i + 1) : Nat) : Int) ≤ (t : Int) := by omega
        go_wp2
        go_roundw
        case rel => exact ⟨k + 1, by omega, by omega, by go_num, H2', HR⟩
        case measure => (simp [intOf] <;> omega)
    ·have H1' : Hid (Um1 r l (i + 1)) := H1.out.step H2.out (by omega)
     have i2 : (l.length : Int) ≤ (k : Int) := by omega
     go_wp2
     go_roundw
     case rel => exact ⟨i + 1, by omega, by go_num, H1', HR⟩
     case measure => (simp [intOf] <;> omega)
  ·have Hy : Hid (umB r l = true) := um_yes (H1.out.all (by omega))
   have HBr := Lib.hid (HB.out.up HR.out)
   have i1 : (l.length : Int) ≤ (i : Int) := by omega
   go_wp2
   go_ret
   exact ⟨ret_bool Hy.out.symm, HBr.out.below⟩
noncomputable def ulB (sz : Int) (m : Nat) (x : Nat → Int) (l : List Int) : Bool := orB sz m x l && umB (rw_ x) (nats l)
theorem ulB_no {sz : Int} {m : Nat} {x : Nat → Int} {l : List Int} (h : orB sz m x l = false) : ulB sz m x l = false := by unfold ulB; rw [h]; rfl
theorem ulB_yes {sz : Int} {m : Nat} {x : Nat → Int} {l : List Int} (h : orB sz m x l = true) : ulB sz m x l = umB (rw_ x) (nats l) := by unfold ulB; rw [h]; rfl
set_option maxRecDepth 100000 in
set_option maxHeartbeats 1600000 in
theorem IsUmbrella_i (sz : Int) (A : Option Addr) (m c : Nat) (x : Nat → Int) (Al : Option Addr) (n cl : Nat) (l : List Int) (w : World) (h : GA w A m c x) (hl : LI w Al n cl l) (hm : m ≤ 1048576) (hn : n ≤ 1048576) :
 Calls Tryz.prog 251 #[.agg #[.int .i64 sz, .slice A m c], .slice Al n cl] w fun e w' => e = .returned (.bool (ulB sz m x l)) ∧ Below w.heap.size w w' := by
 obtain ⟨W, hW⟩ : ∃ W : World, W = (w.alloc (Obj.cells #[Value.int IntKind.i64 sz, Value.slice A m c] 28)) := ⟨_, rfl⟩
 have HB : Hid (From w W) := by rw [hW]; exact From.alloc _ _
 have HK := Lib.hid (h.keep HB.out.below)
 have HL := Lib.hid (hl.keep HB.out.below)
 have HC : Hid (GC W w.heap.size sz A m c) := by rw [hW]; exact GC.new _ _ _ _ _
 have HW := Lib.hid hW
 clear hW h hl
 go_enter Tryz.func251, Tryz.ntmps251
 have e0 := HC.out.c0
 have e1 := HC.out.c1
 go_wp2_with fail
 rw [← HW.out]
 refine (IsOrder_z sz A m c x Al n cl l W HK.out HL.out hm hn).mono ?_
 rintro e w1 ⟨rfl, hb1⟩
 clear HW
 clear e0 e1
 replace HB := Lib.hid (HB.out.keep hb1)
 replace HK := Lib.hid (HK.out.keep hb1)
 replace HL := Lib.hid (HL.out.keep hb1)
 replace HC := Lib.hid (HC.out.keep hb1)
 clear hb1
 have e0 := HC.out.c0
 have e1 := HC.out.c1
 cases ho : orB sz m x l
 ·have Hn : Hid (ulB sz m x l = false) := ulB_no ho
  clear ho
  go_wp2
  go_ret
  exact ⟨ret_bool Hn.out.symm, HB.out.below⟩
 obtain ⟨hok, hV, hlen⟩ := orB_parts ho
 obtain ⟨_, es, vg0, _⟩ := okB_ok' hok
 subst es
 have HG : Hid (GV w1 A m c (rw_ x)) := HK.out.gv hok
 have hn7 := vg0.n7
 have Hy : Hid (ulB (m : Int) m x l = umB (rw_ x) (nats l)) := ulB_yes ho
 have KU : Hid (Calls Tryz.prog 346 #[.agg #[.int .i64 m, .slice A m c], .slice Al n cl] w1 fun e w' => e = .returned (.bool (umB (rw_ x) (nats l))) ∧ Below w1.heap.size w1 w') := by
  have := isUmbrella_v HG.out (HL.out.ln hV) (nats_lt hV) (by rw [nats_len]; omega)
  rw [nats_len, ← HL.out.len] at this
  exact this
 clear ho hok hV hlen vg0
 go_wp2_with fail
 refine (KU.out).mono ?_
 rintro e w2 ⟨rfl, hb2⟩
 clear e0 e1
 replace HB := Lib.hid (HB.out.keep hb2)
 replace HK := Lib.hid (HK.out.keep hb2)
 replace HL := Lib.hid (HL.out.keep hb2)
 replace HC := Lib.hid (HC.out.keep hb2)
 clear hb2
 have e0 := HC.out.c0
 have e1 := HC.out.c1
 go_wp2
 go_ret
 exact ⟨ret_bool Hy.out.symm, HB.out.below⟩
end Go.Proofs.YtdpkbfiggbcclaaGreat
