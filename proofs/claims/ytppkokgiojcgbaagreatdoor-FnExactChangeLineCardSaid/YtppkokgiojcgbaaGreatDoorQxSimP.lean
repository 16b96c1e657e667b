/-
  Several texts in one.
-/
import Derived.Test.YtppkokgiojcgbaaGreatDoorQxFmU
import Derived.Test.YtppkokgiojcgbaaGreatDoorQxFillS
import Derived.Test.YtppkokgiojcgbaaGreatDoorQxSet2I
import Derived.Test.YtppkokgiojcgbaaGreatDoorQxLater
import Derived.Test.YtppkokgiojcgbaaGreatDoorQxColI
/-
-/
namespace Go.Proofs.YtppkokgiojcgbaaGreatDoor
open Go.RowKit
def Ub (r : Nat → Nat) (l : List Nat) (i k j : Nat) : Prop := (r (l.getD i 0)).testBit (l.getD k 0) = true → (r (l.getD i 0)).testBit (l.getD j 0) = true ∧ (r (l.getD k 0)).testBit (l.getD j 0) = true
def Um (r : Nat → Nat) (l : List Nat) : Prop := ∀ i k j, i < j → j < k → k < l.length → Ub r l i k j
noncomputable def umB (r : Nat → Nat) (l : List Nat) : Bool := @decide (Um r l) (Classical.propDecidable _)
section
variable {r : Nat → Nat} {l : List Nat}
theorem um_yes (h : Um r l) : umB r l = true := @decide_eq_true _ (Classical.propDecidable _) h
theorem um_no (h : ¬ Um r l) : umB r l = false := @decide_eq_false _ (Classical.propDecidable _) h
def Um1 (r : Nat → Nat) (l : List Nat) (i : Nat) : Prop := ∀ i', i' < i → ∀ k j, i' < j → j < k → k < l.length → Ub r l i' k j
def Um2 (r : Nat → Nat) (l : List Nat) (i k : Nat) : Prop := ∀ k', k' < k → ∀ j, i < j → j < k' → Ub r l i k' j
def Um3 (r : Nat → Nat) (l : List Nat) (i k j : Nat) : Prop := ∀ j', i < j' → j' < j → Ub r l i k j'
theorem Um1.zero : Um1 r l 0 := fun i' h => absurd h (by omega)
theorem Um2.zero {i : Nat} : Um2 r l i (i + 2) := fun k' h j h1 h2 => absurd h1 (by omega)
theorem Um3.zero {i k : Nat} : Um3 r l i k (i + 1) := fun j' h1 h2 => absurd h1 (by omega)
theorem Um3.step {i k j : Nat} (h : Um3 r l i k j) (h2 : Ub r l i k j) : Um3 r l i k (j + 1) := fun j' h3 h4 => by
 by_cases e : j' < j
 ·exact h j' h3 e
 ·obtain rfl : j' = j := by omega
  exact h2
theorem Um2.step {i k : Nat} (h : Um2 r l i k) (h2 : Um3 r l i k k) : Um2 r l i (k + 1) := fun k' h3 j h4 h5 => by
 by_cases e : k' < k
 ·exact h k' e j h4 h5
 ·obtain rfl : k' = k := by omega
  exact h2 j h4 h5
theorem Um2.skip {i k : Nat} (h : Um2 r l i k) (h2 : (r (l.getD i 0)).testBit (l.getD k 0) = false) : Um2 r l i (k + 1) := h.step fun j _ _ h3 => by rw [h2] at h3; cases h3
theorem Um1.step {i k : Nat} (h : Um1 r l i) (h2 : Um2 r l i k) (hk : l.length ≤ k) : Um1 r l (i + 1) := fun i' h3 k' j h4 h5 h6 => by
 by_cases e : i' < i
 ·exact h i' e k' j h4 h5 h6
 ·obtain rfl : i' = i := by omega
  exact h2 k' (by omega) j h4 h5
theorem Um1.all {i : Nat} (h : Um1 r l i) (hi : l.length ≤ i) : Um r l := fun i' k j h1 h2 h3 => h i' (by omega) k j h1 h2 h3
theorem um_bad {i k j : Nat} (h1 : i < j) (h2 : j < k) (h3 : k < l.length) (h : ¬ Ub r l i k j) : umB r l = false := um_no fun hu => h (hu i k j h1 h2 h3)
end
def nats (l : List Int) : List Nat := l.map Int.toNat
theorem LI.ln {w : World} {A : Option Addr} {n c : Nat} {l : List Int} {m : Nat} (h : LI w A n c l) (hV : VZ m l) : LN w A c (nats l) := by
 have hl : (nats l).length = n := by rw [h.len]; unfold nats; simp
 refine ⟨?_⟩
 rw [hl]
 refine h.rd.congr fun k hk => ?_
 have hk2 : k < l.length := by rw [← h.len]; exact hk
 have := (hV.2 _ (getD_mem hk2)).1
 unfold nats
 simp only [List.getD, List.getElem?_map, List.getElem?_eq_getElem hk2, Option.map_some, Option.getD_some] at this ⊢
 omega
theorem getD_lt {m : Nat} {l : List Nat} (h : ∀ v ∈ l, v < m) {j : Nat} (hj : j < l.length) : l.getD j 0 < m := by
 have : l.getD j 0 = l[j] := by simp [List.getD, hj]
 rw [this]; exact h _ (List.getElem_mem hj)
end Go.Proofs.YtppkokgiojcgbaaGreatDoor

/-
-/
namespace Go.Proofs.YtppkokgiojcgbaaGreatDoor
open Go.RowKit
theorem has_q {s v : Nat} {b : Bool} (hs : s < 128) (hv : v < 64) (hb : s.testBit v = b) : ∀ w : World, Calls Tryz.prog 69 #[.int .i64 (s : Int), .int .i64 (v : Int)] w fun e w' => e = .returned (.bool b) ∧ w' = w := fun w =>
 (has_v w hs hv).mono fun _ _ ⟨h1, h2⟩ => ⟨by rw [h1, hb], h2.symm⟩
theorem LN.cell {w : World} {b o c j : Nat} {l : List Nat} (h : LN w (some ⟨b, o, none⟩) c l) (hj : j < l.length) : w.cell? ⟨b, o + j, none⟩ = some (.int .i64 (l.getD j 0 : Nat)) := by
 rw [h.at hj]; simp [List.getD, hj]
set_option maxRecDepth 100000 in
set_option maxHeartbeats 3200000 in
theorem isUmbrella_v {A : Option Addr} {m c : Nat} {r : Nat → Nat} {Al : Option Addr} {cl : Nat} {l : List Nat} {w : World} (h : GV w A m c r) (hl : LN w Al cl l) (hlt : ∀ v ∈ l, v < m) (hlen : l.length ≤ 7) :
 Calls Tryz.prog 228 #[.agg #[.int .i64 m, .slice A m c], .slice Al l.length cl] w fun e w' => e = .returned (.bool (umB r l)) ∧ Below w.heap.size w w' := by
 have hn7 := h.vg.n7
 have HL := Lib.hid hl
 have Hlt := Lib.hid hlt
 have HV := Lib.hid h.vg
 obtain ⟨b0, o0, rfl⟩ := h.addr
 clear hl hlt
 obtain ⟨W, hW⟩ : ∃ W : World, W = (w.alloc (Obj.cells #[Value.int IntKind.i64 m, Value.slice (some ⟨b0, o0, none⟩) m c] 29)) := ⟨_, rfl⟩
 have HB : Hid (From w W) := by rw [hW]; exact From.alloc _ _
 have HG : Hid (GBox W w.heap.size (some ⟨b0, o0, none⟩) m c r) := by rw [hW]; exact h.box
 have HW := Lib.hid hW
 clear hW h
 have e0 := HG.out.c0
 have e1 := HG.out.c1
 replace HL := Lib.hid (HL.out.keep HB.out.below)
 have HR0 : Hid (From W W) := From.refl W
 go_enter Tryz.func228, Tryz.ntmps228
 go_wp2_with fail
 rw [← HW.out]
 clear HW e0 e1
 go_wp2
 go_loopw [11] (fun i wr => ∃ k : Nat, k ≤ l.length ∧ i = .int .i64 k ∧ Hid (Um1 r l k) ∧ Hid (From W wr)) (fun i _ => l.length - (intOf i).toNat)
 case atStart => exact ⟨0, Nat.zero_le _, rfl, Um1.zero, HR0⟩
 case round =>
  clear HR0
  obtain ⟨i, hi, rfl, H1, HR⟩ := hrel
  by_cases hil : i < l.length
  ·have i1 : (i : Int) < (l.length : Int) := by omega
   have s1 : wrap64 ((i : Int) + 2) = ((i + 2 : Nat) : Int) := by rw [Go.IntWalk.wrap64_in _ (by omega)]; simp
   have s2 : IntKind.i64.wrap ((i : Int) + 2) = ((i + 2 : Nat) : Int) := by rw [Go.IntWalk.i64_in _ (by omega)]; simp
   go_wp2
   go_loopw [6] (fun j wr => ∃ k : Nat, i + 2 ≤ k ∧ k ≤ l.length + 1 ∧ j = .int .i64 k ∧ Hid (Um2 r l i k) ∧ Hid (From W wr)) (fun j _ => l.length + 1 - (intOf j).toNat)
   case atStart => exact ⟨i + 2, Nat.le_refl _, by omega, by first | rfl | exact congrArg (Value.int .i64) s1 | simp, Um2.zero, HR⟩
   case round =>
    clear HR s1 s2
    obtain ⟨k, hk2, hk, rfl, H2, HR⟩ := hrel
    by_cases hkl : k < l.length
    ·have i2 : (k : Int) < (l.length : Int) := by omega
     have HGr := Lib.hid (HG.out.keep HR.out.below)
     have HLr := Lib.hid (HL.out.keep HR.out.below)
     obtain ⟨bl, ol, rfl⟩ := HLr.out.addr (by omega)
     have e1 := HGr.out.c1
     have p0 := HLr.out.cell hil
     have p1 := HLr.out.cell hkl
     have hu := getD_lt Hlt.out hil
     have hv := getD_lt Hlt.out hkl
     obtain ⟨u, hu'⟩ : ∃ u, u = l.getD i 0 := ⟨_, rfl⟩
     obtain ⟨v, hv'⟩ : ∃ v, v = l.getD k 0 := ⟨_, rfl⟩
     rw [← hu'] at p0 hu
     rw [← hv'] at p1 hv
     have Hu := Lib.hid hu'
     have Hv := Lib.hid hv'
     have q0 := HGr.out.gv.row hu
     have hr := HV.out.lt128 hu
     obtain ⟨x, hx⟩ : ∃ x, x = r u := ⟨_, rfl⟩
     rw [← hx] at q0 hr
     have i3 : (u : Int) < (m : Int) := by omega
     have Hx := Lib.hid hx
     clear hu' hv' hx
     cases he : x.testBit v
     ·have K1 := Lib.hid (has_q hr (by omega) he)
      have H2' : Hid (Um2 r l i (k + 1)) := H2.out.skip (by rw [← Hu.out, ← Hv.out, ← Hx.out]; exact he)
      clear he
      go_wp2
      go_quiet (first | (go_at_call 69; with_reducible exact Calls.quiet_of_same (K1.out _)))
      go_wp2
      go_roundw
      case rel => exact ⟨k + 1, by omega, by omega, by go_num, H2', HR.out.drewN _⟩
      case measure => (simp [intOf] <;> omega)
     ·have K1 := Lib.hid (has_q hr (by omega) he)
      have He := Lib.hid he
      have s1 : wrap64 ((i : Int) + 1) = ((i + 1 : Nat) : Int) := by rw [Go.IntWalk.wrap64_in _ (by omega)]; simp
      have s2 : IntKind.i64.wrap ((i : Int) + 1) = ((i + 1 : Nat) : Int) := by rw [Go.IntWalk.i64_in _ (by omega)]; simp
      have hcl := HLr.out.le
      clear he
      go_wp2
      go_quiet (first | (go_at_call 69; with_reducible exact Calls.quiet_of_same (K1.out _)))
      have HRq : Hid (From W (wr.drewN nq)) := HR.out.drewN _
      obtain ⟨wq, hwq⟩ : ∃ wq : World, wq = wr.drewN nq := ⟨_, rfl⟩
      rw [← hwq] at HRq ⊢
      clear hwq HGr HLr e1 p0 p1 q0 HR K1
      go_wp2
      go_loopw [42] (fun j wr => ∃ t : Nat, t ≤ k - (i + 1) ∧ j = .int .i64 t ∧ Hid (Um3 r l i k (i + 1 + t)) ∧ Hid (From W wr)) (fun j _ => k - (i + 1) - (intOf j).toNat)
      case atStart => exact ⟨0, Nat.zero_le _, rfl, Um3.zero, HRq⟩
      case round =>
       clear HRq s1 s2
       obtain ⟨t, ht, rfl, H3, HR⟩ := hrel
       by_cases htk : t < k - (i + 1)
       ·have i4 : (t : Int) < ((k - (i + 1) : Nat) : Int) := by omega
        have HGr := Lib.hid (HG.out.keep HR.out.below)
        have HLr := Lib.hid (HL.out.keep HR.out.below)
        have e1 := HGr.out.c1
        have p0 := HLr.out.cell hil
        have p1 := HLr.out.cell hkl
        rw [← Hu.out] at p0
        rw [← Hv.out] at p1
        have hj : i + 1 + t < l.length := by omega
        have p2 := HLr.out.cell hj
        have hy := getD_lt Hlt.out hj
        obtain ⟨y, hy'⟩ : ∃ y, y = l.getD (i + 1 + t) 0 := ⟨_, rfl⟩
        rw [← hy'] at p2 hy
        have Hy := Lib.hid hy'
        rw [show ol + (i + 1 + t) = ol + (i + 1) + t by omega] at p2
        have q0 := HGr.out.gv.row hu
        rw [← Hx.out] at q0
        have q1 := HGr.out.gv.row hv
        have hr2 := HV.out.lt128 hv
        obtain ⟨x2, hx2⟩ : ∃ x2, x2 = r v := ⟨_, rfl⟩
        rw [← hx2] at q1 hr2
        have Hx2 := Lib.hid hx2
        have i5 : (v : Int) < (m : Int) := by omega
        have HBr := Lib.hid (HB.out.up HR.out)
        clear hy' hx2 hj
        cases h1 : x.testBit y
        ·have K1 := Lib.hid (has_q hr (by omega) h1)
         have Hn : Hid (umB r l = false) := um_bad (i := i) (k := k) (j := i + 1 + t) (by omega) (by omega) hkl fun hb => by
          have := (hb (by rw [← Hu.out, ← Hv.out, ← Hx.out]; exact He.out)).1
          rw [← Hu.out, ← Hy.out, ← Hx.out, h1] at this
          cases this
         clear h1
         go_wp2
         go_quiet (first | (go_at_call 69; with_reducible exact Calls.quiet_of_same (K1.out _)))
         go_wp2
         go_ret
         exact ⟨ret_bool Hn.out.symm, (HBr.out.drewN _).below⟩
        ·have K1 := Lib.hid (has_q hr (by omega) h1)
         have H1' := Lib.hid h1
         clear h1
         cases h2 : x2.testBit y
         ·have K2 := Lib.hid (has_q hr2 (by omega) h2)
          have Hn : Hid (umB r l = false) := um_bad (i := i) (k := k) (j := i + 1 + t) (by omega) (by omega) hkl fun hb => by
           have := (hb (by rw [← Hu.out, ← Hv.out, ← Hx.out]; exact He.out)).2
           rw [← Hv.out, ← Hy.out, ← Hx2.out, h2] at this
           cases this
          clear h2
          go_wp2
          go_quiet (first | (go_at_call 69; with_reducible exact Calls.quiet_of_same (K1.out _)) | (go_at_call 69; with_reducible exact Calls.quiet_of_same (K2.out _)))
          go_wp2
          go_ret
          exact ⟨ret_bool Hn.out.symm, (HBr.out.drewN _).below⟩
         ·have K2 := Lib.hid (has_q hr2 (by omega) h2)
          have H3' : Hid (Um3 r l i k (i + 1 + (t + 1))) := H3.out.step fun _ => ⟨by rw [← Hu.out, ← Hy.out, ← Hx.out]; exact H1'.out, by rw [← Hv.out, ← Hy.out, ← Hx2.out]; exact h2⟩
          clear h2
          go_wp2
          go_quiet (first | (go_at_call 69; with_reducible exact Calls.quiet_of_same (K1.out _)) | (go_at_call 69; with_reducible exact Calls.quiet_of_same (K2.out _)))
          go_wp2
          go_roundw
          case rel => exact ⟨t + 1, by omega, by go_num, H3', HR.out.drewN _⟩
          case measure => (simp [intOf] <;> omega)
       ·have H2' : Hid (Um2 r l i (k + 1)) := H2.out.step fun j h1 h2 => H3.out j h1 (by omega)
        have i4 : ((k - (i + 1) : Nat) : Int) ≤ (t : Int) := by omega
        go_wp2
        go_roundw
        case rel => exact ⟨k + 1, by omega, by omega, by go_num, H2', HR⟩
        case measure => (simp [intOf] <;> omega)
    ·have H1' : Hid (Um1 r l (i + 1)) := H1.out.step H2.out (by omega)
     have i2 : (l.length : Int) ≤ (k : Int) := by omega
     go_wp2
     go_roundw
     case rel => exact ⟨i + 1, by omega, by go_num, H1', HR⟩
     case measure => (simp [intOf] <;> omega)
  ·have Hy : Hid (umB r l = true) := um_yes (H1.out.all (by omega))
   have HBr := Lib.hid (HB.out.up HR.out)
   have i1 : (l.length : Int) ≤ (i : Int) := by omega
   go_wp2
   go_ret
   exact ⟨ret_bool Hy.out.symm, HBr.out.below⟩
end Go.Proofs.YtppkokgiojcgbaaGreatDoor

/-
-/
namespace Go.Proofs.YtppkokgiojcgbaaGreatDoor
open Go.RowKit
noncomputable def umO (r : Nat → Nat) (m : Nat) : Option (List Nat) := seaG m (umB r) (fun _ => true) m []
noncomputable def ppB (sz : Int) (m : Nat) (x : Nat → Int) : Bool := okB sz m x && (umO (rw_ x) m).isSome
theorem ppB_no {sz : Int} {m : Nat} {x : Nat → Int} (h : okB sz m x = false) : ppB sz m x = false := by unfold ppB; rw [h]; rfl
theorem ppB_yes {sz : Int} {m : Nat} {x : Nat → Int} (h : okB sz m x = true) : ppB sz m x = (umO (rw_ x) m).isSome := by unfold ppB; rw [h]; rfl
set_option maxRecDepth 100000 in
set_option maxHeartbeats 1600000 in
theorem UmoF {A : Option Addr} {m c q : Nat} {r : Nat → Nat} {Al : Option Addr} {cl : Nat} {l : List Nat} {w : World} (h : GBox w q A m c r) (hl : LN w Al cl l) (hlt : ∀ v ∈ l, v < m) (hlen : l.length ≤ 7) :
 Calls Tryz.prog 227 #[.slice Al l.length cl, .pointer (some ⟨q, 0, none⟩)] w fun e w' => e = .returned (.bool (umB r l)) ∧ Below w.heap.size w w' := by
 have HG := Lib.hid h
 have HL := Lib.hid hl
 have Hlt := Lib.hid hlt
 have e0 := h.c0
 have e1 := h.c1
 have HF : Hid (From w w) := From.refl w
 clear h hl hlt
 go_enter Tryz.func227, Tryz.ntmps227
 go_wp2_with fail
 refine (isUmbrella_v HG.out.gv HL.out Hlt.out hlen).mono ?_
 rintro e w1 ⟨rfl, hb1⟩
 replace HF := Lib.hid (HF.out.keep hb1)
 clear hb1
 go_wp2
 go_ret
 exact ⟨rfl, HF.out.below⟩
section
variable {A : Option Addr} {m c : Nat} {r : Nat → Nat}
set_option maxRecDepth 100000 in
set_option maxHeartbeats 1600000 in
theorem UmbrellaOf_v {w : World} (h : GV w A m c r) : Calls Tryz.prog 184 #[.agg #[.int .i64 m, .slice A m c]] w (lsQ w (umO r m)) := by
 have hm1 := h.vg.n1
 have hm7 := h.vg.n7
 obtain ⟨W, hW⟩ : ∃ W : World, W = (w.alloc (Obj.cells #[Value.int IntKind.i64 m, Value.slice A m c] 29)) := ⟨_, rfl⟩
 have HB : Hid (From w W) := by rw [hW]; exact From.alloc _ _
 have HG : Hid (GBox W w.heap.size A m c r) := by rw [hW]; exact h.box
 have HW := Lib.hid hW
 clear hW h
 have e0 := HG.out.c0
 have e1 := HG.out.c1
 have HG0 := HG
 have KF := Lib.hid (firstList_g (m := m) (n := m) (A := A) (c := c) (r := r) (fm := 227) (cm := #[.pointer (some ⟨w.heap.size, 0, none⟩)]) (fh := 229) (ch := #[]) (may := umB r) (hol := fun _ => true) (lo := W.heap.size) (hi := W.heap.size) (J := fun _ z => GBox z w.heap.size A m c r)
  (ent_of Tryz.func227 (by kernel_rfl) rfl) (ent_of Tryz.func229 (by kernel_rfl) rfl) W HG0.out.gv hm1 (Nat.le_refl _) (fun _ z z' hz hb => hz.keep hb) HG0.out
  (fun _ l A' c' z hz hr _ hv hn => UmoF hz ⟨hr⟩ hv (by have := nodup_len hn hv; omega))
  (fun _ l A' c' z hz _ _ _ _ => (always_n A' l.length c' z).mono fun e w' ⟨h1, h2⟩ => ⟨h1, hz.keep h2, Fr.of_below h2⟩))
 have HO : Hid (umO r m = seaG m (umB r) (fun _ => true) m []) := rfl
 obtain ⟨o, ho⟩ : ∃ o, o = umO r m := ⟨_, rfl⟩
 rw [← ho] at HO ⊢
 rw [← HO.out] at KF
 clear ho HO
 go_enter Tryz.func184, Tryz.ntmps184
 have e0 := HG.out.c0
 have e1 := HG.out.c1
 go_wp2_with fail
 rw [← HW.out]
 clear HW
 refine KF.out.mono ?_
 rintro e w1 ⟨hf, hp⟩
 have HB1 : Hid (Below w.heap.size w w1) := HB.out.below.trans (hf.below HB.out.below.size HB.out.below.size)
 have HZ : Hid (w.heap.size ≤ W.heap.size) := HB.out.below.size
 clear hf KF HG e0 e1
 cases o with
 | none =>
   obtain ⟨rfl, _⟩ := hp
   go_wp2
   go_ret2
   exact lsQ.no HB1.out
 | some l =>
   obtain ⟨g, c', rfl, hO⟩ := hp
   have HL : Hid (ON w.heap.size w1 (some ⟨g, 0, none⟩) c' l) := ⟨hO.mono HZ.out (Nat.le_refl _)⟩
   clear hO
   go_wp2
   go_ret2
   exact lsQ.yes HL.out HB1.out
end
set_option maxRecDepth 100000 in
set_option maxHeartbeats 1600000 in
theorem firstList_noG {sz : Int} {A : Option Addr} {m c : Nat} {x : Nat → Int} {w : World} {n : Int} {fm fh : FuncId} {cm ch : Array Value} (h : GA w A m c x) (hm : m ≤ 1048576) (hok : okB sz m x = false) :
 Calls Tryz.prog 226 #[.agg #[.int .i64 sz, .slice A m c], .int .i64 n, .func (.func fm) #[] cm, .func (.func fh) #[] ch] w fun e w' => e = .returned (.tuple #[.slice none 0 0, .bool false]) ∧ Below w.heap.size w w' := by
 obtain ⟨W4, hW4⟩ : ∃ W : World, W = ((((w.alloc (Obj.cells #[Value.int IntKind.i64 sz, Value.slice A m c] 29)).alloc (Obj.cells #[Value.int IntKind.i64 n] 3)).alloc (Obj.cells #[.func (.func fm) #[] cm] 173)).alloc (Obj.cells #[.func (.func fh) #[] ch] 173)) := ⟨_, rfl⟩
 have HF4 : Hid (From w W4) := by rw [hW4]; exact (((From.alloc _ _).alloc_ _).alloc_ _).alloc_ _
 have hz4 : w.heap.size + 1 + 1 + 1 + 1 = W4.heap.size := by rw [hW4]; simp
 have a0 : W4.cell? ⟨w.heap.size, 0, none⟩ = some (.int .i64 sz) := by rw [hW4]; simp [go_sem]
 have a1 : W4.cell? ⟨w.heap.size, 1, none⟩ = some (.slice A m c) := by rw [hW4]; simp [go_sem]
 obtain ⟨W, hW⟩ : ∃ W : World, W = W4.alloc (Obj.cells #[.func (.func 267) #[] #[.pointer (some ⟨w.heap.size + 1, 0, none⟩), .pointer (some ⟨w.heap.size + 1 + 1 + 1, 0, none⟩), .pointer (some ⟨w.heap.size, 0, none⟩), .pointer (some ⟨w.heap.size + 1 + 1, 0, none⟩), .pointer (some ⟨W4.heap.size, 0, none⟩)]] 65) := ⟨_, rfl⟩
 have hbW : Below W4.heap.size W4 W := by rw [hW]; exact (Below.refl _ _).alloc (Nat.le_refl _) _
 have HB : Hid (From w W) := HF4.out.keep hbW
 have c1 : w.heap.size < W4.heap.size := by omega
 have e0 := up hbW a0 (by omega)
 have e1 := up hbW a1 (by omega)
 have HK := Lib.hid (h.keep HB.out.below)
 have HW := Lib.hid hW
 have HW4 := Lib.hid hW4
 have HZ4 := Lib.hid hz4
 have Ho := Lib.hid hok
 clear hW hW4 h hz4 hbW hok HF4
 go_enter Tryz.func226, Tryz.ntmps226
 go_upto_region 2 with (fail)
 rw [← HW4.out, HZ4.out]
 clear HW4
 go_wp2_with fail
 rw [← HW.out]
 clear HW
 refine (IsGraph_any sz A m c x W W.heap.size HK.out.rd (Nat.le_refl _) hm).mono ?_
 rintro e w1 ⟨rfl, hb1⟩
 rw [Ho.out]
 replace HB := Lib.hid (HB.out.keep hb1)
 clear hb1 e0 e1 a0 a1
 go_wp2
 go_ret2
 exact ⟨rfl, HB.out.below⟩
section
variable (sz : Int) (A : Option Addr) (m c : Nat) (x : Nat → Int) (w : World)
set_option maxRecDepth 100000 in
set_option maxHeartbeats 1600000 in
theorem UmbrellaOf_no (h : GA w A m c x) (hm : m ≤ 1048576) (hok : okB sz m x = false) :
 Calls Tryz.prog 184 #[.agg #[.int .i64 sz, .slice A m c]] w (lsQ w none) := by
 obtain ⟨W, hW⟩ : ∃ W : World, W = (w.alloc (Obj.cells #[Value.int IntKind.i64 sz, Value.slice A m c] 29)) := ⟨_, rfl⟩
 have HB : Hid (From w W) := by rw [hW]; exact From.alloc _ _
 have HK := Lib.hid (h.keep HB.out.below)
 have HC : Hid (GC W w.heap.size sz A m c) := by rw [hW]; exact GC.new _ _ _ _ _
 have HW := Lib.hid hW
 have KF := Lib.hid (firstList_noG (n := sz) (fm := 227) (cm := #[.pointer (some ⟨w.heap.size, 0, none⟩)]) (fh := 229) (ch := #[]) HK.out hm hok)
 clear hW h hok
 go_enter Tryz.func184, Tryz.ntmps184
 have e0 := HC.out.c0
 have e1 := HC.out.c1
 go_wp2_with fail
 rw [← HW.out]
 clear HW
 refine KF.out.mono ?_
 rintro e w1 ⟨rfl, hb1⟩
 clear e0 e1
 replace HB := Lib.hid (HB.out.keep hb1)
 replace HK := Lib.hid (HK.out.keep hb1)
 replace HC := Lib.hid (HC.out.keep hb1)
 clear hb1 KF
 have e0 := HC.out.c0
 have e1 := HC.out.c1
 go_wp2
 go_ret2
 exact lsQ.no HB.out.below
set_option maxRecDepth 100000 in
set_option maxHeartbeats 1600000 in
theorem IsProper_i (h : GA w A m c x) (hm : m ≤ 1048576) :
 Calls Tryz.prog 130 #[.agg #[.int .i64 sz, .slice A m c]] w fun e w' => e = .returned (.bool (ppB sz m x)) ∧ Below w.heap.size w w' := by
 obtain ⟨W, hW⟩ : ∃ W : World, W = (w.alloc (Obj.cells #[Value.int IntKind.i64 sz, Value.slice A m c] 29)) := ⟨_, rfl⟩
 have HB : Hid (From w W) := by rw [hW]; exact From.alloc _ _
 have HK := Lib.hid (h.keep HB.out.below)
 have HC : Hid (GC W w.heap.size sz A m c) := by rw [hW]; exact GC.new _ _ _ _ _
 have HW := Lib.hid hW
 clear hW h
 go_enter Tryz.func130, Tryz.ntmps130
 cases ho : okB sz m x
 ·have Hn : Hid (ppB sz m x = false) := ppB_no ho
  have KF := Lib.hid (UmbrellaOf_no sz A m c x W HK.out hm ho)
  clear ho
  have e0 := HC.out.c0
  have e1 := HC.out.c1
  go_wp2_with fail
  rw [← HW.out]
  refine (KF.out).mono ?_
  rintro e w1 ⟨A', c', rfl, _, hb1⟩
  clear HW
  clear e0 e1
  replace HB := Lib.hid (HB.out.keep hb1)
  replace HK := Lib.hid (HK.out.keep hb1)
  replace HC := Lib.hid (HC.out.keep hb1)
  clear hb1
  have e0 := HC.out.c0
  have e1 := HC.out.c1
  clear KF
  go_wp2
  go_ret
  exact ⟨ret_bool Hn.out.symm, HB.out.below⟩
 obtain ⟨_, es, _, _⟩ := okB_ok' ho
 subst es
 have Hn : Hid (ppB (m : Int) m x = (umO (rw_ x) m).isSome) := ppB_yes ho
 have HG : Hid (GBox W w.heap.size A m c (rw_ x)) := ⟨HK.out.gv ho, HC.out.c0, HC.out.c1, HC.out.lt⟩
 have KF := Lib.hid (UmbrellaOf_v HG.out.gv)
 obtain ⟨o, ho2⟩ : ∃ o, o = umO (rw_ x) m := ⟨_, rfl⟩
 rw [← ho2] at Hn KF
 clear ho ho2 HC HK
 cases o
 ·skip
  have e0 := HG.out.c0
  have e1 := HG.out.c1
  go_wp2_with fail
  rw [← HW.out]
  refine (KF.out).mono ?_
  rintro e w2 ⟨A', c', rfl, _, hb2⟩
  clear HW
  clear e0 e1
  replace HB := Lib.hid (HB.out.keep hb2)
  replace HG := Lib.hid (HG.out.keep hb2)
  clear hb2
  have e0 := HG.out.c0
  have e1 := HG.out.c1
  clear KF
  go_wp2
  go_ret
  exact ⟨ret_bool Hn.out.symm, HB.out.below⟩
 ·skip
  have e0 := HG.out.c0
  have e1 := HG.out.c1
  go_wp2_with fail
  rw [← HW.out]
  refine (KF.out).mono ?_
  rintro e w3 ⟨A', c', rfl, _, hb3⟩
  clear HW
  clear e0 e1
  replace HB := Lib.hid (HB.out.keep hb3)
  replace HG := Lib.hid (HG.out.keep hb3)
  clear hb3
  have e0 := HG.out.c0
  have e1 := HG.out.c1
  clear KF
  go_wp2
  go_ret
  exact ⟨ret_bool Hn.out.symm, HB.out.below⟩
end
end Go.Proofs.YtppkokgiojcgbaaGreatDoor

/-
-/
namespace Go.Proofs.YtppkokgiojcgbaaGreatDoor
open Go.RowKit
def nN (r : Nat → Nat) (s u : Nat) : Nat := (r u ||| 2 ^ u) &&& s
def Cm (a b : Nat) : Prop := a &&& b = a ∨ a &&& b = b
def Sm (r : Nat → Nat) (s : Nat) (T : List Nat) : Prop := ∀ i, i < T.length → ∀ k, k < i → Cm (nN r s (T.getD i 0)) (nN r s (T.getD k 0))
def Sm1 (r : Nat → Nat) (s : Nat) (T : List Nat) (n : Nat) : Prop := ∀ i, i < n → ∀ k, k < i → Cm (nN r s (T.getD i 0)) (nN r s (T.getD k 0))
noncomputable def simB (r : Nat → Nat) (v s : Nat) : Bool := s.testBit v && @decide (Sm r s (listN (nN r s v))) (Classical.propDecidable _)
section
variable {r : Nat → Nat} {s v n i k a b : Nat} {T : List Nat}
theorem sim_out (h : s.testBit v = false) : simB r v s = false := by unfold simB; rw [h]; rfl
theorem sim_yes (h : s.testBit v = true) (h2 : Sm r s (listN (nN r s v))) : simB r v s = true := by unfold simB; rw [h, @decide_eq_true _ (Classical.propDecidable _) h2]; rfl
theorem sim_no (hT : T = listN (nN r s v)) (hi : i < T.length) (hk : k < i) (h : ¬ Cm (nN r s (T.getD i 0)) (nN r s (T.getD k 0))) : simB r v s = false := by
 unfold simB
 rw [@decide_eq_false _ (Classical.propDecidable _) fun hb => h (by subst hT; exact hb i hi k hk), Bool.and_false]
theorem Sm1.zero : Sm1 r s T 0 := fun i h => absurd h (by omega)
theorem Sm1.step (h : Sm1 r s T n) (h2 : ∀ k, k < n → Cm (nN r s (T.getD n 0)) (nN r s (T.getD k 0))) : Sm1 r s T (n + 1) := fun i hi => by
 by_cases e : i < n
 ·exact h i e
 ·obtain rfl : i = n := by omega
  exact h2
theorem nN_lt (hs : s < 2 ^ n) : nN r s v < 2 ^ n := Nat.and_lt_two_pow _ hs
theorem xor_and (a b : Nat) : (a ^^^ (a &&& b) = 0) ↔ a &&& b = a := by
 constructor
 ·intro h
  apply Nat.eq_of_testBit_eq
  intro i
  have := congrArg (fun t => t.testBit i) h
  simp only [Nat.testBit_xor, Nat.testBit_and, Nat.zero_testBit] at this ⊢
  cases ha : a.testBit i <;> cases hb : b.testBit i <;> simp_all
 ·intro h; rw [h, Nat.xor_self]
theorem cm_of (h : (a ^^^ (a &&& b) = 0) ∨ (b ^^^ (b &&& a) = 0)) : Cm a b := by
 rw [xor_and, xor_and] at h
 rcases h with h | h
 ·exact .inl h
 ·exact .inr (by rw [Nat.and_comm]; exact h)
theorem cm_not (h1 : a ^^^ (a &&& b) ≠ 0) (h2 : b ^^^ (b &&& a) ≠ 0) : ¬ Cm a b := by
 rw [Ne, xor_and] at h1 h2
 rintro (h | h)
 ·exact h1 h
 ·exact h2 (by rw [Nat.and_comm]; exact h)
end
def nK (r : Nat → Nat) (s : Nat) (T : List Nat) (k : Nat) : List Nat := (List.range k).map fun j => nN r s (T.getD j 0)
theorem nK_len {r : Nat → Nat} {s : Nat} {T : List Nat} {k : Nat} : (nK r s T k).length = k := by unfold nK; simp
theorem nK_succ {r : Nat → Nat} {s : Nat} {T : List Nat} {k : Nat} : nK r s T (k + 1) = nK r s T k ++ [nN r s (T.getD k 0)] := by unfold nK; rw [List.range_succ, List.map_append]; rfl
theorem nK_at {r : Nat → Nat} {s : Nat} {T : List Nat} {k j : Nat} (h : j < k) : (nK r s T k).getD j 0 = nN r s (T.getD j 0) := by unfold nK; simp [List.getD, h]
end Go.Proofs.YtppkokgiojcgbaaGreatDoor
