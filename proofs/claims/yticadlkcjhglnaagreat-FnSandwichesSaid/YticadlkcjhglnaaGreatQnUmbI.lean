/-
  Several texts in one.
-/
import Derived.Test.YticadlkcjhglnaaGreatQnOptS
import Derived.Test.YticadlkcjhglnaaGreatQnGC
import Derived.Test.YticadlkcjhglnaaGreatQnSet2I
/-
-/
namespace Go.Proofs.YticadlkcjhglnaaGreat
open Go.RowKit
section
variable {w w' : World} {A : Option Addr} {c lo m : Nat} {r : Nat → Nat}
theorem ON.set {q : Nat} {AL : Option Addr} {cL : Nat} {L : List Nat} (h : ON (q + 1) w AL cL L) (x y : Value) : ON (q + 1) ((w.setCell ⟨q, 0, none⟩ x).setCell ⟨q, 1, none⟩ y) AL cL L :=
 ⟨(h.own.keep (fr2 w q x y) (.inr (Nat.le_refl _))).mono (Nat.le_refl _) (fr2 w q x y).size⟩
end
end Go.Proofs.YticadlkcjhglnaaGreat

/-
-/
namespace Go.Proofs.YticadlkcjhglnaaGreat
open Go.RowKit
def Ub (r : Nat → Nat) (l : List Nat) (i k j : Nat) : Prop := (r (l.getD i 0)).testBit (l.getD k 0) = true → (r (l.getD i 0)).testBit (l.getD j 0) = true ∧ (r (l.getD k 0)).testBit (l.getD j 0) = true
def Um (r : Nat → Nat) (l : List Nat) : Prop := ∀ i k j, i < j → j < k → k < l.length → Ub r l i k j
noncomputable def umB (r : Nat → Nat) (l : List Nat) : Bool := @decide (Um r l) (Classical.propDecidable _)
section
variable {r : Nat → Nat} {l : List Nat}
theorem um_yes (h : Um r l) : umB r l = true := @decide_eq_true _ (Classical.propDecidable _) h
theorem um_no (h : ¬ Um r l) : umB r l = false := @decide_eq_false _ (Classical.propDecidable _) h
def Um1 (r : Nat → Nat) (l : List Nat) (i : Nat) : Prop := ∀ i', i' < i → ∀ k j, i' < j → j < k → k < l.length → Ub r l i' k j
def Um2 (r : Nat → Nat) (l : List Nat) (i k : Nat) : Prop := ∀ k', k' < k → ∀ j, i < j → j < k' → Ub r l i k' j
def Um3 (r : Nat → Nat) (l : List Nat) (i k j : Nat) : Prop := ∀ j', i < j' → j' < j → Ub r l i k j'
theorem Um1.zero : Um1 r l 0 := fun i' h => absurd h (by omega)
theorem Um2.zero {i : Nat} : Um2 r l i (i + 2) := fun k' h j h1 h2 => absurd h1 (by omega)
theorem Um3.zero {i k : Nat} : Um3 r l i k (i + 1) := fun j' h1 h2 => absurd h1 (by omega)
theorem Um3.step {i k j : Nat} (h : Um3 r l i k j) (h2 : Ub r l i k j) : Um3 r l i k (j + 1) := fun j' h3 h4 => by
 by_cases e : j' < j
 ·exact h j' h3 e
 ·obtain rfl : j' = j := by omega
  exact h2
theorem Um2.step {i k : Nat} (h : Um2 r l i k) (h2 : Um3 r l i k k) : Um2 r l i (k + 1) := fun k' h3 j h4 h5 => by
 by_cases e : k' < k
 ·exact h k' e j h4 h5
 ·obtain rfl : k' = k := by omega
  exact h2 j h4 h5
theorem Um2.skip {i k : Nat} (h : Um2 r l i k) (h2 : (r (l.getD i 0)).testBit (l.getD k 0) = false) : Um2 r l i (k + 1) := h.step fun j _ _ h3 => by rw [h2] at h3; cases h3
theorem Um1.step {i k : Nat} (h : Um1 r l i) (h2 : Um2 r l i k) (hk : l.length ≤ k) : Um1 r l (i + 1) := fun i' h3 k' j h4 h5 h6 => by
 by_cases e : i' < i
 ·exact h i' e k' j h4 h5 h6
 ·obtain rfl : i' = i := by omega
  exact h2 k' (by omega) j h4 h5
theorem Um1.all {i : Nat} (h : Um1 r l i) (hi : l.length ≤ i) : Um r l := fun i' k j h1 h2 h3 => h i' (by omega) k j h1 h2 h3
theorem um_bad {i k j : Nat} (h1 : i < j) (h2 : j < k) (h3 : k < l.length) (h : ¬ Ub r l i k j) : umB r l = false := um_no fun hu => h (hu i k j h1 h2 h3)
end
def nats (l : List Int) : List Nat := l.map Int.toNat
theorem LI.ln {w : World} {A : Option Addr} {n c : Nat} {l : List Int} {m : Nat} (h : LI w A n c l) (hV : VZ m l) : LN w A c (nats l) := by
 have hl : (nats l).length = n := by rw [h.len]; unfold nats; simp
 refine ⟨?_⟩
 rw [hl]
 refine h.rd.congr fun k hk => ?_
 have hk2 : k < l.length := by rw [← h.len]; exact hk
 have := (hV.2 _ (getD_mem hk2)).1
 unfold nats
 simp only [List.getD, List.getElem?_map, List.getElem?_eq_getElem hk2, Option.map_some, Option.getD_some] at this ⊢
 omega
theorem getD_lt {m : Nat} {l : List Nat} (h : ∀ v ∈ l, v < m) {j : Nat} (hj : j < l.length) : l.getD j 0 < m := by
 have : l.getD j 0 = l[j] := by simp [List.getD, hj]
 rw [this]; exact h _ (List.getElem_mem hj)
end Go.Proofs.YticadlkcjhglnaaGreat

/-
-/
namespace Go.Proofs.YticadlkcjhglnaaGreat
open Go.RowKit
theorem has_q {s v : Nat} {b : Bool} (hs : s < 128) (hv : v < 64) (hb : s.testBit v = b) : ∀ w : World, Calls Tryz.prog 49 #[.int .i64 (s : Int), .int .i64 (v : Int)] w fun e w' => e = .returned (.bool b) ∧ w' = w := fun w =>
 (has_v w hs hv).mono fun _ _ ⟨h1, h2⟩ => ⟨by rw [h1, hb], h2.symm⟩
theorem LN.cell {w : World} {b o c j : Nat} {l : List Nat} (h : LN w (some ⟨b, o, none⟩) c l) (hj : j < l.length) : w.cell? ⟨b, o + j, none⟩ = some (.int .i64 (l.getD j 0 : Nat)) := by
 rw [h.at hj]; simp [List.getD, hj]
set_option maxRecDepth 100000 in
set_option maxHeartbeats 3200000 in
theorem isUmbrella_v {A : Option Addr} {m c : Nat} {r : Nat → Nat} {Al : Option Addr} {cl : Nat} {l : List Nat} {w : World} (h : GV w A m c r) (hl : LN w Al cl l) (hlt : ∀ v ∈ l, v < m) (hlen : l.length ≤ 7) :
 Calls Tryz.prog 192 #[.agg #[.int .i64 m, .slice A m c], .slice Al l.length cl] w fun e w' => e = .returned (.bool (umB r l)) ∧ Below w.heap.size w w' := by
 have hn7 := h.vg.n7
 have HL := Lib.hid hl
 have Hlt := Lib.hid hlt
 have HV := Lib.hid h.vg
 obtain ⟨b0, o0, rfl⟩ := h.addr
 clear hl hlt
 obtain ⟨W, hW⟩ : ∃ W : World, W = (w.alloc (Obj.cells #[Value.int IntKind.i64 m, Value.slice (some ⟨b0, o0, none⟩) m c] 26)) := ⟨_, rfl⟩
 have HB : Hid (From w W) := by rw [hW]; exact From.alloc _ _
 have HG : Hid (GBox W w.heap.size (some ⟨b0, o0, none⟩) m c r) := by rw [hW]; exact h.box
 have HW := Lib.hid hW
 clear hW h
 have e0 := HG.out.c0
 have e1 := HG.out.c1
 replace HL := Lib.hid (HL.out.keep HB.out.below)
 have HR0 : Hid (From W W) := From.refl W
 go_enter Tryz.func192, Tryz.ntmps192
 go_wp2_with fail
 rw [← HW.out]
 clear HW e0 e1
 go_wp2
 go_loopw [11] (fun i wr => ∃ k : Nat, k ≤ l.length ∧ i = .int .i64 k ∧ Hid (Um1 r l k) ∧ Hid (From W wr)) (fun i _ => l.length - (intOf i).toNat)
 case atStart => exact ⟨0, Nat.zero_le _, rfl, Um1.zero, HR0⟩
 case round =>
  clear HR0
  obtain ⟨i, hi, rfl, H1, HR⟩ := hrel
  by_cases hil : i < l.length
  ·have i1 : (i : Int) < (l.length : Int) := by omega
   have s1 : wrap64 ((i : Int) + 2) = ((i + 2 : Nat) : Int) := by rw [Go.IntWalk.wrap64_in _ (by omega)]; simp
   have s2 : IntKind.i64.wrap ((i : Int) + 2) = ((i + 2 : Nat) : Int) := by rw [Go.IntWalk.i64_in _ (by omega)]; simp
   go_wp2
   go_loopw [6] (fun j wr => ∃ k : Nat, i + 2 ≤ k ∧ k ≤ l.length + 1 ∧ j = .int .i64 k ∧ Hid (Um2 r l i k) ∧ Hid (From W wr)) (fun j _ => l.length + 1 - (intOf j).toNat)
   case atStart => exact ⟨i + 2, Nat.le_refl _, by omega, by first | rfl | exact congrArg (Value.int .i64) s1 | simp, Um2.zero, HR⟩
   case round =>
    clear HR s1 s2
    obtain ⟨k, hk2, hk, rfl, H2, HR⟩ := hrel
    by_cases hkl : k < l.length
    ·have i2 : (k : Int) < (l.length : Int) := by omega
     have HGr := Lib.hid (HG.out.keep HR.out.below)
     have HLr := Lib.hid (HL.out.keep HR.out.below)
     obtain ⟨bl, ol, rfl⟩ := HLr.out.addr (by omega)
     have e1 := HGr.out.c1
     have p0 := HLr.out.cell hil
     have p1 := HLr.out.cell hkl
     have hu := getD_lt Hlt.out hil
     have hv := getD_lt Hlt.out hkl
     obtain ⟨u, hu'⟩ : ∃ u, u = l.getD i 0 := ⟨_, rfl⟩
     obtain ⟨v, hv'⟩ : ∃ v, v = l.getD k 0 := ⟨_, rfl⟩
     rw [← hu'] at p0 hu
     rw [← hv'] at p1 hv
     have Hu := Lib.hid hu'
     have Hv := Lib.hid hv'
     have q0 := HGr.out.gv.row hu
     have hr := HV.out.lt128 hu
     obtain ⟨x, hx⟩ : ∃ x, x = r u := ⟨_, rfl⟩
     rw [← hx] at q0 hr
     have i3 : (u : Int) < (m : Int) := by omega
     have Hx := Lib.hid hx
     clear hu' hv' hx
     cases he : x.testBit v
     ·have K1 := Lib.hid (has_q hr (by omega) he)
      have H2' : Hid (Um2 r l i (k + 1)) := H2.out.skip (by rw [← Hu.out, ← Hv.out, ← Hx.out]; exact he)
      clear he
      go_wp2
      go_quiet (first | (go_at_call 49; with_reducible exact Calls.quiet_of_same (K1.out _)))
      go_wp2
      go_roundw
      case rel => exact ⟨k + 1, by omega, by omega, by go_num, H2', HR.out.drewN _⟩
      case measure => (simp [intOf] <;> omega)
     ·have K1 := Lib.hid (has_q hr (by omega) he)
      have He := Lib.hid he
      have s1 : wrap64 ((i : Int) + 1) = ((i + 1 : Nat) : Int) := by rw [Go.IntWalk.wrap64_in _ (by omega)]; simp
      have s2 : IntKind.i64.wrap ((i : Int) + 1) = ((i + 1 : Nat) : Int) := by rw [Go.IntWalk.i64_in _ (by omega)]; simp
      have hcl := HLr.out.le
      clear he
      go_wp2
      go_quiet (first | (go_at_call 49; with_reducible exact Calls.quiet_of_same (K1.out _)))
      have HRq : Hid (From W (wr.drewN nq)) := HR.out.drewN _
      obtain ⟨wq, hwq⟩ : ∃ wq : World, wq = wr.drewN nq := ⟨_, rfl⟩
      rw [← hwq] at HRq ⊢
      clear hwq HGr HLr e1 p0 p1 q0 HR K1
      go_wp2
      go_loopw [42] (fun j wr => ∃ t : Nat, t ≤ k - (i + 1) ∧ j = .int .i64 t ∧ Hid (Um3 r l i k (i + 1 + t)) ∧ Hid (From W wr)) (fun j _ => k - (i + 1) - (intOf j).toNat)
      case atStart => exact ⟨0, Nat.zero_le _, rfl, Um3.zero, HRq⟩
      case round =>
       clear HRq s1 s2
       obtain ⟨t, ht, rfl, H3, HR⟩ := hrel
       by_cases htk : t < k - (i + 1)
       ·have i4 : (t : Int) < ((k - (i + 1) : Nat) : Int) := by omega
        have HGr := Lib.hid (HG.out.keep HR.out.below)
        have HLr := Lib.hid (HL.out.keep HR.out.below)
        have e1 := HGr.out.c1
        have p0 := HLr.out.cell hil
        have p1 := HLr.out.cell hkl
        rw [← Hu.out] at p0
        rw [← Hv.out] at p1
        have hj : i + 1 + t < l.length := by omega
        have p2 := HLr.out.cell hj
        have hy := getD_lt Hlt.out hj
        obtain ⟨y, hy'⟩ : ∃ y, y = l.getD (i + 1 + t) 0 := ⟨_, rfl⟩
        rw [← hy'] at p2 hy
        have Hy := Lib.hid hy'
        rw [show ol + (i + 1 + t) = ol + (i + 1) + t by omega] at p2
        have q0 := HGr.out.gv.row hu
        rw [← Hx.out] at q0
        have q1 := HGr.out.gv.row hv
        have hr2 := HV.out.lt128 hv
        obtain ⟨x2, hx2⟩ : ∃ x2, x2 = r v := ⟨_, rfl⟩
        rw [← hx2] at q1 hr2
        have Hx2 := Lib.hid hx2
        have i5 : (v : Int) < (m : Int) := by omega
        have HBr := Lib.hid (HB.out.up HR.out)
        clear hy' hx2 hj
        cases h1 : x.testBit y
        ·have K1 := Lib.hid (has_q hr (by omega) h1)
         have Hn : Hid (umB r l = false) := um_bad (i := i) (k := k) (j := i + 1 + t) (by omega) (by omega) hkl fun hb => by
          have := (hb (by rw [← Hu.out, ← Hv.out, ← Hx.out]; exact He.out)).1
          rw [← Hu.out, ← Hy.out, ← Hx.out, h1] at this
          cases this
         clear h1
         go_wp2
         go_quiet (first | (go_at_call 49; with_reducible exact Calls.quiet_of_same (K1.out _)))
         go_wp2
         go_ret
         exact ⟨ret_bool Hn.out.symm, (HBr.out.drewN _).below⟩
        ·have K1 := Lib.hid (has_q hr (by omega) h1)
         have H1' := Lib.hid h1
         clear h1
         cases h2 : x2.testBit y
         ·have K2 := Lib.hid (has_q hr2 (by omega) h2)
          have Hn : Hid (umB r l = false) := um_bad (i := i) (k := k) (j := i + 1 + t) (by omega) (by omega) hkl fun hb => by
           have := (hb (by rw [← Hu.out, ← Hv.out, ← Hx.out]; exact He.out)).2
           rw [← Hv.out, ← Hy.out, ← Hx2.out, h2] at this
           cases this
          clear h2
          go_wp2
          go_quiet (first | (go_at_call 49; with_reducible exact Calls.quiet_of_same (K1.out _)) | (go_at_call 49; with_reducible exact Calls.quiet_of_same (K2.out _)))
          go_wp2
          go_ret
          exact ⟨ret_bool Hn.out.symm, (HBr.out.drewN _).below⟩
         ·have K2 := Lib.hid (has_q hr2 (by omega) h2)
          have H3' : Hid (Um3 r l i k (i + 1 + (t + 1))) := H3.out.step fun _ => ⟨by rw [← Hu.out, ← Hy.out, ← Hx.out]; exact H1'.out, by rw [← Hv.out, ← Hy.out, ← Hx2.out]; exact h2⟩
          clear h2
          go_wp2
          go_quiet (first | (go_at_call 49; with_reducible exact Calls.quiet_of_same (K1.out _)) | (go_at_call 49; with_reducible exact Calls.quiet_of_same (K2.out _)))
          go_wp2
          go_roundw
          case rel => exact ⟨t + 1, by omega, by go_num, H3', HR.out.drewN _⟩
          case measure => (simp [intOf] <;> omega)
       ·have H2' : Hid (Um2 r l i (k + 1)) := H2.out.step fun j h1 h2 => H3.out j h1 (by omega)
        have i4 : ((k - (i + 1) : Nat) : Int) ≤ (t : Int) := by omega
        go_wp2
        go_roundw
        case rel => exact ⟨k + 1, by omega, by omega, by go_num, H2', HR⟩
        case measure => (simp [intOf] <;> omega)
    ·have H1' : Hid (Um1 r l (i + 1)) := H1.out.step H2.out (by omega)
     have i2 : (l.length : Int) ≤ (k : Int) := by omega
     go_wp2
     go_roundw
     case rel => exact ⟨i + 1, by omega, by go_num, H1', HR⟩
     case measure => (simp [intOf] <;> omega)
  ·have Hy : Hid (umB r l = true) := um_yes (H1.out.all (by omega))
   have HBr := Lib.hid (HB.out.up HR.out)
   have i1 : (l.length : Int) ≤ (i : Int) := by omega
   go_wp2
   go_ret
   exact ⟨ret_bool Hy.out.symm, HBr.out.below⟩
end Go.Proofs.YticadlkcjhglnaaGreat
