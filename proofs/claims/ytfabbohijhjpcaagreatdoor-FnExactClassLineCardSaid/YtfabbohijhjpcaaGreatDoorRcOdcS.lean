/-
-/
import Derived.Test.YtfabbohijhjpcaaGreatDoorRcObfI
import Derived.Test.YtfabbohijhjpcaaGreatDoorRcHolS
import Derived.Test.YtfabbohijhjpcaaGreatDoorRcGC
import Derived.Test.YtfabbohijhjpcaaGreatDoorRcTake
namespace Go.Proofs.YtfabbohijhjpcaaGreatDoor
open Go.RowKit
theorem l8_v {Al : Option Addr} {cl v : Nat} {l : List Nat} {z : World} (h : LN z Al cl l) (hl : l.length ≤ 6) : Calls Tryz.prog 256 #[.slice Al l.length cl, .int .i64 v] z fun e w' => e = .returned (.bool (decide (v ∈ l))) ∧ Below z.heap.size z w' :=
 (l8Has_s Al l.length cl l v z z.heap.size ⟨rfl, h.rd⟩ (by omega)).mono fun _ _ ⟨h1, h2⟩ => ⟨h1, h2 ▸ Below.refl _ _⟩
theorem edZ_nat {r : Nat → Nat} {a b : Nat} : edZ (fun v => (r v : Int)) (a : Nat) (b : Nat) = (r a).testBit b := by
 unfold edZ rw_
 simp
theorem lastZ {l : List Nat} {v : Nat} : (l ++ [v]).getD ((l ++ [v]).length - 1) 0 = v := by
 simp [List.getD]
theorem mayC_0 {r : Nat → Nat} {l : List Nat} {v : Nat} (h : l.length = 0) : mayC r (l ++ [v]) = true := by
 unfold mayC
 rw [List.length_append, h]
 rfl
theorem mayC_e {r : Nat → Nat} {l : List Nat} {v : Nat} (h : 0 < l.length) : mayC r (l ++ [v]) = (r (l.getD (l.length - 1) 0)).testBit v := by
 unfold mayC
 rw [lastZ, edZ_nat, decide_eq_false (by rw [List.length_append, List.length_singleton]; omega), Bool.false_or, List.length_append, List.length_singleton, show l.length + 1 - 2 = l.length - 1 by omega]
 simp only [List.getD_eq_getElem?_getD, List.getElem?_append_left (show l.length - 1 < l.length by omega)]
theorem IsOddCycle_sv {A : Option Addr} {m c : Nat} {r : Nat → Nat} {w : World} (h : GV w A m c r) {Al : Option Addr} {cl : Nat} {l : List Nat} (hl : LN w Al cl l) (hlen : l.length ≤ 7) :
 Calls Tryz.prog 276 #[.agg #[.int .i64 m, .slice A m c], .slice Al l.length cl] w fun e w' => e = .returned (.bool (ocR r m l)) ∧ Below w.heap.size w w' :=
 IsOddCycle_s m A m c _ Al l.length cl _ w h.ga hl.li (by have := h.vg.n7; omega) (by omega)
set_option maxRecDepth 100000 in
set_option maxHeartbeats 6400000 in
theorem l20_s {A : Option Addr} {m c : Nat} {r : Nat → Nat} {n : Nat} (hn7 : n ≤ 7) : ∀ (j : Nat) (l : List Nat) (Al : Option Addr) (cl : Nat) (w : World) (lo : Nat), l.length + j = n → (∀ v ∈ l, v < m) → GV w A m c r → ON lo w Al cl l → lo ≤ w.heap.size →
 Calls Tryz.prog 193 #[.agg #[.int .i64 m, .slice A m c], .slice Al l.length cl, .int .i64 n] w (seQ w lo (seaG m (mayC r) (ocR r m) j l)) := by
 intro j
 induction j with
 | zero =>
   intro l Al cl w lo hlm hlt h hO hlo
   have heq : ((l.length : Int) == (n : Int)) = true := by simp; omega
   have heq2 : (l.length = n) = True := by simp; omega
   have hl7 : l.length ≤ 7 := by omega
   have HO := Lib.hid hO
   have HS : Hid (seaG m (mayC r) (ocR r m) 0 l = if (ocR r m) l = true then some l else none) := by show _ = _; unfold seaG; rfl
   clear hO hlm hlt
   obtain ⟨W, hW⟩ : ∃ W : World, W = (w.alloc (Obj.cells #[Value.int IntKind.i64 m, Value.slice A m c] 26)) := ⟨_, rfl⟩
   have HB : Hid (From w W) := by rw [hW]; exact From.alloc _ _
   have HG : Hid (GBox W w.heap.size A m c r) := by rw [hW]; exact h.box
   have HW := Lib.hid hW
   clear hW h
   have e0 := HG.out.c0
   have e1 := HG.out.c1
   replace HO := Lib.hid (HO.out.keep HB.out.below)
   have KH := Lib.hid (IsOddCycle_sv HG.out.gv HO.out.ln hl7)
   cases hh : (ocR r m) l
   ·rw [hh] at KH HS
    clear hh
    go_enter Tryz.func193, Tryz.ntmps193
    go_wp2_with fail
    rw [← HW.out]
    refine (KH.out).mono ?_
    rintro e w1 ⟨rfl, hb1⟩
    clear HW
    clear e0 e1
    replace HB := Lib.hid (HB.out.keep hb1)
    replace HO := Lib.hid (HO.out.keep hb1)
    replace HG := Lib.hid (HG.out.keep hb1)
    clear hb1
    have e0 := HG.out.c0
    have e1 := HG.out.c1
    go_wp2
    go_ret2
    rw [HS.out]
    exact seQ.none_ HB.out.below
   ·rw [hh] at KH HS
    clear hh
    go_enter Tryz.func193, Tryz.ntmps193
    go_wp2_with fail
    rw [← HW.out]
    refine (KH.out).mono ?_
    rintro e w2 ⟨rfl, hb2⟩
    clear HW
    clear e0 e1
    replace HB := Lib.hid (HB.out.keep hb2)
    replace HO := Lib.hid (HO.out.keep hb2)
    replace HG := Lib.hid (HG.out.keep hb2)
    clear hb2
    have e0 := HG.out.c0
    have e1 := HG.out.c1
    go_wp2
    go_ret2
    rw [HS.out]
    exact seQ.some_ HO.out HB.out.below
 | succ j ih =>
   intro l Al cl w lo hlm hlt h hO hlo
   have IH := Lib.hid ih
   have hne : ((l.length : Int) == (n : Int)) = false := by simp; omega
   have hne2 : (l.length = n) = False := by simp; omega
   have hm7 := h.vg.n7
   have Hlm := Lib.hid hlm
   have Hlt := Lib.hid hlt
   have hl7 : l.length ≤ 6 := by omega
   have HO := Lib.hid hO
   clear ih hO hlm hlt
   obtain ⟨W, hW⟩ : ∃ W : World, W = (w.alloc (Obj.cells #[Value.int IntKind.i64 m, Value.slice A m c] 26)) := ⟨_, rfl⟩
   have HB : Hid (From w W) := by rw [hW]; exact From.alloc _ _
   have HG : Hid (GBox W w.heap.size A m c r) := by rw [hW]; exact h.box
   have HW := Lib.hid hW
   clear hW h
   have e0 := HG.out.c0
   have e1 := HG.out.c1
   replace HO := Lib.hid (HO.out.keep HB.out.below)
   have hz := HB.out.below.size
   have HR0 : Hid (From W W) := From.refl W
   go_enter Tryz.func193, Tryz.ntmps193
   go_wp2_with fail
   rw [← HW.out]
   go_wp2
   go_loopw [8] (fun i wr => ∃ v : Nat, v ≤ m ∧ i = .int .i64 v ∧ Hid (∀ u, u < v → atG m (mayC r) (ocR r m) j l u = none) ∧ Hid (From W wr)) (fun i _ => m - (intOf i).toNat)
   case atStart => exact ⟨0, Nat.zero_le _, rfl, (fun u hu => absurd hu (by omega)), HR0⟩
   case round =>
    clear HR0 e0 e1
    obtain ⟨v, hv, rfl, hall, HR⟩ := hrel
    by_cases hvm : v < m
    ·have i1 : (v : Int) < (m : Int) := by omega
     have HBr := Lib.hid (HB.out.up HR.out)
     have HGr := Lib.hid (HG.out.keep HR.out.below)
     have HOr := Lib.hid (HO.out.keep HR.out.below)
     have HLr : Hid (LN wr Al cl l) := HOr.out.ln
     have HGr0 := HGr
     have hzr := HBr.out.below.size
     have Hlt2 : Hid (∀ u ∈ l ++ [v], u < m) := by
      intro u hu
      rw [List.mem_append, List.mem_singleton] at hu
      rcases hu with hu | rfl
      ·exact Hlt.out u hu
      ·exact hvm
     by_cases hvl : v ∈ l
     ·have Hno : Hid (atG m (mayC r) (ocR r m) j l v = none) := atG_no (okG_in hvl)
      have K8 : Hid (∀ {z : World}, LN z Al cl l → Calls Tryz.prog 256 #[.slice Al l.length cl, .int .i64 v] z fun e w' => e = .returned (.bool true) ∧ Below z.heap.size z w') := fun h => by
       have := l8_v (v := v) h hl7
       rwa [decide_eq_true hvl] at this
      clear hvl
      have e0 := HGr.out.c0
      have e1 := HGr.out.c1
      go_wp2
      have HSC : Hid (∀ z : World, Below wr.heap.size wr z → (Below wr.heap.size wr z ∧ z.cell? ⟨w.heap.size, 0, none⟩ = some (.int .i64 m) ∧ z.cell? ⟨w.heap.size, 1, none⟩ = some (.slice A m c))) := fun z hz => ⟨hz, up_ hz e0, up_ hz e1⟩
      have HZ0 : Hid (Below wr.heap.size wr wr.drew) := (Below.refl _ _).drew
      have HS1 := Lib.hid (HSC.out _ HZ0.out)
      have KR1 : Hid (∀ z : World, Below wr.heap.size wr z → _) := fun z hz => K8.out (HLr.out.keep hz)
      refine wp_region_held_drew (S := fun z => Below wr.heap.size wr z ∧ z.cell? ⟨w.heap.size, 0, none⟩ = some (.int .i64 m) ∧ z.cell? ⟨w.heap.size, 1, none⟩ = some (.slice A m c)) (by kernel_rfl) HS1.out (fun hHeld => ?_)
      refine pcY 0 rfl rfl (by kernel_rfl) (by rfl) (by intro w u; (try dsimp only at u); go_simp <;> with_reducible rfl) ‹_› (fun _ _ _ h => h) ?_; simp only [Act.put, sl0, sl1, sl2]
      refine ptY rfl rfl (by kernel_rfl) (by rfl) (by intro w u; (try dsimp only at u); go_simp <;> with_reducible rfl) ‹_› (fun _ _ _ h => h) ?_; simp only [Act.put, sl0, sl1, sl2]
      refine wpAnyH_ready (rs := [2]) (by kernel_rfl) (by simp) ?_
      refine AllReadyH.cons rfl (fun K hK => ?_) AllReadyH.nil
      go_simp
      go_at_call 256; refine (KR1.out _ HZ0.out).mono ?_
      rintro e w3 ⟨rfl, hb3⟩
      have hz3 := bl_trans HZ0.out hb3
      refine hK.out _ _ (HSC.out _ hz3) (fun hHeld => ?_)
      clear hK K
      try simp only [Act.put, sl0, sl1, sl2]
      refine ptY rfl rfl (by kernel_rfl) (by rfl) (by intro w u; (try dsimp only at u); go_simp <;> with_reducible rfl) ‹_› (fun _ _ _ h => h) ?_; simp only [Act.put, sl0, sl1, sl2]
      iterate 15 (refine ptN rfl rfl (by kernel_rfl) (by rfl) ‹_› (fun _ _ _ h => h) ?_; simp only [Act.put, sl0, sl1, sl2])
      refine ptY rfl rfl (by kernel_rfl) (by rfl) (by intro w u; (try dsimp only at u); go_simp <;> with_reducible rfl) ‹_› (fun _ _ _ h => h) ?_; simp only [Act.put, sl0, sl1, sl2]
      refine wpAnyH_done (by kernel_rfl) ?_ _
      clear e0 e1
      replace HR := Lib.hid (HR.out.keep hz3)
      replace HGr := Lib.hid (HGr.out.keep hz3)
      clear hb3 hz3 HSC HZ0 HS1 KR1
      have e0 := HGr.out.c0
      have e1 := HGr.out.c1
      go_wp2
      go_roundw
      case rel =>
       refine ⟨v + 1, by omega, by go_num, fun u hu => ?_, HR⟩
       by_cases huv : u < v
       ·exact hall.out u huv
       ·obtain rfl : u = v := by omega
        exact Hno.out
      case measure => (simp [intOf] <;> omega)
     ·have Hokd : Hid (okG (mayC r) l v = (mayC r) (l ++ [v])) := okG_out hvl
      have K8 : Hid (∀ {z : World}, LN z Al cl l → Calls Tryz.prog 256 #[.slice Al l.length cl, .int .i64 v] z fun e w' => e = .returned (.bool false) ∧ Below z.heap.size z w') := fun h => by
       have := l8_v (v := v) h hl7
       rwa [decide_eq_false hvl] at this
      clear hvl
      by_cases h0 : l.length = 0
      ·have Hok : Hid (okG (mayC r) l v = true) := Hokd.out.trans (mayC_0 h0)
       have q0 : ¬ (0 : Int) < (l.length : Int) := by omega
       have q1 : (l.length : Int) ≤ 0 := by omega
       have q2 : decide ((0 : Int) < (l.length : Int)) = false := decide_eq_false q0
       have q3 : (l.length : Int) < 3 := by omega
       have q4 : decide ((l.length : Int) < 3) = true := decide_eq_true q3
       have q5 : decide (l.length < 3) = true := decide_eq_true (by omega)
       have q6 : decide (0 < l.length) = false := decide_eq_false (by omega)
       clear h0
       have e0 := HGr.out.c0
       have e1 := HGr.out.c1
       go_wp2
       have HSC : Hid (∀ z : World, Below wr.heap.size wr z → (Below wr.heap.size wr z ∧ z.cell? ⟨w.heap.size, 0, none⟩ = some (.int .i64 m) ∧ z.cell? ⟨w.heap.size, 1, none⟩ = some (.slice A m c))) := fun z hz => ⟨hz, up_ hz e0, up_ hz e1⟩
       have HZ0 : Hid (Below wr.heap.size wr wr.drew) := (Below.refl _ _).drew
       have HS1 := Lib.hid (HSC.out _ HZ0.out)
       have KR1 : Hid (∀ z : World, Below wr.heap.size wr z → _) := fun z hz => K8.out (HLr.out.keep hz)
       refine wp_region_held_drew (S := fun z => Below wr.heap.size wr z ∧ z.cell? ⟨w.heap.size, 0, none⟩ = some (.int .i64 m) ∧ z.cell? ⟨w.heap.size, 1, none⟩ = some (.slice A m c)) (by kernel_rfl) HS1.out (fun hHeld => ?_)
       refine pcY 0 rfl rfl (by kernel_rfl) (by rfl) (by intro w u; (try dsimp only at u); go_simp <;> with_reducible rfl) ‹_› (fun _ _ _ h => h) ?_; simp only [Act.put, sl0, sl1, sl2]
       refine ptY rfl rfl (by kernel_rfl) (by rfl) (by intro w u; (try dsimp only at u); go_simp <;> with_reducible rfl) ‹_› (fun _ _ _ h => h) ?_; simp only [Act.put, sl0, sl1, sl2]
       refine wpAnyH_ready (rs := [2]) (by kernel_rfl) (by simp) ?_
       refine AllReadyH.cons rfl (fun K hK => ?_) AllReadyH.nil
       go_simp
       go_at_call 256; refine (KR1.out _ HZ0.out).mono ?_
       rintro e w4 ⟨rfl, hb4⟩
       have hz4 := bl_trans HZ0.out hb4
       refine hK.out _ _ (HSC.out _ hz4) (fun hHeld => ?_)
       clear hK K
       try simp only [Act.put, sl0, sl1, sl2]
       iterate 5 (refine ptY rfl rfl (by kernel_rfl) (by rfl) (by intro w u; (try dsimp only at u); go_simp <;> with_reducible rfl) ‹_› (fun _ _ _ h => h) ?_; simp only [Act.put, sl0, sl1, sl2])
       iterate 10 (refine ptN rfl rfl (by kernel_rfl) (by rfl) ‹_› (fun _ _ _ h => h) ?_; simp only [Act.put, sl0, sl1, sl2])
       iterate 2 (refine ptY rfl rfl (by kernel_rfl) (by rfl) (by intro w u; (try dsimp only at u); go_simp <;> with_reducible rfl) ‹_› (fun _ _ _ h => h) ?_; simp only [Act.put, sl0, sl1, sl2])
       refine wpAnyH_done (by kernel_rfl) ?_ _
       clear e0 e1
       replace HR := Lib.hid (HR.out.keep hz4)
       replace HOr := Lib.hid (HOr.out.keep hz4)
       replace HGr := Lib.hid (HGr.out.keep hz4)
       clear hb4 hz4 HSC HZ0 HS1 KR1
       have e0 := HGr.out.c0
       have e1 := HGr.out.c1
       clear q0 q1 q2 q3 q4 q5 q6
       have Hyes : Hid (atG m (mayC r) (ocR r m) j l v = seaG m (mayC r) (ocR r m) j (l ++ [v])) := atG_yes Hok.out
       obtain ⟨so, hso⟩ : ∃ so, so = seaG m (mayC r) (ocR r m) j (l ++ [v]) := ⟨_, rfl⟩
       have Hso := Lib.hid hso
       rw [← hso] at Hyes
       have HRl : Hid (Rd w4 w4.heap.size Al l.length cl (fun j => ((l.getD j 0 : Nat) : Int))) := HOr.out.ln.rd
       have hzr2 := HR.out.below.size
       have KI : Hid (∀ (z : World) (g6 cap : Nat), Below w4.heap.size w4 z → Own z w4.heap.size z.heap.size 3 1 (some ⟨g6, 0, none⟩) (l.length + 1) cap (ni (l ++ [v])) → Calls Tryz.prog 193 #[.agg #[.int .i64 m, .slice A m c], .slice (some ⟨g6, 0, none⟩) (l.length + 1) cap, .int .i64 n] z fun e w' => ∃ A' n' c', e = .returned (.tuple #[.slice A' n' c', .bool so.isSome]) ∧ (∀ x, so = some x → n' = x.length ∧ ON lo w' A' c' x) ∧ Below z.heap.size z w') := fun z g6 cap hz ho => by
        rw [Hso.out]
        have := IH.out (l ++ [v]) (some ⟨g6, 0, none⟩) cap z lo (by rw [List.length_append]; have := Hlm.out; simp; omega) Hlt2.out (HGr.out.gv.keep hz) ⟨by rw [List.length_append]; exact ho.mono (by omega) (Nat.le_refl _)⟩ (by have := hz.size; omega)
        rw [List.length_append] at this
        exact this
       clear hso
       go_wp2
       have HSC : Hid (∀ z : World, Below w4.heap.size w4 z → (Below w4.heap.size w4 z ∧ z.cell? ⟨w.heap.size, 0, none⟩ = some (.int .i64 m) ∧ z.cell? ⟨w.heap.size, 1, none⟩ = some (.slice A m c))) := fun z hz => ⟨hz, up_ hz e0, up_ hz e1⟩
       have HZ0 : Hid (Below w4.heap.size w4 w4.drew) := (Below.refl _ _).drew
       have HB1 : Hid (Below w4.heap.size w4 ((w4.alloc (Obj.cells #[] 3)).drew)) := ((Below.refl _ _).alloc (Nat.le_refl _) _).drew
       have HB2 : Hid (Below w4.heap.size w4 (((w4.alloc (Obj.cells #[] 3)).alloc (Obj.cells #[.int .i64 (v : Int)] 3)).drew)) := (((Below.refl _ _).alloc (Nat.le_refl _) _).alloc (by simp) _).drew
       have HB3 : Hid (Below w4.heap.size w4 (((w4.alloc (Obj.cells #[.int .i64 (v : Int)] 3)).alloc (Obj.cells #[] 3)).drew)) := (((Below.refl _ _).alloc (Nat.le_refl _) _).alloc (by simp) _).drew
       have HB4 : Hid (Below w4.heap.size w4 ((w4.alloc (Obj.cells #[.int .i64 (v : Int)] 3)).drew)) := ((Below.refl _ _).alloc (Nat.le_refl _) _).drew
       have HO1 : Hid (Own ((w4.alloc (Obj.cells #[] 3)).drew) w4.heap.size (w4.heap.size + 1) 3 1 (some ⟨w4.heap.size, 0, none⟩) 0 0 (ni [])) := .inr ⟨w4.heap.size, #[], rfl, Nat.le_refl _, Nat.lt_succ_self _, heap_alloc_new w4 _, Nat.le_refl _, by unfold maxLen; omega, rfl, fun j hj => absurd hj (by omega)⟩
       have HO2 : Hid (Own (((w4.alloc (Obj.cells #[] 3)).alloc (Obj.cells #[.int .i64 (v : Int)] 3)).drew) w4.heap.size (w4.heap.size + 1) 3 1 (some ⟨w4.heap.size, 0, none⟩) 0 0 (ni [])) := Own.alloc HO1.out _
       have HO3 : Hid (Own (((w4.alloc (Obj.cells #[.int .i64 (v : Int)] 3)).alloc (Obj.cells #[] 3)).drew) w4.heap.size (w4.heap.size + 1 + 1) 3 1 (some ⟨w4.heap.size + 1, 0, none⟩) 0 0 (ni [])) := by
        have hn := heap_alloc_new (w4.alloc (Obj.cells #[.int .i64 (v : Int)] 3)) (Obj.cells #[] 3)
        have he : (w4.alloc (Obj.cells #[.int .i64 (v : Int)] 3)).heap.size = w4.heap.size + 1 := by simp
        rw [he] at hn
        exact .inr ⟨w4.heap.size + 1, #[], rfl, by omega, Nat.lt_succ_self _, hn, Nat.le_refl _, by unfold maxLen; omega, rfl, fun j hj => absurd hj (by omega)⟩
       have HR1 : Hid (Rd ((w4.alloc (Obj.cells #[] 3)).drew) w4.heap.size Al (l).length cl (fun j => (((l).getD j 0 : Nat) : Int))) := HRl.out.keep HB1.out (Nat.le_refl _)
       have HR2 : Hid (Rd (((w4.alloc (Obj.cells #[] 3)).alloc (Obj.cells #[.int .i64 (v : Int)] 3)).drew) w4.heap.size Al (l).length cl (fun j => (((l).getD j 0 : Nat) : Int))) := HRl.out.keep HB2.out (Nat.le_refl _)
       have HR3 : Hid (Rd (((w4.alloc (Obj.cells #[.int .i64 (v : Int)] 3)).alloc (Obj.cells #[] 3)).drew) w4.heap.size Al (l).length cl (fun j => (((l).getD j 0 : Nat) : Int))) := HRl.out.keep HB3.out (Nat.le_refl _)
       have B2 : Hid ((((w4.alloc (Obj.cells #[] 3)).alloc (Obj.cells #[.int .i64 (v : Int)] 3)).drew).heap[w4.heap.size + 1]? = some (.cells #[.int .i64 (v : Int)] 3 (0, 0)) ∧ w4.heap.size + 1 < (((w4.alloc (Obj.cells #[] 3)).alloc (Obj.cells #[.int .i64 (v : Int)] 3)).drew).heap.size) := by
        have hn := heap_alloc_new (w4.alloc (Obj.cells #[] 3)) (Obj.cells #[.int .i64 (v : Int)] 3)
        have he : (w4.alloc (Obj.cells #[] 3)).heap.size = w4.heap.size + 1 := by simp
        rw [he] at hn
        exact ⟨hn, by show _ < ((w4.alloc _).alloc _).heap.size; simp⟩
       have B3 : Hid ((((w4.alloc (Obj.cells #[.int .i64 (v : Int)] 3)).alloc (Obj.cells #[] 3)).drew).heap[w4.heap.size]? = some (.cells #[.int .i64 (v : Int)] 3 (0, 0)) ∧ w4.heap.size < (((w4.alloc (Obj.cells #[.int .i64 (v : Int)] 3)).alloc (Obj.cells #[] 3)).drew).heap.size) :=
        ⟨(Below.heap_alloc (w4.alloc (Obj.cells #[.int .i64 (v : Int)] 3)) _ _ (by simp)).trans (heap_alloc_new w4 _), by show _ < ((w4.alloc _).alloc _).heap.size; simp; omega⟩
       have HC1 : Hid (∀ (z : World) (A1 : Option Addr) (k1 : Nat), Own z w4.heap.size z.heap.size 3 1 A1 (l).length k1 (fun j => .int .i64 (((l).getD j 0 : Nat) : Int)) → Own z w4.heap.size z.heap.size 3 1 A1 (l).length k1 (ni (l ++ [v]))) := by
        intro z A1 k1 h
        exact h.congr (fun j hj => by rw [ni_left hj]; rfl)
       have KR : Hid (∀ (z : World) (g6 cap : Nat), Below w4.heap.size w4 z → Own z w4.heap.size z.heap.size 3 1 (some ⟨g6, 0, none⟩) ((l).length + 1) cap (ni (l ++ [v])) → _) := fun z g6 cap hz ho => KI.out _ _ _ hz ho
       go_region_held3 (fun z => Below w4.heap.size w4 z ∧ z.cell? ⟨w.heap.size, 0, none⟩ = some (.int .i64 m) ∧ z.cell? ⟨w.heap.size, 1, none⟩ = some (.slice A m c))
        (first | exact HSC.out _ HZ0.out | exact HSC.out _ HB1.out | exact HSC.out _ HB2.out | exact HSC.out _ HB3.out | exact HSC.out _ HB4.out | exact HSC.out _ hz5 | exact HSC.out _ hzB | exact HSC.out _ (bl_alloc hzA) | exact HSC.out _ hzA | fail)
        (first
          | ((refine step_appendG0 _ (by rfl) _ _ (by rfl) (by rfl) HO1.out (by rfl) HR1.out HB1.out.size (by omega) ?_; intro A1 k1 wA hOA hbA hgA; have hzA := HB1.out.trans hbA; have hOA' := HC1.out _ _ _ hOA))
          | ((refine step_appendG0 _ (by rfl) _ _ (by rfl) (by rfl) HO2.out (by rfl) HR2.out HB2.out.size (by omega) ?_; intro A1 k1 wA hOA hbA hgA; have hzA := HB2.out.trans hbA; have hOA' := HC1.out _ _ _ hOA; have hB5 := (hgA.block (w4.heap.size + 1) B2.out.2 (by simp [Value.ownBlock])).trans B2.out.1))
          | ((refine step_appendG0 _ (by rfl) _ _ (by rfl) (by rfl) HO3.out (by rfl) HR3.out HB3.out.size (by omega) ?_; intro A1 k1 wA hOA hbA hgA; have hzA := HB3.out.trans hbA; have hOA' := HC1.out _ _ _ hOA; have hB5 := (hgA.block w4.heap.size B3.out.2 (by simp [Value.ownBlock])).trans B3.out.1))
          | ((refine step_push _ (by rfl) _ _ _ (by rfl) 3 _ 1 8 Tryz.underlying24 info_int rfl (by omega) w4.heap.size wA.heap.size A1 (l).length k1 (ni (l ++ [v])) (by rfl) (hOA'.alloc _) (by have := hzA.size; simp; omega) wA.heap.size #[.int .i64 (v : Int)] 3 (0, 0) 1 (heap_alloc_new wA _) (by rfl) rfl ni_news (by simp [Value.oneCell']) (by omega) (by omega) ?_; intro g6 cap wB hp; have hzB := (bl_alloc hzA).trans hp.below))
          | ((refine step_push _ (by rfl) _ _ _ (by rfl) 3 _ 1 8 Tryz.underlying24 info_int rfl (by omega) w4.heap.size wA.heap.size A1 (l).length k1 (ni (l ++ [v])) (by rfl) hOA' hzA.size (w4.heap.size + 1) #[.int .i64 (v : Int)] 3 (0, 0) 1 hB5 (by rfl) rfl ni_news (by simp [Value.oneCell']) (by omega) (by omega) ?_; intro g6 cap wB hp; have hzB := hzA.trans hp.below))
          | ((refine step_push _ (by rfl) _ _ _ (by rfl) 3 _ 1 8 Tryz.underlying24 info_int rfl (by omega) w4.heap.size wA.heap.size A1 (l).length k1 (ni (l ++ [v])) (by rfl) hOA' hzA.size w4.heap.size #[.int .i64 (v : Int)] 3 (0, 0) 1 hB5 (by rfl) rfl ni_news (by simp [Value.oneCell']) (by omega) (by omega) ?_; intro g6 cap wB hp; have hzB := hzA.trans hp.below))
          | (go_at_call 193; ((with_reducible refine (KR.out _ _ _ hzB hp.own).mono ?_); rintro e w5 ⟨A7, n7, c7, rfl, hx7, hb5⟩; have hz5 := bl_trans hzB hb5))
          | fail)
       all_goals clear e0 e1
       all_goals replace HR := Lib.hid (HR.out.keep hz5)
       all_goals replace HGr := Lib.hid (HGr.out.keep hz5)
       all_goals (try clear hB5)
       all_goals clear hz5 hb5 HSC HZ0 HB1 HB2 HB3 HB4 HO1 HO2 HO3 HR1 HR2 HR3 B2 B3 HC1 KR hp hzA hzB hOA hbA hgA hOA'
       all_goals have e0 := HGr.out.c0
       all_goals have e1 := HGr.out.c1
       all_goals
        have HX := Lib.hid hx7
        clear hx7 KI HRl HOr
        cases so with
        | none =>
          have Hn : Hid (atG m (mayC r) (ocR r m) j l v = none) := Hyes.out
          go_wp2
          go_roundw
          case rel =>
           refine ⟨v + 1, by omega, by go_num, fun u hu => ?_, HR⟩
           by_cases huv : u < v
           ·exact hall.out u huv
           ·obtain rfl : u = v := by omega
            exact Hn.out
          case measure => (simp [intOf] <;> omega)
        | some x =>
          have Hs : Hid (seaG m (mayC r) (ocR r m) (j + 1) l = some x) := seaG_some hvm Hyes.out hall.out
          obtain ⟨hn7', ho7⟩ := HX.out x rfl
          subst hn7'
          have HO7 := Lib.hid ho7
          have HBz := Lib.hid (HB.out.up HR.out)
          clear ho7
          go_wp2
          go_ret2
          rw [Hs.out]
          exact seQ.some_ HO7.out HBz.out.below
      have hl0 : 0 < l.length := by omega
      obtain ⟨y, hy⟩ : ∃ y, y = l.getD (l.length - 1) 0 := ⟨_, rfl⟩
      have hym : y < m := by rw [hy]; exact Hlt.out _ (by rw [List.getD_eq_getElem?_getD, List.getElem?_eq_getElem (by omega)]; exact List.getElem_mem _)
      obtain ⟨bl, ol, rfl⟩ := HLr.out.addr hl0
      have p0 : wr.cell? ⟨bl, ol + (l.length - 1), none⟩ = some (.int .i64 (y : Nat)) := by
       have := HLr.out.at (j := (l.length - 1)) (by omega)
       rw [hy, List.getD_eq_getElem?_getD, List.getElem?_eq_getElem (by omega)]
       exact this
      have hmd : (mayC r) (l ++ [v]) = (r y).testBit v := by rw [hy]; exact mayC_e hl0
      obtain ⟨t, ht⟩ : ∃ t, t = (r y).testBit v := ⟨_, rfl⟩
      have KE : Hid (∀ {z : World}, GV z A m c r → Calls Tryz.prog 45 #[.agg #[.int .i64 m, .slice A m c], .int .i64 y, .int .i64 v] z fun e w' => e = .returned (.bool t) ∧ Below z.heap.size z w') := by rw [ht]; exact fun h => l2Edge_v h hym hvm
      rw [← ht] at hmd
      have Hmd := Lib.hid hmd
      have q0 : (0 : Int) < (l.length : Int) := by omega
      have q2 : decide ((0 : Int) < (l.length : Int)) = true := decide_eq_true q0
      have q6 : decide (0 < l.length) = true := decide_eq_true hl0
      have q7 : ((l.length : Int) - 1).toNat = l.length - 1 := by omega
      have q8 : (l.length : Int) - 1 = ((l.length - 1 : Nat) : Int) := by omega
      have q9 : IntKind.i64.wrap ((l.length - 1 : Nat) : Int) = ((l.length - 1 : Nat) : Int) := IntWalk.i64_in _ (by omega)
      have qb : ((l.length - 1 : Nat) : Int) < (l.length : Int) := by omega
      have HCp : Hid (CL wr bl (ol + (l.length - 1)) (.int .i64 (y : Nat))) := ⟨p0⟩
      clear ht hmd hy p0 h0
      cases t
      ·have Hno : Hid (atG m (mayC r) (ocR r m) j l v = none) := atG_no (Hokd.out.trans Hmd.out)
       have e0 := HGr.out.c0
       have e1 := HGr.out.c1
       have p0 := HCp.out.c
       go_wp2
       have HSC : Hid (∀ z : World, Below wr.heap.size wr z → (Below wr.heap.size wr z ∧ z.cell? ⟨w.heap.size, 0, none⟩ = some (.int .i64 m) ∧ z.cell? ⟨w.heap.size, 1, none⟩ = some (.slice A m c) ∧ z.cell? ⟨bl, ol + (l.length - 1), none⟩ = some (.int .i64 (y : Nat)))) := fun z hz => ⟨hz, up_ hz e0, up_ hz e1, up_ hz p0⟩
       have HZ0 : Hid (Below wr.heap.size wr wr.drew) := (Below.refl _ _).drew
       have HS1 := Lib.hid (HSC.out _ HZ0.out)
       have KR1 : Hid (∀ z : World, Below wr.heap.size wr z → _) := fun z hz => K8.out (HLr.out.keep hz)
       have KR2 : Hid (∀ z : World, Below wr.heap.size wr z → _) := fun z hz => KE.out (HGr0.out.gv.keep hz)
       refine wp_region_held_drew (S := fun z => Below wr.heap.size wr z ∧ z.cell? ⟨w.heap.size, 0, none⟩ = some (.int .i64 m) ∧ z.cell? ⟨w.heap.size, 1, none⟩ = some (.slice A m c) ∧ z.cell? ⟨bl, ol + (l.length - 1), none⟩ = some (.int .i64 (y : Nat))) (by kernel_rfl) HS1.out (fun hHeld => ?_)
       refine pcY 0 rfl rfl (by kernel_rfl) (by rfl) (by intro w u; (try dsimp only at u); go_simp <;> with_reducible rfl) ‹_› (fun _ _ _ h => h) ?_; simp only [Act.put, sl0, sl1, sl2]
       refine ptY rfl rfl (by kernel_rfl) (by rfl) (by intro w u; (try dsimp only at u); go_simp <;> with_reducible rfl) ‹_› (fun _ _ _ h => h) ?_; simp only [Act.put, sl0, sl1, sl2]
       refine wpAnyH_ready (rs := [2]) (by kernel_rfl) (by simp) ?_
       refine AllReadyH.cons rfl (fun K hK => ?_) AllReadyH.nil
       go_simp
       go_at_call 256; refine (KR1.out _ HZ0.out).mono ?_
       rintro e w6 ⟨rfl, hb6⟩
       have hz6 := bl_trans HZ0.out hb6
       refine hK.out _ _ (HSC.out _ hz6) (fun hHeld => ?_)
       clear hK K
       try simp only [Act.put, sl0, sl1, sl2]
       iterate 13 (refine ptY rfl rfl (by kernel_rfl) (by rfl) (by intro w u; (try dsimp only at u); go_simp <;> with_reducible rfl) ‹_› (fun _ _ _ h => h) ?_; simp only [Act.put, sl0, sl1, sl2])
       refine wpAnyH_ready (rs := [16]) (by kernel_rfl) (by simp) ?_
       refine AllReadyH.cons rfl (fun K hK => ?_) AllReadyH.nil
       go_simp
       go_at_call 45; refine (KR2.out _ hz6).mono ?_
       rintro e w7 ⟨rfl, hb7⟩
       have hz7 := bl_trans hz6 hb7
       refine hK.out _ _ (HSC.out _ hz7) (fun hHeld => ?_)
       clear hK K
       try simp only [Act.put, sl0, sl1, sl2]
       iterate 3 (refine ptY rfl rfl (by kernel_rfl) (by rfl) (by intro w u; (try dsimp only at u); go_simp <;> with_reducible rfl) ‹_› (fun _ _ _ h => h) ?_; simp only [Act.put, sl0, sl1, sl2])
       refine wpAnyH_done (by kernel_rfl) ?_ _
       clear e0 e1 p0
       replace HR := Lib.hid (HR.out.keep hz7)
       replace HGr := Lib.hid (HGr.out.keep hz7)
       replace HCp := Lib.hid (HCp.out.keep hz7)
       clear hb6 hz6 hb7 hz7 HSC HZ0 HS1 KR1 KR2
       have e0 := HGr.out.c0
       have e1 := HGr.out.c1
       have p0 := HCp.out.c
       go_wp2
       go_roundw
       case rel =>
        refine ⟨v + 1, by omega, by go_num, fun u hu => ?_, HR⟩
        by_cases huv : u < v
        ·exact hall.out u huv
        ·obtain rfl : u = v := by omega
         exact Hno.out
       case measure => (simp [intOf] <;> omega)
      ·have Hok : Hid (okG (mayC r) l v = true) := Hokd.out.trans Hmd.out
       have e0 := HGr.out.c0
       have e1 := HGr.out.c1
       have p0 := HCp.out.c
       go_wp2
       have HSC : Hid (∀ z : World, Below wr.heap.size wr z → (Below wr.heap.size wr z ∧ z.cell? ⟨w.heap.size, 0, none⟩ = some (.int .i64 m) ∧ z.cell? ⟨w.heap.size, 1, none⟩ = some (.slice A m c) ∧ z.cell? ⟨bl, ol + (l.length - 1), none⟩ = some (.int .i64 (y : Nat)))) := fun z hz => ⟨hz, up_ hz e0, up_ hz e1, up_ hz p0⟩
       have HZ0 : Hid (Below wr.heap.size wr wr.drew) := (Below.refl _ _).drew
       have HS1 := Lib.hid (HSC.out _ HZ0.out)
       have KR1 : Hid (∀ z : World, Below wr.heap.size wr z → _) := fun z hz => K8.out (HLr.out.keep hz)
       have KR2 : Hid (∀ z : World, Below wr.heap.size wr z → _) := fun z hz => KE.out (HGr0.out.gv.keep hz)
       refine wp_region_held_drew (S := fun z => Below wr.heap.size wr z ∧ z.cell? ⟨w.heap.size, 0, none⟩ = some (.int .i64 m) ∧ z.cell? ⟨w.heap.size, 1, none⟩ = some (.slice A m c) ∧ z.cell? ⟨bl, ol + (l.length - 1), none⟩ = some (.int .i64 (y : Nat))) (by kernel_rfl) HS1.out (fun hHeld => ?_)
       refine pcY 0 rfl rfl (by kernel_rfl) (by rfl) (by intro w u; (try dsimp only at u); go_simp <;> with_reducible rfl) ‹_› (fun _ _ _ h => h) ?_; simp only [Act.put, sl0, sl1, sl2]
       refine ptY rfl rfl (by kernel_rfl) (by rfl) (by intro w u; (try dsimp only at u); go_simp <;> with_reducible rfl) ‹_› (fun _ _ _ h => h) ?_; simp only [Act.put, sl0, sl1, sl2]
       refine wpAnyH_ready (rs := [2]) (by kernel_rfl) (by simp) ?_
       refine AllReadyH.cons rfl (fun K hK => ?_) AllReadyH.nil
       go_simp
       go_at_call 256; refine (KR1.out _ HZ0.out).mono ?_
       rintro e w8 ⟨rfl, hb8⟩
       have hz8 := bl_trans HZ0.out hb8
       refine hK.out _ _ (HSC.out _ hz8) (fun hHeld => ?_)
       clear hK K
       try simp only [Act.put, sl0, sl1, sl2]
       iterate 13 (refine ptY rfl rfl (by kernel_rfl) (by rfl) (by intro w u; (try dsimp only at u); go_simp <;> with_reducible rfl) ‹_› (fun _ _ _ h => h) ?_; simp only [Act.put, sl0, sl1, sl2])
       refine wpAnyH_ready (rs := [16]) (by kernel_rfl) (by simp) ?_
       refine AllReadyH.cons rfl (fun K hK => ?_) AllReadyH.nil
       go_simp
       go_at_call 45; refine (KR2.out _ hz8).mono ?_
       rintro e w9 ⟨rfl, hb9⟩
       have hz9 := bl_trans hz8 hb9
       refine hK.out _ _ (HSC.out _ hz9) (fun hHeld => ?_)
       clear hK K
       try simp only [Act.put, sl0, sl1, sl2]
       iterate 3 (refine ptY rfl rfl (by kernel_rfl) (by rfl) (by intro w u; (try dsimp only at u); go_simp <;> with_reducible rfl) ‹_› (fun _ _ _ h => h) ?_; simp only [Act.put, sl0, sl1, sl2])
       refine wpAnyH_done (by kernel_rfl) ?_ _
       clear e0 e1 p0
       replace HR := Lib.hid (HR.out.keep hz9)
       replace HOr := Lib.hid (HOr.out.keep hz9)
       replace HGr := Lib.hid (HGr.out.keep hz9)
       replace HCp := Lib.hid (HCp.out.keep hz9)
       clear hb8 hz8 hb9 hz9 HSC HZ0 HS1 KR1 KR2
       have e0 := HGr.out.c0
       have e1 := HGr.out.c1
       have p0 := HCp.out.c
       clear q0 q2 q6 q7 q8 q9 qb p0 HCp KE
       have Hyes : Hid (atG m (mayC r) (ocR r m) j l v = seaG m (mayC r) (ocR r m) j (l ++ [v])) := atG_yes Hok.out
       obtain ⟨so, hso⟩ : ∃ so, so = seaG m (mayC r) (ocR r m) j (l ++ [v]) := ⟨_, rfl⟩
       have Hso := Lib.hid hso
       rw [← hso] at Hyes
       have HRl : Hid (Rd w9 w9.heap.size (some ⟨bl, ol, none⟩) l.length cl (fun j => ((l.getD j 0 : Nat) : Int))) := HOr.out.ln.rd
       have hzr2 := HR.out.below.size
       have KI : Hid (∀ (z : World) (g6 cap : Nat), Below w9.heap.size w9 z → Own z w9.heap.size z.heap.size 3 1 (some ⟨g6, 0, none⟩) (l.length + 1) cap (ni (l ++ [v])) → Calls Tryz.prog 193 #[.agg #[.int .i64 m, .slice A m c], .slice (some ⟨g6, 0, none⟩) (l.length + 1) cap, .int .i64 n] z fun e w' => ∃ A' n' c', e = .returned (.tuple #[.slice A' n' c', .bool so.isSome]) ∧ (∀ x, so = some x → n' = x.length ∧ ON lo w' A' c' x) ∧ Below z.heap.size z w') := fun z g6 cap hz ho => by
        rw [Hso.out]
        have := IH.out (l ++ [v]) (some ⟨g6, 0, none⟩) cap z lo (by rw [List.length_append]; have := Hlm.out; simp; omega) Hlt2.out (HGr.out.gv.keep hz) ⟨by rw [List.length_append]; exact ho.mono (by omega) (Nat.le_refl _)⟩ (by have := hz.size; omega)
        rw [List.length_append] at this
        exact this
       clear hso
       go_wp2
       have HSC : Hid (∀ z : World, Below w9.heap.size w9 z → (Below w9.heap.size w9 z ∧ z.cell? ⟨w.heap.size, 0, none⟩ = some (.int .i64 m) ∧ z.cell? ⟨w.heap.size, 1, none⟩ = some (.slice A m c))) := fun z hz => ⟨hz, up_ hz e0, up_ hz e1⟩
       have HZ0 : Hid (Below w9.heap.size w9 w9.drew) := (Below.refl _ _).drew
       have HB1 : Hid (Below w9.heap.size w9 ((w9.alloc (Obj.cells #[] 3)).drew)) := ((Below.refl _ _).alloc (Nat.le_refl _) _).drew
       have HB2 : Hid (Below w9.heap.size w9 (((w9.alloc (Obj.cells #[] 3)).alloc (Obj.cells #[.int .i64 (v : Int)] 3)).drew)) := (((Below.refl _ _).alloc (Nat.le_refl _) _).alloc (by simp) _).drew
       have HB3 : Hid (Below w9.heap.size w9 (((w9.alloc (Obj.cells #[.int .i64 (v : Int)] 3)).alloc (Obj.cells #[] 3)).drew)) := (((Below.refl _ _).alloc (Nat.le_refl _) _).alloc (by simp) _).drew
       have HB4 : Hid (Below w9.heap.size w9 ((w9.alloc (Obj.cells #[.int .i64 (v : Int)] 3)).drew)) := ((Below.refl _ _).alloc (Nat.le_refl _) _).drew
       have HO1 : Hid (Own ((w9.alloc (Obj.cells #[] 3)).drew) w9.heap.size (w9.heap.size + 1) 3 1 (some ⟨w9.heap.size, 0, none⟩) 0 0 (ni [])) := .inr ⟨w9.heap.size, #[], rfl, Nat.le_refl _, Nat.lt_succ_self _, heap_alloc_new w9 _, Nat.le_refl _, by unfold maxLen; omega, rfl, fun j hj => absurd hj (by omega)⟩
       have HO2 : Hid (Own (((w9.alloc (Obj.cells #[] 3)).alloc (Obj.cells #[.int .i64 (v : Int)] 3)).drew) w9.heap.size (w9.heap.size + 1) 3 1 (some ⟨w9.heap.size, 0, none⟩) 0 0 (ni [])) := Own.alloc HO1.out _
       have HO3 : Hid (Own (((w9.alloc (Obj.cells #[.int .i64 (v : Int)] 3)).alloc (Obj.cells #[] 3)).drew) w9.heap.size (w9.heap.size + 1 + 1) 3 1 (some ⟨w9.heap.size + 1, 0, none⟩) 0 0 (ni [])) := by
        have hn := heap_alloc_new (w9.alloc (Obj.cells #[.int .i64 (v : Int)] 3)) (Obj.cells #[] 3)
        have he : (w9.alloc (Obj.cells #[.int .i64 (v : Int)] 3)).heap.size = w9.heap.size + 1 := by simp
        rw [he] at hn
        exact .inr ⟨w9.heap.size + 1, #[], rfl, by omega, Nat.lt_succ_self _, hn, Nat.le_refl _, by unfold maxLen; omega, rfl, fun j hj => absurd hj (by omega)⟩
       have HR1 : Hid (Rd ((w9.alloc (Obj.cells #[] 3)).drew) w9.heap.size (some ⟨bl, ol, none⟩) (l).length cl (fun j => (((l).getD j 0 : Nat) : Int))) := HRl.out.keep HB1.out (Nat.le_refl _)
       have HR2 : Hid (Rd (((w9.alloc (Obj.cells #[] 3)).alloc (Obj.cells #[.int .i64 (v : Int)] 3)).drew) w9.heap.size (some ⟨bl, ol, none⟩) (l).length cl (fun j => (((l).getD j 0 : Nat) : Int))) := HRl.out.keep HB2.out (Nat.le_refl _)
       have HR3 : Hid (Rd (((w9.alloc (Obj.cells #[.int .i64 (v : Int)] 3)).alloc (Obj.cells #[] 3)).drew) w9.heap.size (some ⟨bl, ol, none⟩) (l).length cl (fun j => (((l).getD j 0 : Nat) : Int))) := HRl.out.keep HB3.out (Nat.le_refl _)
       have B2 : Hid ((((w9.alloc (Obj.cells #[] 3)).alloc (Obj.cells #[.int .i64 (v : Int)] 3)).drew).heap[w9.heap.size + 1]? = some (.cells #[.int .i64 (v : Int)] 3 (0, 0)) ∧ w9.heap.size + 1 < (((w9.alloc (Obj.cells #[] 3)).alloc (Obj.cells #[.int .i64 (v : Int)] 3)).drew).heap.size) := by
        have hn := heap_alloc_new (w9.alloc (Obj.cells #[] 3)) (Obj.cells #[.int .i64 (v : Int)] 3)
        have he : (w9.alloc (Obj.cells #[] 3)).heap.size = w9.heap.size + 1 := by simp
        rw [he] at hn
        exact ⟨hn, by show _ < ((w9.alloc _).alloc _).heap.size; simp⟩
       have B3 : Hid ((((w9.alloc (Obj.cells #[.int .i64 (v : Int)] 3)).alloc (Obj.cells #[] 3)).drew).heap[w9.heap.size]? = some (.cells #[.int .i64 (v : Int)] 3 (0, 0)) ∧ w9.heap.size < (((w9.alloc (Obj.cells #[.int .i64 (v : Int)] 3)).alloc (Obj.cells #[] 3)).drew).heap.size) :=
        ⟨(Below.heap_alloc (w9.alloc (Obj.cells #[.int .i64 (v : Int)] 3)) _ _ (by simp)).trans (heap_alloc_new w9 _), by show _ < ((w9.alloc _).alloc _).heap.size; simp; omega⟩
       have HC1 : Hid (∀ (z : World) (A1 : Option Addr) (k1 : Nat), Own z w9.heap.size z.heap.size 3 1 A1 (l).length k1 (fun j => .int .i64 (((l).getD j 0 : Nat) : Int)) → Own z w9.heap.size z.heap.size 3 1 A1 (l).length k1 (ni (l ++ [v]))) := by
        intro z A1 k1 h
        exact h.congr (fun j hj => by rw [ni_left hj]; rfl)
       have KR : Hid (∀ (z : World) (g6 cap : Nat), Below w9.heap.size w9 z → Own z w9.heap.size z.heap.size 3 1 (some ⟨g6, 0, none⟩) ((l).length + 1) cap (ni (l ++ [v])) → _) := fun z g6 cap hz ho => KI.out _ _ _ hz ho
       go_region_held3 (fun z => Below w9.heap.size w9 z ∧ z.cell? ⟨w.heap.size, 0, none⟩ = some (.int .i64 m) ∧ z.cell? ⟨w.heap.size, 1, none⟩ = some (.slice A m c))
        (first | exact HSC.out _ HZ0.out | exact HSC.out _ HB1.out | exact HSC.out _ HB2.out | exact HSC.out _ HB3.out | exact HSC.out _ HB4.out | exact HSC.out _ hz10 | exact HSC.out _ hzB | exact HSC.out _ (bl_alloc hzA) | exact HSC.out _ hzA | fail)
        (first
          | ((refine step_appendG0 _ (by rfl) _ _ (by rfl) (by rfl) HO1.out (by rfl) HR1.out HB1.out.size (by omega) ?_; intro A1 k1 wA hOA hbA hgA; have hzA := HB1.out.trans hbA; have hOA' := HC1.out _ _ _ hOA))
          | ((refine step_appendG0 _ (by rfl) _ _ (by rfl) (by rfl) HO2.out (by rfl) HR2.out HB2.out.size (by omega) ?_; intro A1 k1 wA hOA hbA hgA; have hzA := HB2.out.trans hbA; have hOA' := HC1.out _ _ _ hOA; have hB5 := (hgA.block (w9.heap.size + 1) B2.out.2 (by simp [Value.ownBlock])).trans B2.out.1))
          | ((refine step_appendG0 _ (by rfl) _ _ (by rfl) (by rfl) HO3.out (by rfl) HR3.out HB3.out.size (by omega) ?_; intro A1 k1 wA hOA hbA hgA; have hzA := HB3.out.trans hbA; have hOA' := HC1.out _ _ _ hOA; have hB5 := (hgA.block w9.heap.size B3.out.2 (by simp [Value.ownBlock])).trans B3.out.1))
          | ((refine step_push _ (by rfl) _ _ _ (by rfl) 3 _ 1 8 Tryz.underlying24 info_int rfl (by omega) w9.heap.size wA.heap.size A1 (l).length k1 (ni (l ++ [v])) (by rfl) (hOA'.alloc _) (by have := hzA.size; simp; omega) wA.heap.size #[.int .i64 (v : Int)] 3 (0, 0) 1 (heap_alloc_new wA _) (by rfl) rfl ni_news (by simp [Value.oneCell']) (by omega) (by omega) ?_; intro g6 cap wB hp; have hzB := (bl_alloc hzA).trans hp.below))
          | ((refine step_push _ (by rfl) _ _ _ (by rfl) 3 _ 1 8 Tryz.underlying24 info_int rfl (by omega) w9.heap.size wA.heap.size A1 (l).length k1 (ni (l ++ [v])) (by rfl) hOA' hzA.size (w9.heap.size + 1) #[.int .i64 (v : Int)] 3 (0, 0) 1 hB5 (by rfl) rfl ni_news (by simp [Value.oneCell']) (by omega) (by omega) ?_; intro g6 cap wB hp; have hzB := hzA.trans hp.below))
          | ((refine step_push _ (by rfl) _ _ _ (by rfl) 3 _ 1 8 Tryz.underlying24 info_int rfl (by omega) w9.heap.size wA.heap.size A1 (l).length k1 (ni (l ++ [v])) (by rfl) hOA' hzA.size w9.heap.size #[.int .i64 (v : Int)] 3 (0, 0) 1 hB5 (by rfl) rfl ni_news (by simp [Value.oneCell']) (by omega) (by omega) ?_; intro g6 cap wB hp; have hzB := hzA.trans hp.below))
          | (go_at_call 193; ((with_reducible refine (KR.out _ _ _ hzB hp.own).mono ?_); rintro e w10 ⟨A7, n7, c7, rfl, hx7, hb10⟩; have hz10 := bl_trans hzB hb10))
          | fail)
       all_goals clear e0 e1
       all_goals replace HR := Lib.hid (HR.out.keep hz10)
       all_goals replace HGr := Lib.hid (HGr.out.keep hz10)
       all_goals (try clear hB5)
       all_goals clear hz10 hb10 HSC HZ0 HB1 HB2 HB3 HB4 HO1 HO2 HO3 HR1 HR2 HR3 B2 B3 HC1 KR hp hzA hzB hOA hbA hgA hOA'
       all_goals have e0 := HGr.out.c0
       all_goals have e1 := HGr.out.c1
       all_goals
        have HX := Lib.hid hx7
        clear hx7 KI HRl HOr
        cases so with
        | none =>
          have Hn : Hid (atG m (mayC r) (ocR r m) j l v = none) := Hyes.out
          go_wp2
          go_roundw
          case rel =>
           refine ⟨v + 1, by omega, by go_num, fun u hu => ?_, HR⟩
           by_cases huv : u < v
           ·exact hall.out u huv
           ·obtain rfl : u = v := by omega
            exact Hn.out
          case measure => (simp [intOf] <;> omega)
        | some x =>
          have Hs : Hid (seaG m (mayC r) (ocR r m) (j + 1) l = some x) := seaG_some hvm Hyes.out hall.out
          obtain ⟨hn7', ho7⟩ := HX.out x rfl
          subst hn7'
          have HO7 := Lib.hid ho7
          have HBz := Lib.hid (HB.out.up HR.out)
          clear ho7
          go_wp2
          go_ret2
          rw [Hs.out]
          exact seQ.some_ HO7.out HBz.out.below
    ·have Hn : Hid (seaG m (mayC r) (ocR r m) (j + 1) l = none) := seaG_none fun u hu => hall.out u (by omega)
     have i1 : (m : Int) ≤ (v : Int) := by omega
     have HBr := Lib.hid (HB.out.up HR.out)
     have HGr := Lib.hid (HG.out.keep HR.out.below)
     have e0 := HGr.out.c0
     have hzr := HBr.out.below.size
     have HBz := Lib.hid (HBr.out.alloc_ (Obj.cells #[] 3))
     go_wp2
     go_ret2
     rw [Hn.out]
     exact seQ.none_ HBz.out.below
set_option maxRecDepth 100000 in
set_option maxHeartbeats 3200000 in
theorem FindOddCycle_sv {A : Option Addr} {m c : Nat} {r : Nat → Nat} {w : World} (h : GV w A m c r) : Calls Tryz.prog 129 #[.agg #[.int .i64 m, .slice A m c]] w (lsQ w (oddcO r m)) := by
 have hm7 := h.vg.n7
 obtain ⟨W, hW⟩ : ∃ W : World, W = (w.alloc (Obj.cells #[Value.int IntKind.i64 m, Value.slice A m c] 26)) := ⟨_, rfl⟩
 have HB : Hid (From w W) := by rw [hW]; exact From.alloc _ _
 have HG : Hid (GBox W w.heap.size A m c r) := by rw [hW]; exact h.box
 have HW := Lib.hid hW
 clear hW h
 have e0 := HG.out.c0
 have e1 := HG.out.c1
 have HR0 : Hid (From W W) := From.refl W
 go_enter Tryz.func129, Tryz.ntmps129
 go_wp2_with fail
 rw [← HW.out]
 clear HW
 go_wp2
 go_loopw [4] (fun i wr => ∃ n : Nat, 3 ≤ n ∧ n ≤ 9 ∧ Hid ((n - 3) % 2 = 0) ∧ i = .int .i64 n ∧ Hid (∀ u, u < n → latO 3 2 (ocF r m) u = none) ∧ Hid (From W wr)) (fun i _ => 20 - (intOf i).toNat)
 case atStart => exact ⟨3, by omega, by omega, rfl, rfl, (fun u hu => latO_low hu), HR0⟩
 case round =>
  clear HR0 e0 e1
  obtain ⟨n, hn4, hn9, Hst, rfl, hall, HR⟩ := hrel
  have HB1 := Lib.hid (HB.out.up HR.out)
  have HG1 := Lib.hid (HG.out.keep HR.out.below)
  have e0 := HG1.out.c0
  have e1 := HG1.out.c1
  by_cases hnm : n ≤ m
  ·have i1 : (n : Int) ≤ (m : Int) := by omega
   go_wp2_with fail
   refine (IsGraph_sv HG1.out.gv).mono ?_
   rintro e w1 ⟨rfl, hb1⟩
   clear e0 e1
   replace HR := Lib.hid (HR.out.keep hb1)
   replace HB1 := Lib.hid (HB1.out.keep hb1)
   replace HG1 := Lib.hid (HG1.out.keep hb1)
   clear hb1
   have e0 := HG1.out.c0
   have e1 := HG1.out.c1
   have HZ1 : Hid (w.heap.size ≤ w1.heap.size) := HB1.out.below.size
   have HON : Hid (ON w1.heap.size (w1.alloc (Obj.cells #[] 3)) (some ⟨w1.heap.size, 0, none⟩) 0 []) := ON.nil w1
   have HG2 : Hid (GBox (w1.alloc (Obj.cells #[] 3)) w.heap.size A m c r) := HG1.out.keep ((Below.refl _ _).alloc (Nat.le_refl _) _)
   have HB2 : Hid (From w (w1.alloc (Obj.cells #[] 3))) := HB1.out.alloc_ _
   have HR2 : Hid (From W (w1.alloc (Obj.cells #[] 3))) := HR.out.alloc_ _
   have KI := Lib.hid (l20_s (n := n) (by omega) n [] (some ⟨w1.heap.size, 0, none⟩) 0 (w1.alloc (Obj.cells #[] 3)) w.heap.size (by simp) (fun v hv => by cases hv) HG2.out.gv (HON.out.mono HZ1.out) HB2.out.below.size)
   rw [ocF_s] at KI
   have Hat : Hid (latO 3 2 (ocF r m) n = ocF r m n) := latO_at hn4 Hst.out
   obtain ⟨so, hso⟩ : ∃ so, so = ocF r m n := ⟨_, rfl⟩
   rw [← hso] at KI Hat
   have HG3 := Lib.hid (HG2.out)
   clear hso
   go_wp2_with fail
   refine KI.out.mono ?_
   rintro e w3 ⟨A5, n5, c5, rfl, hx5, hb5⟩
   have HB5 : Hid (From w w3) := HB2.out.keep hb5
   have HR5 : Hid (From W w3) := HR2.out.keep hb5
   clear hb5 KI HON HB2 HR2 HG2 HG3 e0 e1
   cases so with
   | none =>
     have Hn : Hid (∀ u, u < n + 2 → latO 3 2 (ocF r m) u = none) := fun u hu => by
      by_cases huv : u < n
      ·exact hall.out u huv
      ·by_cases hun : u = n
       ·subst hun; exact Hat.out
       ·exact latO_off (by have := Hst.out; omega)
     have Hst2 : Hid ((n + 2 - 3) % 2 = 0) := by show _ = _; have := Hst.out; omega
     clear hx5
     go_wp2
     go_roundw
     case rel => exact ⟨n + 2, by omega, by omega, Hst2, by go_num, Hn, HR5⟩
     case measure => (simp [intOf] <;> omega)
   | some x =>
     obtain ⟨rfl, ho5⟩ := hx5 x rfl
     have HO5 := Lib.hid ho5
     have Hs : Hid (oddcO r m = some x) := ltO_some hnm Hat.out hall.out
     clear ho5 hx5
     go_wp2
     go_ret2
     rw [Hs.out]
     exact lsQ.yes HO5.out HB5.out.below
  ·have Hs : Hid (oddcO r m = none) := ltO_none fun u hu => hall.out u (by omega)
   have i1 : (m : Int) < (n : Int) := by omega
   have HON : Hid (ON wr.heap.size (wr.alloc (Obj.cells #[] 3)) (some ⟨wr.heap.size, 0, none⟩) 0 []) := ON.nil wr
   have HBz := Lib.hid (HB1.out.alloc_ (Obj.cells #[] 3))
   go_wp2
   go_ret2
   rw [Hs.out]
   exact ⟨_, _, rfl, HON.out.mono HB1.out.below.size, HBz.out.below⟩
set_option maxRecDepth 100000 in
set_option maxHeartbeats 3200000 in
theorem FindOddCycle_sno (sz : Int) (A : Option Addr) (m c : Nat) (x : Nat → Int) (w : World) (h : GA w A m c x) (hm : m ≤ 1048576) (hok : okB sz m x = false) :
 Calls Tryz.prog 129 #[.agg #[.int .i64 sz, .slice A m c]] w (lsQ w none) := by
 obtain ⟨W, hW⟩ : ∃ W : World, W = (w.alloc (Obj.cells #[Value.int IntKind.i64 sz, Value.slice A m c] 26)) := ⟨_, rfl⟩
 have HB : Hid (From w W) := by rw [hW]; exact From.alloc _ _
 have HK := Lib.hid (h.keep HB.out.below)
 have HC : Hid (GC W w.heap.size sz A m c) := by rw [hW]; exact GC.new _ _ _ _ _
 have HW := Lib.hid hW
 have Ho := Lib.hid hok
 have HR0 : Hid (From W W) := From.refl W
 clear hW h hok
 go_enter Tryz.func129, Tryz.ntmps129
 have e0 := HC.out.c0
 have e1 := HC.out.c1
 go_wp2_with fail
 rw [← HW.out]
 clear HW
 go_wp2
 go_loopw [4] (fun i wr => i = .int .i64 3 ∧ Hid (From W wr)) (fun _ _ => 0)
 case atStart => exact ⟨rfl, HR0⟩
 case round =>
  clear HR0 e0 e1
  obtain ⟨rfl, HR⟩ := hrel
  have HB1 := Lib.hid (HB.out.up HR.out)
  have HK1 := Lib.hid (HK.out.keep HR.out.below)
  have HC1 := Lib.hid (HC.out.keep HR.out.below)
  have e0 := HC1.out.c0
  have e1 := HC1.out.c1
  by_cases hnm : 3 ≤ sz
  ·skip
   go_wp2_with fail
   refine (IsGraph_sany sz A m c x wr wr.heap.size HK1.out.rd (Nat.le_refl _) hm).mono ?_
   rintro e w5 ⟨rfl, hb1⟩
   rw [Ho.out]
   clear e0 e1
   replace HB1 := Lib.hid (HB1.out.keep hb1)
   replace HC1 := Lib.hid (HC1.out.keep hb1)
   clear hb1
   have e0 := HC1.out.c0
   have e1 := HC1.out.c1
   have HON : Hid (ON w5.heap.size (w5.alloc (Obj.cells #[] 3)) (some ⟨w5.heap.size, 0, none⟩) 0 []) := ON.nil w5
   have HBz := Lib.hid (HB1.out.alloc_ (Obj.cells #[] 3))
   go_wp2
   go_ret2
   exact ⟨_, _, rfl, HON.out.mono HB1.out.below.size, HBz.out.below⟩
  ·have i1 : sz < 3 := by omega
   have HON : Hid (ON wr.heap.size (wr.alloc (Obj.cells #[] 3)) (some ⟨wr.heap.size, 0, none⟩) 0 []) := ON.nil wr
   have HBz := Lib.hid (HB1.out.alloc_ (Obj.cells #[] 3))
   go_wp2
   go_ret2
   exact ⟨_, _, rfl, HON.out.mono HB1.out.below.size, HBz.out.below⟩
end Go.Proofs.YtfabbohijhjpcaaGreatDoor
