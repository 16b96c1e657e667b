/-
  Several texts in one.
-/
import Derived.Test.YtppkokgiojcgbaaGreatDoorQxColP
import Derived.Test.YtppkokgiojcgbaaGreatDoorQxHamT
import Derived.Test.YtppkokgiojcgbaaGreatDoorQxSet2S
import Derived.Test.YtppkokgiojcgbaaGreatDoorQxJoinS
import Derived.Deep.RegionHeld3
/-
-/
namespace Go.Proofs.YtppkokgiojcgbaaGreatDoor
open Go.RowKit
set_option maxRecDepth 100000 in
set_option maxHeartbeats 6400000 in
theorem l24_s {A : Option Addr} {m c k : Nat} {r : Nat → Nat} (hk7 : k ≤ 7) : ∀ (j : Nat) (l : List Nat) (Al : Option Addr) (cl : Nat) (w : World) (lo : Nat), l.length + j = m → GV w A m c r → ON lo w Al cl l → lo ≤ w.heap.size →
 Calls Tryz.prog 277 #[.agg #[.int .i64 m, .slice A m c], .int .i64 k, .slice Al l.length cl] w fun e w' => ∃ A' n' c', e = .returned (.tuple #[.slice A' n' c', .bool (colS r k j l).isSome]) ∧ (∀ x, colS r k j l = some x → n' = x.length ∧ ON lo w' A' c' x) ∧ Below w.heap.size w w' := by
 intro j
 induction j with
 | zero =>
   intro l Al cl w lo hlm h hO hlo
   have heq : ((l.length : Int) == (m : Int)) = true := by simp; omega
   have heq2 : (l.length = m) = True := by simp; omega
   have HO := Lib.hid hO
   clear hO hlm
   obtain ⟨W, hW⟩ : ∃ W : World, W = (w.alloc (Obj.cells #[Value.int IntKind.i64 m, Value.slice A m c] 29)) := ⟨_, rfl⟩
   have HB : Hid (From w W) := by rw [hW]; exact From.alloc _ _
   have HG : Hid (GBox W w.heap.size A m c r) := by rw [hW]; exact h.box
   have HW := Lib.hid hW
   clear hW h
   have e0 := HG.out.c0
   have e1 := HG.out.c1
   replace HO := Lib.hid (HO.out.keep HB.out.below)
   go_enter Tryz.func277, Tryz.ntmps277
   go_wp2_with fail
   rw [← HW.out]
   go_wp2
   go_ret2
   exact ⟨_, _, _, rfl, (fun x hx => by injection hx with hx; subst hx; exact ⟨rfl, HO.out⟩), HB.out.below⟩
 | succ j ih =>
   intro l Al cl w lo hlm h hO hlo
   have IH := Lib.hid ih
   have hne : ((l.length : Int) == (m : Int)) = false := by simp; omega
   have hne2 : (l.length = m) = False := by simp; omega
   have hn7 := h.vg.n7
   have Hlm := Lib.hid hlm
   have hl7 : l.length ≤ 6 := by omega
   have hlm1 : l.length < m := by omega
   have HO := Lib.hid hO
   clear ih hO hlm
   obtain ⟨W, hW⟩ : ∃ W : World, W = (w.alloc (Obj.cells #[Value.int IntKind.i64 m, Value.slice A m c] 29)) := ⟨_, rfl⟩
   have HB : Hid (From w W) := by rw [hW]; exact From.alloc _ _
   have HG : Hid (GBox W w.heap.size A m c r) := by rw [hW]; exact h.box
   have HW := Lib.hid hW
   clear hW h
   have e0 := HG.out.c0
   have e1 := HG.out.c1
   replace HO := Lib.hid (HO.out.keep HB.out.below)
   have hz := HB.out.below.size
   have HR0 : Hid (From W W) := From.refl W
   go_enter Tryz.func277, Tryz.ntmps277
   go_wp2_with fail
   rw [← HW.out]
   go_wp2
   go_loopw [9] (fun i wr => ∃ v : Nat, v ≤ k ∧ i = .int .i64 v ∧ Hid (∀ u, u < v → cAt r k j l u = none) ∧ Hid (From W wr)) (fun i _ => k - (intOf i).toNat)
   case atStart => exact ⟨0, Nat.zero_le _, rfl, (fun u hu => absurd hu (by omega)), HR0⟩
   case round =>
    clear HR0 e0 e1
    obtain ⟨v, hv, rfl, hall, HR⟩ := hrel
    by_cases hvk : v < k
    ·have i1 : (v : Int) < (k : Int) := by omega
     go_wp2
     go_loopw [10, 11] (fun f i wr => ∃ t : Nat, t ≤ l.length ∧ i = .int .i64 t ∧ f = .bool (frK r l l.length v t) ∧ Hid (From W wr)) (fun _ i _ => l.length - (intOf i).toNat)
     case atStart => exact ⟨0, Nat.zero_le _, rfl, rfl, HR⟩
     case round =>
      clear HR
      obtain ⟨t, ht, rfl, rfl, HR⟩ := hrel
      have HGr := Lib.hid (HG.out.keep HR.out.below)
      have HOr := Lib.hid (HO.out.keep HR.out.below)
      have e0 := HGr.out.c0
      have e1 := HGr.out.c1
      by_cases htl : t < l.length
      ·have i2 : (t : Int) < (l.length : Int) := by omega
       obtain ⟨y, hy⟩ : ∃ y, y = l.getD t 0 := ⟨_, rfl⟩
       have hst : frK r l l.length v (t + 1) = (frK r l l.length v t && !(y == v && (r l.length).testBit t)) := by rw [hy]; rfl
       cases hf : frK r l l.length v t
       ·have Hs : Hid (frK r l l.length v (t + 1) = false) := by rw [hf] at hst; exact hst
        clear hst hy
        go_wp2
        go_roundw
        case rel => exact ⟨t + 1, by omega, by go_num, by rw [Hs.out], HR⟩
        case measure => (simp [intOf] <;> omega)
       ·have KE : Hid (Calls Tryz.prog 70 #[.agg #[.int .i64 m, .slice A m c], .int .i64 (l.length : Int), .int .i64 (t : Int)] wr fun e w' => e = .returned (.bool ((r l.length).testBit t)) ∧ Below wr.heap.size wr w') := l2Edge_v HGr.out.gv hlm1 (by omega)
        have Hy := Lib.hid hy
        cases hb : (r l.length).testBit t
        ·rw [hb] at KE
         have Hs : Hid (frK r l l.length v (t + 1) = true) := by rw [hf, hb] at hst; show _ = _; simpa using hst
         clear hst hy hb
         go_wp2_with fail
         refine (KE.out).mono ?_
         rintro e w1 ⟨rfl, hb1⟩
         clear e0 e1
         replace HR := Lib.hid (HR.out.keep hb1)
         replace HOr := Lib.hid (HOr.out.keep hb1)
         replace HGr := Lib.hid (HGr.out.keep hb1)
         clear hb1
         have e0 := HGr.out.c0
         have e1 := HGr.out.c1
         go_wp2
         go_roundw
         case rel => exact ⟨t + 1, by omega, by go_num, by rw [Hs.out], HR⟩
         case measure => (simp [intOf] <;> omega)
        ·rw [hb] at KE
         by_cases hyv : y = v
         ·have Hs : Hid (frK r l l.length v (t + 1) = false) := by rw [hf, hb] at hst; show _ = _; simpa [hyv] using hst
          have d1 : ((y : Int) == (v : Int)) = true := by simp; omega
          clear hst hy hb hyv
          go_wp2_with fail
          refine (KE.out).mono ?_
          rintro e w2 ⟨rfl, hb2⟩
          clear e0 e1
          replace HR := Lib.hid (HR.out.keep hb2)
          replace HOr := Lib.hid (HOr.out.keep hb2)
          replace HGr := Lib.hid (HGr.out.keep hb2)
          clear hb2
          have e0 := HGr.out.c0
          have e1 := HGr.out.c1
          obtain ⟨bl, ol, rfl⟩ := HOr.out.ln.addr (by omega)
          have p0 := HOr.out.ln.at htl
          rw [show l[t] = y from by rw [Hy.out]; simp [List.getD, htl]] at p0
          go_wp2
          go_roundw
          case rel => exact ⟨t + 1, by omega, by go_num, by rw [Hs.out], HR⟩
          case measure => (simp [intOf] <;> omega)
         ·have Hs : Hid (frK r l l.length v (t + 1) = true) := by
           rw [hf] at hst
           have : (y == v) = false := by simpa using hyv
           rw [this] at hst
           show _ = _
           simpa using hst
          have d1 : ((y : Int) == (v : Int)) = false := by simp; omega
          clear hst hy hb hyv
          go_wp2_with fail
          refine (KE.out).mono ?_
          rintro e w3 ⟨rfl, hb3⟩
          clear e0 e1
          replace HR := Lib.hid (HR.out.keep hb3)
          replace HOr := Lib.hid (HOr.out.keep hb3)
          replace HGr := Lib.hid (HGr.out.keep hb3)
          clear hb3
          have e0 := HGr.out.c0
          have e1 := HGr.out.c1
          obtain ⟨bl, ol, rfl⟩ := HOr.out.ln.addr (by omega)
          have p0 := HOr.out.ln.at htl
          rw [show l[t] = y from by rw [Hy.out]; simp [List.getD, htl]] at p0
          go_wp2
          go_roundw
          case rel => exact ⟨t + 1, by omega, by go_num, by rw [Hs.out], HR⟩
          case measure => (simp [intOf] <;> omega)
      ·obtain rfl : l.length = t := by omega
       cases hf : frK r l l.length v l.length
       ·have Hn : Hid (∀ u, u < v + 1 → cAt r k j l u = none) := fun u hu => by
         by_cases huv : u < v
         ·exact hall.out u huv
         ·obtain rfl : u = v := by omega
          exact cAt_no hf
        clear hf
        go_wp2
        go_roundw
        case rel => exact ⟨v + 1, by omega, by go_num, Hn, HR⟩
        case measure => (simp [intOf] <;> omega)
       ·have HF := Lib.hid (cAt_yes (k := k) (j := j) hf)
        obtain ⟨so, hso⟩ : ∃ so, so = colS r k j (l ++ [v]) := ⟨_, rfl⟩
        have Hso := Lib.hid hso
        have HRl : Hid (Rd wr wr.heap.size Al l.length cl (fun j => ((l.getD j 0 : Nat) : Int))) := HOr.out.ln.rd
        have hzr := HR.out.below.size
        have KI : Hid (∀ (z : World) (g6 cap : Nat), Below wr.heap.size wr z → Own z wr.heap.size z.heap.size 3 1 (some ⟨g6, 0, none⟩) (l.length + 1) cap (ni (l ++ [v])) → Calls Tryz.prog 277 #[.agg #[.int .i64 m, .slice A m c], .int .i64 k, .slice (some ⟨g6, 0, none⟩) (l.length + 1) cap] z fun e w' => ∃ A' n' c', e = .returned (.tuple #[.slice A' n' c', .bool so.isSome]) ∧ (∀ x, so = some x → n' = x.length ∧ ON lo w' A' c' x) ∧ Below z.heap.size z w') := fun z g6 cap hz ho => by
         rw [Hso.out]
         have := IH.out (l ++ [v]) (some ⟨g6, 0, none⟩) cap z lo (by rw [List.length_append]; have := Hlm.out; simp; omega) (HGr.out.gv.keep hz) ⟨by rw [List.length_append]; exact ho.mono (by omega) (Nat.le_refl _)⟩ (by have := hz.size; omega)
         rw [List.length_append] at this
         exact this
        clear hf hso
        go_wp2
        have HSC : Hid (∀ z : World, Below wr.heap.size wr z → (Below wr.heap.size wr z ∧ z.cell? ⟨w.heap.size, 0, none⟩ = some (.int .i64 m) ∧ z.cell? ⟨w.heap.size, 1, none⟩ = some (.slice A m c))) := fun z hz => ⟨hz, up_ hz e0, up_ hz e1⟩
        have HZ0 : Hid (Below wr.heap.size wr wr.drew) := (Below.refl _ _).drew
        have HB1 : Hid (Below wr.heap.size wr ((wr.alloc (Obj.cells #[] 3)).drew)) := ((Below.refl _ _).alloc (Nat.le_refl _) _).drew
        have HB2 : Hid (Below wr.heap.size wr (((wr.alloc (Obj.cells #[] 3)).alloc (Obj.cells #[.int .i64 (v : Int)] 3)).drew)) := (((Below.refl _ _).alloc (Nat.le_refl _) _).alloc (by simp) _).drew
        have HB3 : Hid (Below wr.heap.size wr (((wr.alloc (Obj.cells #[.int .i64 (v : Int)] 3)).alloc (Obj.cells #[] 3)).drew)) := (((Below.refl _ _).alloc (Nat.le_refl _) _).alloc (by simp) _).drew
        have HB4 : Hid (Below wr.heap.size wr ((wr.alloc (Obj.cells #[.int .i64 (v : Int)] 3)).drew)) := ((Below.refl _ _).alloc (Nat.le_refl _) _).drew
        have HO1 : Hid (Own ((wr.alloc (Obj.cells #[] 3)).drew) wr.heap.size (wr.heap.size + 1) 3 1 (some ⟨wr.heap.size, 0, none⟩) 0 0 (ni [])) := .inr ⟨wr.heap.size, #[], rfl, Nat.le_refl _, Nat.lt_succ_self _, heap_alloc_new wr _, Nat.le_refl _, by unfold maxLen; omega, rfl, fun j hj => absurd hj (by omega)⟩
        have HO2 : Hid (Own (((wr.alloc (Obj.cells #[] 3)).alloc (Obj.cells #[.int .i64 (v : Int)] 3)).drew) wr.heap.size (wr.heap.size + 1) 3 1 (some ⟨wr.heap.size, 0, none⟩) 0 0 (ni [])) := Own.alloc HO1.out _
        have HO3 : Hid (Own (((wr.alloc (Obj.cells #[.int .i64 (v : Int)] 3)).alloc (Obj.cells #[] 3)).drew) wr.heap.size (wr.heap.size + 1 + 1) 3 1 (some ⟨wr.heap.size + 1, 0, none⟩) 0 0 (ni [])) := by
         have hn := heap_alloc_new (wr.alloc (Obj.cells #[.int .i64 (v : Int)] 3)) (Obj.cells #[] 3)
         have he : (wr.alloc (Obj.cells #[.int .i64 (v : Int)] 3)).heap.size = wr.heap.size + 1 := by simp
         rw [he] at hn
         exact .inr ⟨wr.heap.size + 1, #[], rfl, by omega, Nat.lt_succ_self _, hn, Nat.le_refl _, by unfold maxLen; omega, rfl, fun j hj => absurd hj (by omega)⟩
        have HR1 : Hid (Rd ((wr.alloc (Obj.cells #[] 3)).drew) wr.heap.size Al (l).length cl (fun j => (((l).getD j 0 : Nat) : Int))) := HRl.out.keep HB1.out (Nat.le_refl _)
        have HR2 : Hid (Rd (((wr.alloc (Obj.cells #[] 3)).alloc (Obj.cells #[.int .i64 (v : Int)] 3)).drew) wr.heap.size Al (l).length cl (fun j => (((l).getD j 0 : Nat) : Int))) := HRl.out.keep HB2.out (Nat.le_refl _)
        have HR3 : Hid (Rd (((wr.alloc (Obj.cells #[.int .i64 (v : Int)] 3)).alloc (Obj.cells #[] 3)).drew) wr.heap.size Al (l).length cl (fun j => (((l).getD j 0 : Nat) : Int))) := HRl.out.keep HB3.out (Nat.le_refl _)
        have B2 : Hid ((((wr.alloc (Obj.cells #[] 3)).alloc (Obj.cells #[.int .i64 (v : Int)] 3)).drew).heap[wr.heap.size + 1]? = some (.cells #[.int .i64 (v : Int)] 3 (0, 0)) ∧ wr.heap.size + 1 < (((wr.alloc (Obj.cells #[] 3)).alloc (Obj.cells #[.int .i64 (v : Int)] 3)).drew).heap.size) := by
         have hn := heap_alloc_new (wr.alloc (Obj.cells #[] 3)) (Obj.cells #[.int .i64 (v : Int)] 3)
         have he : (wr.alloc (Obj.cells #[] 3)).heap.size = wr.heap.size + 1 := by simp
         rw [he] at hn
         exact ⟨hn, by show _ < ((wr.alloc _).alloc _).heap.size; simp⟩
        have B3 : Hid ((((wr.alloc (Obj.cells #[.int .i64 (v : Int)] 3)).alloc (Obj.cells #[] 3)).drew).heap[wr.heap.size]? = some (.cells #[.int .i64 (v : Int)] 3 (0, 0)) ∧ wr.heap.size < (((wr.alloc (Obj.cells #[.int .i64 (v : Int)] 3)).alloc (Obj.cells #[] 3)).drew).heap.size) :=
         ⟨(Below.heap_alloc (wr.alloc (Obj.cells #[.int .i64 (v : Int)] 3)) _ _ (by simp)).trans (heap_alloc_new wr _), by show _ < ((wr.alloc _).alloc _).heap.size; simp; omega⟩
        have HC1 : Hid (∀ (z : World) (A1 : Option Addr) (k1 : Nat), Own z wr.heap.size z.heap.size 3 1 A1 (l).length k1 (fun j => .int .i64 (((l).getD j 0 : Nat) : Int)) → Own z wr.heap.size z.heap.size 3 1 A1 (l).length k1 (ni (l ++ [v]))) := by
         intro z A1 k1 h
         exact h.congr (fun j hj => by rw [ni_left hj]; rfl)
        have KR : Hid (∀ (z : World) (g6 cap : Nat), Below wr.heap.size wr z → Own z wr.heap.size z.heap.size 3 1 (some ⟨g6, 0, none⟩) ((l).length + 1) cap (ni (l ++ [v])) → _) := fun z g6 cap hz ho => KI.out _ _ _ hz ho
        go_region_held3 (fun z => Below wr.heap.size wr z ∧ z.cell? ⟨w.heap.size, 0, none⟩ = some (.int .i64 m) ∧ z.cell? ⟨w.heap.size, 1, none⟩ = some (.slice A m c))
         (first | exact HSC.out _ HZ0.out | exact HSC.out _ HB1.out | exact HSC.out _ HB2.out | exact HSC.out _ HB3.out | exact HSC.out _ HB4.out | exact HSC.out _ hz4 | exact HSC.out _ hzB | exact HSC.out _ (bl_alloc hzA) | exact HSC.out _ hzA | fail)
         (first
           | ((refine step_appendG0 _ (by rfl) _ _ (by rfl) (by rfl) HO1.out (by rfl) HR1.out HB1.out.size (by omega) ?_; intro A1 k1 wA hOA hbA hgA; have hzA := HB1.out.trans hbA; have hOA' := HC1.out _ _ _ hOA))
           | ((refine step_appendG0 _ (by rfl) _ _ (by rfl) (by rfl) HO2.out (by rfl) HR2.out HB2.out.size (by omega) ?_; intro A1 k1 wA hOA hbA hgA; have hzA := HB2.out.trans hbA; have hOA' := HC1.out _ _ _ hOA; have hB5 := (hgA.block (wr.heap.size + 1) B2.out.2 (by simp [Value.ownBlock])).trans B2.out.1))
           | ((refine step_appendG0 _ (by rfl) _ _ (by rfl) (by rfl) HO3.out (by rfl) HR3.out HB3.out.size (by omega) ?_; intro A1 k1 wA hOA hbA hgA; have hzA := HB3.out.trans hbA; have hOA' := HC1.out _ _ _ hOA; have hB5 := (hgA.block wr.heap.size B3.out.2 (by simp [Value.ownBlock])).trans B3.out.1))
           | ((refine step_push _ (by rfl) _ _ _ (by rfl) 3 _ 1 8 Tryz.underlying22 info_int rfl (by omega) wr.heap.size wA.heap.size A1 (l).length k1 (ni (l ++ [v])) (by rfl) (hOA'.alloc _) (by have := hzA.size; simp; omega) wA.heap.size #[.int .i64 (v : Int)] 3 (0, 0) 1 (heap_alloc_new wA _) (by rfl) rfl ni_news (by simp [Value.oneCell']) (by omega) (by omega) ?_; intro g6 cap wB hp; have hzB := (bl_alloc hzA).trans hp.below))
           | ((refine step_push _ (by rfl) _ _ _ (by rfl) 3 _ 1 8 Tryz.underlying22 info_int rfl (by omega) wr.heap.size wA.heap.size A1 (l).length k1 (ni (l ++ [v])) (by rfl) hOA' hzA.size (wr.heap.size + 1) #[.int .i64 (v : Int)] 3 (0, 0) 1 hB5 (by rfl) rfl ni_news (by simp [Value.oneCell']) (by omega) (by omega) ?_; intro g6 cap wB hp; have hzB := hzA.trans hp.below))
           | ((refine step_push _ (by rfl) _ _ _ (by rfl) 3 _ 1 8 Tryz.underlying22 info_int rfl (by omega) wr.heap.size wA.heap.size A1 (l).length k1 (ni (l ++ [v])) (by rfl) hOA' hzA.size wr.heap.size #[.int .i64 (v : Int)] 3 (0, 0) 1 hB5 (by rfl) rfl ni_news (by simp [Value.oneCell']) (by omega) (by omega) ?_; intro g6 cap wB hp; have hzB := hzA.trans hp.below))
           | (go_at_call 277; ((with_reducible refine (KR.out _ _ _ hzB hp.own).mono ?_); rintro e w4 ⟨A7, n7, c7, rfl, hx7, hb4⟩; have hz4 := bl_trans hzB hb4))
           | fail)
        all_goals clear e0 e1
        all_goals replace HR := Lib.hid (HR.out.keep hz4)
        all_goals replace HGr := Lib.hid (HGr.out.keep hz4)
        all_goals (try clear hB5)
        all_goals clear hz4 hb4 HSC HZ0 HB1 HB2 HB3 HB4 HO1 HO2 HO3 HR1 HR2 HR3 B2 B3 HC1 KR hp hzA hzB hOA hbA hgA hOA'
        all_goals have e0 := HGr.out.c0
        all_goals have e1 := HGr.out.c1
        all_goals
         have HX := Lib.hid hx7
         clear hx7 KI HRl HOr
         cases so with
         | none =>
           have Hn : Hid (∀ u, u < v + 1 → cAt r k j l u = none) := fun u hu => by
            by_cases huv : u < v
            ·exact hall.out u huv
            ·obtain rfl : u = v := by omega
             exact HF.out.trans Hso.out.symm
           go_wp2
           go_roundw
           case rel => exact ⟨v + 1, by omega, by go_num, Hn, HR⟩
           case measure => (simp [intOf] <;> omega)
         | some x =>
           have Hs : Hid (colS r k (j + 1) l = some x) := colS_some hvk (HF.out.trans Hso.out.symm) hall.out
           have HBz := Lib.hid (HB.out.up HR.out)
           go_wp2
           go_ret2
           exact ⟨_, _, _, by rw [Hs.out]; rfl, (fun y hy => by rw [Hs.out] at hy; injection hy with hy; subst hy; exact HX.out _ rfl), HBz.out.below⟩
    ·have Hn : Hid (colS r k (j + 1) l = none) := colS_none fun u hu => hall.out u (by omega)
     have i1 : (k : Int) ≤ (v : Int) := by omega
     have HBz := Lib.hid ((HB.out.up HR.out).alloc_ (Obj.cells #[] 3))
     go_wp2
     go_ret2
     exact ⟨_, _, _, by rw [Hn.out]; rfl, (fun y hy => by rw [Hn.out] at hy; cases hy), HBz.out.below⟩
end Go.Proofs.YtppkokgiojcgbaaGreatDoor

/-
-/
namespace Go.Proofs.YtppkokgiojcgbaaGreatDoor
open Go.RowKit
section
variable {A : Option Addr} {m c : Nat} {r : Nat → Nat}
set_option maxHeartbeats 1000000 in
theorem LargestClique_sv {w : World} (h : GV w A m c r) :
 Calls Tryz.prog 249 #[.agg #[.int .i64 m, .slice A m c]] w fun e w' => e = .returned (.int .i64 (lqN r m : Nat)) ∧ Below w.heap.size w w' := by
 have hn7 := h.vg.n7
 have h128 := two_pow_le hn7
 have hpos := Nat.two_pow_pos m
 have hpc := pow_cast m
 have p1 := pow_shl m hn7
 obtain ⟨W, hW⟩ : ∃ W : World, W = (w.alloc (Obj.cells #[Value.int IntKind.i64 m, Value.slice A m c] 29)) := ⟨_, rfl⟩
 have HB : Hid (From w W) := by rw [hW]; exact From.alloc _ _
 have HG : Hid (GBox W w.heap.size A m c r) := by rw [hW]; exact h.box
 have HW := Lib.hid hW
 clear hW h
 have e0 := HG.out.c0
 have e1 := HG.out.c1
 go_enter Tryz.func249, Tryz.ntmps249
 go_wp2
 rw [← HW.out]
 clear HW
 go_loopw [3, 4] (fun b i wr => ∃ k : Nat, 1 ≤ k ∧ k ≤ 2 ^ m ∧ i = .int .i64 k ∧ b = .int .i64 (lgK (cliq r) k : Nat) ∧ Hid (From W wr)) (fun _ i _ => 2 ^ m - (intOf i).toNat)
 case atStart => exact ⟨1, Nat.le_refl _, hpos, rfl, by rw [lgK_one]; rfl, From.refl _⟩
 case round =>
  obtain ⟨k, hk1, hk, rfl, rfl, HR⟩ := hrel
  clear e0 e1
  replace HB := Lib.hid (HB.out.keep HR.out.below)
  replace HG := Lib.hid (HG.out.keep HR.out.below)
  have e0 := HG.out.c0
  have e1 := HG.out.c1
  have hlk := lgK_lt (p := cliq r) k (by omega)
  go_wp2_with fail
  refine (IsGraph_sv HG.out.gv).mono ?_
  rintro e w1 ⟨rfl, hb1⟩
  clear e0 e1
  replace HB := Lib.hid (HB.out.keep hb1)
  replace HG := Lib.hid (HG.out.keep hb1)
  replace HR := Lib.hid (HR.out.keep hb1)
  clear hb1
  have e0 := HG.out.c0
  have e1 := HG.out.c1
  by_cases hlt : k < 2 ^ m
  ·have i1 : (k : Int) < 2 ^ m := by omega
   go_wp2_with fail
   refine (CountSet_sv k (by omega) _).mono ?_
   rintro e w2 ⟨rfl, hb2⟩
   clear e0 e1
   replace HB := Lib.hid (HB.out.keep hb2)
   replace HG := Lib.hid (HG.out.keep hb2)
   replace HR := Lib.hid (HR.out.keep hb2)
   clear hb2
   have e0 := HG.out.c0
   have e1 := HG.out.c1
   go_wp2_with fail
   refine (CountSet_sv (lgK (cliq r) k) (by omega) _).mono ?_
   rintro e w3 ⟨rfl, hb3⟩
   clear e0 e1
   replace HB := Lib.hid (HB.out.keep hb3)
   replace HG := Lib.hid (HG.out.keep hb3)
   replace HR := Lib.hid (HR.out.keep hb3)
   clear hb3
   have e0 := HG.out.c0
   have e1 := HG.out.c1
   by_cases hcn : cn (lgK (cliq r) k) < cn k
   ·have i2 : ((cn (lgK (cliq r) k) : Nat) : Int) < ((cn k : Nat) : Int) := by omega
    go_wp2_with fail
    refine (IsClique_sv HG.out.gv hlt).mono ?_
    rintro e w4 ⟨rfl, hb4⟩
    clear e0 e1
    replace HB := Lib.hid (HB.out.keep hb4)
    replace HG := Lib.hid (HG.out.keep hb4)
    replace HR := Lib.hid (HR.out.keep hb4)
    clear hb4
    have e0 := HG.out.c0
    have e1 := HG.out.c1
    cases hp : (cliq r) k
    ·have Hn : Hid (lgK (cliq r) (k + 1) = lgK (cliq r) k) := lgK_no (.inr hp)
     clear hp
     go_wp2
     go_roundw
     case rel => exact ⟨k + 1, by omega, by omega, by go_num, by rw [Hn.out], HR⟩
     case measure => simp [intOf]; omega
    ·have Hn : Hid (lgK (cliq r) (k + 1) = k) := lgK_yes hcn hp
     clear hp
     go_wp2
     go_roundw
     case rel => exact ⟨k + 1, by omega, by omega, by go_num, by rw [Hn.out], HR⟩
     case measure => simp [intOf]; omega
   ·have Hn : Hid (lgK (cliq r) (k + 1) = lgK (cliq r) k) := lgK_no (.inl hcn)
    have i2 : ((cn k : Nat) : Int) ≤ ((cn (lgK (cliq r) k) : Nat) : Int) := by omega
    go_wp2
    go_roundw
    case rel => exact ⟨k + 1, by omega, by omega, by go_num, by rw [Hn.out], HR⟩
    case measure => simp [intOf]; omega
  ·have hkm : k = 2 ^ m := by omega
   have i1 : (2 : Int) ^ m ≤ (k : Int) := by omega
   have Hk : Hid (lgK (cliq r) k = lqN r m) := by rw [hkm]; exact rfl
   clear hkm
   go_wp2
   go_ret
   exact ⟨ret_int (by rw [Hk.out]), HB.out.below⟩
set_option maxHeartbeats 1000000 in
theorem CliqueNumber_sv {w : World} (h : GV w A m c r) :
 Calls Tryz.prog 202 #[.agg #[.int .i64 m, .slice A m c]] w fun e w' => e = .returned (.int .i64 (cn (lqN r m) : Nat)) ∧ Below w.heap.size w w' := by
 have hl : lqN r m < 128 := Nat.lt_of_lt_of_le (lq_lt r m) (two_pow_le h.vg.n7)
 obtain ⟨W, hW⟩ : ∃ W : World, W = (w.alloc (Obj.cells #[Value.int IntKind.i64 m, Value.slice A m c] 29)) := ⟨_, rfl⟩
 have HB : Hid (From w W) := by rw [hW]; exact From.alloc _ _
 have HG : Hid (GBox W w.heap.size A m c r) := by rw [hW]; exact h.box
 have HW := Lib.hid hW
 clear hW h
 have e0 := HG.out.c0
 have e1 := HG.out.c1
 go_enter Tryz.func202, Tryz.ntmps202
 go_wp2_with fail
 rw [← HW.out]
 refine (IsGraph_sv HG.out.gv).mono ?_
 rintro e w1 ⟨rfl, hb1⟩
 clear HW
 clear e0 e1
 replace HB := Lib.hid (HB.out.keep hb1)
 replace HG := Lib.hid (HG.out.keep hb1)
 clear hb1
 have e0 := HG.out.c0
 have e1 := HG.out.c1
 go_wp2_with fail
 refine (LargestClique_sv HG.out.gv).mono ?_
 rintro e w2 ⟨rfl, hb2⟩
 clear e0 e1
 replace HB := Lib.hid (HB.out.keep hb2)
 replace HG := Lib.hid (HG.out.keep hb2)
 clear hb2
 have e0 := HG.out.c0
 have e1 := HG.out.c1
 go_wp2_with fail
 refine (CountSet_sv (lqN r m) hl _).mono ?_
 rintro e w3 ⟨rfl, hb3⟩
 clear e0 e1
 replace HB := Lib.hid (HB.out.keep hb3)
 replace HG := Lib.hid (HG.out.keep hb3)
 clear hb3
 have e0 := HG.out.c0
 have e1 := HG.out.c1
 go_wp2
 go_ret
 exact ⟨rfl, HB.out.below⟩
theorem l1In_tt {n lo hi : Int} (w : World) (h1 : lo ≤ n) (h2 : n ≤ hi) : Calls Tryz.prog 92 #[.int .i64 n, .int .i64 lo, .int .i64 hi] w fun e w' => e = .returned (.bool true) ∧ Below w.heap.size w w' :=
 (l1In_yes n lo hi w h1 h2).mono fun _ _ ⟨h1, h2⟩ => ⟨h1, h2 ▸ Below.refl _ _⟩
set_option maxRecDepth 100000 in
set_option maxHeartbeats 1600000 in
theorem ColoringWith_sv {k : Nat} {w : World} (h : GV w A m c r) (hk1 : 1 ≤ k) (hk7 : k ≤ 7) :
 Calls Tryz.prog 248 #[.agg #[.int .i64 m, .slice A m c], .int .i64 k] w fun e w' => ∃ A' n' c', e = .returned (.tuple #[.slice A' n' c', .bool (cOf r m k).isSome]) ∧ (∀ x, cOf r m k = some x → n' = x.length ∧ ON w.heap.size w' A' c' x) ∧ Below w.heap.size w w' := by
 have HL : Hid (∀ (z : World), From w z → Calls Tryz.prog 277 #[.agg #[.int .i64 m, .slice A m c], .int .i64 k, .slice (some ⟨z.heap.size, 0, none⟩) 0 0] (z.alloc (Obj.cells #[] 3)) fun e w' => ∃ A' n' c', e = .returned (.tuple #[.slice A' n' c', .bool (cOf r m k).isSome]) ∧ (∀ x, cOf r m k = some x → n' = x.length ∧ ON w.heap.size w' A' c' x) ∧ Below z.heap.size z w') := fun z hz => by
  refine (l24_s hk7 m [] (some ⟨z.heap.size, 0, none⟩) 0 (z.alloc (Obj.cells #[] 3)) w.heap.size (by simp) ((h.keep hz.below).keep ((Below.refl _ _).alloc (Nat.le_refl _) _)) ((ON.nil z).mono hz.below.size) (by have := hz.below.size; simp; omega)).mono ?_
  rintro e w' ⟨A', n', c', h1, h2, h3⟩
  exact ⟨A', n', c', h1, h2, ((Below.refl _ _).alloc (Nat.le_refl _) _).trans (h3.mono (by simp))⟩
 obtain ⟨W, hW⟩ : ∃ W : World, W = (w.alloc (Obj.cells #[Value.int IntKind.i64 m, Value.slice A m c] 29)) := ⟨_, rfl⟩
 have HB : Hid (From w W) := by rw [hW]; exact From.alloc _ _
 have HG : Hid (GBox W w.heap.size A m c r) := by rw [hW]; exact h.box
 have HW := Lib.hid hW
 clear hW h
 have e0 := HG.out.c0
 have e1 := HG.out.c1
 go_enter Tryz.func248, Tryz.ntmps248
 go_wp2_with fail
 rw [← HW.out]
 refine (IsGraph_sv HG.out.gv).mono ?_
 rintro e w1 ⟨rfl, hb1⟩
 clear HW
 clear e0 e1
 replace HB := Lib.hid (HB.out.keep hb1)
 replace HG := Lib.hid (HG.out.keep hb1)
 clear hb1
 have e0 := HG.out.c0
 have e1 := HG.out.c1
 go_wp2_with fail
 refine (l1In_tt (n := (k : Int)) (lo := 1) (hi := 7) w1 (by omega) (by omega)).mono ?_
 rintro e w2 ⟨rfl, hb2⟩
 clear e0 e1
 replace HB := Lib.hid (HB.out.keep hb2)
 replace HG := Lib.hid (HG.out.keep hb2)
 clear hb2
 have e0 := HG.out.c0
 have e1 := HG.out.c1
 have hlt := HG.out.lt
 go_wp2_with fail
 refine (HL.out _ HB.out).mono ?_
 rintro e w3 ⟨A5, n5, c5, rfl, hx, hb3⟩
 have HX := Lib.hid hx
 clear hx HL
 clear e0 e1
 replace HB := Lib.hid (HB.out.keep hb3)
 replace HG := Lib.hid (HG.out.keep hb3)
 clear hb3
 have e0 := HG.out.c0
 have e1 := HG.out.c1
 go_wp2
 go_ret2
 exact ⟨_, _, _, rfl, HX.out, HB.out.below⟩
set_option maxRecDepth 100000 in
set_option maxHeartbeats 1600000 in
theorem ChromaticNumber_sv {w : World} (h : GV w A m c r) :
 Calls Tryz.prog 201 #[.agg #[.int .i64 m, .slice A m c]] w fun e w' => e = .returned (.int .i64 (chN r m : Nat)) ∧ Below w.heap.size w w' := by
 have hn7 := h.vg.n7
 have hn1 := h.vg.n1
 obtain ⟨hcm, hsome, hmin⟩ := chN_spec (r := r) hn1
 have hpos := chN_pos (r := r) (m := m)
 have HS := Lib.hid hsome
 have HM := Lib.hid hmin
 obtain ⟨K, hK⟩ : ∃ K, K = chN r m := ⟨_, rfl⟩
 rw [← hK] at hcm HS HM hpos ⊢
 clear hsome hmin hK
 obtain ⟨W, hW⟩ : ∃ W : World, W = (w.alloc (Obj.cells #[Value.int IntKind.i64 m, Value.slice A m c] 29)) := ⟨_, rfl⟩
 have HB : Hid (From w W) := by rw [hW]; exact From.alloc _ _
 have HG : Hid (GBox W w.heap.size A m c r) := by rw [hW]; exact h.box
 have HW := Lib.hid hW
 clear hW h
 have e0 := HG.out.c0
 have e1 := HG.out.c1
 have HR0 : Hid (From W W) := From.refl W
 go_enter Tryz.func201, Tryz.ntmps201
 go_wp2_with fail
 rw [← HW.out]
 go_wp2
 go_loopw [3] (fun i wr => ∃ k : Nat, 1 ≤ k ∧ k ≤ K ∧ i = .int .i64 k ∧ Hid (From W wr)) (fun i _ => K - (intOf i).toNat)
 case atStart => exact ⟨1, Nat.le_refl _, hpos, rfl, HR0⟩
 case round =>
  clear HR0
  obtain ⟨k, hk1, hk, rfl, HR⟩ := hrel
  clear e0 e1
  replace HB := Lib.hid (HB.out.keep HR.out.below)
  replace HG := Lib.hid (HG.out.keep HR.out.below)
  have e0 := HG.out.c0
  have e1 := HG.out.c1
  have i1 : (k : Int) ≤ 7 := by omega
  go_wp2_with fail
  refine (IsGraph_sv HG.out.gv).mono ?_
  rintro e w1 ⟨rfl, hb1⟩
  clear e0 e1
  replace HB := Lib.hid (HB.out.keep hb1)
  replace HG := Lib.hid (HG.out.keep hb1)
  replace HR := Lib.hid (HR.out.keep hb1)
  clear hb1
  have e0 := HG.out.c0
  have e1 := HG.out.c1
  cases hs : (cOf r m k).isSome
  ·have hlt : k < K := by
    by_cases e : k = K
    ·subst e; rw [HS.out] at hs; cases hs
    ·omega
   have Hs := Lib.hid hs
   clear hs
   go_wp2_with fail
   refine (ColoringWith_sv HG.out.gv hk1 (by omega)).mono ?_
   rintro e w5 ⟨A5, n5, c5, rfl, _, hb5⟩
   rw [Hs.out]
   clear e0 e1
   replace HB := Lib.hid (HB.out.keep hb5)
   replace HG := Lib.hid (HG.out.keep hb5)
   replace HR := Lib.hid (HR.out.keep hb5)
   clear hb5
   have e0 := HG.out.c0
   have e1 := HG.out.c1
   go_wp2
   go_roundw
   case rel => exact ⟨k + 1, by omega, by omega, by go_num, HR⟩
   case measure => (simp [intOf] <;> omega)
  ·have hKe : k = K := by
    by_cases e : k < K
    ·rw [HM.out k hk1 e] at hs; cases hs
    ·omega
   have Hs := Lib.hid hs
   have HKe := Lib.hid hKe
   clear hs hKe
   go_wp2_with fail
   refine (ColoringWith_sv HG.out.gv hk1 (by omega)).mono ?_
   rintro e w5 ⟨A5, n5, c5, rfl, _, hb5⟩
   rw [Hs.out]
   clear e0 e1
   replace HB := Lib.hid (HB.out.keep hb5)
   replace HG := Lib.hid (HG.out.keep hb5)
   replace HR := Lib.hid (HR.out.keep hb5)
   clear hb5
   have e0 := HG.out.c0
   have e1 := HG.out.c1
   go_wp2
   go_ret
   exact ⟨ret_int (by rw [HKe.out]), HB.out.below⟩
end
end Go.Proofs.YtppkokgiojcgbaaGreatDoor
