/-
  Contracts: the reference's search for a coloring.
-/
import Derived.Test.YtjonhbmgmamchaaGreatDoorRdIdxI
import Derived.Test.YtjonhbmgmamchaaGreatDoorRdHamT
namespace Go.Proofs.YtjonhbmgmamchaaGreatDoor
open Go.RowKit

set_option maxRecDepth 100000 in
set_option maxHeartbeats 6400000 in
theorem l24_s {A : Option Addr} {m c k : Nat} {r : Nat → Nat} (hk7 : k ≤ 7) : ∀ (j : Nat) (l : List Nat) (Al : Option Addr) (cl : Nat) (w : World) (lo : Nat), l.length + j = m → GV w A m c r → ON lo w Al cl l → lo ≤ w.heap.size →
    Calls Tryz.prog 84 #[.agg #[.int .i64 m, .slice A m c], .int .i64 k, .slice Al l.length cl] w fun e w' => ∃ A' n' c', e = .returned (.tuple #[.slice A' n' c', .bool (colS r k j l).isSome]) ∧ (∀ x, colS r k j l = some x → n' = x.length ∧ ON lo w' A' c' x) ∧ Below w.heap.size w w' := by
  intro j
  induction j with
  | zero =>
    intro l Al cl w lo hlm h hO hlo
    have heq : ((l.length : Int) == (m : Int)) = true := by simp; omega
    have heq2 : (l.length = m) = True := by simp; omega
    have HO := Lib.hid hO
    clear hO hlm
    obtain ⟨W, hW⟩ : ∃ W : World, W = (w.alloc (Obj.cells #[Value.int IntKind.i64 m, Value.slice A m c] 27)) := ⟨_, rfl⟩
    have HB : Hid (From w W) := by rw [hW]; exact From.alloc _ _
    have HG : Hid (GBox W w.heap.size A m c r) := by rw [hW]; exact h.box
    have HW := Lib.hid hW
    clear hW h
    have e0 := HG.out.c0
    have e1 := HG.out.c1
    replace HO := Lib.hid (HO.out.keep HB.out.below)
    go_enter Tryz.func84, Tryz.ntmps84
    go_wp2_with fail
    rw [← HW.out]
    go_wp2
    go_ret2
    exact ⟨_, _, _, rfl, (fun x hx => by injection hx with hx; subst hx; exact ⟨rfl, HO.out⟩), HB.out.below⟩
  | succ j ih =>
    intro l Al cl w lo hlm h hO hlo
    have IH := Lib.hid ih
    have hne : ((l.length : Int) == (m : Int)) = false := by simp; omega
    have hne2 : (l.length = m) = False := by simp; omega
    have hn7 := h.vg.n7
    have Hlm := Lib.hid hlm
    have hl7 : l.length ≤ 6 := by omega
    have hlm1 : l.length < m := by omega
    have HO := Lib.hid hO
    clear ih hO hlm
    obtain ⟨W, hW⟩ : ∃ W : World, W = (w.alloc (Obj.cells #[Value.int IntKind.i64 m, Value.slice A m c] 27)) := ⟨_, rfl⟩
    have HB : Hid (From w W) := by rw [hW]; exact From.alloc _ _
    have HG : Hid (GBox W w.heap.size A m c r) := by rw [hW]; exact h.box
    have HW := Lib.hid hW
    clear hW h
    have e0 := HG.out.c0
    have e1 := HG.out.c1
    replace HO := Lib.hid (HO.out.keep HB.out.below)
    have hz := HB.out.below.size
    have HR0 : Hid (From W W) := From.refl W
    go_enter Tryz.func84, Tryz.ntmps84
    go_wp2_with fail
    rw [← HW.out]
    go_wp2
    go_loopw [9] (fun i wr => ∃ v : Nat, v ≤ k ∧ i = .int .i64 v ∧ Hid (∀ u, u < v → cAt r k j l u = none) ∧ Hid (From W wr)) (fun i _ => k - (intOf i).toNat)
    case atStart => exact ⟨0, Nat.zero_le _, rfl, (fun u hu => absurd hu (by omega)), HR0⟩
    case round =>
      clear HR0 e0 e1
      obtain ⟨v, hv, rfl, hall, HR⟩ := hrel
      by_cases hvk : v < k
      · have i1 : (v : Int) < (k : Int) := by omega
        go_wp2
        go_loopw [10, 11] (fun f i wr => ∃ t : Nat, t ≤ l.length ∧ i = .int .i64 t ∧ f = .bool (frK r l l.length v t) ∧ Hid (From W wr)) (fun _ i _ => l.length - (intOf i).toNat)
        case atStart => exact ⟨0, Nat.zero_le _, rfl, rfl, HR⟩
        case round =>
          clear HR
          obtain ⟨t, ht, rfl, rfl, HR⟩ := hrel
          have HGr := Lib.hid (HG.out.keep HR.out.below)
          have HOr := Lib.hid (HO.out.keep HR.out.below)
          have e0 := HGr.out.c0
          have e1 := HGr.out.c1
          by_cases htl : t < l.length
          · have i2 : (t : Int) < (l.length : Int) := by omega
            obtain ⟨y, hy⟩ : ∃ y, y = l.getD t 0 := ⟨_, rfl⟩
            have hst : frK r l l.length v (t + 1) = (frK r l l.length v t && !(y == v && (r l.length).testBit t)) := by rw [hy]; rfl
            cases hf : frK r l l.length v t
            · have Hs : Hid (frK r l l.length v (t + 1) = false) := by rw [hf] at hst; exact hst
              clear hst hy
              go_wp2
              go_roundw
              case rel => exact ⟨t + 1, by omega, by go_num, by rw [Hs.out], HR⟩
              case measure => (simp [intOf] <;> omega)
            · have KE : Hid (Calls Tryz.prog 87 #[.agg #[.int .i64 m, .slice A m c], .int .i64 (l.length : Int), .int .i64 (t : Int)] wr fun e w' => e = .returned (.bool ((r l.length).testBit t)) ∧ Below wr.heap.size wr w') := l2Edge_v HGr.out.gv hlm1 (by omega)
              have Hy := Lib.hid hy
              cases hb : (r l.length).testBit t
              · rw [hb] at KE
                have Hs : Hid (frK r l l.length v (t + 1) = true) := by rw [hf, hb] at hst; show _ = _; simpa using hst
                clear hst hy hb
                go_wp2_with fail
                refine (KE.out).mono ?_
                rintro e w1 ⟨rfl, hb1⟩
                clear e0 e1
                replace HR := Lib.hid (HR.out.keep hb1)
                replace HOr := Lib.hid (HOr.out.keep hb1)
                replace HGr := Lib.hid (HGr.out.keep hb1)
                clear hb1
                have e0 := HGr.out.c0
                have e1 := HGr.out.c1
                go_wp2
                go_roundw
                case rel => exact ⟨t + 1, by omega, by go_num, by rw [Hs.out], HR⟩
                case measure => (simp [intOf] <;> omega)
              · rw [hb] at KE
                by_cases hyv : y = v
                · have Hs : Hid (frK r l l.length v (t + 1) = false) := by rw [hf, hb] at hst; show _ = _; simpa [hyv] using hst
                  have d1 : ((y : Int) == (v : Int)) = true := by simp; omega
                  clear hst hy hb hyv
                  go_wp2_with fail
                  refine (KE.out).mono ?_
                  rintro e w2 ⟨rfl, hb2⟩
                  clear e0 e1
                  replace HR := Lib.hid (HR.out.keep hb2)
                  replace HOr := Lib.hid (HOr.out.keep hb2)
                  replace HGr := Lib.hid (HGr.out.keep hb2)
                  clear hb2
                  have e0 := HGr.out.c0
                  have e1 := HGr.out.c1
                  obtain ⟨bl, ol, rfl⟩ := HOr.out.ln.addr (by omega)
                  have p0 := HOr.out.ln.at htl
                  rw [show l[t] = y from by rw [Hy.out]; simp [List.getD, htl]] at p0
                  go_wp2
                  go_roundw
                  case rel => exact ⟨t + 1, by omega, by go_num, by rw [Hs.out], HR⟩
                  case measure => (simp [intOf] <;> omega)
                · have Hs : Hid (frK r l l.length v (t + 1) = true) := by
                    rw [hf] at hst
                    have : (y == v) = false := by simpa using hyv
                    rw [this] at hst
                    show _ = _
                    simpa using hst
                  have d1 : ((y : Int) == (v : Int)) = false := by simp; omega
                  clear hst hy hb hyv
                  go_wp2_with fail
                  refine (KE.out).mono ?_
                  rintro e w3 ⟨rfl, hb3⟩
                  clear e0 e1
                  replace HR := Lib.hid (HR.out.keep hb3)
                  replace HOr := Lib.hid (HOr.out.keep hb3)
                  replace HGr := Lib.hid (HGr.out.keep hb3)
                  clear hb3
                  have e0 := HGr.out.c0
                  have e1 := HGr.out.c1
                  obtain ⟨bl, ol, rfl⟩ := HOr.out.ln.addr (by omega)
                  have p0 := HOr.out.ln.at htl
                  rw [show l[t] = y from by rw [Hy.out]; simp [List.getD, htl]] at p0
                  go_wp2
                  go_roundw
                  case rel => exact ⟨t + 1, by omega, by go_num, by rw [Hs.out], HR⟩
                  case measure => (simp [intOf] <;> omega)
          · obtain rfl : l.length = t := by omega
            cases hf : frK r l l.length v l.length
            · have Hn : Hid (∀ u, u < v + 1 → cAt r k j l u = none) := fun u hu => by
                by_cases huv : u < v
                · exact hall.out u huv
                · obtain rfl : u = v := by omega
                  exact cAt_no hf
              clear hf
              go_wp2
              go_roundw
              case rel => exact ⟨v + 1, by omega, by go_num, Hn, HR⟩
              case measure => (simp [intOf] <;> omega)
            · have HF := Lib.hid (cAt_yes (k := k) (j := j) hf)
              obtain ⟨so, hso⟩ : ∃ so, so = colS r k j (l ++ [v]) := ⟨_, rfl⟩
              have Hso := Lib.hid hso
              have HRl : Hid (Rd wr wr.heap.size Al l.length cl (fun j => ((l.getD j 0 : Nat) : Int))) := HOr.out.ln.rd
              have hzr := HR.out.below.size
              have KI : Hid (∀ (z : World) (g6 cap : Nat), Below wr.heap.size wr z → Own z wr.heap.size z.heap.size 3 1 (some ⟨g6, 0, none⟩) (l.length + 1) cap (ni (l ++ [v])) → Calls Tryz.prog 84 #[.agg #[.int .i64 m, .slice A m c], .int .i64 k, .slice (some ⟨g6, 0, none⟩) (l.length + 1) cap] z fun e w' => ∃ A' n' c', e = .returned (.tuple #[.slice A' n' c', .bool so.isSome]) ∧ (∀ x, so = some x → n' = x.length ∧ ON lo w' A' c' x) ∧ Below z.heap.size z w') := fun z g6 cap hz ho => by
                rw [Hso.out]
                have := IH.out (l ++ [v]) (some ⟨g6, 0, none⟩) cap z lo (by rw [List.length_append]; have := Hlm.out; simp; omega) (HGr.out.gv.keep hz) ⟨by rw [List.length_append]; exact ho.mono (by omega) (Nat.le_refl _)⟩ (by have := hz.size; omega)
                rw [List.length_append] at this
                exact this
              clear hf hso
              go_wp2
              have HSC : Hid (∀ z : World, Below wr.heap.size wr z → (Below wr.heap.size wr z ∧ z.cell? ⟨w.heap.size, 0, none⟩ = some (.int .i64 m) ∧ z.cell? ⟨w.heap.size, 1, none⟩ = some (.slice A m c))) := fun z hz => ⟨hz, up_ hz e0, up_ hz e1⟩
              have HZ0 : Hid (Below wr.heap.size wr wr.drew) := (Below.refl _ _).drew
              have HB1 : Hid (Below wr.heap.size wr ((wr.alloc (Obj.cells #[] 3)).drew)) := ((Below.refl _ _).alloc (Nat.le_refl _) _).drew
              have HB2 : Hid (Below wr.heap.size wr (((wr.alloc (Obj.cells #[] 3)).alloc (Obj.cells #[.int .i64 (v : Int)] 3)).drew)) := (((Below.refl _ _).alloc (Nat.le_refl _) _).alloc (by simp) _).drew
              have HB3 : Hid (Below wr.heap.size wr (((wr.alloc (Obj.cells #[.int .i64 (v : Int)] 3)).alloc (Obj.cells #[] 3)).drew)) := (((Below.refl _ _).alloc (Nat.le_refl _) _).alloc (by simp) _).drew
              have HB4 : Hid (Below wr.heap.size wr ((wr.alloc (Obj.cells #[.int .i64 (v : Int)] 3)).drew)) := ((Below.refl _ _).alloc (Nat.le_refl _) _).drew
              have HO1 : Hid (Own ((wr.alloc (Obj.cells #[] 3)).drew) wr.heap.size (wr.heap.size + 1) 3 1 (some ⟨wr.heap.size, 0, none⟩) 0 0 (ni [])) := .inr ⟨wr.heap.size, #[], rfl, Nat.le_refl _, Nat.lt_succ_self _, heap_alloc_new wr _, Nat.le_refl _, by unfold maxLen; omega, rfl, fun j hj => absurd hj (by omega)⟩
              have HO2 : Hid (Own (((wr.alloc (Obj.cells #[] 3)).alloc (Obj.cells #[.int .i64 (v : Int)] 3)).drew) wr.heap.size (wr.heap.size + 1) 3 1 (some ⟨wr.heap.size, 0, none⟩) 0 0 (ni [])) := Own.alloc HO1.out _
              have HO3 : Hid (Own (((wr.alloc (Obj.cells #[.int .i64 (v : Int)] 3)).alloc (Obj.cells #[] 3)).drew) wr.heap.size (wr.heap.size + 1 + 1) 3 1 (some ⟨wr.heap.size + 1, 0, none⟩) 0 0 (ni [])) := by
                have hn := heap_alloc_new (wr.alloc (Obj.cells #[.int .i64 (v : Int)] 3)) (Obj.cells #[] 3)
                have he : (wr.alloc (Obj.cells #[.int .i64 (v : Int)] 3)).heap.size = wr.heap.size + 1 := by simp
                rw [he] at hn
                exact .inr ⟨wr.heap.size + 1, #[], rfl, by omega, Nat.lt_succ_self _, hn, Nat.le_refl _, by unfold maxLen; omega, rfl, fun j hj => absurd hj (by omega)⟩
              have HR1 : Hid (Rd ((wr.alloc (Obj.cells #[] 3)).drew) wr.heap.size Al (l).length cl (fun j => (((l).getD j 0 : Nat) : Int))) := HRl.out.keep HB1.out (Nat.le_refl _)
              have HR2 : Hid (Rd (((wr.alloc (Obj.cells #[] 3)).alloc (Obj.cells #[.int .i64 (v : Int)] 3)).drew) wr.heap.size Al (l).length cl (fun j => (((l).getD j 0 : Nat) : Int))) := HRl.out.keep HB2.out (Nat.le_refl _)
              have HR3 : Hid (Rd (((wr.alloc (Obj.cells #[.int .i64 (v : Int)] 3)).alloc (Obj.cells #[] 3)).drew) wr.heap.size Al (l).length cl (fun j => (((l).getD j 0 : Nat) : Int))) := HRl.out.keep HB3.out (Nat.le_refl _)
              have B2 : Hid ((((wr.alloc (Obj.cells #[] 3)).alloc (Obj.cells #[.int .i64 (v : Int)] 3)).drew).heap[wr.heap.size + 1]? = some (.cells #[.int .i64 (v : Int)] 3 (0, 0)) ∧ wr.heap.size + 1 < (((wr.alloc (Obj.cells #[] 3)).alloc (Obj.cells #[.int .i64 (v : Int)] 3)).drew).heap.size) := by
                have hn := heap_alloc_new (wr.alloc (Obj.cells #[] 3)) (Obj.cells #[.int .i64 (v : Int)] 3)
                have he : (wr.alloc (Obj.cells #[] 3)).heap.size = wr.heap.size + 1 := by simp
                rw [he] at hn
                exact ⟨hn, by show _ < ((wr.alloc _).alloc _).heap.size; simp⟩
              have B3 : Hid ((((wr.alloc (Obj.cells #[.int .i64 (v : Int)] 3)).alloc (Obj.cells #[] 3)).drew).heap[wr.heap.size]? = some (.cells #[.int .i64 (v : Int)] 3 (0, 0)) ∧ wr.heap.size < (((wr.alloc (Obj.cells #[.int .i64 (v : Int)] 3)).alloc (Obj.cells #[] 3)).drew).heap.size) :=
                ⟨(Below.heap_alloc (wr.alloc (Obj.cells #[.int .i64 (v : Int)] 3)) _ _ (by simp)).trans (heap_alloc_new wr _), by show _ < ((wr.alloc _).alloc _).heap.size; simp; omega⟩
              have HC1 : Hid (∀ (z : World) (A1 : Option Addr) (k1 : Nat), Own z wr.heap.size z.heap.size 3 1 A1 (l).length k1 (fun j => .int .i64 (((l).getD j 0 : Nat) : Int)) → Own z wr.heap.size z.heap.size 3 1 A1 (l).length k1 (ni (l ++ [v]))) := by
                intro z A1 k1 h
                exact h.congr (fun j hj => by rw [ni_left hj]; rfl)
              have KR : Hid (∀ (z : World) (g6 cap : Nat), Below wr.heap.size wr z → Own z wr.heap.size z.heap.size 3 1 (some ⟨g6, 0, none⟩) ((l).length + 1) cap (ni (l ++ [v])) → _) := fun z g6 cap hz ho => KI.out _ _ _ hz ho
              go_region_held3 (fun z => Below wr.heap.size wr z ∧ z.cell? ⟨w.heap.size, 0, none⟩ = some (.int .i64 m) ∧ z.cell? ⟨w.heap.size, 1, none⟩ = some (.slice A m c))
                (first | exact HSC.out _ HZ0.out | exact HSC.out _ HB1.out | exact HSC.out _ HB2.out | exact HSC.out _ HB3.out | exact HSC.out _ HB4.out | exact HSC.out _ hz4 | exact HSC.out _ hzB | exact HSC.out _ (bl_alloc hzA) | exact HSC.out _ hzA | fail)
                (first
                  | ((refine step_appendG0 _ (by rfl) _ _ (by rfl) (by rfl) HO1.out (by rfl) HR1.out HB1.out.size (by omega) ?_; intro A1 k1 wA hOA hbA hgA; have hzA := HB1.out.trans hbA; have hOA' := HC1.out _ _ _ hOA))
                  | ((refine step_appendG0 _ (by rfl) _ _ (by rfl) (by rfl) HO2.out (by rfl) HR2.out HB2.out.size (by omega) ?_; intro A1 k1 wA hOA hbA hgA; have hzA := HB2.out.trans hbA; have hOA' := HC1.out _ _ _ hOA; have hB5 := (hgA.block (wr.heap.size + 1) B2.out.2 (by simp [Value.ownBlock])).trans B2.out.1))
                  | ((refine step_appendG0 _ (by rfl) _ _ (by rfl) (by rfl) HO3.out (by rfl) HR3.out HB3.out.size (by omega) ?_; intro A1 k1 wA hOA hbA hgA; have hzA := HB3.out.trans hbA; have hOA' := HC1.out _ _ _ hOA; have hB5 := (hgA.block wr.heap.size B3.out.2 (by simp [Value.ownBlock])).trans B3.out.1))
                  | ((refine step_push _ (by rfl) _ _ _ (by rfl) 3 _ 1 8 Tryz.underlying22 info_int rfl (by omega) wr.heap.size wA.heap.size A1 (l).length k1 (ni (l ++ [v])) (by rfl) (hOA'.alloc _) (by have := hzA.size; simp; omega) wA.heap.size #[.int .i64 (v : Int)] 3 (0, 0) 1 (heap_alloc_new wA _) (by rfl) rfl ni_news (by simp [Value.oneCell']) (by omega) (by omega) ?_; intro g6 cap wB hp; have hzB := (bl_alloc hzA).trans hp.below))
                  | ((refine step_push _ (by rfl) _ _ _ (by rfl) 3 _ 1 8 Tryz.underlying22 info_int rfl (by omega) wr.heap.size wA.heap.size A1 (l).length k1 (ni (l ++ [v])) (by rfl) hOA' hzA.size (wr.heap.size + 1) #[.int .i64 (v : Int)] 3 (0, 0) 1 hB5 (by rfl) rfl ni_news (by simp [Value.oneCell']) (by omega) (by omega) ?_; intro g6 cap wB hp; have hzB := hzA.trans hp.below))
                  | ((refine step_push _ (by rfl) _ _ _ (by rfl) 3 _ 1 8 Tryz.underlying22 info_int rfl (by omega) wr.heap.size wA.heap.size A1 (l).length k1 (ni (l ++ [v])) (by rfl) hOA' hzA.size wr.heap.size #[.int .i64 (v : Int)] 3 (0, 0) 1 hB5 (by rfl) rfl ni_news (by simp [Value.oneCell']) (by omega) (by omega) ?_; intro g6 cap wB hp; have hzB := hzA.trans hp.below))
                  | (go_at_call 84; ((with_reducible refine (KR.out _ _ _ hzB hp.own).mono ?_); rintro e w4 ⟨A7, n7, c7, rfl, hx7, hb4⟩; have hz4 := bl_trans hzB hb4))
                  | fail)
              all_goals clear e0 e1
              all_goals replace HR := Lib.hid (HR.out.keep hz4)
              all_goals replace HGr := Lib.hid (HGr.out.keep hz4)
              all_goals (try clear hB5)
              all_goals clear hz4 hb4 HSC HZ0 HB1 HB2 HB3 HB4 HO1 HO2 HO3 HR1 HR2 HR3 B2 B3 HC1 KR hp hzA hzB hOA hbA hgA hOA'
              all_goals have e0 := HGr.out.c0
              all_goals have e1 := HGr.out.c1
              all_goals
                have HX := Lib.hid hx7
                clear hx7 KI HRl HOr
                cases so with
                | none =>
                  have Hn : Hid (∀ u, u < v + 1 → cAt r k j l u = none) := fun u hu => by
                    by_cases huv : u < v
                    · exact hall.out u huv
                    · obtain rfl : u = v := by omega
                      exact HF.out.trans Hso.out.symm
                  go_wp2
                  go_roundw
                  case rel => exact ⟨v + 1, by omega, by go_num, Hn, HR⟩
                  case measure => (simp [intOf] <;> omega)
                | some x =>
                  have Hs : Hid (colS r k (j + 1) l = some x) := colS_some hvk (HF.out.trans Hso.out.symm) hall.out
                  have HBz := Lib.hid (HB.out.up HR.out)
                  go_wp2
                  go_ret2
                  exact ⟨_, _, _, by rw [Hs.out]; rfl, (fun y hy => by rw [Hs.out] at hy; injection hy with hy; subst hy; exact HX.out _ rfl), HBz.out.below⟩
      · have Hn : Hid (colS r k (j + 1) l = none) := colS_none fun u hu => hall.out u (by omega)
        have i1 : (k : Int) ≤ (v : Int) := by omega
        have HBz := Lib.hid ((HB.out.up HR.out).alloc_ (Obj.cells #[] 3))
        go_wp2
        go_ret2
        exact ⟨_, _, _, by rw [Hn.out]; rfl, (fun y hy => by rw [Hn.out] at hy; cases hy), HBz.out.below⟩
end Go.Proofs.YtjonhbmgmamchaaGreatDoor
