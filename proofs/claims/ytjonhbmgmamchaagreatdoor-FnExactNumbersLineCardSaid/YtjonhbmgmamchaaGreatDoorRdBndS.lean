/-
  Contracts: the search for an order with a bound, the best band, the band of an order (the reference's).
-/
import Derived.Test.YtjonhbmgmamchaaGreatDoorRdBndI
import Derived.Test.YtjonhbmgmamchaaGreatDoorRdHamT
import Derived.Test.YtjonhbmgmamchaaGreatDoorRdListS
namespace Go.Proofs.YtjonhbmgmamchaaGreatDoor
open Go.RowKit

set_option maxRecDepth 100000 in
set_option maxHeartbeats 6400000 in
theorem l27_s {A : Option Addr} {m c K : Nat} {r : Nat → Nat} (hK7 : K ≤ 7) : ∀ (j : Nat) (l : List Nat) (Al : Option Addr) (cl : Nat) (w : World) (lo : Nat), l.length + j = m → (∀ v ∈ l, v < m) → bdK r K l → GV w A m c r → ON lo w Al cl l → lo ≤ w.heap.size →
    Calls Tryz.prog 88 #[.agg #[.int .i64 m, .slice A m c], .int .i64 K, .slice Al l.length cl] w fun e w' => ∃ A' n' c', e = .returned (.tuple #[.slice A' n' c', .bool (seaG m (bdB r K) (fun _ => true) j l).isSome]) ∧ (∀ x, seaG m (bdB r K) (fun _ => true) j l = some x → n' = x.length ∧ ON lo w' A' c' x) ∧ Below w.heap.size w w' := by
  intro j
  induction j with
  | zero =>
    intro l Al cl w lo hlm hlt hbd h hO hlo
    have heq : ((l.length : Int) == (m : Int)) = true := by simp; omega
    have heq2 : (l.length = m) = True := by simp; omega
    have HO := Lib.hid hO
    have HS : Hid (seaG m (bdB r K) (fun _ => true) 0 l = some l) := rfl
    clear hO hlm hlt hbd
    obtain ⟨W, hW⟩ : ∃ W : World, W = (w.alloc (Obj.cells #[Value.int IntKind.i64 m, Value.slice A m c] 27)) := ⟨_, rfl⟩
    have HB : Hid (From w W) := by rw [hW]; exact From.alloc _ _
    have HG : Hid (GBox W w.heap.size A m c r) := by rw [hW]; exact h.box
    have HW := Lib.hid hW
    clear hW h
    have e0 := HG.out.c0
    have e1 := HG.out.c1
    replace HO := Lib.hid (HO.out.keep HB.out.below)
    go_enter Tryz.func88, Tryz.ntmps88
    go_wp2_with fail
    rw [← HW.out]
    go_wp2
    go_ret2
    exact ⟨_, _, _, by rw [HS.out]; rfl, (fun x hx => by rw [HS.out] at hx; injection hx with hx; subst hx; exact ⟨rfl, HO.out⟩), HB.out.below⟩
  | succ j ih =>
    intro l Al cl w lo hlm hlt hbd h hO hlo
    have IH := Lib.hid ih
    have hne : ((l.length : Int) == (m : Int)) = false := by simp; omega
    have hne2 : (l.length = m) = False := by simp; omega
    have hn7 := h.vg.n7
    have Hlm := Lib.hid hlm
    have HLT := Lib.hid hlt
    have HBD := Lib.hid hbd
    have hl7 : l.length ≤ 6 := by omega
    have hlm1 : l.length < m := by omega
    have HO := Lib.hid hO
    clear ih hO hlm hlt hbd
    obtain ⟨W, hW⟩ : ∃ W : World, W = (w.alloc (Obj.cells #[Value.int IntKind.i64 m, Value.slice A m c] 27)) := ⟨_, rfl⟩
    have HB : Hid (From w W) := by rw [hW]; exact From.alloc _ _
    have HG : Hid (GBox W w.heap.size A m c r) := by rw [hW]; exact h.box
    have HW := Lib.hid hW
    clear hW h
    have e0 := HG.out.c0
    have e1 := HG.out.c1
    replace HO := Lib.hid (HO.out.keep HB.out.below)
    have hz := HB.out.below.size
    have HR0 : Hid (From W W) := From.refl W
    go_enter Tryz.func88, Tryz.ntmps88
    go_wp2_with fail
    rw [← HW.out]
    go_wp2
    go_loopw [8] (fun i wr => ∃ v : Nat, v ≤ m ∧ i = .int .i64 v ∧ Hid (∀ u, u < v → atG m (bdB r K) (fun _ => true) j l u = none) ∧ Hid (From W wr)) (fun i _ => m - (intOf i).toNat)
    case atStart => exact ⟨0, Nat.zero_le _, rfl, (fun u hu => absurd hu (by omega)), HR0⟩
    case round =>
      clear HR0 e0 e1
      obtain ⟨v, hv, rfl, hall, HR⟩ := hrel
      have HBr := Lib.hid (HB.out.up HR.out)
      have HGr := Lib.hid (HG.out.keep HR.out.below)
      have HOr := Lib.hid (HO.out.keep HR.out.below)
      have e0 := HGr.out.c0
      by_cases hvm : v < m
      · have i1 : (v : Int) < (m : Int) := by omega
        have HI : Hid ((decide (v ∈ l) = false → v ∉ l) ∧ (decide (v ∈ l) = true → okG (bdB r K) l v = false)) := ⟨fun h => of_decide_eq_false h, fun h => okG_in (of_decide_eq_true h)⟩
        have KH : Hid (∀ z : World, LN z Al cl l → Calls Tryz.prog 90 #[.slice Al l.length cl, .int .i64 v] z fun e w' => e = .returned (.bool (decide (v ∈ l))) ∧ Below z.heap.size z w') := fun z hz => (l8Has_s Al l.length cl l v z z.heap.size ⟨rfl, hz.rd⟩ (by omega)).mono fun _ _ ⟨h1, h2⟩ => ⟨h1, h2 ▸ Below.refl _ _⟩
        obtain ⟨b0, hb0⟩ : ∃ b0, b0 = decide (v ∈ l) := ⟨_, rfl⟩
        rw [← hb0] at HI KH
        clear hb0
        go_wp2_with fail
        refine (KH.out _ HOr.out.ln).mono ?_
        rintro e w1 ⟨rfl, hb1⟩
        clear e0
        replace HR := Lib.hid (HR.out.keep hb1)
        replace HBr := Lib.hid (HBr.out.keep hb1)
        replace HOr := Lib.hid (HOr.out.keep hb1)
        replace HGr := Lib.hid (HGr.out.keep hb1)
        clear hb1
        have e0 := HGr.out.c0
        have HI0 : Hid ((!b0) = true → v ∉ l ∧ ∀ i, i < 0 → (r (l.getD i 0)).testBit v = true → l.length - i ≤ K) := fun h => ⟨HI.out.1 (by simpa using h), fun i hi => absurd hi (by omega)⟩
        have HI1 : Hid ((!b0) = false → okG (bdB r K) l v = false) := fun h => HI.out.2 (by simpa using h)
        clear KH HI e0
        go_wp2
        go_loopw [9, 10] (fun f i wr => ∃ (t : Nat) (b : Bool), t ≤ l.length ∧ i = .int .i64 t ∧ f = .bool b ∧ Hid (b = true → v ∉ l ∧ ∀ i, i < t → (r (l.getD i 0)).testBit v = true → l.length - i ≤ K) ∧ Hid (b = false → okG (bdB r K) l v = false) ∧ Hid (From W wr)) (fun f i _ => l.length - (intOf i).toNat)
        case atStart => exact ⟨0, !b0, Nat.zero_le _, rfl, rfl, HI0, HI1, HR⟩
        case round =>
          clear HR HBr HGr HOr HI0 HI1
          obtain ⟨t, b, ht, rfl, rfl, HT, HF, HR⟩ := hrel
          have HGr := Lib.hid (HG.out.keep HR.out.below)
          have HOr := Lib.hid (HO.out.keep HR.out.below)
          have e0 := HGr.out.c0
          have e1 := HGr.out.c1
          cases b
          case' false =>
            have hok := HF.out rfl
            have Hn : Hid (∀ u, u < v + 1 → atG m (bdB r K) (fun _ => true) j l u = none) := fun u hu => by
              by_cases huv : u < v
              · exact hall.out u huv
              · obtain rfl : u = v := by omega
                exact atG_no hok
            clear hok
            by_cases htl : t < l.length
            case' pos => have i2 : (t : Int) < (l.length : Int) := by omega
            case' neg => have i2 : (l.length : Int) ≤ (t : Int) := by omega
            all_goals
              go_wp2
              go_roundw
              case rel => exact ⟨v + 1, by omega, by go_num, Hn, HR⟩
              case measure => (simp [intOf] <;> omega)
          case' true =>
            obtain ⟨hvl, hed⟩ := HT.out rfl
            by_cases htl : t < l.length
            · have i2 : (t : Int) < (l.length : Int) := by omega
              obtain ⟨y, hy⟩ : ∃ y, y = l.getD t 0 := ⟨_, rfl⟩
              have hyl : l[t] = y := by rw [hy, List.getD_eq_getElem?_getD, List.getElem?_eq_getElem htl]; rfl
              have hym : y < m := by rw [← hyl]; exact HLT.out _ (List.getElem_mem htl)
              by_cases hK : l.length - t ≤ K
              · have HT2 : Hid (v ∉ l ∧ ∀ i, i < t + 1 → (r (l.getD i 0)).testBit v = true → l.length - i ≤ K) := ⟨hvl, fun i hi he => by
                  by_cases hit : i < t
                  · exact hed i hit he
                  · obtain rfl : i = t := by omega
                    exact hK⟩
                have i3 : (l.length : Int) - (t : Int) ≤ (K : Int) := by omega
                clear hy hyl hym hK hvl hed HT HF
                go_wp2
                go_quiet (fail)
                go_wp2
                go_roundw
                case rel => exact ⟨t + 1, true, by omega, by go_num, rfl, Lib.hid (fun _ => HT2.out), Lib.hid (fun h => by cases h), HR.out.drewN _⟩
                case measure => (simp [intOf] <;> omega)
              · have KE : Hid (∀ z : World, Below wr.heap.size wr z → Calls Tryz.prog 87 #[.agg #[.int .i64 m, .slice A m c], .int .i64 (y : Int), .int .i64 (v : Int)] z fun e w' => e = .returned (.bool ((r y).testBit v)) ∧ Below z.heap.size z w') := fun z hz => l2Edge_v (HGr.out.gv.keep hz) hym hvm
                have HT2 : Hid ((!(r y).testBit v) = true → v ∉ l ∧ ∀ i, i < t + 1 → (r (l.getD i 0)).testBit v = true → l.length - i ≤ K) := fun h => ⟨hvl, fun i hi he => by
                  by_cases hit : i < t
                  · exact hed i hit he
                  · obtain rfl : i = t := by omega
                    rw [← hy] at he
                    rw [he] at h
                    cases h⟩
                have HF2 : Hid ((!(r y).testBit v) = false → okG (bdB r K) l v = false) := fun h => by
                  rw [okG_out hvl]
                  refine bdB_no fun hb => hK ?_
                  exact (bdK_snoc HBD.out).1 hb t htl (by rw [← hy]; simpa using h)
                obtain ⟨bl, ol, rfl⟩ := HOr.out.ln.addr (by omega)
                have p0 := HOr.out.ln.at htl
                rw [hyl] at p0
                obtain ⟨ed, hed2⟩ : ∃ ed, ed = (r y).testBit v := ⟨_, rfl⟩
                rw [← hed2] at KE HT2 HF2
                obtain ⟨D, hD⟩ : ∃ D, D = l.length - t := ⟨_, rfl⟩
                have i3 : IntKind.i64.wrap ((l.length : Int) - (t : Int)) = (D : Int) := by rw [Go.IntWalk.i64_in _ (by omega)]; omega
                have i4 : ¬ D ≤ K := by omega
                have i5 : ¬ (D : Int) ≤ (K : Int) := by omega
                clear hD
                clear hy hyl hym hK hvl hed HT HF hed2
                have HSC : Hid (∀ z : World, Below wr.heap.size wr z → (Below wr.heap.size wr z ∧ z.cell? ⟨w.heap.size, 0, none⟩ = some (.int .i64 (m : Nat)) ∧ z.cell? ⟨w.heap.size, 1, none⟩ = some (.slice A m c) ∧ z.cell? ⟨bl, ol + t, none⟩ = some (.int .i64 (y : Nat)))) := fun z hz => ⟨hz, up_ hz e0, up_ hz e1, up_ hz p0⟩
                have HZ0 : Hid (Below wr.heap.size wr wr.drew) := (Below.refl _ _).drew
                have HS1 := Lib.hid (HSC.out _ HZ0.out)
                have KR1 : Hid (∀ z : World, Below wr.heap.size wr z → _) := fun z hz => KE.out z hz
                go_wp2
                go_region_held3 (fun z => Below wr.heap.size wr z ∧ z.cell? ⟨w.heap.size, 0, none⟩ = some (.int .i64 (m : Nat)) ∧ z.cell? ⟨w.heap.size, 1, none⟩ = some (.slice A m c) ∧ z.cell? ⟨bl, ol + t, none⟩ = some (.int .i64 (y : Nat)))
                  (first | exact HS1.out | assumption | exact HSC.out _ hz2 | fail)
                  (first | (go_at_call 87; ((with_reducible refine (KR1.out _ HZ0.out).mono ?_); rintro e w2 ⟨rfl, hb2⟩; have hz2 := bl_trans HZ0.out hb2)))
                replace HR := Lib.hid (HR.out.keep hz2)
                clear hb2 hz2 HSC HZ0 HS1 KR1
                go_wp2
                go_roundw
                case rel => exact ⟨t + 1, !ed, by omega, by go_num, rfl, HT2, HF2, HR⟩
                case measure => (simp [intOf] <;> omega)
            · obtain rfl : l.length = t := by omega
              have hbn : bdK r K (l ++ [v]) := (bdK_snoc HBD.out).2 fun i hi he => hed i hi he
              have hok : okG (bdB r K) l v = true := by rw [okG_out hvl]; exact bdB_iff.2 hbn
              have HFy := Lib.hid (atG_yes (m := m) (hol := fun _ => true) (k := j) hok)
              obtain ⟨so, hso⟩ : ∃ so, so = seaG m (bdB r K) (fun _ => true) j (l ++ [v]) := ⟨_, rfl⟩
              have Hso := Lib.hid hso
              have HRl : Hid (Rd wr wr.heap.size Al l.length cl (fun j => ((l.getD j 0 : Nat) : Int))) := HOr.out.ln.rd
              have hzr := HR.out.below.size
              have Hbn := Lib.hid hbn
              have Hltn : Hid (∀ u ∈ l ++ [v], u < m) := fun u hu => by
                rw [List.mem_append, List.mem_singleton] at hu
                rcases hu with hu | rfl
                · exact HLT.out u hu
                · exact hvm
              have KI : Hid (∀ (z : World) (g6 cap : Nat), Below wr.heap.size wr z → Own z wr.heap.size z.heap.size 3 1 (some ⟨g6, 0, none⟩) (l.length + 1) cap (ni (l ++ [v])) → Calls Tryz.prog 88 #[.agg #[.int .i64 m, .slice A m c], .int .i64 K, .slice (some ⟨g6, 0, none⟩) (l.length + 1) cap] z fun e w' => ∃ A' n' c', e = .returned (.tuple #[.slice A' n' c', .bool so.isSome]) ∧ (∀ x, so = some x → n' = x.length ∧ ON lo w' A' c' x) ∧ Below z.heap.size z w') := fun z g6 cap hz ho => by
                rw [Hso.out]
                have := IH.out (l ++ [v]) (some ⟨g6, 0, none⟩) cap z lo (by rw [List.length_append]; have := Hlm.out; simp; omega) Hltn.out Hbn.out (HGr.out.gv.keep hz) ⟨by rw [List.length_append]; exact ho.mono (by omega) (Nat.le_refl _)⟩ (by have := hz.size; omega)
                rw [List.length_append] at this
                exact this
              clear hso hok hbn hvl hed HT HF
              go_wp2
              have HSC : Hid (∀ z : World, Below wr.heap.size wr z → (Below wr.heap.size wr z ∧ z.cell? ⟨w.heap.size, 0, none⟩ = some (.int .i64 m) ∧ z.cell? ⟨w.heap.size, 1, none⟩ = some (.slice A m c))) := fun z hz => ⟨hz, up_ hz e0, up_ hz e1⟩
              have HZ0 : Hid (Below wr.heap.size wr wr.drew) := (Below.refl _ _).drew
              have HB1 : Hid (Below wr.heap.size wr ((wr.alloc (Obj.cells #[] 3)).drew)) := ((Below.refl _ _).alloc (Nat.le_refl _) _).drew
              have HB2 : Hid (Below wr.heap.size wr (((wr.alloc (Obj.cells #[] 3)).alloc (Obj.cells #[.int .i64 (v : Int)] 3)).drew)) := (((Below.refl _ _).alloc (Nat.le_refl _) _).alloc (by simp) _).drew
              have HB3 : Hid (Below wr.heap.size wr (((wr.alloc (Obj.cells #[.int .i64 (v : Int)] 3)).alloc (Obj.cells #[] 3)).drew)) := (((Below.refl _ _).alloc (Nat.le_refl _) _).alloc (by simp) _).drew
              have HB4 : Hid (Below wr.heap.size wr ((wr.alloc (Obj.cells #[.int .i64 (v : Int)] 3)).drew)) := ((Below.refl _ _).alloc (Nat.le_refl _) _).drew
              have HO1 : Hid (Own ((wr.alloc (Obj.cells #[] 3)).drew) wr.heap.size (wr.heap.size + 1) 3 1 (some ⟨wr.heap.size, 0, none⟩) 0 0 (ni [])) := .inr ⟨wr.heap.size, #[], rfl, Nat.le_refl _, Nat.lt_succ_self _, heap_alloc_new wr _, Nat.le_refl _, by unfold maxLen; omega, rfl, fun j hj => absurd hj (by omega)⟩
              have HO2 : Hid (Own (((wr.alloc (Obj.cells #[] 3)).alloc (Obj.cells #[.int .i64 (v : Int)] 3)).drew) wr.heap.size (wr.heap.size + 1) 3 1 (some ⟨wr.heap.size, 0, none⟩) 0 0 (ni [])) := Own.alloc HO1.out _
              have HO3 : Hid (Own (((wr.alloc (Obj.cells #[.int .i64 (v : Int)] 3)).alloc (Obj.cells #[] 3)).drew) wr.heap.size (wr.heap.size + 1 + 1) 3 1 (some ⟨wr.heap.size + 1, 0, none⟩) 0 0 (ni [])) := by
                have hn := heap_alloc_new (wr.alloc (Obj.cells #[.int .i64 (v : Int)] 3)) (Obj.cells #[] 3)
                have he : (wr.alloc (Obj.cells #[.int .i64 (v : Int)] 3)).heap.size = wr.heap.size + 1 := by simp
                rw [he] at hn
                exact .inr ⟨wr.heap.size + 1, #[], rfl, by omega, Nat.lt_succ_self _, hn, Nat.le_refl _, by unfold maxLen; omega, rfl, fun j hj => absurd hj (by omega)⟩
              have HR1 : Hid (Rd ((wr.alloc (Obj.cells #[] 3)).drew) wr.heap.size Al (l).length cl (fun j => (((l).getD j 0 : Nat) : Int))) := HRl.out.keep HB1.out (Nat.le_refl _)
              have HR2 : Hid (Rd (((wr.alloc (Obj.cells #[] 3)).alloc (Obj.cells #[.int .i64 (v : Int)] 3)).drew) wr.heap.size Al (l).length cl (fun j => (((l).getD j 0 : Nat) : Int))) := HRl.out.keep HB2.out (Nat.le_refl _)
              have HR3 : Hid (Rd (((wr.alloc (Obj.cells #[.int .i64 (v : Int)] 3)).alloc (Obj.cells #[] 3)).drew) wr.heap.size Al (l).length cl (fun j => (((l).getD j 0 : Nat) : Int))) := HRl.out.keep HB3.out (Nat.le_refl _)
              have B2 : Hid ((((wr.alloc (Obj.cells #[] 3)).alloc (Obj.cells #[.int .i64 (v : Int)] 3)).drew).heap[wr.heap.size + 1]? = some (.cells #[.int .i64 (v : Int)] 3 (0, 0)) ∧ wr.heap.size + 1 < (((wr.alloc (Obj.cells #[] 3)).alloc (Obj.cells #[.int .i64 (v : Int)] 3)).drew).heap.size) := by
                have hn := heap_alloc_new (wr.alloc (Obj.cells #[] 3)) (Obj.cells #[.int .i64 (v : Int)] 3)
                have he : (wr.alloc (Obj.cells #[] 3)).heap.size = wr.heap.size + 1 := by simp
                rw [he] at hn
                exact ⟨hn, by show _ < ((wr.alloc _).alloc _).heap.size; simp⟩
              have B3 : Hid ((((wr.alloc (Obj.cells #[.int .i64 (v : Int)] 3)).alloc (Obj.cells #[] 3)).drew).heap[wr.heap.size]? = some (.cells #[.int .i64 (v : Int)] 3 (0, 0)) ∧ wr.heap.size < (((wr.alloc (Obj.cells #[.int .i64 (v : Int)] 3)).alloc (Obj.cells #[] 3)).drew).heap.size) :=
                ⟨(Below.heap_alloc (wr.alloc (Obj.cells #[.int .i64 (v : Int)] 3)) _ _ (by simp)).trans (heap_alloc_new wr _), by show _ < ((wr.alloc _).alloc _).heap.size; simp; omega⟩
              have HC1 : Hid (∀ (z : World) (A1 : Option Addr) (k1 : Nat), Own z wr.heap.size z.heap.size 3 1 A1 (l).length k1 (fun j => .int .i64 (((l).getD j 0 : Nat) : Int)) → Own z wr.heap.size z.heap.size 3 1 A1 (l).length k1 (ni (l ++ [v]))) := by
                intro z A1 k1 h
                exact h.congr (fun j hj => by rw [ni_left hj]; rfl)
              have KR : Hid (∀ (z : World) (g6 cap : Nat), Below wr.heap.size wr z → Own z wr.heap.size z.heap.size 3 1 (some ⟨g6, 0, none⟩) ((l).length + 1) cap (ni (l ++ [v])) → _) := fun z g6 cap hz ho => KI.out _ _ _ hz ho
              go_region_held3 (fun z => Below wr.heap.size wr z ∧ z.cell? ⟨w.heap.size, 0, none⟩ = some (.int .i64 m) ∧ z.cell? ⟨w.heap.size, 1, none⟩ = some (.slice A m c))
                (first | exact HSC.out _ HZ0.out | exact HSC.out _ HB1.out | exact HSC.out _ HB2.out | exact HSC.out _ HB3.out | exact HSC.out _ HB4.out | exact HSC.out _ hz3 | exact HSC.out _ hzB | exact HSC.out _ (bl_alloc hzA) | exact HSC.out _ hzA | fail)
                (first
                  | ((refine step_appendG0 _ (by rfl) _ _ (by rfl) (by rfl) HO1.out (by rfl) HR1.out HB1.out.size (by omega) ?_; intro A1 k1 wA hOA hbA hgA; have hzA := HB1.out.trans hbA; have hOA' := HC1.out _ _ _ hOA))
                  | ((refine step_appendG0 _ (by rfl) _ _ (by rfl) (by rfl) HO2.out (by rfl) HR2.out HB2.out.size (by omega) ?_; intro A1 k1 wA hOA hbA hgA; have hzA := HB2.out.trans hbA; have hOA' := HC1.out _ _ _ hOA; have hB5 := (hgA.block (wr.heap.size + 1) B2.out.2 (by simp [Value.ownBlock])).trans B2.out.1))
                  | ((refine step_appendG0 _ (by rfl) _ _ (by rfl) (by rfl) HO3.out (by rfl) HR3.out HB3.out.size (by omega) ?_; intro A1 k1 wA hOA hbA hgA; have hzA := HB3.out.trans hbA; have hOA' := HC1.out _ _ _ hOA; have hB5 := (hgA.block wr.heap.size B3.out.2 (by simp [Value.ownBlock])).trans B3.out.1))
                  | ((refine step_push _ (by rfl) _ _ _ (by rfl) 3 _ 1 8 Tryz.underlying22 info_int rfl (by omega) wr.heap.size wA.heap.size A1 (l).length k1 (ni (l ++ [v])) (by rfl) (hOA'.alloc _) (by have := hzA.size; simp; omega) wA.heap.size #[.int .i64 (v : Int)] 3 (0, 0) 1 (heap_alloc_new wA _) (by rfl) rfl ni_news (by simp [Value.oneCell']) (by omega) (by omega) ?_; intro g6 cap wB hp; have hzB := (bl_alloc hzA).trans hp.below))
                  | ((refine step_push _ (by rfl) _ _ _ (by rfl) 3 _ 1 8 Tryz.underlying22 info_int rfl (by omega) wr.heap.size wA.heap.size A1 (l).length k1 (ni (l ++ [v])) (by rfl) hOA' hzA.size (wr.heap.size + 1) #[.int .i64 (v : Int)] 3 (0, 0) 1 hB5 (by rfl) rfl ni_news (by simp [Value.oneCell']) (by omega) (by omega) ?_; intro g6 cap wB hp; have hzB := hzA.trans hp.below))
                  | ((refine step_push _ (by rfl) _ _ _ (by rfl) 3 _ 1 8 Tryz.underlying22 info_int rfl (by omega) wr.heap.size wA.heap.size A1 (l).length k1 (ni (l ++ [v])) (by rfl) hOA' hzA.size wr.heap.size #[.int .i64 (v : Int)] 3 (0, 0) 1 hB5 (by rfl) rfl ni_news (by simp [Value.oneCell']) (by omega) (by omega) ?_; intro g6 cap wB hp; have hzB := hzA.trans hp.below))
                  | (go_at_call 88; ((with_reducible refine (KR.out _ _ _ hzB hp.own).mono ?_); rintro e w3 ⟨A7, n7, c7, rfl, hx7, hb3⟩; have hz3 := bl_trans hzB hb3))
                  | fail)
              all_goals clear e0 e1
              all_goals replace HR := Lib.hid (HR.out.keep hz3)
              all_goals replace HGr := Lib.hid (HGr.out.keep hz3)
              all_goals (try clear hB5)
              all_goals clear hz3 hb3 HSC HZ0 HB1 HB2 HB3 HB4 HO1 HO2 HO3 HR1 HR2 HR3 B2 B3 HC1 KR hp hzA hzB hOA hbA hgA hOA'
              all_goals have e0 := HGr.out.c0
              all_goals have e1 := HGr.out.c1
              all_goals
                have HX := Lib.hid hx7
                clear hx7 KI HRl HOr
                cases so with
                | none =>
                  have Hn : Hid (∀ u, u < v + 1 → atG m (bdB r K) (fun _ => true) j l u = none) := fun u hu => by
                    by_cases huv : u < v
                    · exact hall.out u huv
                    · obtain rfl : u = v := by omega
                      exact HFy.out.trans Hso.out.symm
                  go_wp2
                  go_roundw
                  case rel => exact ⟨v + 1, by omega, by go_num, Hn, HR⟩
                  case measure => (simp [intOf] <;> omega)
                | some x =>
                  have Hs : Hid (seaG m (bdB r K) (fun _ => true) (j + 1) l = some x) := seaG_some hvm (HFy.out.trans Hso.out.symm) hall.out
                  have HBz := Lib.hid (HB.out.up HR.out)
                  go_wp2
                  go_ret2
                  exact ⟨_, _, _, by rw [Hs.out]; rfl, (fun y hy => by rw [Hs.out] at hy; injection hy with hy; subst hy; exact HX.out _ rfl), HBz.out.below⟩
      · have Hn : Hid (seaG m (bdB r K) (fun _ => true) (j + 1) l = none) := seaG_none fun u hu => hall.out u (by omega)
        have i1 : (m : Int) ≤ (v : Int) := by omega
        have HBz := Lib.hid (HBr.out.alloc_ (Obj.cells #[] 3))
        go_wp2
        go_ret2
        exact ⟨_, _, _, by rw [Hn.out]; rfl, (fun y hy => by rw [Hn.out] at hy; cases hy), HBz.out.below⟩
section
variable {A Al : Option Addr} {m c cl : Nat} {r : Nat → Nat} {q : List Nat} {w : World}
theorem IsOrder_sv (h : GV w A m c r) (hl : LN w Al cl q) (hlen : q.length = m) (hq : ∀ v ∈ q, v < m) (hn : q.Nodup) :
    Calls Tryz.prog 89 #[.agg #[.int .i64 m, .slice A m c], .slice Al q.length cl] w fun e w' => e = .returned (.bool true) ∧ Below w.heap.size w w' := by
  have hm7 := h.vg.n7
  have := IsOrder_sz (m : Int) A m c _ Al q.length cl _ w h.ga hl.li (by omega) (by omega)
  rwa [orB_yes h.ok (vz_nat hn hq) (by rw [List.length_map, hlen])] at this
set_option maxRecDepth 100000 in
set_option maxHeartbeats 3200000 in
theorem BandOf_sv (h : GV w A m c r) (hl : LN w Al cl q) (hlen : q.length = m) (hq : ∀ v ∈ q, v < m) (hn : q.Nodup) :
    Calls Tryz.prog 52 #[.agg #[.int .i64 m, .slice A m c], .slice Al q.length cl] w fun e w' => e = .returned (.int .i64 (bdP r q)) ∧ Below w.heap.size w w' := by
  have hm1 := h.vg.n1
  have hm7 := h.vg.n7
  have HF : Hid (bwA r q q.length = bdV r q) := bwA_bd h.vg hq
  have HQ : Hid (∀ k (hk : k < q.length), q[k] < m ∧ q.getD k 0 = q[k]) := fun k hk => ⟨hq _ (List.getElem_mem hk), by rw [List.getD_eq_getElem?_getD, List.getElem?_eq_getElem hk]; rfl⟩
  have hq7 : q.length ≤ 7 := by omega
  have KO : Hid (∀ z : World, GV z A m c r → LN z Al cl q → Calls Tryz.prog 89 #[.agg #[.int .i64 m, .slice A m c], .slice Al q.length cl] z fun e w' => e = .returned (.bool true) ∧ Below z.heap.size z w') := fun z hz hl => IsOrder_sv hz hl hlen hq hn
  obtain ⟨Y, hY⟩ : ∃ Y, Y = bdV r q := ⟨_, rfl⟩
  rw [← hY] at HF
  have HYB : Hid (bdP r q = (Y : Int)) := by show _ = _; rw [hY]; rfl
  rw [HYB.out]
  have hq1 : 0 < q.length := by omega
  clear hY hq hn hlen HYB
  obtain ⟨W, hW⟩ : ∃ W : World, W = (w.alloc (Obj.cells #[Value.int IntKind.i64 m, Value.slice A m c] 27)) := ⟨_, rfl⟩
  have HB : Hid (From w W) := by rw [hW]; exact From.alloc _ _
  have HG : Hid (GBox W w.heap.size A m c r) := by rw [hW]; exact h.box
  have HW := Lib.hid hW
  clear hW h
  have e0 := HG.out.c0
  have e1 := HG.out.c1
  have HL := Lib.hid (hl.keep HB.out.below)
  clear hl
  go_enter Tryz.func52, Tryz.ntmps52
  go_wp2_with fail
  rw [← HW.out]
  refine (KO.out W HG.out.gv HL.out).mono ?_
  rintro e w1 ⟨rfl, hb1⟩
  clear HW
  clear e0 e1
  replace HB := Lib.hid (HB.out.keep hb1)
  replace HL := Lib.hid (HL.out.keep hb1)
  replace HG := Lib.hid (HG.out.keep hb1)
  clear hb1
  have e0 := HG.out.c0
  have e1 := HG.out.c1
  have HR0 : Hid (From w1 w1) := From.refl _
  clear KO e0 e1
  go_wp2
  go_loopw [5, 6] (fun a i wr => ∃ i0 M : Nat, i0 ≤ q.length ∧ i = .int .i64 i0 ∧ a = .int .i64 M ∧ M ≤ 7 ∧ Hid (bwA r q i0 = M) ∧ Hid (From w1 wr)) (fun _ i _ => q.length - (intOf i).toNat)
  case atStart => exact ⟨0, 0, Nat.zero_le _, rfl, rfl, by omega, rfl, HR0⟩
  case round =>
    clear HR0
    obtain ⟨i, M, hi, rfl, rfl, hM, HM, HR⟩ := hrel
    by_cases hlt : i < q.length
    · have i1 : (i : Int) < (q.length : Int) := by omega
      have HM0 : Hid (bwR r q i M 0 = M) := rfl
      go_wp2
      go_loopw [5, 7] (fun a k wr => ∃ k0 N : Nat, k0 ≤ i ∧ k = .int .i64 k0 ∧ a = .int .i64 N ∧ N ≤ 7 ∧ Hid (bwR r q i M k0 = N) ∧ Hid (From w1 wr)) (fun _ k _ => i - (intOf k).toNat)
      case atStart => exact ⟨0, M, Nat.zero_le _, rfl, rfl, hM, HM0, HR⟩
      case round =>
        clear HR HM0
        obtain ⟨k, N, hk, rfl, rfl, hN, HN, HR⟩ := hrel
        by_cases hki : k < i
        · have HLr := Lib.hid (HL.out.keep HR.out.below)
          have HGr := Lib.hid (HG.out.keep HR.out.below)
          obtain ⟨bl, ol, rfl⟩ := HLr.out.addr hq1
          have hkl : k < q.length := by omega
          have p0 := HLr.out.at hlt
          have p1 := HLr.out.at hkl
          obtain ⟨hy, hyd⟩ := HQ.out i hlt
          obtain ⟨ht, htd⟩ := HQ.out k hkl
          obtain ⟨y, hye⟩ : ∃ y, y = q[i] := ⟨_, rfl⟩
          obtain ⟨t, hte⟩ : ∃ t, t = q[k] := ⟨_, rfl⟩
          rw [← hye] at p0 hy hyd
          rw [← hte] at p1 ht htd
          have e0 := HGr.out.c0
          have e1 := HGr.out.c1
          have KE : Hid (∀ x : World, Below wr.heap.size wr x → Calls Tryz.prog 87 #[.agg #[.int .i64 m, .slice A m c], .int .i64 (y : Int), .int .i64 (t : Int)] x fun e w' => e = .returned (.bool ((r y).testBit t)) ∧ Below x.heap.size x w') := fun x hx => l2Edge_v (HGr.out.gv.keep hx) hy ht
          have i2 : (k : Int) < (i : Int) := by omega
          have i3 : (k : Int) < (q.length : Int) := by omega
          have Hyd := Lib.hid hyd
          have Htd := Lib.hid htd
          clear hye hte hyd htd hy ht hkl
          cases hed : (r y).testBit t
          · have Hs : Hid (bwR r q i M (k + 1) = N) := by show _ = _; rw [bwR_no (by rw [Hyd.out, Htd.out]; exact hed), HN.out]
            rw [hed] at KE
            clear hed
            have HSC : Hid (∀ z : World, Below wr.heap.size wr z → (Below wr.heap.size wr z ∧ z.cell? ⟨w.heap.size, 0, none⟩ = some (.int .i64 (m : Nat)) ∧ z.cell? ⟨w.heap.size, 1, none⟩ = some (.slice A m c) ∧ z.cell? ⟨bl, ol + i, none⟩ = some (.int .i64 (y : Nat)) ∧ z.cell? ⟨bl, ol + k, none⟩ = some (.int .i64 (t : Nat)))) := fun z hz => ⟨hz, up_ hz e0, up_ hz e1, up_ hz p0, up_ hz p1⟩
            have HZ0 : Hid (Below wr.heap.size wr wr.drew) := (Below.refl _ _).drew
            have HS1 := Lib.hid (HSC.out _ HZ0.out)
            have KR1 : Hid (∀ z : World, Below wr.heap.size wr z → _) := fun z hz => KE.out z hz
            go_wp2
            go_region_held3 (fun z => Below wr.heap.size wr z ∧ z.cell? ⟨w.heap.size, 0, none⟩ = some (.int .i64 (m : Nat)) ∧ z.cell? ⟨w.heap.size, 1, none⟩ = some (.slice A m c) ∧ z.cell? ⟨bl, ol + i, none⟩ = some (.int .i64 (y : Nat)) ∧ z.cell? ⟨bl, ol + k, none⟩ = some (.int .i64 (t : Nat)))
              (first | exact HS1.out | assumption | exact HSC.out _ hz2 | fail)
              (first | (go_at_call 87; ((with_reducible refine (KR1.out _ HZ0.out).mono ?_); rintro e w2 ⟨rfl, hb2⟩; have hz2 := bl_trans HZ0.out hb2)))
            replace HR := Lib.hid (HR.out.keep hz2)
            clear hb2 hz2 HSC HZ0 HS1 KR1
            go_wp2
            go_roundw
            case rel => exact ⟨k + 1, N, by omega, by go_num, rfl, hN, Hs, HR⟩
            case measure => (simp [intOf] <;> omega)
          · obtain ⟨P, hP⟩ : ∃ P, P = max N (i - k) := ⟨_, rfl⟩
            have Hs : Hid (bwR r q i M (k + 1) = P) := by show _ = _; rw [bwR_yes (by rw [Hyd.out, Htd.out]; exact hed), HN.out, hP]
            have hP7 : P ≤ 7 := by omega
            have HP := Lib.hid hP
            rw [hed] at KE
            clear hed hP
            have HSC : Hid (∀ z : World, Below wr.heap.size wr z → (Below wr.heap.size wr z ∧ z.cell? ⟨w.heap.size, 0, none⟩ = some (.int .i64 (m : Nat)) ∧ z.cell? ⟨w.heap.size, 1, none⟩ = some (.slice A m c) ∧ z.cell? ⟨bl, ol + i, none⟩ = some (.int .i64 (y : Nat)) ∧ z.cell? ⟨bl, ol + k, none⟩ = some (.int .i64 (t : Nat)))) := fun z hz => ⟨hz, up_ hz e0, up_ hz e1, up_ hz p0, up_ hz p1⟩
            have HZ0 : Hid (Below wr.heap.size wr wr.drew) := (Below.refl _ _).drew
            have HS1 := Lib.hid (HSC.out _ HZ0.out)
            have KR1 : Hid (∀ z : World, Below wr.heap.size wr z → _) := fun z hz => KE.out z hz
            go_wp2
            go_region_held3 (fun z => Below wr.heap.size wr z ∧ z.cell? ⟨w.heap.size, 0, none⟩ = some (.int .i64 (m : Nat)) ∧ z.cell? ⟨w.heap.size, 1, none⟩ = some (.slice A m c) ∧ z.cell? ⟨bl, ol + i, none⟩ = some (.int .i64 (y : Nat)) ∧ z.cell? ⟨bl, ol + k, none⟩ = some (.int .i64 (t : Nat)))
              (first | exact HS1.out | assumption | exact HSC.out _ hz3 | fail)
              (first | (go_at_call 87; ((with_reducible refine (KR1.out _ HZ0.out).mono ?_); rintro e w3 ⟨rfl, hb3⟩; have hz3 := bl_trans HZ0.out hb3)))
            replace HR := Lib.hid (HR.out.keep hz3)
            clear hb3 hz3 HSC HZ0 HS1 KR1
            go_wp2
            go_roundw
            case rel => exact ⟨k + 1, P, by omega, by go_num, by have := HP.out; congr 1; split <;> omega, hP7, Hs, HR⟩
            case measure => (simp [intOf] <;> omega)
        · obtain rfl : k = i := by omega
          have Hs : Hid (bwA r q (k + 1) = N) := by show bwR r q k (bwA r q k) k = N; rw [HM.out, HN.out]
          go_wp2
          go_roundw
          case rel => exact ⟨k + 1, N, by omega, by go_num, rfl, hN, Hs, HR⟩
          case measure => (simp [intOf] <;> omega)
    · obtain rfl : i = q.length := by omega
      have HBr := Lib.hid (HB.out.up HR.out)
      have hfin : Hid ((M : Int) = (Y : Int)) := by show _ = _; rw [← HF.out, HM.out]
      go_wp2
      go_ret
      exact ⟨ret_int hfin.out, HBr.out.below⟩
set_option maxRecDepth 100000 in
set_option maxHeartbeats 3200000 in
theorem BestBand_sv (h : GV w A m c r) :
    Calls Tryz.prog 51 #[.agg #[.int .i64 m, .slice A m c]] w fun e w' => ∃ A' c' o, e = .returned (.tuple #[.slice A' o.length c', .bool true]) ∧ ON w.heap.size w' A' c' o ∧ (bwI r m = ((bdV r o : Nat) : Int) ∧ o.length = m ∧ (∀ v ∈ o, v < m) ∧ o.Nodup) ∧ Below w.heap.size w w' := by
  have hm1 := h.vg.n1
  have hm7 := h.vg.n7
  obtain ⟨W, hW⟩ : ∃ W : World, W = (w.alloc (Obj.cells #[Value.int IntKind.i64 m, Value.slice A m c] 27)) := ⟨_, rfl⟩
  have HB : Hid (From w W) := by rw [hW]; exact From.alloc _ _
  have HG : Hid (GBox W w.heap.size A m c r) := by rw [hW]; exact h.box
  have HW := Lib.hid hW
  clear hW h
  have e0 := HG.out.c0
  have e1 := HG.out.c1
  have HR0 : Hid (From W W) := From.refl W
  go_enter Tryz.func51, Tryz.ntmps51
  go_wp2_with fail
  rw [← HW.out]
  go_wp2
  go_loopw [4] (fun i wr => ∃ k : Nat, k < m ∧ i = .int .i64 k ∧ Hid (∀ j, j < k → seaG m (bdB r j) (fun _ => true) m [] = none) ∧ Hid (From W wr)) (fun i _ => m - (intOf i).toNat)
  case atStart => exact ⟨0, by omega, rfl, (fun u hu => absurd hu (by omega)), HR0⟩
  case round =>
    clear HR0 e0 e1
    obtain ⟨k, hk, rfl, hall, HR⟩ := hrel
    have i1 : (k : Int) < (m : Int) := by omega
    have HBr := Lib.hid (HB.out.up HR.out)
    have HGr := Lib.hid (HG.out.keep HR.out.below)
    have e0 := HGr.out.c0
    have e1 := HGr.out.c1
    go_wp2_with fail
    refine (IsGraph_sv HGr.out.gv).mono ?_
    rintro e w1 ⟨rfl, hb1⟩
    clear e0 e1
    replace HR := Lib.hid (HR.out.keep hb1)
    replace HBr := Lib.hid (HBr.out.keep hb1)
    replace HGr := Lib.hid (HGr.out.keep hb1)
    clear hb1
    have e0 := HGr.out.c0
    have e1 := HGr.out.c1
    have HON : Hid (ON w1.heap.size (w1.alloc (Obj.cells #[] 3)) (some ⟨w1.heap.size, 0, none⟩) 0 []) := ON.nil w1
    have HB2 : Hid (Below w1.heap.size w1 (w1.alloc (Obj.cells #[] 3))) := (Below.refl _ _).alloc (Nat.le_refl _) _
    have hzr := HBr.out.below.size
    have KI := Lib.hid (l27_s (K := k) (by omega) m [] (some ⟨w1.heap.size, 0, none⟩) 0 (w1.alloc (Obj.cells #[] 3)) w.heap.size (by simp) (fun v hv => by cases hv) bdK_nil (HGr.out.gv.keep HB2.out) (HON.out.mono hzr) (Nat.le_trans hzr HB2.out.size))
    obtain ⟨so, hso⟩ : ∃ so, so = seaG m (bdB r k) (fun _ => true) m [] := ⟨_, rfl⟩
    rw [← hso] at KI
    have Hso := Lib.hid hso
    clear hso
    go_wp2_with fail
    refine KI.out.mono ?_
    rintro e w5 ⟨A5, n5, c5, rfl, hx5, hb5⟩
    have HX := Lib.hid hx5
    have HB5 : Hid (Below w1.heap.size w1 w5) := HB2.out.trans (hb5.mono HB2.out.size)
    clear e0 e1
    replace HR := Lib.hid (HR.out.keep HB5.out)
    replace HBr := Lib.hid (HBr.out.keep HB5.out)
    replace HGr := Lib.hid (HGr.out.keep HB5.out)
    clear HB5 HB2 HON KI hb5 hx5
    have e0 := HGr.out.c0
    have e1 := HGr.out.c1
    cases so with
    | none =>
      have Hn : Hid (∀ j, j < k + 1 → seaG m (bdB r j) (fun _ => true) m [] = none) := fun j hj => by
        by_cases hjk : j < k
        · exact hall.out j hjk
        · obtain rfl : j = k := by omega
          exact Hso.out.symm
      have hk1 : k + 1 < m := by
        by_cases hkm : k + 1 < m
        · exact hkm
        · have : m - 1 = k := by omega
          exact absurd (Hn.out k (by omega)) (this ▸ bd_last)
      go_wp2
      go_roundw
      case rel => exact ⟨k + 1, hk1, by go_num, Hn, HR⟩
      case measure => (simp [intOf] <;> omega)
    | some x =>
      obtain ⟨rfl, ho⟩ := HX.out x rfl
      have HO := Lib.hid ho
      have HV : Hid (bwI r m = ((bdV r x : Nat) : Int) ∧ x.length = m ∧ (∀ v ∈ x, v < m) ∧ x.Nodup) := ⟨bwI_is Hso.out.symm hall.out, (bd_law Hso.out.symm hall.out).1.1, (bd_law Hso.out.symm hall.out).1.2.2, (bd_law Hso.out.symm hall.out).1.2.1⟩
      clear ho HX
      go_wp2
      go_ret2
      exact ⟨_, _, x, rfl, HO.out, HV.out, HBr.out.below⟩
set_option maxRecDepth 100000 in
theorem BandwidthOf_sv (h : GV w A m c r) :
    Calls Tryz.prog 19 #[.agg #[.int .i64 m, .slice A m c]] w fun e w' => e = .returned (.int .i64 (bwI r m)) ∧ Below w.heap.size w w' := by
  obtain ⟨W, hW⟩ : ∃ W : World, W = (w.alloc (Obj.cells #[Value.int IntKind.i64 m, Value.slice A m c] 27)) := ⟨_, rfl⟩
  have HB : Hid (From w W) := by rw [hW]; exact From.alloc _ _
  have HG : Hid (GBox W w.heap.size A m c r) := by rw [hW]; exact h.box
  have HW := Lib.hid hW
  clear hW h
  have e0 := HG.out.c0
  have e1 := HG.out.c1
  go_enter Tryz.func19, Tryz.ntmps19
  go_wp2_with fail
  rw [← HW.out]
  refine (BestBand_sv HG.out.gv).mono ?_
  rintro e w1 ⟨A5, c5, o, rfl, ho, hv, hb1⟩
  clear HW
  clear e0 e1
  replace HB := Lib.hid (HB.out.keep hb1)
  replace HG := Lib.hid (HG.out.keep hb1)
  clear hb1
  have e0 := HG.out.c0
  have e1 := HG.out.c1
  have HO := Lib.hid ho
  have HV := Lib.hid hv
  clear ho hv
  have KB : Hid (Calls Tryz.prog 52 #[.agg #[.int .i64 m, .slice A m c], .slice A5 o.length c5] w1 fun e w' => e = .returned (.int .i64 (bwI r m)) ∧ Below w1.heap.size w1 w') := by
    rw [HV.out.1]
    exact BandOf_sv HG.out.gv HO.out.ln HV.out.2.1 HV.out.2.2.1 HV.out.2.2.2
  go_wp2_with fail
  refine (KB.out).mono ?_
  rintro e w2 ⟨rfl, hb2⟩
  clear e0 e1
  replace HB := Lib.hid (HB.out.keep hb2)
  replace HG := Lib.hid (HG.out.keep hb2)
  clear hb2
  have e0 := HG.out.c0
  have e1 := HG.out.c1
  go_wp2
  go_ret
  exact ⟨rfl, HB.out.below⟩
end
end Go.Proofs.YtjonhbmgmamchaaGreatDoor
