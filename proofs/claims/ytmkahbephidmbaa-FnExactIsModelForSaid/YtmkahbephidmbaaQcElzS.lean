/-
  Contract: is a list an elimination order? The reference's.
-/
import Derived.Test.YtmkahbephidmbaaQcElzI
namespace Go.Proofs.Ytmkahbephidmbaa
open Go.RowKit

theorem all_range {m : Nat} {l : List Int} {p : Int → Bool} (hV : VZ m l) (hlen : l.length = m) : l.all p = (List.range m).all fun v => p (v : Int) := by
  rw [Bool.eq_iff_iff, List.all_eq_true, List.all_eq_true]
  constructor
  · intro h v hv
    rw [List.mem_range] at hv
    exact h _ (hV.all hlen (by omega) (by omega))
  · intro h v hv
    obtain ⟨h0, h1⟩ := hV.2 v hv
    have := h v.toNat (List.mem_range.2 (by omega))
    rwa [Int.toNat_of_nonneg h0] at this
theorem all_snoc {m v : Nat} {p : Nat → Bool} (hv : v < m) (h : p v = false) : (List.range m).all p = false := by
  rw [List.all_eq_false]
  exact ⟨v, List.mem_range.2 hv, by rw [h]; simp⟩
theorem all_yes {m : Nat} {p : Nat → Bool} (h : ∀ v, v < m → p v = true) : (List.range m).all p = true := by
  rw [List.all_eq_true]
  exact fun v hv => h v (List.mem_range.1 hv)
set_option maxRecDepth 100000 in
set_option maxHeartbeats 1600000 in
theorem IsElimination_s (sz : Int) (A : Option Addr) (m c : Nat) (x : Nat → Int) (Al : Option Addr) (n cl : Nat) (l : List Int) (w : World) (h : GA w A m c x) (hl : LI w Al n cl l) (hm : m ≤ 1048576) (hn : n ≤ 1048576) :
    Calls Try.prog 12 #[.agg #[.int .i64 sz, .slice A m c], .slice Al n cl] w fun e w' => e = .returned (.bool (elB sz m x l)) ∧ Below w.heap.size w w' := by
  obtain ⟨W, hW⟩ : ∃ W : World, W = (w.alloc (Obj.cells #[Value.int IntKind.i64 sz, Value.slice A m c] 27)) := ⟨_, rfl⟩
  have HB : Hid (From w W) := by rw [hW]; exact From.alloc _ _
  have HK := Lib.hid (h.keep HB.out.below)
  have HL := Lib.hid (hl.keep HB.out.below)
  have HC : Hid (GC W w.heap.size sz A m c) := by rw [hW]; exact GC.new _ _ _ _ _
  have HW := Lib.hid hW
  clear hW h hl
  go_enter Try.func12, Try.ntmps12
  have e0 := HC.out.c0
  have e1 := HC.out.c1
  go_wp2_with fail
  rw [← HW.out]
  refine (IsOrder_sz sz A m c x Al n cl l W HK.out HL.out hm hn).mono ?_
  rintro e w1 ⟨rfl, hb1⟩
  clear HW
  clear e0 e1
  replace HB := Lib.hid (HB.out.keep hb1)
  replace HK := Lib.hid (HK.out.keep hb1)
  replace HL := Lib.hid (HL.out.keep hb1)
  replace HC := Lib.hid (HC.out.keep hb1)
  clear hb1
  have e0 := HC.out.c0
  have e1 := HC.out.c1
  cases ho : orB sz m x l
  · have Hn : Hid (elB sz m x l = false) := elB_no ho
    clear ho
    go_wp2
    go_ret
    exact ⟨ret_bool Hn.out.symm, HB.out.below⟩
  obtain ⟨hok, hV, hlen⟩ := orB_parts ho
  obtain ⟨_, es, vg0, _⟩ := okB_ok' hok
  subst es
  have HG : Hid (GV w1 A m c (rw_ x)) := HK.out.gv hok
  have HV := Lib.hid hV
  have HN := Lib.hid hlen
  have hn7 := vg0.n7
  have Hy : Hid (elB (m : Int) m x l = (List.range m).all fun v => cliq (rw_ x) (ltN (rw_ x) l (v : Int))) := by show _ = _; rw [elB_yes ho, all_range hV hlen]
  have HR0 : Hid (From w1 w1) := From.refl w1
  clear ho hok hV hlen vg0
  go_wp2
  go_loopw [5] (fun i wr => ∃ v : Nat, v ≤ m ∧ i = .int .i64 v ∧ Hid (∀ u, u < v → cliq (rw_ x) (ltN (rw_ x) l (u : Int)) = true) ∧ Hid (From w1 wr)) (fun i _ => m - (intOf i).toNat)
  case atStart => exact ⟨0, Nat.zero_le _, rfl, (fun u hu => absurd hu (by omega)), HR0⟩
  case round =>
    clear HR0 e0 e1
    obtain ⟨v, hv, rfl, hall, HR⟩ := hrel
    have HBr := Lib.hid (HB.out.up HR.out)
    have HCr := Lib.hid (HC.out.keep HR.out.below)
    have HGr := Lib.hid (HG.out.keep HR.out.below)
    have HLr := Lib.hid (HL.out.keep HR.out.below)
    have e0 := HCr.out.c0
    have e1 := HCr.out.c1
    by_cases hvm : v < m
    · have i1 : (v : Int) < (m : Int) := by omega
      have hmem : (v : Int) ∈ l := HV.out.all HN.out (by omega) (by omega)
      have KL : Hid (∀ z : World, Below wr.heap.size wr z → Calls Try.prog 34 #[.agg #[.int .i64 m, .slice A m c], .slice Al n cl, .int .i64 (v : Int)] z fun e w' => e = .returned (.int .i64 (ltN (rw_ x) l (v : Int) : Nat)) ∧ Below z.heap.size z w') := fun z hz => LaterNeighbours_sv (HGr.out.keep hz) (HLr.out.keep hz) HV.out HN.out hmem
      have hlt : ltN (rw_ x) l (v : Int) < 2 ^ m := ltN_lt HG.out.vg (by omega) (by omega)
      obtain ⟨t, ht⟩ : ∃ t, t = ltN (rw_ x) l (v : Int) := ⟨_, rfl⟩
      have Ht := Lib.hid ht
      rw [← ht] at KL hlt
      have KI : Hid (∀ z : World, Below wr.heap.size wr z → Calls Try.prog 33 #[.agg #[.int .i64 m, .slice A m c], .int .i64 (t : Int)] z fun e w' => e = .returned (.bool (cliq (rw_ x) t)) ∧ Below z.heap.size z w') := fun z hz => IsClique_sv (HGr.out.keep hz) hlt
      clear ht hmem
      cases hc : cliq (rw_ x) t
      · rw [hc] at KI
        have Hn : Hid (elB (m : Int) m x l = false) := by show _ = _; rw [Hy.out]; exact all_snoc hvm (by rw [← Ht.out]; exact hc)
        clear hc
        go_wp2
        have HSC : Hid (∀ z : World, Below wr.heap.size wr z → (Below wr.heap.size wr z ∧ z.cell? ⟨w.heap.size, 0, none⟩ = some (.int .i64 m) ∧ z.cell? ⟨w.heap.size, 1, none⟩ = some (.slice A m c))) := fun z hz => ⟨hz, up_ hz e0, up_ hz e1⟩
        have HZ0 : Hid (Below wr.heap.size wr wr.drew) := (Below.refl _ _).drew
        have HS1 := Lib.hid (HSC.out _ HZ0.out)
        have KR1 : Hid (∀ z : World, Below wr.heap.size wr z → _) := fun z hz => KL.out _ hz
        have KR2 : Hid (∀ z : World, Below wr.heap.size wr z → _) := fun z hz => KI.out _ hz
        go_region_held3 (fun z => Below wr.heap.size wr z ∧ z.cell? ⟨w.heap.size, 0, none⟩ = some (.int .i64 m) ∧ z.cell? ⟨w.heap.size, 1, none⟩ = some (.slice A m c))
          (first | exact HS1.out | assumption | exact HSC.out _ hz3 | exact HSC.out _ hz2 | fail)
          (first | (go_at_call 34; ((with_reducible refine (KR1.out _ HZ0.out).mono ?_); rintro e w2 ⟨rfl, hb2⟩; have hz2 := bl_trans HZ0.out hb2)) | (go_at_call 33; ((with_reducible refine (KR2.out _ hz2).mono ?_); rintro e w3 ⟨rfl, hb3⟩; have hz3 := bl_trans hz2 hb3)))
        replace HR := Lib.hid (HR.out.keep hz3)
        replace HBr := Lib.hid (HBr.out.keep hz3)
        clear hb2 hz2 hb3 hz3 HSC HZ0 HS1 KR1 KR2
        go_wp2
        go_ret
        exact ⟨ret_bool Hn.out.symm, HBr.out.below⟩
      · rw [hc] at KI
        have Hc : Hid (cliq (rw_ x) (ltN (rw_ x) l (v : Int)) = true) := by rw [← Ht.out]; exact hc
        clear hc
        go_wp2
        have HSC : Hid (∀ z : World, Below wr.heap.size wr z → (Below wr.heap.size wr z ∧ z.cell? ⟨w.heap.size, 0, none⟩ = some (.int .i64 m) ∧ z.cell? ⟨w.heap.size, 1, none⟩ = some (.slice A m c))) := fun z hz => ⟨hz, up_ hz e0, up_ hz e1⟩
        have HZ0 : Hid (Below wr.heap.size wr wr.drew) := (Below.refl _ _).drew
        have HS1 := Lib.hid (HSC.out _ HZ0.out)
        have KR1 : Hid (∀ z : World, Below wr.heap.size wr z → _) := fun z hz => KL.out _ hz
        have KR2 : Hid (∀ z : World, Below wr.heap.size wr z → _) := fun z hz => KI.out _ hz
        go_region_held3 (fun z => Below wr.heap.size wr z ∧ z.cell? ⟨w.heap.size, 0, none⟩ = some (.int .i64 m) ∧ z.cell? ⟨w.heap.size, 1, none⟩ = some (.slice A m c))
          (first | exact HS1.out | assumption | exact HSC.out _ hz5 | exact HSC.out _ hz4 | fail)
          (first | (go_at_call 34; ((with_reducible refine (KR1.out _ HZ0.out).mono ?_); rintro e w4 ⟨rfl, hb4⟩; have hz4 := bl_trans HZ0.out hb4)) | (go_at_call 33; ((with_reducible refine (KR2.out _ hz4).mono ?_); rintro e w5 ⟨rfl, hb5⟩; have hz5 := bl_trans hz4 hb5)))
        replace HR := Lib.hid (HR.out.keep hz5)
        replace HBr := Lib.hid (HBr.out.keep hz5)
        clear hb4 hz4 hb5 hz5 HSC HZ0 HS1 KR1 KR2
        go_wp2
        go_roundw
        case rel =>
          refine ⟨v + 1, by omega, by go_num, fun u hu => ?_, HR⟩
          by_cases huv : u < v
          · exact hall.out u huv
          · obtain rfl : u = v := by omega
            exact Hc.out
        case measure => (simp [intOf] <;> omega)
    · have Hn : Hid (elB (m : Int) m x l = true) := by show _ = _; rw [Hy.out]; exact all_yes fun v hv => hall.out v (by omega)
      obtain rfl : m = v := by omega
      go_wp2
      go_ret
      exact ⟨ret_bool Hn.out.symm, HBr.out.below⟩
end Go.Proofs.Ytmkahbephidmbaa
