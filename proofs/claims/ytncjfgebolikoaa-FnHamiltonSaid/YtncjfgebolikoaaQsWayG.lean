/-
  Contracts: is a list a way in a graph? (both sides, whatever the graph and the list are)
-/
import Derived.Test.YtncjfgebolikoaaQsListS
import Derived.Test.YtncjfgebolikoaaQsGC
namespace Go.Proofs.Ytncjfgebolikoaa
open Go.RowKit

noncomputable def wyB (sz : Int) (m : Nat) (x : Nat → Int) (l : List Int) : Bool := vrB sz m x l && wayB (rw_ x) (l.map Int.toNat)
theorem wyB_bad {sz : Int} {m : Nat} {x : Nat → Int} {l : List Int} (h : vrB sz m x l = false) : wyB sz m x l = false := by unfold wyB; rw [h]; rfl
theorem wyB_ok {sz : Int} {m : Nat} {x : Nat → Int} {l : List Int} (h : vrB sz m x l = true) : wyB sz m x l = wayB (rw_ x) (l.map Int.toNat) := by unfold wyB; rw [h]; rfl
theorem wyB_nil {sz : Int} {m : Nat} {x : Nat → Int} : wyB sz m x [] = false := by unfold wyB; exact Bool.and_false _
/-- What is known of a list of different vertices. -/
theorem vr_parts {sz : Int} {m : Nat} {x : Nat → Int} {l : List Int} (h : vrB sz m x l = true) : sz = (m : Int) ∧ okB (m : Int) m x = true ∧ l.length ≤ 7 ∧
    ∃ q : List Nat, q = l.map Int.toNat ∧ q.length = l.length ∧ q.Nodup ∧ (∀ v ∈ q, v < m) ∧ ∀ j, j < l.length → l.getD j 0 = ((q.getD j 0 : Nat) : Int) := by
  unfold vrB at h
  rw [Bool.and_eq_true] at h
  obtain ⟨h1, h2⟩ := h
  obtain ⟨_, es, vg, _⟩ := okB_ok' h1
  subst es
  have hV := vzB_iff.1 h2
  have hlen := hV.len
  have h7 := vg.n7
  refine ⟨rfl, h1, by omega, _, rfl, List.length_map _, map_nodup hV.1 (fun v hv => (hV.2 v hv).1), fun v hv => ?_, fun j hj => ?_⟩
  · obtain ⟨u, hu, rfl⟩ := List.mem_map.1 hv
    have := hV.2 u hu
    omega
  · have h0 := (hV.2 _ (getD_mem hj)).1
    have e : (l.map Int.toNat).getD j 0 = (l.getD j 0).toNat := by simp [List.getD, hj]
    rw [e]
    omega

set_option maxHeartbeats 1600000 in
theorem IsWay_z (sz : Int) (A : Option Addr) (m c : Nat) (x : Nat → Int) (Al : Option Addr) (n cl : Nat) (l : List Int) (w : World) (h : GA w A m c x) (hl : LI w Al n cl l) (hm : m ≤ 1048576) (hn : n ≤ 1048576) :
    Calls Try.prog 13 #[.agg #[.int .i64 sz, .slice A m c], .slice Al n cl] w fun e w' => e = .returned (.bool (wyB sz m x l)) ∧ Below w.heap.size w w' := by
  obtain ⟨W, hW⟩ : ∃ W : World, W = (w.alloc (Obj.cells #[Value.int IntKind.i64 sz, Value.slice A m c] 26)) := ⟨_, rfl⟩
  have HB : Hid (From w W) := by rw [hW]; exact From.alloc _ _
  have HK := Lib.hid (h.keep HB.out.below)
  have HL := Lib.hid (hl.keep HB.out.below)
  have HC : Hid (GC W w.heap.size sz A m c) := by rw [hW]; exact GC.new _ _ _ _ _
  have HW := Lib.hid hW
  have HN := Lib.hid hl.len
  clear hW h hl
  by_cases h0 : n = 0
  · subst h0
    have hno : Hid (wyB sz m x l = false) := by
      obtain rfl : l = [] := List.length_eq_zero_iff.1 HN.out.symm
      exact wyB_nil
    clear HC HK HL
    go_enter Try.func13, Try.ntmps13
    go_wp2
    rw [← HW.out]
    go_ret
    exact ⟨ret_bool hno.out.symm, HB.out.below⟩
  have hne : ((n : Int) == 0) = false := by simp; omega
  go_enter Try.func13, Try.ntmps13
  have e0 := HC.out.c0
  have e1 := HC.out.c1
  go_wp2_with fail
  rw [← HW.out]
  refine (areVertices_z sz A m c x Al n cl l W HK.out HL.out hm hn).mono ?_
  rintro e w1 ⟨rfl, hb1⟩
  clear HW
  clear e0 e1
  replace HB := Lib.hid (HB.out.keep hb1)
  replace HK := Lib.hid (HK.out.keep hb1)
  replace HL := Lib.hid (HL.out.keep hb1)
  replace HC := Lib.hid (HC.out.keep hb1)
  clear hb1
  have e0 := HC.out.c0
  have e1 := HC.out.c1
  cases hv : vrB sz m x l
  · have hno : Hid (wyB sz m x l = false) := wyB_bad hv
    clear hv
    go_wp2
    go_ret
    exact ⟨ret_bool hno.out.symm, HB.out.below⟩
  · obtain ⟨rfl, hok, hl7, q, hq, hql, hqn, hqm, hqg⟩ := vr_parts hv
    have HY : Hid (wyB (m : Int) m x l = wayB (rw_ x) q) := by show _ = _; rw [wyB_ok hv, hq]
    have HV : Hid (GV w1 A m c (rw_ x)) := GV.of HK.out.rd (Nat.le_refl _) hok
    rw [← HN.out] at hl7 hql hqg
    have hm7 := HV.out.vg.n7
    obtain ⟨bl, ol, rfl⟩ := HL.out.addr (by omega)
    obtain ⟨b, o, rfl⟩ := HV.out.addr
    have HQ := Lib.hid hqg
    have Hqm := Lib.hid hqm
    have Hqn := Lib.hid hqn
    have Hql := Lib.hid hql
    have hzl : w.heap.size < w1.heap.size := HC.out.lt
    clear hv hok hq hql hqn hqm hqg HK
    go_wp2
    go_loopw [5] (fun i wr => ∃ k : Nat, 1 ≤ k ∧ k ≤ n ∧ i = .int .i64 k ∧ Hid (∀ i, i + 1 < k → edg (rw_ x) (q.getD i 0) (q.getD (i + 1) 0) = true) ∧ Hid (From w1 wr)) (fun i _ => n - (intOf i).toNat)
    case atStart => exact ⟨1, Nat.le_refl _, by omega, by go_num, (fun i hi => absurd hi (by omega)), From.refl _⟩
    case round =>
      obtain ⟨k, hk1, hk, rfl, hall, HR⟩ := hrel
      by_cases hlt : k < n
      · obtain ⟨j, rfl⟩ : ∃ j, k = j + 1 := ⟨k - 1, by omega⟩
        obtain ⟨u, hu⟩ : ∃ u, u = q.getD j 0 := ⟨_, rfl⟩
        obtain ⟨v, hv⟩ : ∃ v, v = q.getD (j + 1) 0 := ⟨_, rfl⟩
        have hum : u < m := by
          rw [hu]
          have hj : j < q.length := by have := Hql.out; omega
          simpa [List.getD, hj] using Hqm.out _ (List.getElem_mem hj)
        have hvm : v < m := by
          rw [hv]
          have hj : j + 1 < q.length := by have := Hql.out; omega
          simpa [List.getD, hj] using Hqm.out _ (List.getElem_mem hj)
        have HLr := Lib.hid (HL.out.keep HR.out.below)
        have HVr := Lib.hid (HV.out.keep HR.out.below)
        have HCr := Lib.hid (HC.out.keep HR.out.below)
        have q0 := HCr.out.c0
        have q1 := HCr.out.c1
        have q2 := HLr.out.at (show j < n by omega)
        have q3 := HLr.out.at hlt
        have q4 := HVr.out.row hum
        rw [HQ.out j (by omega), ← hu] at q2
        rw [HQ.out (j + 1) hlt, ← hv] at q3
        have hr128 := HV.out.vg.lt128 hum
        have i1 : ((j + 1 : Nat) : Int) < (n : Int) := by omega
        have i2 : (u : Int) < (m : Int) := by omega
        have s1 : IntKind.i64.wrap (((j + 1 : Nat) : Int) - 1) = (j : Int) := by
          have : ((j + 1 : Nat) : Int) - 1 = (j : Int) := by omega
          rw [this]; exact Go.IntWalk.i64_in (j : Int) (by omega)
        have i3 : (j : Int) < (n : Int) := by omega
        have K1 : Hid (∀ w, Calls Try.prog 34 #[.int .i64 (rw_ x u : Int), .int .i64 v] w fun e w' => e = .returned (.bool (edg (rw_ x) u v)) ∧ w' = w) := fun w => (has_v w hr128 (show v < 64 by omega)).mono fun _ _ h => ⟨h.1, h.2.symm⟩
        have Hu := Lib.hid hu
        have Hv := Lib.hid hv
        clear hu hv HLr HVr HCr
        cases he : edg (rw_ x) u v
        · have hno : Hid (wayB (rw_ x) q = false) := way_no (i := j) (by have := Hql.out; omega) (by rw [← Hu.out, ← Hv.out]; exact he)
          rw [he] at K1
          clear he
          go_wp2
          go_quiet (first | (go_at_call 34; with_reducible exact Calls.quiet_of_same (K1.out _)))
          go_wp2
          go_ret
          exact ⟨ret_bool (by rw [HY.out, hno.out]), (HB.out.up (HR.out.drewN _)).below⟩
        · have He : Hid (edg (rw_ x) (q.getD j 0) (q.getD (j + 1) 0) = true) := by show _ = _; rw [← Hu.out, ← Hv.out]; exact he
          rw [he] at K1
          clear he
          go_wp2
          go_quiet (first | (go_at_call 34; with_reducible exact Calls.quiet_of_same (K1.out _)))
          go_wp2
          refine ⟨⟨j + 1 + 1, by omega, by omega, by go_num, fun i hi => ?_, HR.out.drewN _⟩, by simp [intOf] <;> omega⟩
          by_cases hij : i + 1 < j + 1
          · exact hall.out i hij
          · obtain rfl : i = j := by omega
            exact He.out
      · have hyes : Hid (wayB (rw_ x) q = true) := way_yes (by rintro rfl; have := Hql.out; simp at this; omega) Hqn.out fun i hi => hall.out i (by have := Hql.out; omega)
        have i1 : (n : Int) ≤ (k : Int) := by omega
        go_wp2
        go_ret
        exact ⟨ret_bool (by rw [HY.out, hyes.out]), (HB.out.up HR.out).below⟩
set_option maxRecDepth 100000 in
set_option maxHeartbeats 1600000 in
theorem IsWay_sz (sz : Int) (A : Option Addr) (m c : Nat) (x : Nat → Int) (Al : Option Addr) (n cl : Nat) (l : List Int) (w : World) (h : GA w A m c x) (hl : LI w Al n cl l) (hm : m ≤ 1048576) (hn : n ≤ 1048576) :
    Calls Try.prog 24 #[.agg #[.int .i64 sz, .slice A m c], .slice Al n cl] w fun e w' => e = .returned (.bool (wyB sz m x l)) ∧ Below w.heap.size w w' := by
  obtain ⟨W, hW⟩ : ∃ W : World, W = (w.alloc (Obj.cells #[Value.int IntKind.i64 sz, Value.slice A m c] 26)) := ⟨_, rfl⟩
  have HB : Hid (From w W) := by rw [hW]; exact From.alloc _ _
  have HK := Lib.hid (h.keep HB.out.below)
  have HL := Lib.hid (hl.keep HB.out.below)
  have HC : Hid (GC W w.heap.size sz A m c) := by rw [hW]; exact GC.new _ _ _ _ _
  have HW := Lib.hid hW
  have HN := Lib.hid hl.len
  clear hW h hl
  go_enter Try.func24, Try.ntmps24
  have e0 := HC.out.c0
  have e1 := HC.out.c1
  go_wp2_with fail
  rw [← HW.out]
  refine (l4Distinct_z sz A m c x Al n cl l W HK.out HL.out hm hn).mono ?_
  rintro e w1 ⟨rfl, hb1⟩
  clear HW
  clear e0 e1
  replace HB := Lib.hid (HB.out.keep hb1)
  replace HK := Lib.hid (HK.out.keep hb1)
  replace HL := Lib.hid (HL.out.keep hb1)
  replace HC := Lib.hid (HC.out.keep hb1)
  clear hb1
  have e0 := HC.out.c0
  have e1 := HC.out.c1
  cases hv : vrB sz m x l
  · have hno : Hid (wyB sz m x l = false) := wyB_bad hv
    clear hv
    go_wp2
    go_ret
    exact ⟨ret_bool hno.out.symm, HB.out.below⟩
  · by_cases h0 : n = 0
    · subst h0
      have hno : Hid (wyB sz m x l = false) := by
        obtain rfl : l = [] := List.length_eq_zero_iff.1 HN.out.symm
        exact wyB_nil
      clear hv
      go_wp2
      go_ret
      exact ⟨ret_bool hno.out.symm, HB.out.below⟩
    have hne : ((n : Int) == 0) = false := by simp; omega
    obtain ⟨rfl, hok, hl7, q, hq, hql, hqn, hqm, hqg⟩ := vr_parts hv
    have HY : Hid (wyB (m : Int) m x l = wayB (rw_ x) q) := by show _ = _; rw [wyB_ok hv, hq]
    have HV : Hid (GV w1 A m c (rw_ x)) := GV.of HK.out.rd (Nat.le_refl _) hok
    rw [← HN.out] at hl7 hql hqg
    have hm7 := HV.out.vg.n7
    obtain ⟨bl, ol, rfl⟩ := HL.out.addr (by omega)
    obtain ⟨r, hr⟩ : ∃ r, r = rw_ x := ⟨_, rfl⟩
    rw [← hr] at HV HY
    have HQ := Lib.hid hqg
    have Hqm := Lib.hid hqm
    have Hqn := Lib.hid hqn
    have Hql := Lib.hid hql
    clear hv hok hq hql hqn hqm hqg HK hr
    go_wp2
    go_loopw [5] (fun i wr => ∃ k : Nat, 1 ≤ k ∧ k ≤ n ∧ i = .int .i64 k ∧ Hid (∀ i, i + 1 < k → edg r (q.getD i 0) (q.getD (i + 1) 0) = true) ∧ Hid (From w1 wr)) (fun i _ => n - (intOf i).toNat)
    case atStart => exact ⟨1, Nat.le_refl _, by omega, by go_num, (fun i hi => absurd hi (by omega)), From.refl _⟩
    case round =>
      obtain ⟨k, hk1, hk, rfl, hall, HR⟩ := hrel
      by_cases hlt : k < n
      · obtain ⟨j, rfl⟩ : ∃ j, k = j + 1 := ⟨k - 1, by omega⟩
        obtain ⟨u, hu⟩ : ∃ u, u = q.getD j 0 := ⟨_, rfl⟩
        obtain ⟨v, hv⟩ : ∃ v, v = q.getD (j + 1) 0 := ⟨_, rfl⟩
        have hum : u < m := by
          rw [hu]
          have hj : j < q.length := by have := Hql.out; omega
          simpa [List.getD, hj] using Hqm.out _ (List.getElem_mem hj)
        have hvm : v < m := by
          rw [hv]
          have hj : j + 1 < q.length := by have := Hql.out; omega
          simpa [List.getD, hj] using Hqm.out _ (List.getElem_mem hj)
        have HLr := Lib.hid (HL.out.keep HR.out.below)
        have HCr := Lib.hid (HC.out.keep HR.out.below)
        have q0 := HCr.out.c0
        have q1 := HCr.out.c1
        have q2 := HLr.out.at (show j < n by omega)
        have q3 := HLr.out.at hlt
        rw [HQ.out j (by omega), ← hu] at q2
        rw [HQ.out (j + 1) hlt, ← hv] at q3
        have i1 : ((j + 1 : Nat) : Int) < (n : Int) := by omega
        have s1 : IntKind.i64.wrap (((j + 1 : Nat) : Int) - 1) = (j : Int) := by
          have : ((j + 1 : Nat) : Int) - 1 = (j : Int) := by omega
          rw [this]; exact Go.IntWalk.i64_in (j : Int) (by omega)
        have i3 : (j : Int) < (n : Int) := by omega
        have i4 : ((j : Int) + 1).toNat = j + 1 := by omega
        have i5 : (j : Int) + 1 - 1 = (j : Int) := by omega
        have i6 : (j : Int) + 1 < (n : Int) := by omega
        have i7 : (0 : Int) ≤ (j : Int) + 1 := by omega
        have s2 : IntKind.i64.wrap ((j : Int) + 1 - 1) = (j : Int) := by
          rw [i5]; exact Go.IntWalk.i64_in (j : Int) (by omega)
        have s3 : IntKind.i64.wrap (j : Int) = (j : Int) := Go.IntWalk.i64_in (j : Int) (by omega)
        have Hd : Hid (edg r u v = edg r (q.getD j 0) (q.getD (j + 1) 0)) := by show _ = _; rw [hu, hv]
        obtain ⟨t, ht⟩ : ∃ t, t = edg r u v := ⟨_, rfl⟩
        rw [← ht] at Hd
        have KE : Hid (∀ z : World, Below wr.heap.size wr z → Calls Try.prog 43 #[.agg #[.int .i64 m, .slice A m c], .int .i64 u, .int .i64 v] z fun e w' => e = .returned (.bool t) ∧ Below z.heap.size z w') := fun z hz => by rw [ht]; exact l2Edge_v ((HV.out.keep HR.out.below).keep hz) hum hvm
        have HR0 : Hid (From wr wr) := From.refl _
        clear hu hv ht HLr HCr hum hvm
        have HSC : Hid (∀ z : World, Below wr.heap.size wr z → (Below wr.heap.size wr z ∧ z.cell? ⟨w.heap.size, 0, none⟩ = some (.int .i64 (m : Nat)) ∧ z.cell? ⟨w.heap.size, 1, none⟩ = some (.slice A m c) ∧ z.cell? ⟨bl, ol + j, none⟩ = some (.int .i64 (u : Nat)) ∧ z.cell? ⟨bl, ol + (j + 1), none⟩ = some (.int .i64 (v : Nat)))) := fun z hz => ⟨hz, up_ hz q0, up_ hz q1, up_ hz q2, up_ hz q3⟩
        have HZ0 : Hid (Below wr.heap.size wr wr.drew) := (Below.refl _ _).drew
        have HS1 := Lib.hid (HSC.out _ HZ0.out)
        have KR1 : Hid (∀ z : World, Below wr.heap.size wr z → _) := fun z hz => KE.out z hz
        go_wp2
        go_region_held3 (fun z => Below wr.heap.size wr z ∧ z.cell? ⟨w.heap.size, 0, none⟩ = some (.int .i64 (m : Nat)) ∧ z.cell? ⟨w.heap.size, 1, none⟩ = some (.slice A m c) ∧ z.cell? ⟨bl, ol + j, none⟩ = some (.int .i64 (u : Nat)) ∧ z.cell? ⟨bl, ol + (j + 1), none⟩ = some (.int .i64 (v : Nat)))
          (first | exact HS1.out | assumption | exact HSC.out _ hz2 | fail)
          (first | (go_at_call 43; ((with_reducible refine (KR1.out _ HZ0.out).mono ?_); rintro e w2 ⟨rfl, hb2⟩; have hz2 := bl_trans HZ0.out hb2)))
        replace HR0 := Lib.hid (HR0.out.keep hz2)
        clear hb2 hz2 HSC HZ0 HS1 KR1
        have HRn := Lib.hid (HR.out.up HR0.out)
        clear KE HR HR0
        cases t
        · have hno : Hid (wayB r q = false) := way_no (i := j) (by have := Hql.out; omega) Hd.out.symm
          go_wp2
          go_ret
          exact ⟨ret_bool (by rw [HY.out, hno.out]), (HB.out.up HRn.out).below⟩
        · go_wp2
          go_roundw
          case rel =>
            refine ⟨j + 1 + 1, by omega, by omega, by go_num, fun i hi => ?_, HRn⟩
            by_cases hij : i + 1 < j + 1
            · exact hall.out i hij
            · obtain rfl : i = j := by omega
              exact Hd.out.symm
          case measure => (simp [intOf] <;> omega)
      · have hyes : Hid (wayB r q = true) := way_yes (by rintro rfl; have := Hql.out; simp at this; omega) Hqn.out fun i hi => hall.out i (by have := Hql.out; omega)
        have i1 : (n : Int) ≤ (k : Int) := by omega
        go_wp2
        go_ret
        exact ⟨ret_bool (by rw [HY.out, hyes.out]), (HB.out.up HR.out).below⟩
end Go.Proofs.Ytncjfgebolikoaa
