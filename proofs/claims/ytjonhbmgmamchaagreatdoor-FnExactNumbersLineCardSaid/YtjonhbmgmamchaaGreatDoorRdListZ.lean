/-
  Contracts: lists of integers that may be anything: is a number in a list? are they different vertices? are they an order? The program's tests.
-/
import Derived.Test.YtjonhbmgmamchaaGreatDoorRdSet2I
import Derived.Test.YtjonhbmgmamchaaGreatDoorRdGC
namespace Go.Proofs.YtjonhbmgmamchaaGreatDoor
open Go.RowKit

/-- A slice that reads as a list of integers. -/
structure LI (w : World) (A : Option Addr) (n c : Nat) (l : List Int) : Prop where
  len : n = l.length
  rd : Rd w w.heap.size A n c (fun j => l.getD j 0)
theorem LI.keep {w w' : World} {A : Option Addr} {n c : Nat} {l : List Int} (h : LI w A n c l) (hb : Below w.heap.size w w') : LI w' A n c l := ⟨h.len, h.rd.keep hb hb.size⟩
theorem LI.drew {w : World} {A : Option Addr} {n c : Nat} {l : List Int} (h : LI w A n c l) : LI w.drew A n c l := ⟨h.len, h.rd⟩
theorem LI.of {w : World} {B : Nat} {A : Option Addr} {n c : Nat} {x : Nat → Int} (h : Rd w B A n c x) (hB : B ≤ w.heap.size) : LI w A n c ((List.range n).map x) :=
  ⟨by simp, (h.keep (Below.refl _ _) hB).congr (fun k hk => by simp [List.getD, hk])⟩
theorem LI.addr {w : World} {A : Option Addr} {n c : Nat} {l : List Int} (h : LI w A n c l) (hn : 0 < n) : ∃ b o, A = some ⟨b, o, none⟩ := by
  obtain ⟨b, o, e, _⟩ := h.rd.pos hn
  exact ⟨b, o, e⟩
theorem LI.at {w : World} {b o n c j : Nat} {l : List Int} (h : LI w (some ⟨b, o, none⟩) n c l) (hj : j < n) : w.cell? ⟨b, o + j, none⟩ = some (.int .i64 (l.getD j 0)) := by
  obtain ⟨b', o', e, _, hc⟩ := h.rd.pos (by omega)
  simp only [Option.some.injEq, Addr.mk.injEq, and_true] at e
  obtain ⟨rfl, rfl⟩ := e
  exact hc j hj
theorem LI.take {w : World} {A : Option Addr} {n c k : Nat} {l : List Int} (h : LI w A n c l) (hk : k ≤ n) : LI w A k c (l.take k) :=
  ⟨by rw [List.length_take, ← h.len]; omega, by have := h.rd.1; omega, fun hn => by
    obtain ⟨b, o, e, hb, hc⟩ := h.rd.2 (by omega)
    refine ⟨b, o, e, hb, fun j hj => ?_⟩
    rw [hc j (by omega)]
    simp [List.getD, hj]⟩
theorem getD_mem {l : List Int} {k : Nat} (h : k < l.length) : l.getD k 0 ∈ l := by simp [List.getD, h]

theorem fIdz_in {l : List Int} {v : Int} (h : v ∈ l) : ∃ k : Nat, k < l.length ∧ fIdx (fun j => l.getD j 0 == v) l.length = (k : Int) := by
  unfold fIdx
  cases hf : (List.range l.length).find? (fun j => l.getD j 0 == v) with
  | some k => exact ⟨k, by have := List.mem_of_find?_eq_some hf; simpa using this, rfl⟩
  | none =>
    exfalso
    rw [List.find?_eq_none] at hf
    obtain ⟨i, hi, rfl⟩ := List.mem_iff_getElem.1 h
    have := hf i (List.mem_range.2 hi)
    simp [List.getD, hi] at this
theorem fIdz_out {l : List Int} {v : Int} (h : v ∉ l) : fIdx (fun j => l.getD j 0 == v) l.length = -1 := by
  refine fIdx_no fun j hj => ?_
  have : l[j] ≠ v := fun e => h (e ▸ List.getElem_mem hj)
  simpa [List.getD, hj] using this

set_option maxHeartbeats 1000000 in
theorem Index_z (A : Option Addr) (n c : Nat) (l : List Int) (v : Int) (w : World) (h : LI w A n c l) (hl : n ≤ 1048576) :
    Calls Tryz.prog 101 #[.slice A n c, .int .i64 v] w fun e w' => e = .returned (.int .i64 (fIdx (fun j => l.getD j 0 == v) l.length)) ∧ w = w' := by
  have HR := Lib.hid h
  have HN := Lib.hid h.len
  clear h
  go_enter Tryz.func101, Tryz.ntmps101
  go_wp2
  go_loop [8] (fun i => ∃ k : Nat, k ≤ n ∧ i = .int .i64 k ∧ Hid (∀ j, j < k → (l.getD j 0 == v) = false)) (fun i => n - (intOf i).toNat)
  case atStart => exact ⟨0, Nat.zero_le _, rfl, (fun j hj => absurd hj (by omega))⟩
  case round =>
    obtain ⟨k, hk, rfl, hall⟩ := hrel
    by_cases hlt : k < n
    · obtain ⟨b, o, rfl⟩ := HR.out.addr (by omega)
      have q0 := HR.out.at hlt
      obtain ⟨u, hu⟩ : ∃ u : Int, u = l.getD k 0 := ⟨_, rfl⟩
      rw [← hu] at q0
      have Hu := Lib.hid hu
      have i1 : (k : Int) < (n : Int) := by omega
      clear hu
      by_cases hp : v = u
      · have Hi : Hid (fIdx (fun j => l.getD j 0 == v) l.length = k) := fIdx_yes (by rw [← HN.out]; exact hlt) (by show (l.getD k 0 == v) = true; rw [← Hu.out, hp]; simp) hall.out
        subst hp
        go_wp2
        go_ret
        exact ⟨ret_int Hi.out.symm, rfl⟩
      · have hne : (v == u) = false := by simpa using hp
        have hne2 : (v = u) = False := by simp [hp]
        have Hp : Hid ((l.getD k 0 == v) = false) := by show _ = _; rw [← Hu.out]; simpa using fun e => hp e.symm
        clear hp
        go_wp2
        go_round
        case rel =>
          refine ⟨k + 1, by omega, by go_num, fun j hj => ?_⟩
          by_cases hjk : j < k
          · exact hall.out j hjk
          · obtain rfl : j = k := by omega
            exact Hp.out
        case measure => simp [intOf]; omega
    · have Hi : Hid (fIdx (fun j => l.getD j 0 == v) l.length = -1) := fIdx_no fun j hj => hall.out j (by rw [← HN.out] at hj; omega)
      have i1 : (n : Int) ≤ (k : Int) := by omega
      go_wp2
      go_ret
      exact ⟨ret_int Hi.out.symm, rfl⟩

set_option maxHeartbeats 1000000 in
theorem Contains_z (A : Option Addr) (n c : Nat) (l : List Int) (v : Int) (w : World) (h : LI w A n c l) (hl : n ≤ 1048576) :
    Calls Tryz.prog 108 #[.slice A n c, .int .i64 v] w fun e w' => e = .returned (.bool (decide (v ∈ l))) ∧ w = w' := by
  have HI := Lib.hid (Index_z A n c l v w h hl)
  clear h
  by_cases hv : v ∈ l
  · obtain ⟨k, _, hk⟩ := fIdz_in hv
    rw [hk] at HI
    have Hd : Hid (decide (v ∈ l) = true) := decide_eq_true hv
    have k0 : (0 : Int) ≤ (k : Int) := by omega
    clear hk hv
    go_enter Tryz.func108, Tryz.ntmps108
    go_wp2_with fail
    refine HI.out.mono ?_
    rintro e w' ⟨rfl, rfl⟩
    go_wp2
    go_ret
    exact ⟨ret_bool Hd.out.symm, rfl⟩
  · rw [fIdz_out hv] at HI
    have Hd : Hid (decide (v ∈ l) = false) := decide_eq_false hv
    clear hv
    go_enter Tryz.func108, Tryz.ntmps108
    go_wp2_with fail
    refine HI.out.mono ?_
    rintro e w' ⟨rfl, rfl⟩
    go_wp2
    go_ret
    exact ⟨ret_bool Hd.out.symm, rfl⟩

theorem nodup_lenz : ∀ {m : Nat} {l : List Nat}, l.Nodup → (∀ v ∈ l, v < m) → l.length ≤ m := by
  intro m
  induction m with
  | zero =>
    intro l _ h
    cases l with
    | nil => exact Nat.le_refl _
    | cons a l => exact absurd (h a (by simp)) (by omega)
  | succ m ih =>
    intro l hn h
    by_cases hm : m ∈ l
    · have h1 := ih (hn.erase m) (fun v hv => by
        have := (hn.mem_erase_iff).1 hv
        have := h v this.2
        omega)
      rw [List.length_erase_of_mem hm] at h1
      omega
    · have := ih hn (fun v hv => by
        have h1 := h v hv
        have : v ≠ m := fun e => hm (e ▸ hv)
        omega)
      omega
theorem map_nodup {l : List Int} (hn : l.Nodup) (h : ∀ v ∈ l, 0 ≤ v) : (l.map Int.toNat).Nodup := by
  induction l with
  | nil => exact List.nodup_nil
  | cons a l ih =>
    rw [List.nodup_cons] at hn
    rw [List.map_cons, List.nodup_cons]
    refine ⟨fun hm => ?_, ih hn.2 (fun v hv => h v (by simp [hv]))⟩
    obtain ⟨b, hb, e⟩ := List.mem_map.1 hm
    have h1 := h b (by simp [hb])
    have h2 := h a (by simp)
    have : a = b := by omega
    exact hn.1 (this ▸ hb)
/-- Different numbers from 0 up to m. -/
def VZ (m : Nat) (l : List Int) : Prop := l.Nodup ∧ ∀ v ∈ l, 0 ≤ v ∧ v < m
noncomputable def vzB (m : Nat) (l : List Int) : Bool := @decide (VZ m l) (Classical.propDecidable _)
theorem vzB_yes {m : Nat} {l : List Int} (h : VZ m l) : vzB m l = true := @decide_eq_true _ (Classical.propDecidable _) h
theorem vzB_no {m : Nat} {l : List Int} (h : ¬ VZ m l) : vzB m l = false := @decide_eq_false _ (Classical.propDecidable _) h
theorem vzB_iff {m : Nat} {l : List Int} : vzB m l = true ↔ VZ m l := ⟨(fun h => Classical.byContradiction fun h2 => by rw [vzB_no h2] at h; cases h), vzB_yes⟩
noncomputable def vrB (sz : Int) (m : Nat) (x : Nat → Int) (l : List Int) : Bool := okB sz m x && vzB m l
theorem vrB_bad {sz : Int} {m : Nat} {x : Nat → Int} {l : List Int} (h : okB sz m x = false) : vrB sz m x l = false := by unfold vrB; rw [h]; rfl
theorem vrB_ok {sz : Int} {m : Nat} {x : Nat → Int} {l : List Int} (h : okB sz m x = true) : vrB sz m x l = vzB m l := by unfold vrB; rw [h]; rfl
theorem nodupz_take {l : List Int} {k : Nat} (hk : k < l.length) (h : (l.take k).Nodup) (hn : l.getD k 0 ∉ l.take k) : (l.take (k + 1)).Nodup := by
  have e : l.getD k 0 = l[k] := by simp [List.getD, hk]
  rw [e] at hn
  rw [List.take_succ_eq_append_getElem hk, List.nodup_append]
  exact ⟨h, by simp, fun a ha b hb e => by rw [List.mem_singleton] at hb; subst hb; subst e; exact hn ha⟩
theorem not_nodupz {l : List Int} {k : Nat} (hk : k < l.length) (hn : l.getD k 0 ∈ l.take k) : ¬ l.Nodup := by
  intro h
  have e : l.getD k 0 = l[k] := by simp [List.getD, hk]
  rw [e] at hn
  have h2 : (l.take (k + 1)).Nodup := h.sublist (List.take_sublist _ _)
  rw [List.take_succ_eq_append_getElem hk, List.nodup_append] at h2
  exact h2.2.2 _ hn _ (List.mem_singleton_self _) rfl
theorem VZ.len {m : Nat} {l : List Int} (h : VZ m l) : l.length ≤ m := by
  have e : (l.map Int.toNat).length = l.length := by simp
  rw [← e]
  refine nodup_lenz ?_ ?_
  · exact map_nodup h.1 (fun v hv => (h.2 v hv).1)
  · intro v hv
    obtain ⟨u, hu, rfl⟩ := List.mem_map.1 hv
    have := h.2 u hu; omega

set_option maxHeartbeats 1600000 in
theorem areVertices_z (sz : Int) (A : Option Addr) (m c : Nat) (x : Nat → Int) (Al : Option Addr) (n cl : Nat) (l : List Int) (w : World) (h : GA w A m c x) (hl : LI w Al n cl l) (hm : m ≤ 1048576) (hn : n ≤ 1048576) :
    Calls Tryz.prog 109 #[.agg #[.int .i64 sz, .slice A m c], .slice Al n cl] w fun e w' => e = .returned (.bool (vrB sz m x l)) ∧ Below w.heap.size w w' := by
  obtain ⟨W, hW⟩ : ∃ W : World, W = (w.alloc (Obj.cells #[Value.int IntKind.i64 sz, Value.slice A m c] 27)) := ⟨_, rfl⟩
  have HB : Hid (From w W) := by rw [hW]; exact From.alloc _ _
  have HK := Lib.hid (h.keep HB.out.below)
  have HL := Lib.hid (hl.keep HB.out.below)
  have HC : Hid (GC W w.heap.size sz A m c) := by rw [hW]; exact GC.new _ _ _ _ _
  have HW := Lib.hid hW
  have HN := Lib.hid hl.len
  have hcap : n ≤ cl := hl.rd.1
  have e0 := HC.out.c0
  have e1 := HC.out.c1
  clear hW h hl
  cases ho : okB sz m x
  · have hno : Hid (vrB sz m x l = false) := vrB_bad ho
    have Ho := Lib.hid ho
    clear ho
    go_enter Tryz.func109, Tryz.ntmps109
    go_wp2
    rw [← HW.out]
    clear HW
    go_loop [9] (fun i => ∃ k : Nat, k ≤ n ∧ i = .int .i64 k) (fun i => n - (intOf i).toNat)
    case atStart => exact ⟨0, Nat.zero_le _, rfl⟩
    case round =>
      obtain ⟨k, hk, rfl⟩ := hrel
      by_cases hlt : k < n
      · obtain ⟨b, o, rfl⟩ := HL.out.addr (by omega)
        have q0 := HL.out.at hlt
        obtain ⟨u, hu⟩ : ∃ u : Int, u = l.getD k 0 := ⟨_, rfl⟩
        rw [← hu] at q0
        have KC := Lib.hid (Contains_z (some ⟨b, o, none⟩) k cl (l.take k) u W (HL.out.take (by omega)) (by omega))
        have i1 : (k : Int) < (n : Int) := by omega
        have i4 : (k : Int) ≤ (cl : Int) := by omega
        clear hu
        go_wp2_with fail
        refine (within_any u 0 _ W).mono ?_
        rintro e w' ⟨rfl, rfl⟩
        obtain ⟨t, ht⟩ : ∃ t, t = (decide (0 ≤ u) && decide (u ≤ wrap64 (sz - 1))) := ⟨_, rfl⟩
        rw [← ht]
        clear ht
        cases t
        · go_wp2
          go_ret
          exact ⟨ret_bool hno.out.symm, HB.out.below⟩
        · go_wp2_with fail
          refine KC.out.mono ?_
          rintro e w' ⟨rfl, rfl⟩
          obtain ⟨t, ht⟩ : ∃ t, t = decide (u ∈ l.take k) := ⟨_, rfl⟩
          rw [← ht]
          clear ht
          cases t
          · go_wp2
            go_round
            case rel => exact ⟨k + 1, by omega, by go_num⟩
            case measure => simp [intOf]; omega
          · go_wp2
            go_ret
            exact ⟨ret_bool hno.out.symm, HB.out.below⟩
      · have i1 : (n : Int) ≤ (k : Int) := by omega
        go_wp2_with fail
        refine (IsGraph_any sz A m c x W W.heap.size HK.out.rd (Nat.le_refl _) hm).mono ?_
        rintro e w1 ⟨rfl, hb1⟩
        rw [Ho.out]
        have HB1 := Lib.hid (HB.out.keep hb1)
        clear hb1
        go_wp2
        go_ret
        exact ⟨ret_bool hno.out.symm, HB1.out.below⟩
  · have hv : Hid (vrB sz m x l = vzB m l) := vrB_ok ho
    obtain ⟨_, es, vg0, _⟩ := okB_ok' ho
    subst es
    have hn1 := vg0.n1
    have hn7 := vg0.n7
    have Ho := Lib.hid ho
    clear ho vg0
    go_enter Tryz.func109, Tryz.ntmps109
    go_wp2
    rw [← HW.out]
    clear HW
    go_loop [9] (fun i => ∃ k : Nat, k ≤ n ∧ i = .int .i64 k ∧ Hid ((l.take k).Nodup ∧ ∀ v ∈ l.take k, 0 ≤ v ∧ v < (m : Int))) (fun i => n - (intOf i).toNat)
    case atStart => exact ⟨0, Nat.zero_le _, rfl, by simp [Hid]⟩
    case round =>
      obtain ⟨k, hk, rfl, hall⟩ := hrel
      by_cases hlt : k < n
      · have hkl : k < l.length := by rw [← HN.out]; exact hlt
        obtain ⟨b, o, rfl⟩ := HL.out.addr (by omega)
        have q0 := HL.out.at hlt
        have hmem := getD_mem hkl
        obtain ⟨u, hu⟩ : ∃ u : Int, u = l.getD k 0 := ⟨_, rfl⟩
        rw [← hu] at q0 hmem
        have KC := Lib.hid (Contains_z (some ⟨b, o, none⟩) k cl (l.take k) u W (HL.out.take (by omega)) (by omega))
        have i1 : (k : Int) < (n : Int) := by omega
        have i4 : (k : Int) ≤ (cl : Int) := by omega
        have Hu := Lib.hid hu
        have Hm := Lib.hid hmem
        clear hu hmem
        by_cases hr : 0 ≤ u ∧ u < (m : Int)
        · obtain ⟨r1, r2⟩ := hr
          go_wp2_with fail
          refine (within_yes u 0 _ W r1 (by omega)).mono ?_
          rintro e w' ⟨rfl, rfl⟩
          go_wp2_with fail
          refine KC.out.mono ?_
          rintro e w' ⟨rfl, rfl⟩
          by_cases hin : u ∈ l.take k
          · have hno : Hid (vzB m l = false) := vzB_no fun h => not_nodupz hkl (by rw [← Hu.out]; exact hin) h.1
            rw [decide_eq_true hin]
            clear hin
            go_wp2
            go_ret
            exact ⟨ret_bool (by rw [hv.out, hno.out]), HB.out.below⟩
          · have hyes : Hid ((l.take (k + 1)).Nodup ∧ ∀ v ∈ l.take (k + 1), 0 ≤ v ∧ v < (m : Int)) := by
              refine ⟨nodupz_take hkl hall.out.1 (by rw [← Hu.out]; exact hin), fun v hv2 => ?_⟩
              rw [List.take_succ_eq_append_getElem hkl, List.mem_append, List.mem_singleton] at hv2
              rcases hv2 with h | h
              · exact hall.out.2 v h
              · have e : l.getD k 0 = l[k] := by simp [List.getD, hkl]
                rw [h, ← e, ← Hu.out]; exact ⟨r1, r2⟩
            rw [decide_eq_false hin]
            clear hin
            go_wp2
            go_round
            case rel => exact ⟨k + 1, by omega, by go_num, hyes⟩
            case measure => simp [intOf]; omega
        · have hno : Hid (vzB m l = false) := vzB_no fun h => hr (h.2 u Hm.out)
          have hr' : Hid (u < 0 ∨ (m : Int) - 1 < u) := by show _ ∨ _; omega
          clear hr
          go_wp2_with fail
          refine (within_no u 0 _ W (by have := hr'.out; omega)).mono ?_
          rintro e w' ⟨rfl, rfl⟩
          go_wp2
          go_ret
          exact ⟨ret_bool (by rw [hv.out, hno.out]), HB.out.below⟩
      · have hyes : Hid (vzB m l = true) := by
          refine vzB_yes ?_
          have := hall.out
          rwa [List.take_of_length_le (by rw [← HN.out]; omega)] at this
        have i1 : (n : Int) ≤ (k : Int) := by omega
        go_wp2_with fail
        refine (IsGraph_any m A m c x W W.heap.size HK.out.rd (Nat.le_refl _) hm).mono ?_
        rintro e w1 ⟨rfl, hb1⟩
        rw [Ho.out]
        have HB1 := Lib.hid (HB.out.keep hb1)
        clear hb1
        go_wp2
        go_ret
        exact ⟨ret_bool (by rw [hv.out, hyes.out]), HB1.out.below⟩
end Go.Proofs.YtjonhbmgmamchaaGreatDoor
