/-
  Contracts: is a vertex in a list? is a list a way? The program's tests.
-/
import Derived.Test.YtccblehcemggjaaHamP
import Derived.Test.YtccblehcemggjaaElim
import Derived.Test.YtccblehcemggjaaWithin
namespace Go.Proofs.Ytccblehcemggjaa
open Go.RowKit

theorem fIdx_in {l : List Nat} {v : Nat} (h : v ∈ l) : ∃ k : Nat, fIdx (fun j => l.getD j 0 == v) l.length = (k : Int) := by
  unfold fIdx
  cases hf : (List.range l.length).find? (fun j => l.getD j 0 == v) with
  | some k => exact ⟨k, rfl⟩
  | none =>
    exfalso
    rw [List.find?_eq_none] at hf
    obtain ⟨i, hi, rfl⟩ := List.mem_iff_getElem.1 h
    have := hf i (List.mem_range.2 hi)
    simp [List.getD, hi] at this
theorem fIdx_out {l : List Nat} {v : Nat} (h : v ∉ l) : fIdx (fun j => l.getD j 0 == v) l.length = -1 := by
  refine fIdx_no fun j hj => ?_
  have : l[j] ≠ v := fun e => h (e ▸ List.getElem_mem hj)
  simpa [List.getD, hj] using this

/-- A slice that reads as a list of vertices. -/
abbrev RdN (w : World) (B : Nat) (A : Option Addr) (n c : Nat) (l : List Nat) : Prop := n = l.length ∧ Rd w B A n c (fun j => ((l.getD j 0 : Nat) : Int))

set_option maxHeartbeats 1000000 in
theorem Index_i (A : Option Addr) (c : Nat) (l : List Nat) (v : Nat) (w : World) (B : Nat) (h : Rd w B A l.length c (fun j => ((l.getD j 0 : Nat) : Int))) (hl : l.length ≤ 1048576) :
    Calls Try.prog 127 #[.slice A l.length c, .int .i64 v] w fun e w' => e = .returned (.int .i64 (fIdx (fun j => l.getD j 0 == v) l.length)) ∧ w = w' := by
  have HR := Lib.hid h
  clear h
  go_enter Try.func127, Try.ntmps127
  go_wp2
  go_loop [8] (fun i => ∃ k : Nat, k ≤ l.length ∧ i = .int .i64 k ∧ Hid (∀ j, j < k → (l.getD j 0 == v) = false)) (fun i => l.length - (intOf i).toNat)
  case atStart => exact ⟨0, Nat.zero_le _, rfl, (fun j hj => absurd hj (by omega))⟩
  case round =>
    obtain ⟨k, hk, rfl, hall⟩ := hrel
    by_cases hlt : k < l.length
    · obtain ⟨b, o, rfl, hb, hc⟩ := HR.out.pos (by omega)
      have q0 := hc k hlt
      obtain ⟨u, hu⟩ : ∃ u : Nat, u = l.getD k 0 := ⟨_, rfl⟩
      rw [← hu] at q0
      have Hu := Lib.hid hu
      have i1 : (k : Int) < (l.length : Int) := by omega
      clear hc hu
      by_cases hp : v = u
      · have Hi : Hid (fIdx (fun j => l.getD j 0 == v) l.length = k) := fIdx_yes hlt (by show (l.getD k 0 == v) = true; rw [← Hu.out, hp]; simp) hall.out
        subst hp
        go_wp2
        go_ret
        exact ⟨ret_int Hi.out.symm, rfl⟩
      · have hne : ((v : Int) == (u : Int)) = false := by simp; omega
        have hne2 : (v = u) = False := by simp [hp]
        have Hp : Hid ((l.getD k 0 == v) = false) := by show _ = _; rw [← Hu.out]; simp; omega
        clear hp
        go_wp2
        go_round
        case rel =>
          refine ⟨k + 1, by omega, by go_num, fun j hj => ?_⟩
          by_cases hjk : j < k
          · exact hall.out j hjk
          · obtain rfl : j = k := by omega
            exact Hp.out
        case measure => simp [intOf]; omega
    · have Hi : Hid (fIdx (fun j => l.getD j 0 == v) l.length = -1) := fIdx_no fun j hj => hall.out j (by omega)
      have i1 : (l.length : Int) ≤ (k : Int) := by omega
      go_wp2
      go_ret
      exact ⟨ret_int Hi.out.symm, rfl⟩

set_option maxHeartbeats 1000000 in
theorem Contains_i (A : Option Addr) (n c : Nat) (l : List Nat) (v : Nat) (w : World) (B : Nat) (h : RdN w B A n c l) (hl : l.length ≤ 1048576) :
    Calls Try.prog 115 #[.slice A n c, .int .i64 v] w fun e w' => e = .returned (.bool (decide (v ∈ l))) ∧ w = w' := by
  obtain ⟨rfl, h⟩ := h
  have HI := Lib.hid (Index_i A c l v w B h hl)
  clear h
  by_cases hv : v ∈ l
  · obtain ⟨k, hk⟩ := fIdx_in hv
    rw [hk] at HI
    have Hd : Hid (decide (v ∈ l) = true) := decide_eq_true hv
    have k0 : (0 : Int) ≤ (k : Int) := by omega
    clear hk hv
    go_enter Try.func115, Try.ntmps115
    go_wp2_with fail
    refine HI.out.mono ?_
    rintro e w' ⟨rfl, rfl⟩
    go_wp2
    go_ret
    exact ⟨ret_bool Hd.out.symm, rfl⟩
  · rw [fIdx_out hv] at HI
    have Hd : Hid (decide (v ∈ l) = false) := decide_eq_false hv
    clear hv
    go_enter Try.func115, Try.ntmps115
    go_wp2_with fail
    refine HI.out.mono ?_
    rintro e w' ⟨rfl, rfl⟩
    go_wp2
    go_ret
    exact ⟨ret_bool Hd.out.symm, rfl⟩

theorem nodup_take {l : List Nat} {k : Nat} (hk : k < l.length) (h : (l.take k).Nodup) (hn : l[k] ∉ l.take k) : (l.take (k + 1)).Nodup := by
  rw [List.take_succ_eq_append_getElem hk, List.nodup_append]
  exact ⟨h, by simp, fun a ha b hb e => by rw [List.mem_singleton] at hb; subst hb; subst e; exact hn ha⟩
theorem not_nodup {l : List Nat} {k : Nat} (hk : k < l.length) (hn : l[k] ∈ l.take k) : ¬ l.Nodup := by
  intro h
  have h2 : (l.take (k + 1)).Nodup := h.sublist (List.take_sublist _ _)
  rw [List.take_succ_eq_append_getElem hk, List.nodup_append] at h2
  exact h2.2.2 _ hn _ (List.mem_singleton_self _) rfl

set_option maxHeartbeats 1600000 in
theorem areVertices_i (m : Nat) (A : Option Addr) (c : Nat) (x : Nat → Int) (Al : Option Addr) (nl cl : Nat) (l : List Nat) (w : World) (B : Nat) (h : Rd w B A m c x) (hl : RdN w B Al nl cl l) (hB : B ≤ w.heap.size) (hok : okB m m x = true) (hlen : l.length ≤ 7) (hall : ∀ v ∈ l, v < m) :
    Calls Try.prog 116 #[.agg #[.int .i64 m, .slice A m c], .slice Al nl cl] w fun e w' => e = .returned (.bool (decide l.Nodup)) ∧ Below w.heap.size w w' := by
  obtain ⟨rfl, hl⟩ := hl
  obtain ⟨vg, _⟩ := okB_vg hok
  have hn1 := vg.n1
  have hn7 := vg.n7
  obtain ⟨W, hW⟩ : ∃ W : World, W = (w.alloc (Obj.cells #[Value.int IntKind.i64 m, Value.slice A m c] 42)) := ⟨_, rfl⟩
  have HB : Hid (Below w.heap.size w W) := by rw [hW]; exact ((Below.refl _ _).alloc (Nat.le_refl _) _)
  have a0 : w.heap.size < W.heap.size := by rw [hW]; simp
  have e0 : W.cell? ⟨w.heap.size, 0, none⟩ = some (.int .i64 m) := by rw [hW]; simp [go_sem]
  have e1 : W.cell? ⟨w.heap.size, 1, none⟩ = some (.slice A m c) := by rw [hW]; simp [go_sem]
  have HK := Lib.hid (h.keep (HB.out.mono hB) (Nat.le_refl _))
  have HL := Lib.hid (hl.keep (HB.out.mono hB) (Nat.le_refl _))
  have HW := Lib.hid hW
  have Hok := Lib.hid hok
  have Hall := Lib.hid hall
  have hcap : l.length ≤ cl := hl.1
  clear hW h hl hok vg hall
  go_enter Try.func116, Try.ntmps116
  go_wp2_with fail
  rw [← HW.out]
  clear HW
  go_loop [9] (fun i => ∃ k : Nat, k ≤ l.length ∧ i = .int .i64 k ∧ Hid ((l.take k).Nodup)) (fun i => l.length - (intOf i).toNat)
  case atStart => exact ⟨0, Nat.zero_le _, rfl, by simp [Hid]⟩
  case round =>
    obtain ⟨k, hk, rfl, hnd⟩ := hrel
    by_cases hlt : k < l.length
    · obtain ⟨b, o, rfl, hb, hc⟩ := HL.out.pos (by omega)
      have q0 := hc k hlt
      obtain ⟨u, hu⟩ : ∃ u : Nat, u = l[k] := ⟨_, rfl⟩
      have e2 : l.getD k 0 = u := by rw [hu]; simp [List.getD, hlt]
      rw [e2] at q0
      have hum : u < m := by rw [hu]; exact Hall.out _ (List.getElem_mem hlt)
      have hlk : (l.take k).length = k := by rw [List.length_take]; omega
      have KC : Hid (Calls Try.prog 115 #[.slice (some ⟨b, o, none⟩) k cl, .int .i64 u] W fun e w' => e = .returned (.bool (decide (u ∈ l.take k))) ∧ W = w') :=
        Contains_i (some ⟨b, o, none⟩) k cl (l.take k) u W B ⟨hlk.symm, ⟨by omega, fun hn => ⟨b, o, rfl, hb, fun j hj => by rw [hc j (by omega)]; congr 3; simp [List.getD, List.getElem?_take, hj]⟩⟩⟩ (by omega)
      have i1 : (k : Int) < (l.length : Int) := by omega
      have i2 : (0 : Int) ≤ (u : Int) := by omega
      have i3 : (u : Int) ≤ (m : Int) - 1 := by omega
      have i4 : (k : Int) ≤ (cl : Int) := by omega
      have i5 : (0 : Int) ≤ (k : Int) := by omega
      have Hu := Lib.hid hu
      clear hc e2 hlk hu
      by_cases hm : u ∈ l.take k
      · have hno : Hid (decide l.Nodup = false) := decide_eq_false (not_nodup hlt (by rw [← Hu.out]; exact hm))
        rw [decide_eq_true hm] at KC
        clear hm
        go_wp2_with (first | (go_at_call 64; refine (within_yes _ _ _ _ i2 i3).mono ?_; rintro e w' ⟨rfl, rfl⟩) | (go_at_call 115; with_reducible refine KC.out.mono ?_; rintro e w' ⟨rfl, rfl⟩))
        go_ret
        exact ⟨ret_bool hno.out.symm, HB.out⟩
      · have hyes : Hid ((l.take (k + 1)).Nodup) := nodup_take hlt hnd.out (by rw [← Hu.out]; exact hm)
        rw [decide_eq_false hm] at KC
        clear hm
        go_wp2_with (first | (go_at_call 64; refine (within_yes _ _ _ _ i2 i3).mono ?_; rintro e w' ⟨rfl, rfl⟩) | (go_at_call 115; with_reducible refine KC.out.mono ?_; rintro e w' ⟨rfl, rfl⟩))
        go_round
        case rel => exact ⟨k + 1, by omega, by go_num, hyes⟩
        case measure => simp [intOf]; omega
    · have hyes : Hid (decide l.Nodup = true) := decide_eq_true (by have := hnd.out; rwa [List.take_of_length_le (by omega)] at this)
      have i1 : (l.length : Int) ≤ (k : Int) := by omega
      go_wp2_with fail
      refine (IsGraph_any m A m c x W B HK.out (by omega) (by omega)).mono ?_
      rintro e w1 ⟨rfl, hb1⟩
      rw [Hok.out]
      have HB1 : Hid (Below w.heap.size w w1) := HB.out.trans (hb1.mono (by omega))
      clear hb1 e0 e1
      go_wp2
      go_ret
      exact ⟨ret_bool hyes.out.symm, HB1.out⟩
end Go.Proofs.Ytccblehcemggjaa
