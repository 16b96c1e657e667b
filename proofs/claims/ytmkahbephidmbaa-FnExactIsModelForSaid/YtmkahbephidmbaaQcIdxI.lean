/-
  Contracts: the first place of a list at which something holds, whatever it is.
-/
import Derived.Test.YtmkahbephidmbaaQcListS
namespace Go.Proofs.Ytmkahbephidmbaa
open Go.RowKit

theorem LN.li {w : World} {A : Option Addr} {c : Nat} {l : List Nat} (h : LN w A c l) : LI w A l.length c (l.map fun v : Nat => (v : Int)) :=
  ⟨by simp, h.rd.congr fun k hk => by simp [List.getD, hk]⟩
section
variable {fn : FuncId} {caps : Array Value} {p : Int → Bool}
set_option maxHeartbeats 1000000 in
theorem IndexFunc_g (hef : Ent fn) {Al : Option Addr} {n cl : Nat} {l : List Int} (w : World) (hl : LI w Al n cl l) (hn : n ≤ 1048576)
    (HF : ∀ (v : Int) (z : World), v ∈ l → Below w.heap.size w z → Calls Try.prog fn (#[.int .i64 v] ++ caps) z (fun e z' => e = .returned (.bool (p v)) ∧ Below z.heap.size z z')) :
    Calls Try.prog 69 #[.slice Al n cl, .func (.func fn) #[] caps] w fun e w' => e = .returned (.int .i64 (fIdx (fun j => p (l.getD j 0)) n)) ∧ Below w.heap.size w w' := by
  unfold Ent at hef
  have HL := Lib.hid hl
  have HN := Lib.hid hl.len
  have HF := Lib.hid HF
  clear hl
  go_enter Try.func69, Try.ntmps69
  go_wp2
  go_loopw [8] (fun i wr => ∃ k : Nat, k ≤ n ∧ i = .int .i64 k ∧ Hid (∀ j, j < k → p (l.getD j 0) = false) ∧ Hid (Below w.heap.size w wr)) (fun i _ => n - (intOf i).toNat)
  case atStart => exact ⟨0, Nat.zero_le _, rfl, (fun j hj => absurd hj (by omega)), Below.refl _ _⟩
  case round =>
    obtain ⟨k, hk, rfl, hall, hbr⟩ := hrel
    have zr := hbr.out.size
    by_cases hlt : k < n
    · have HLr := Lib.hid (HL.out.keep hbr.out)
      obtain ⟨b, o, rfl⟩ := HLr.out.addr (by omega)
      have q0 := HLr.out.at hlt
      have K1 := Lib.hid (HF.out (l.getD k 0) wr (getD_mem (by rw [← HN.out]; exact hlt)) hbr.out)
      obtain ⟨v, hv⟩ : ∃ v : Int, v = l.getD k 0 := ⟨_, rfl⟩
      have Hv := Lib.hid hv
      rw [← hv] at q0 K1
      have i1 : (k : Int) < (n : Int) := by omega
      cases hp : p v
      · rw [hp] at K1
        have Hp : Hid (p (l.getD k 0) = false) := by rw [← hv]; exact hp
        clear hp hv
        go_wp2_with fail
        refine K1.out.mono ?_
        rintro e w3 ⟨rfl, hb3⟩
        have HB3 : Hid (Below w.heap.size w w3) := hbr.out.trans (hb3.mono zr)
        clear hb3 hbr q0
        go_wp2
        go_roundw
        case rel =>
          refine ⟨k + 1, by omega, by go_num, fun j hj => ?_, HB3⟩
          by_cases hjk : j < k
          · exact hall.out j hjk
          · obtain rfl : j = k := by omega
            exact Hp.out
        case measure => simp [intOf]; omega
      · rw [hp] at K1
        have Hi : Hid (fIdx (fun j => p (l.getD j 0)) n = k) := fIdx_yes hlt (by rw [← hv]; exact hp) hall.out
        clear hp hv
        go_wp2_with fail
        refine K1.out.mono ?_
        rintro e w3 ⟨rfl, hb3⟩
        have HB3 : Hid (Below w.heap.size w w3) := hbr.out.trans (hb3.mono zr)
        clear hb3 hbr q0
        go_wp2
        go_ret
        exact ⟨ret_int Hi.out.symm, HB3.out⟩
    · have Hi : Hid (fIdx (fun j => p (l.getD j 0)) n = -1) := fIdx_no fun j hj => hall.out j (by omega)
      have i1 : (n : Int) ≤ (k : Int) := by omega
      go_wp2
      go_ret
      exact ⟨ret_int Hi.out.symm, hbr.out⟩
theorem fIdx_any {l : List Int} : decide (0 ≤ fIdx (fun j => p (l.getD j 0)) l.length) = l.any p := by
  cases h : l.any p
  · rw [fIdx_no (p := fun j => p (l.getD j 0)) (fun j hj => ?_)]
    · rfl
    · rw [List.any_eq_false] at h
      have := h _ (getD_mem hj)
      simpa using this
  · rw [List.any_eq_true] at h
    obtain ⟨v, hv, hp⟩ := h
    rw [decide_eq_true_eq]
    unfold fIdx
    cases e : (List.range l.length).find? (fun j => p (l.getD j 0)) with
    | some k => show (0 : Int) ≤ (k : Int); omega
    | none =>
      rw [List.find?_eq_none] at e
      obtain ⟨j, hj, e2⟩ := List.mem_iff_getElem.1 hv
      have := e j (List.mem_range.2 hj)
      simp [List.getD, hj, e2, hp] at this
set_option maxHeartbeats 1000000 in
theorem ContainsFunc_g (hef : Ent fn) {Al : Option Addr} {n cl : Nat} {l : List Int} (w : World) (hl : LI w Al n cl l) (hn : n ≤ 1048576)
    (HF : ∀ (v : Int) (z : World), v ∈ l → Below w.heap.size w z → Calls Try.prog fn (#[.int .i64 v] ++ caps) z (fun e z' => e = .returned (.bool (p v)) ∧ Below z.heap.size z z')) :
    Calls Try.prog 50 #[.slice Al n cl, .func (.func fn) #[] caps] w fun e w' => e = .returned (.bool (l.any p)) ∧ Below w.heap.size w w' := by
  have K := Lib.hid (IndexFunc_g hef w hl hn HF)
  have hlen := hl.len
  have HA : Hid (decide (0 ≤ fIdx (fun j => p (l.getD j 0)) n) = l.any p) := by rw [hlen]; exact fIdx_any
  clear hl HF hlen
  obtain ⟨t, ht⟩ : ∃ t, t = fIdx (fun j => p (l.getD j 0)) n := ⟨_, rfl⟩
  rw [← ht] at K HA
  clear ht
  go_enter Try.func50, Try.ntmps50
  go_wp2_with fail
  refine K.out.mono ?_
  rintro e w1 ⟨rfl, hb1⟩
  have HB := Lib.hid hb1
  clear hb1
  go_wp2
  go_ret
  exact ⟨ret_bool HA.out, HB.out⟩
end
end Go.Proofs.Ytmkahbephidmbaa
