/-
  Contracts: is a graph chordal? The program's elimination.
-/
import Derived.Test.YtnnlmdenffnjbaaClique
import Derived.Test.YtnnlmdenffnjbaaWithin
import Derived.Test.YtnnlmdenffnjbaaEdits
import Derived.Deep.RegionLaw
namespace Go.Proofs.Ytnnlmdenffnjbaa
open Go.RowKit

/-- The first place at which p holds, or -1. -/
def fIdx (p : Nat → Bool) (n : Nat) : Int := match (List.range n).find? p with | some k => (k : Int) | none => -1
theorem fIdx_yes {p : Nat → Bool} {n k : Nat} (hk : k < n) (hp : p k = true) (hmin : ∀ j, j < k → p j = false) : fIdx p n = k := by
  have : (List.range n).find? p = some k := by
    rw [List.find?_range_eq_some]
    exact ⟨hp, by simp [hk], fun j hj => by simp [hmin j hj]⟩
  unfold fIdx; rw [this]
theorem fIdx_no {p : Nat → Bool} {n : Nat} (h : ∀ j, j < n → p j = false) : fIdx p n = -1 := by
  have : (List.range n).find? p = none := by
    rw [List.find?_eq_none]
    intro j hj
    simp [h j (List.mem_range.1 hj)]
  unfold fIdx; rw [this]

set_option maxHeartbeats 1000000 in
theorem IndexFunc_E (A : Option Addr) (c : Nat) (l : List Nat) (p : Nat → Bool) (bg bl : Nat) (w : World) (B : Nat) (h : Rd w B A l.length c (fun j => ((l.getD j 0 : Nat) : Int))) (hB : B ≤ w.heap.size) (hl : l.length ≤ 7)
    (HF : Hid (∀ (j : Nat) (hj : j < l.length) (w' : World), Below w.heap.size w w' → Calls Try.prog 226 #[.int .i64 (l[j] : Int), .pointer (some ⟨bg, 0, none⟩), .pointer (some ⟨bl, 0, none⟩)] w' fun e w'' => e = .returned (.bool (p j)) ∧ Below w'.heap.size w' w'')) :
    Calls Try.prog 225 #[.slice A l.length c, .func (.func 226) #[] #[.pointer (some ⟨bg, 0, none⟩), .pointer (some ⟨bl, 0, none⟩)]] w fun e w' => e = .returned (.int .i64 (fIdx p l.length)) ∧ Below w.heap.size w w' := by
  have HR := Lib.hid h
  clear h
  go_enter Try.func225, Try.ntmps225
  go_wp2
  go_loopw [8] (fun i wr => ∃ k : Nat, k ≤ l.length ∧ i = .int .i64 k ∧ Hid (∀ j, j < k → p j = false) ∧ Hid (Below w.heap.size w wr)) (fun i _ => l.length - (intOf i).toNat)
  case atStart => exact ⟨0, Nat.zero_le _, rfl, (fun j hj => absurd hj (by omega)), Below.refl _ _⟩
  case round =>
    obtain ⟨k, hk, rfl, hall, hbr⟩ := hrel
    have zr := hbr.out.size
    by_cases hlt : k < l.length
    · obtain ⟨b, o, rfl, hb, hc⟩ := HR.out.pos (by omega)
      have q0 : wr.cell? ⟨b, o + k, none⟩ = some (.int .i64 (l[k] : Int)) := ((hbr.out.cell (p := ⟨b, o + k, none⟩) (by show b < _; omega)).trans (hc k hlt)).trans (by simp [List.getD, hlt])
      have K1 := Lib.hid (HF.out k hlt wr hbr.out)
      obtain ⟨v, hv⟩ : ∃ v : Nat, v = l[k] := ⟨_, rfl⟩
      rw [← hv] at q0 K1
      have i1 : (k : Int) < (l.length : Int) := by omega
      clear hc hv
      cases hp : p k
      · rw [hp] at K1
        have Hp := Lib.hid hp
        clear hp
        go_wp2_with fail
        refine K1.out.mono ?_
        rintro e w3 ⟨rfl, hb3⟩
        have HB3 : Hid (Below w.heap.size w w3) := hbr.out.trans (hb3.mono zr)
        clear hb3 hbr q0
        go_wp2
        go_roundw
        case rel =>
          refine ⟨k + 1, by omega, by go_num, fun j hj => ?_, HB3⟩
          by_cases hjk : j < k
          · exact hall.out j hjk
          · obtain rfl : j = k := by omega
            exact Hp.out
        case measure => simp [intOf]; omega
      · rw [hp] at K1
        have Hi : Hid (fIdx p l.length = k) := fIdx_yes hlt hp hall.out
        clear hp
        go_wp2_with fail
        refine K1.out.mono ?_
        rintro e w3 ⟨rfl, hb3⟩
        have HB3 : Hid (Below w.heap.size w w3) := hbr.out.trans (hb3.mono zr)
        clear hb3 hbr q0
        go_wp2
        go_ret
        exact ⟨ret_int Hi.out.symm, HB3.out⟩
    · have Hi : Hid (fIdx p l.length = -1) := fIdx_no fun j hj => hall.out j (by omega)
      have i1 : (l.length : Int) ≤ (k : Int) := by omega
      go_wp2
      go_ret
      exact ⟨ret_int Hi.out.symm, hbr.out⟩

theorem all_any (m : Nat) (A : Option Addr) (c : Nat) (w : World) (hm : m ≤ 7) :
    Calls Try.prog 125 #[.agg #[.int .i64 m, .slice A m c]] w fun e w' => e = .returned (.int .i64 ((2 ^ m - 1 : Nat) : Int)) ∧ Below w.heap.size w w' := by
  have p1 := pow_shl m hm
  have p2 := two_pow_int m hm
  have H : Hid (((2 ^ m - 1 : Nat) : Int) = 2 ^ m - 1) := by show _ = _; rw [Int.ofNat_sub (Nat.two_pow_pos m)]; simp
  have HB : Hid (Below w.heap.size w (w.alloc (Obj.cells #[Value.int IntKind.i64 m, Value.slice A m c] 28))) := (Below.refl _ _).alloc (Nat.le_refl _) _
  go_enter Try.func125, Try.ntmps125
  go_wp2
  go_ret
  exact ⟨ret_int H.out.symm, HB.out⟩
end Go.Proofs.Ytnnlmdenffnjbaa
