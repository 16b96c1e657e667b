/-
  Several texts in one.
-/
import Derived.Test.YtncjfgebolikoaaQsDrwA
import Derived.Test.YtncjfgebolikoaaQsV
/-
  Contract: a cursor over some bytes (the reference's l1New).
-/
namespace Go.Proofs.Ytncjfgebolikoaa
open Go.RowKit
set_option maxRecDepth 100000 in
set_option maxHeartbeats 3200000 in
theorem l1New_s {n c : Nat} {A : Option Addr} {w : World} (hb : By w w.heap.size A n c) (hn : n ≤ 1048576) :
    Calls Try.prog 26 #[.slice A n c] w fun e w' => ∃ q, e = .returned (.pointer (some ⟨q, 0, none⟩)) ∧ w.heap.size ≤ q ∧ Cu w' q A n c ∧ Below w.heap.size w w' := by
  have HBy := Lib.hid hb
  have Hc : Hid (∀ j, j < n → ∃ b o, ∃ u : Nat, A = some ⟨b, o, none⟩ ∧ u < 256 ∧ w.cell? ⟨b, o + j, none⟩ = some (.int .u8 u)) := fun j hj => by
    obtain ⟨b, o, e, _, h⟩ := hb.2 (by omega)
    obtain ⟨u, hu, pu⟩ := h j hj
    exact ⟨b, o, u, e, hu, pu⟩
  have fin : ∀ z : Int, Hid (∃ q, Ending.returned (Value.pointer (some ⟨w.heap.size, 0, none⟩)) = .returned (.pointer (some ⟨q, 0, none⟩)) ∧ w.heap.size ≤ q ∧ Cu (w.alloc (Obj.cells #[.slice A n c, .int .i64 0, .int .i64 z] 59)) q A n c ∧ Below w.heap.size w (w.alloc (Obj.cells #[.slice A n c, .int .i64 0, .int .i64 z] 59))) := fun z =>
    ⟨w.heap.size, rfl, Nat.le_refl _, ⟨⟨0, z, Nat.zero_le _, by simp [go_sem], by simp [go_sem], by simp [go_sem]⟩, by simp [go_sem], by simp [go_sem], hb.keep ((Below.refl _ _).alloc (Nat.le_refl _) _) (Nat.le_refl _), hn⟩, (Below.refl _ _).alloc (Nat.le_refl _) _⟩
  have Hfin := Lib.hid fin
  clear hb fin
  go_enter Try.func26, Try.ntmps26
  go_wp2
  go_loop [3, 4] (fun h i => ∃ (k : Nat) (z : Int), k ≤ n ∧ i = .int .i64 k ∧ h = .int .i64 z) (fun _ i => n - (intOf i).toNat)
  case atStart => exact ⟨0, _, Nat.zero_le _, rfl, rfl⟩
  case round =>
    obtain ⟨k, z, hk, rfl, rfl⟩ := hrel
    by_cases hkn : k < n
    · have i1 : (k : Int) < (n : Int) := by omega
      by_cases h4 : k < 4000
      · have i2 : (k : Int) < 4000 := by omega
        obtain ⟨b, o, u, rfl, hu, pu⟩ := Hc.out k hkn
        go_wp2
        go_round
        case rel => exact ⟨k + 1, _, by omega, by go_num, rfl⟩
        case measure => (simp [intOf] <;> omega)
      · have i2 : (4000 : Int) ≤ (k : Int) := by omega
        go_wp2
        go_ret
        exact (Hfin.out _).out
    · have i1 : (n : Int) ≤ (k : Int) := by omega
      go_wp2
      go_ret
      exact (Hfin.out _).out
end Go.Proofs.Ytncjfgebolikoaa

/-
  A graph of a call's own, whatever it is.
-/
namespace Go.Proofs.Ytncjfgebolikoaa
open Go.RowKit
/-- A graph of the call's own. -/
structure SG (w W : World) (B : Option Addr) (m d : Nat) (x : Nat → Int) : Prop where
  h7 : m ≤ 7
  o1 : Own W w.heap.size W.heap.size 3 1 B m d (fun j => .int .i64 (x j))
  b : Below w.heap.size w W
theorem SG.fin {w U W' : World} {B : Option Addr} {m d l h k : Nat} {x : Nat → Int} (hB : Below w.heap.size w U) (F : Fr w.heap.size (w.heap.size + k) U W') (hm : m ≤ 7) (o : Own U l h 3 1 B m d (fun j => .int .i64 (x j))) (e1 : w.heap.size + k ≤ l) (e3 : h ≤ U.heap.size) : SG w W' B m d x :=
  ⟨hm, (o.keep F (.inr e1)).mono (by omega) (Nat.le_trans e3 F.size), hB.trans (F.below (Nat.le_refl _) hB.size)⟩
theorem SG.alloc {w W : World} {B : Option Addr} {m d : Nat} {x : Nat → Int} (h : SG w W B m d x) (o : Obj) : SG w (W.alloc o) B m d x :=
  ⟨h.h7, (h.o1.alloc o).mono (Nat.le_refl _) (by simp), h.b.alloc h.b.size _⟩
theorem SG.drewN {w W : World} {B : Option Addr} {m d : Nat} {x : Nat → Int} (h : SG w W B m d x) (k : Nat) : SG w (W.drewN k) B m d x := ⟨h.h7, h.o1, ⟨h.b.os, h.b.tape, h.b.output, h.b.size, h.b.block⟩⟩
end Go.Proofs.Ytncjfgebolikoaa
