/-
  Several texts in one.
-/
import Derived.Test.YtncjfgebolikoaaQsGL
import Derived.Test.YtncjfgebolikoaaQsDrwA
import Derived.Test.YtncjfgebolikoaaQsDrwD
/-
  How a slice of bytes reads; is it too long? (the law file's big)
-/
namespace Go.Proofs.Ytncjfgebolikoaa
open Go.ChangeShapes Go.WideShapes Go.ChangeAt Go.RowKit Go.Deep

/-- Bytes that can be read. -/
structure BX (w : World) (A : Option Addr) (n c : Nat) : Prop where
  b : By w w.heap.size A n c
theorem BX.keep {w w' : World} {A : Option Addr} {n c : Nat} (h : BX w A n c) (hb : Below w.heap.size w w') : BX w' A n c := ⟨h.b.keep hb hb.size⟩
section
variable {H : Type} {enc : TypeId × Value → H} {w : World} {base : Nat} {spare : Nat → Bool} {held : Bool}
set_option maxRecDepth 100000 in
theorem open_bytes_arg {r : Reach} {b0 : Nat} {vv : Value} {d : DataW H} {p : List MemPlace} (_hv : Value.okWide Try.prog w r b0 22 vv)
    (h : DataW.Trod enc Try.prog w base spare held 22 vv d p) : ∃ A n c, vv = .slice A n c ∧ BX w A n c ∧ n ≤ maxLen := by
  obtain ⟨A0, n0, c0, rfl⟩ := okWide_slice Try.underlying22 _hv
  obtain ⟨fuel, hf⟩ := h
  rcases open_ints Try.underlying22 Try.underlying5 (by kernel_rfl) hf with ⟨hcs, _⟩ | ⟨a, l, c, zs, hcs, _, hl, hm, hz, _, hcell, hwz⟩
  · simp [Value.cells] at hcs
    obtain ⟨rfl, rfl, rfl⟩ := hcs
    exact ⟨none, 0, 0, rfl, ⟨⟨Nat.le_refl _, fun h => absurd h (by omega)⟩⟩, Nat.zero_le _⟩
  · simp [Value.cells] at hcs
    obtain ⟨rfl, rfl, rfl⟩ := hcs
    refine ⟨some a, n0, c0, rfl, ⟨⟨hl, fun hn => ?_⟩⟩, by omega⟩
    have hzl : n0 ≤ zs.length := by rw [hz]; split <;> omega
    obtain ⟨b, o, s⟩ := a
    have h0 := hcell 0 (by omega)
    have hs : s = none := by simpa [Addr.add] using World.cell?_spot h0
    subst hs
    have hadd : ∀ k, (⟨b, o, none⟩ : Addr).add k = ⟨b, o + k, none⟩ := fun k => by unfold Addr.add; split <;> simp_all
    simp only [hadd] at hcell h0
    refine ⟨b, o, rfl, World.block_lt_of_cell? w _ h0, fun j hj => ?_⟩
    have hj2 : j < zs.length := by omega
    have hb := bounds_u8 (hwz (zs.getD j 0) (by simp [List.getD, hj2]))
    refine ⟨(zs.getD j 0).toNat, by omega, ?_⟩
    rw [hcell j hj2, Int.toNat_of_nonneg hb.1]
end
theorem big_s (A : Option Addr) (n c : Nat) (w : World) (hn : n ≤ maxLen) :
    Calls Try.prog 4 #[.slice A n c] w fun e w' => e = .returned (.bool (decide (1048576 < n))) ∧ w' = w := by
  unfold maxLen at hn
  go_enter Try.func4, Try.ntmps4
  go_wp2
  go_ret
  exact ⟨ret_bool (decide_eq_decide.2 (by omega)), rfl⟩
end Go.Proofs.Ytncjfgebolikoaa

/-
  Graphs in boxes of a law's own, one, two or three at a time.
-/
namespace Go.Proofs.Ytncjfgebolikoaa
open Go.RowKit

/-- A graph that can be read, and its box. -/
structure GX (W : World) (q : Nat) (s : Int) (A : Option Addr) (m c : Nat) (x : Nat → Int) : Prop where
  c0 : W.cell? ⟨q, 0, none⟩ = some (.int .i64 s)
  c1 : W.cell? ⟨q, 1, none⟩ = some (.slice A m c)
  a : GA W A m c x
section
variable {w w' : World} {q m1 c1 m2 c2 m3 c3 : Nat} {s1 s2 s3 : Int} {A1 A2 A3 : Option Addr} {x1 x2 x3 : Nat → Int}
theorem GX.keep (h : GX w q s1 A1 m1 c1 x1) (hb : Below w.heap.size w w') : GX w' q s1 A1 m1 c1 x1 := ⟨up hb h.c0 (World.block_lt_of_cell? _ _ h.c0), up hb h.c1 (World.block_lt_of_cell? _ _ h.c1), h.a.keep hb⟩
theorem GX.new (h : GA w A1 m1 c1 x1) : GX (w.alloc (Obj.cells #[Value.int .i64 s1, .slice A1 m1 c1] 26)) w.heap.size s1 A1 m1 c1 x1 :=
  ⟨by simp [go_sem], by simp [go_sem], h.keep ((Below.refl _ _).alloc (Nat.le_refl _) _)⟩
theorem GX.two (h1 : GA w A1 m1 c1 x1) (h2 : GA w A2 m2 c2 x2) :
    GX ((w.alloc (Obj.cells #[Value.int .i64 s1, .slice A1 m1 c1] 26)).alloc (Obj.cells #[Value.int .i64 s2, .slice A2 m2 c2] 26)) w.heap.size s1 A1 m1 c1 x1 ∧ GX ((w.alloc (Obj.cells #[Value.int .i64 s1, .slice A1 m1 c1] 26)).alloc (Obj.cells #[Value.int .i64 s2, .slice A2 m2 c2] 26)) (w.heap.size + 1) s2 A2 m2 c2 x2 ∧ Below w.heap.size w ((w.alloc (Obj.cells #[Value.int .i64 s1, .slice A1 m1 c1] 26)).alloc (Obj.cells #[Value.int .i64 s2, .slice A2 m2 c2] 26)) := by
  have hb : Below w.heap.size w ((w.alloc (Obj.cells #[Value.int .i64 s1, .slice A1 m1 c1] 26)).alloc (Obj.cells #[Value.int .i64 s2, .slice A2 m2 c2] 26)) := ((Below.refl _ _).alloc (Nat.le_refl _) _).alloc (by simp) _
  exact ⟨⟨by simp [go_sem], by simp [go_sem], h1.keep hb⟩, ⟨by simp [go_sem], by simp [go_sem], h2.keep hb⟩, hb⟩
end
end Go.Proofs.Ytncjfgebolikoaa
