/-
  Slices of edits: what they read as; the law's helpers on them.
-/
import Derived.Test.YtnnlmdenffnjbaaLawGraph
import Derived.Test.YtnnlmdenffnjbaaPush
namespace Go.Proofs.Ytnnlmdenffnjbaa
open Go.RowKit

/-- The cells of a list of edits, one after the other. -/
def eds (a : Nat → Bool) (v u : Nat → Int) : Nat → Value := fun j => if j % 3 = 0 then .bool (a (j / 3)) else if j % 3 = 1 then .int .i64 (v (j / 3)) else .int .i64 (u (j / 3))
theorem eds0 (a : Nat → Bool) (v u : Nat → Int) (k : Nat) : eds a v u (k * 3) = .bool (a k) := by
  unfold eds; rw [if_pos (by omega), show k * 3 / 3 = k by omega]
theorem eds1 (a : Nat → Bool) (v u : Nat → Int) (k : Nat) : eds a v u (k * 3 + 1) = .int .i64 (v k) := by
  unfold eds; rw [if_neg (by omega), if_pos (by omega), show (k * 3 + 1) / 3 = k by omega]
theorem eds2 (a : Nat → Bool) (v u : Nat → Int) (k : Nat) : eds a v u (k * 3 + 2) = .int .i64 (u k) := by
  unfold eds; rw [if_neg (by omega), if_neg (by omega), show (k * 3 + 2) / 3 = k by omega]

theorem eds_news {a : Nat → Bool} {v u : Nat → Int} {k : Nat} {p : Bool} {q r : Int} (h0 : a k = p) (h1 : v k = q) (h2 : u k = r) : ∀ i, i < 3 → (#[Value.bool p, Value.int .i64 q, Value.int .i64 r] : Array Value)[i]? = some (eds a v u (k * 3 + i)) := by
  intro i hi
  have : i = 0 ∨ i = 1 ∨ i = 2 := by omega
  rcases this with rfl | rfl | rfl
  · rw [Nat.add_zero, eds0, h0]; rfl
  · rw [eds1, h1]; rfl
  · rw [eds2, h2]; rfl

/-- The slice value '.slice A n c' reads as n edits, in blocks below B. -/
def RdE (w : World) (B : Nat) (A : Option Addr) (n c : Nat) (a : Nat → Bool) (v u : Nat → Int) : Prop :=
  n ≤ c ∧ (0 < n → ∃ b o, A = some ⟨b, o, none⟩ ∧ b < B ∧ ∀ k, k < n → w.cell? ⟨b, o + k * 3, none⟩ = some (.bool (a k)) ∧ w.cell? ⟨b, o + k * 3 + 1, none⟩ = some (.int .i64 (v k)) ∧ w.cell? ⟨b, o + k * 3 + 2, none⟩ = some (.int .i64 (u k)))
theorem RdE.keep {w w' : World} {B B' : Nat} {A : Option Addr} {n c : Nat} {a : Nat → Bool} {v u : Nat → Int} (h : RdE w B A n c a v u) (hb : Below B w w') (hB : B ≤ B') : RdE w' B' A n c a v u := by
  refine ⟨h.1, fun hn => ?_⟩
  obtain ⟨b, o, e, hlt, hc⟩ := h.2 hn
  exact ⟨b, o, e, by omega, fun k hk => ⟨(hb.cell (p := ⟨b, _, none⟩) hlt).trans (hc k hk).1, (hb.cell (p := ⟨b, _, none⟩) hlt).trans (hc k hk).2.1, (hb.cell (p := ⟨b, _, none⟩) hlt).trans (hc k hk).2.2⟩⟩
theorem Own.rdE {lo hi : Nat} {w : World} {e : TypeId} {n c : Nat} {A : Option Addr} {a : Nat → Bool} {v u : Nat → Int} (h : Own w lo hi e 3 A n c (eds a v u)) : RdE w hi A n c a v u :=
  ⟨h.le, fun hn => by
    obtain ⟨g, e1, _, h2, _, h3, _⟩ := h.at_ hn
    refine ⟨g, 0, e1, h2, fun k hk => ?_⟩
    rw [Nat.zero_add]
    exact ⟨by rw [h3 _ (by omega), eds0], by rw [h3 _ (by omega), eds1], by rw [h3 _ (by omega), eds2]⟩⟩

theorem info_edit : (Try.prog.info? 66).map (fun i => (i.zero, i.size, i.bytes)) = some (some (.agg #[.bool false, .int .i64 0, .int .i64 0]), 3, 24) := by kernel_rfl

end Go.Proofs.Ytnnlmdenffnjbaa
