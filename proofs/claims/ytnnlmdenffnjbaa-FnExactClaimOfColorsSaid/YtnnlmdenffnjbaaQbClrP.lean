/-
  Plain: the claim of colors.
-/
import Derived.Test.YtnnlmdenffnjbaaQbColP
import Derived.Test.YtnnlmdenffnjbaaQbStore7
namespace Go.Proofs.Ytnnlmdenffnjbaa
open Go.RowKit

def clrK (K : Int) (sz : Int) (m : Nat) (x : Nat → Int) (l : List Nat) (s : Nat) : Clm := { zeroK with K := K, s := sz, n0 := m, x0 := x, n1 := l.length, x1 := fun j => ((l.getD j 0 : Nat) : Int), n2 := 1, x2 := fun _ => (s : Int) }
noncomputable def coB (sz : Int) (m : Nat) (x : Nat → Int) : Bool := okB sz m x && (decide (cn (lqN (rw_ x) m) = chN (rw_ x) m) || decide (cn (liN (rw_ x) m) = (cvL (rw_ x) m).length))
noncomputable def coK (sz : Int) (m : Nat) (x : Nat → Int) : Clm :=
  if okB sz m x = true then (if cn (lqN (rw_ x) m) = chN (rw_ x) m then clrK 3 sz m x (coL (rw_ x) m) (lqN (rw_ x) m) else if cn (liN (rw_ x) m) = (cvL (rw_ x) m).length then clrK 4 sz m x (cvL (rw_ x) m) (liN (rw_ x) m) else zeroK) else zeroK
section
variable {sz : Int} {m : Nat} {x : Nat → Int}
theorem co_bad (h : okB sz m x = false) : coB sz m x = false ∧ coK sz m x = zeroK := by unfold coB coK; rw [h]; exact ⟨rfl, rfl⟩
theorem co_one (h : okB sz m x = true) (h1 : cn (lqN (rw_ x) m) = chN (rw_ x) m) : coB sz m x = true ∧ coK sz m x = clrK 3 sz m x (coL (rw_ x) m) (lqN (rw_ x) m) := by
  unfold coB coK; rw [h, decide_eq_true h1, if_pos h1]; exact ⟨rfl, rfl⟩
theorem co_two (h : okB sz m x = true) (h1 : ¬ cn (lqN (rw_ x) m) = chN (rw_ x) m) (h2 : cn (liN (rw_ x) m) = (cvL (rw_ x) m).length) : coB sz m x = true ∧ coK sz m x = clrK 4 sz m x (cvL (rw_ x) m) (liN (rw_ x) m) := by
  unfold coB coK; rw [h, decide_eq_false h1, decide_eq_true h2, if_neg h1, if_pos h2]; exact ⟨rfl, rfl⟩
theorem co_no (h : okB sz m x = true) (h1 : ¬ cn (lqN (rw_ x) m) = chN (rw_ x) m) (h2 : ¬ cn (liN (rw_ x) m) = (cvL (rw_ x) m).length) : coB sz m x = false ∧ coK sz m x = zeroK := by
  unfold coB coK; rw [h, decide_eq_false h1, decide_eq_false h2, if_neg h1, if_neg h2]; exact ⟨rfl, rfl⟩
theorem coL_len {r : Nat → Nat} {m : Nat} (hm : 1 ≤ m) : (coL r m).length = m := (cOf_len (coL_some (r := r) hm)).1
theorem zeroK_small : SmK zeroK := ⟨by decide, by decide, by decide, by decide, by decide, by decide⟩
theorem clrK_small {K : Int} {l : List Nat} {s : Nat} (h : m ≤ 1048576) (hl : l.length ≤ 1048576) : SmK (clrK K sz m x l s) := ⟨h, Nat.zero_le _, hl, by show 1 ≤ _; omega, Nat.zero_le _, Nat.zero_le _⟩
theorem coK_small (h : m ≤ 1048576) : SmK (coK sz m x) := by
  cases ho : okB sz m x
  · rw [(co_bad ho).2]; exact zeroK_small
  · obtain ⟨_, _, vg, _⟩ := okB_ok' ho
    have hn7 := vg.n7
    have hn1 := vg.n1
    by_cases h1 : cn (lqN (rw_ x) m) = chN (rw_ x) m
    · rw [(co_one ho h1).2]; exact clrK_small h (by rw [coL_len hn1]; omega)
    · by_cases h2 : cn (liN (rw_ x) m) = (cvL (rw_ x) m).length
      · rw [(co_two ho h1 h2).2]
        exact clrK_small h (by rw [cvL_len]; have := (chN_spec (r := coR (rw_ x) m) hn1).1; omega)
      · rw [(co_no ho h1 h2).2]; exact zeroK_small
end
/-- The parts of such a claim, as they lie. -/
theorem apK_three {K s : Int} {A0 : Option Addr} {n0 c0 : Nat} {x0 : Nat → Int} {t : ByteArray} {A1 : Option Addr} {n1 c1 : Nat} {x1 : Nat → Int} {g2 n2 c2 : Nat} {x2 : Nat → Int} {Z : World} {e : TypeId} {z0 z1 : Nat} {y0 y1 : Nat → Value} {lo hi : Nat}
    (h1 : Own Z lo hi e z1 A1 n1 c1 y1) (h0 : Own Z hi g2 e z0 A0 n0 c0 y0) (hg : hi ≤ g2) : ApK ⟨K, s, A0, n0, c0, x0, t, A1, n1, c1, x1, some ⟨g2, 0, none⟩, n2, c2, x2, none, 0, []⟩ := by
  have k0 : ∀ a, A0 = some a → hi ≤ a.block ∧ a.block < g2 := fun a ha => by
    rcases h0 with ⟨e, _⟩ | ⟨g, _, e, k2, k3, _⟩
    · rw [e] at ha; cases ha
    · rw [e] at ha; injection ha with ha; rw [← ha]; exact ⟨k2, k3⟩
  have k1 : ∀ a, A1 = some a → a.block < hi := fun a ha => by
    rcases h1 with ⟨e, _⟩ | ⟨g, _, e, k2, k3, _⟩
    · rw [e] at ha; cases ha
    · rw [e] at ha; injection ha with ha; rw [← ha]; exact k3
  refine ⟨fun a ha hb => ?_, fun a ha hb => ?_, fun a ha hb => ?_, (fun d hd => by cases hd), (fun d hd => by cases hd), (fun d hd => by cases hd)⟩
  · have := k0 a ha; have := k1 a hb; omega
  · have := k0 a ha
    injection hb with hb
    rw [← hb] at this
    exact absurd this.2 (Nat.lt_irrefl _)
  · have := k1 a ha
    injection hb with hb
    rw [← hb] at this
    exact absurd this (by show ¬ g2 < hi; omega)
/-- The world behind the store of such a claim. -/
def clrW (w : World) (q : Nat) (K : Int) (A8 : Option Addr) (m c8 : Nat) (A7 : Option Addr) (n7 c7 sv : Nat) : World :=
  (st7 w q (.int .i64 K) (.int .i64 m) (.slice A8 m c8) (.string ⟨#[]⟩) (.slice A7 n7 c7) (.slice (some ⟨w.heap.size, 0, none⟩) 1 1) (.slice none 0 0)).alloc (Obj.cells #[.int .i64 (sv : Int)] 3)
def clrM (w : World) (K : Int) (A8 : Option Addr) (m c8 : Nat) (x : Nat → Int) (A7 : Option Addr) (L : List Nat) (c7 sv : Nat) : Clm := mk7 K m A8 m c8 x ⟨#[]⟩ A7 L.length c7 (fun j => ((L.getD j 0 : Nat) : Int)) (some ⟨w.heap.size, 0, none⟩) 1 1 (fun _ => (sv : Int))
theorem clr_end {w w8 : World} {K : Int} {m c8 c7 lo7 h7 q sv : Nat} {A8 A7 : Option Addr} {x : Nat → Int} {L : List Nat} {k0 : Clm} (hQ : KB w8 q k0) (hB : From w w8) (hwq : w.heap.size ≤ q) (h1 : Own w8 lo7 h7 3 1 A7 L.length c7 (ni L)) (hq7 : q < lo7) (hl : lo7 ≤ h7) (hh7 : h7 ≤ w8.heap.size) (h0 : Own w8 h7 w8.heap.size 3 1 A8 m c8 (fun j => .int .i64 (x j))) :
    KB (clrW w8 q K A8 m c8 A7 L.length c7 sv) q (clrM w8 K A8 m c8 x A7 L c7 sv) ∧ ApK (clrM w8 K A8 m c8 x A7 L c7 sv) ∧ OwnK (clrW w8 q K A8 m c8 A7 L.length c7 sv) w.heap.size (clrW w8 q K A8 m c8 A7 L.length c7 sv).heap.size (clrM w8 K A8 m c8 x A7 L c7 sv) ∧ Below w.heap.size w (clrW w8 q K A8 m c8 A7 L.length c7 sv) ∧ SameK (clrM w8 K A8 m c8 x A7 L c7 sv) (clrK K m m x L sv) := by
  have hql := hQ.lt
  obtain ⟨Y, hY⟩ : ∃ Y : World, Y = st7 w8 q (.int .i64 K) (.int .i64 m) (.slice A8 m c8) (.string ⟨#[]⟩) (.slice A7 L.length c7) (.slice (some ⟨w8.heap.size, 0, none⟩) 1 1) (.slice none 0 0) := ⟨_, rfl⟩
  have hKY : KB Y q (clrM w8 K A8 m c8 x A7 L c7 sv) := by rw [hY]; exact hQ.mk7 ..
  have hF : Fr q (q + 1) w8 Y := by rw [hY]; exact fr_st7 ..
  have hYs : Y.heap.size = w8.heap.size := by rw [hY]; simp [st7, World.setCell]
  have hc : clrW w8 q K A8 m c8 A7 L.length c7 sv = Y.alloc (Obj.cells #[.int .i64 (sv : Int)] 3) := by rw [hY]; rfl
  rw [hc]
  have hb := hB.below.size
  have hAl : Below Y.heap.size Y (Y.alloc (Obj.cells #[.int .i64 (sv : Int)] 3)) := (Below.refl _ _).alloc (Nat.le_refl _) _
  have o0 := (h0.keep hF (.inr (by omega))).alloc (Obj.cells #[.int .i64 (sv : Int)] 3)
  have o1 := (h1.keep hF (.inr (by omega))).alloc (Obj.cells #[.int .i64 (sv : Int)] 3)
  have o2 := own_one' Y (sv : Int) hYs
  refine ⟨hKY.keep hAl, apK_three (x0 := x) (x1 := fun j => ((L.getD j 0 : Nat) : Int)) (x2 := fun _ => (sv : Int)) (h1.keep hF (.inr (by omega))) (h0.keep hF (.inr (by omega))) ?_, ⟨o0.mono (by omega) (by simp; omega), ?_, o2.mono hb (by simp; omega), OwnD.nil_ _ _ _⟩, ?_, rfl, rfl, rfl, rfl, rfl, rfl, rfl, rfl, rfl, rfl⟩
  · exact hh7
  · exact o1.lt.mono (by omega) (Nat.min_le_right _ _)
  · exact hB.below.trans ((hF.below (by omega) hb).alloc (by omega) _)
end Go.Proofs.Ytnnlmdenffnjbaa
