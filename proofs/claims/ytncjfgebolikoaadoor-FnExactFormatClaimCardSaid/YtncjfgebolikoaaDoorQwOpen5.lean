/-
  How a claim reads as an argument: its numbers are such as an int holds.
-/
import Derived.Test.YtncjfgebolikoaaDoorQwOpen4
import Derived.Test.YtncjfgebolikoaaDoorQwFcP
namespace Go.Proofs.YtncjfgebolikoaaDoor
open Go.ChangeShapes Go.WideShapes Go.ChangeAt Go.RowKit Go.Deep

section
variable {H : Type} {enc : TypeId × Value → H} {w : World} {base : Nat} {spare : Nat → Bool} {held : Bool}
theorem open_intS_w {fuel : Nat} {v : Value} {y : DataW H × List MemPlace} (h : DataW.trod enc Tryd.prog w base spare held fuel 29 [v] = some y) :
    ∃ A n c x, v = .slice A n c ∧ Rd w w.heap.size A n c x ∧ n ≤ maxLen ∧ ∀ i, i < n → I64 (x i) := by
  rcases open_ints Tryd.underlying29 Tryd.underlying3 (by kernel_rfl) h with ⟨hcs, _⟩ | ⟨a, l, c, zs, hcs, _, hl, hm, hz, _, hcell, hwf⟩
  · simp only [List.cons.injEq, and_true] at hcs
    exact ⟨none, 0, 0, fun _ => 0, hcs, Rd.nil _ _ _ _ _, Nat.zero_le _, fun i hi => absurd hi (by omega)⟩
  · simp only [List.cons.injEq, and_true] at hcs
    refine ⟨some a, l, c, fun i => zs.getD i 0, hcs, rd_of_cells hl (fun i hi => hcell i ?_), Nat.le_trans hl hm, ?_⟩
    · rw [hz]; split <;> omega
    · intro i hi
      have hi2 : i < zs.length := by rw [hz]; split <;> omega
      exact wf_i64 (hwf _ (getD_in hi2))

theorem open_ss_cells_w {fuel : Nat} {vv : Value} {y : DataW H × List MemPlace} (hf : DataW.trod enc Tryd.prog w base spare held fuel 32 [vv] = some y) :
    ∃ A c D, vv = .slice A D.length c ∧ RdD w w.heap.size A c D ∧ D.length ≤ maxLen ∧ (∀ e ∈ D, e.2.2.length ≤ maxLen) ∧ ∀ e ∈ D, ∀ z ∈ e.2.2, I64 z := by
  rcases open_slice1 Tryd.underlying32 (by kernel_rfl) hf with ⟨h0, _⟩ | ⟨ad, l, cp, m, n, V, D0, Pl, hcs, _, hl, hm, hmm, _, hi⟩
  · simp at h0
    subst h0
    exact ⟨none, 0, [], rfl, ⟨⟨Nat.le_refl _, fun h => absurd h (by simp)⟩, fun e he => by cases he⟩, Nat.zero_le _, (fun e he => by cases he), fun e he => by cases he⟩
  · simp at hcs
    subst hcs
    have hall : ∀ i, i < l → ∃ (q : Dsc), w.cell? (ad.add i) = some (dv q) ∧ Rd w w.heap.size q.1 q.2.2.length q.2.1 (fun i => q.2.2.getD i 0) ∧ q.2.2.length ≤ maxLen ∧ ∀ z ∈ q.2.2, I64 z := by
      intro i hin
      obtain ⟨c1, t1⟩ := hi i (by rw [hmm]; split <;> omega)
      obtain ⟨A, k, c, x, e1, hr, hk, hw⟩ := open_intS_w t1
      refine ⟨(A, c, (List.range k).map x), ?_, ?_, by simpa using hk, fun z hz => by
        obtain ⟨i2, hi2, rfl⟩ := List.mem_map.1 hz
        exact hw i2 (List.mem_range.1 hi2)⟩
      · rw [c1, e1]; simp [dv]
      · simp only [List.length_map, List.length_range]
        exact hr.congr (fun j hj => by simp [List.getD, hj])
    obtain ⟨f, hff⟩ := choose_lt (n := l) (p := fun i (q : Dsc) => w.cell? (ad.add i) = some (dv q) ∧ Rd w w.heap.size q.1 q.2.2.length q.2.1 (fun i => q.2.2.getD i 0) ∧ q.2.2.length ≤ maxLen ∧ ∀ z ∈ q.2.2, I64 z) hall
    have hlen : ((List.range l).map f).length = l := by simp
    refine ⟨some ad, cp, (List.range l).map f, by rw [hlen], ⟨⟨by rw [hlen]; exact hl, fun hn => ?_⟩, fun e he => ?_⟩, by rw [hlen]; omega, fun e he => ?_, fun e he => ?_⟩
    · rw [hlen] at hn
      obtain ⟨b, o, s⟩ := ad
      have h0 := (hff 0 hn).1
      have hs : s = none := by simpa [Addr.add] using World.cell?_spot h0
      subst hs
      have hadd : ∀ k, (⟨b, o, none⟩ : Addr).add k = ⟨b, o + k, none⟩ := fun k => by unfold Addr.add; split <;> simp_all
      simp only [hadd] at hff h0
      refine ⟨b, o, rfl, World.block_lt_of_cell? w _ h0, fun k hk => ?_⟩
      rw [hlen] at hk
      rw [(hff k hk).1]
      unfold dvs
      simp [List.getD, hk]
    · obtain ⟨i, hi, rfl⟩ := List.mem_map.1 he
      exact (hff i (List.mem_range.1 hi)).2.1
    · obtain ⟨i, hi, rfl⟩ := List.mem_map.1 he
      exact (hff i (List.mem_range.1 hi)).2.2.1
    · obtain ⟨i, hi, rfl⟩ := List.mem_map.1 he
      exact (hff i (List.mem_range.1 hi)).2.2.2
set_option maxRecDepth 100000 in
theorem open_claim_w {r : Reach} {b0 : Nat} {v : Value} {d : DataW H} {p : List MemPlace} (hv : Value.okWide Tryd.prog w r b0 34 v)
    (h : DataW.Trod enc Tryd.prog w base spare held 34 v d p) :
    ∃ k : Clm, v = .agg #[.int .i64 k.K, .int .i64 k.s, .slice k.A0 k.n0 k.c0, .string k.t, .slice k.A1 k.n1 k.c1, .slice k.A2 k.n2 k.c2, .slice k.A3 k.D.length k.c3] ∧ RdK w w.heap.size k ∧ LenK k ∧ I64K k := by
  obtain ⟨v0, v1, v2, v3, v4, v5, v6, y0, y1, y2, y3, y4, y5, m, rfl, h0, h1, h2, h3, h4, h5⟩ := open_agg7 Tryd.underlying34 ⟨rfl, rfl, rfl, rfl, rfl, rfl⟩ ⟨by kernel_rfl, by kernel_rfl, by kernel_rfl, by kernel_rfl, by kernel_rfl, by kernel_rfl⟩ (by kernel_rfl) hv h
  obtain ⟨K, e0, _, _⟩ := DataW.trod_int Tryd.underlying3 h0
  simp only [List.cons.injEq, and_true] at e0
  obtain ⟨sz, A0, n0, c0, x0, e1, e2, r0, l0⟩ := open_graph_cells h1
  obtain ⟨s, e3, _, ls⟩ := DataW.trod_string Tryd.underlying9 h2
  simp only [List.cons.injEq, and_true] at e3
  obtain ⟨A1, n1, c1, x1, e4, r1, l1, b1⟩ := open_intS_w h3
  obtain ⟨A2, n2, c2, x2, e5, r2, l2, b2⟩ := open_intS_w h4
  obtain ⟨A3, c3, D, e6, r3, l3, l4, b3⟩ := open_ss_cells_w h5
  subst e0 e1 e2 e3 e4 e5 e6
  exact ⟨⟨K, sz, A0, n0, c0, x0, s, A1, n1, c1, x1, A2, n2, c2, x2, A3, c3, D⟩, rfl, ⟨r0, r1, r2, r3⟩, ⟨l0, ls, l1, l2, l3, l4⟩, ⟨b1, b2, b3⟩⟩
end
end Go.Proofs.YtncjfgebolikoaaDoor
