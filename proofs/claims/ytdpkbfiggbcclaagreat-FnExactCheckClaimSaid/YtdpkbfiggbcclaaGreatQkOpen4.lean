/-
  Several texts in one.
-/
import Derived.Test.YtdpkbfiggbcclaaGreatQkChkI
import Derived.Test.YtdpkbfiggbcclaaGreatQkChkS
import Derived.Test.YtdpkbfiggbcclaaGreatQkClaim
import Derived.Test.YtdpkbfiggbcclaaGreatQkElzI
import Derived.ChangeMaps5
/-
-/
namespace Go.Proofs.YtdpkbfiggbcclaaGreat
open Go.RowKit
noncomputable def chK (a : Clm) : Bool := ckcB a.K a.s a.n0 a.x0 a.t.toList ((List.range a.n1).map a.x1) ((List.range a.n2).map a.x2) (lists a.D)
theorem chK_same {k a : Clm} (h : SameK a k) : chK k = chK a := by
 obtain ⟨h1, h2, h3, h4, h5, h6, h7, h8, h9, h10⟩ := h
 unfold chK
 rw [h1, h2, h3, h4, h5, h6, h7, h8, h9, h10]
section
variable (k : Clm) (w : World) (B : Nat)
theorem CheckClaim_sL (h : RdK w B k) (hB : B ≤ w.heap.size) (hk : SmK k) (a : Clm) (hka : SameK a k) :
 Calls Tryz.prog 35 #[.agg #[.int .i64 k.K, .int .i64 k.s, .slice k.A0 k.n0 k.c0, .string k.t, .slice k.A1 k.n1 k.c1, .slice k.A2 k.n2 k.c2, .slice k.A3 k.D.length k.c3]] w fun e w' => e = .returned (.bool (chK a)) ∧ Below w.heap.size w w' := by
 obtain ⟨hk0, hkt, hk1, hk2, hk3, hk4⟩ := hk
 rw [← chK_same hka]
 exact CheckClaim_s k.K k.s k.A0 k.n0 k.c0 k.x0 k.t k.A1 k.n1 k.c1 _ k.A2 k.n2 k.c2 _ k.A3 k.c3 k.D _ w ⟨h.1.keep (Below.refl _ _) hB⟩ (LI.of h.2.1 hB) (LI.of h.2.2.1 hB) ⟨h.2.2.2.keep (Below.refl _ _) hB⟩ hk0 hk1 hk2 hk3 hk4 rfl
theorem CheckClaim_iL (h : RdK w B k) (hB : B ≤ w.heap.size) (hk : SmK k) (a : Clm) (hka : SameK a k) :
 Calls Tryz.prog 37 #[.agg #[.int .i64 k.K, .int .i64 k.s, .slice k.A0 k.n0 k.c0, .string k.t, .slice k.A1 k.n1 k.c1, .slice k.A2 k.n2 k.c2, .slice k.A3 k.D.length k.c3]] w fun e w' => e = .returned (.bool (chK a)) ∧ Below w.heap.size w w' := by
 obtain ⟨hk0, hkt, hk1, hk2, hk3, hk4⟩ := hk
 rw [← chK_same hka]
 exact CheckClaim_i k.K k.s k.A0 k.n0 k.c0 k.x0 k.t k.A1 k.n1 k.c1 _ k.A2 k.n2 k.c2 _ k.A3 k.c3 k.D _ w ⟨h.1.keep (Below.refl _ _) hB⟩ (LI.of h.2.1 hB) (LI.of h.2.2.1 hB) ⟨h.2.2.2.keep (Below.refl _ _) hB⟩ hk0 hk1 hk2 hk3 hk4 rfl
end
end Go.Proofs.YtdpkbfiggbcclaaGreat

/-
-/
namespace Go.Proofs.YtdpkbfiggbcclaaGreat
open Go.ChangeShapes Go.WideShapes Go.ChangeAt Go.RowKit Go.Deep
theorem array7 {α : Type} {cs : Array α} (h : cs.size = 7) : ∃ c0 c1 c2 c3 c4 c5 c6, cs = #[c0, c1, c2, c3, c4, c5, c6] := by
 obtain ⟨l⟩ := cs
 match l, h with
 | [c0, c1, c2, c3, c4, c5, c6], _ => exact ⟨c0, c1, c2, c3, c4, c5, c6, rfl⟩
section
variable {H : Type} {enc : TypeId × Value → H} {P : Program} {w : World} {base : Nat} {spare : Nat → Bool} {held : Bool}
theorem trod2_cells {t : TypeId} {f0 f1 : Field} {fuel : Nat} {v0 v1 : Value} {y : DataW H × List MemPlace} (hs : P.underlying t = some (.struct #[f0, f1])) (hone : oneCellFields P #[f0, f1] = true) (h : DataW.trod enc P w base spare held fuel t [v0, v1] = some y) :
 ∃ (y0 y1 : DataW H × List MemPlace) (n : Nat), DataW.trod enc P w base spare held n f0.type [v0] = some y0 ∧ DataW.trod enc P w base spare held n f1.type [v1] = some y1 := by
 obtain ⟨y0, y1, n, _, _, h0, h1⟩ := trod_struct2 hs h
 obtain ⟨o0, k0⟩ := hone_of hone 0 f0 rfl
 obtain ⟨o1, k1⟩ := hone_of hone 1 f1 rfl
 exact ⟨y0, y1, n, by simpa [o0, k0] using h0, by simpa [o1, k1] using h1⟩
theorem open_agg7 {r : Reach} {b0 : Nat} {t : TypeId} {f0 f1 f2 f3 f4 f5 : Field} {v : Value} {d : DataW H} {p : List MemPlace} (hs : P.underlying t = some (.struct #[f0, f1, f2, f3, f4, f5]))
 (ho : f0.offset = 0 ∧ f1.offset = 1 ∧ f2.offset = 3 ∧ f3.offset = 4 ∧ f4.offset = 5 ∧ f5.offset = 6)
 (hk : P.cellsOf f0.type = 1 ∧ P.cellsOf f1.type = 2 ∧ P.cellsOf f2.type = 1 ∧ P.cellsOf f3.type = 1 ∧ P.cellsOf f4.type = 1 ∧ P.cellsOf f5.type = 1) (hC : P.cellsOf t = 7)
 (hv : Value.okWide P w r b0 t v) (h : DataW.Trod enc P w base spare held t v d p) :
 ∃ (v0 v1 v2 v3 v4 v5 v6 : Value) (y0 y1 y2 y3 y4 y5 : DataW H × List MemPlace) (n : Nat), v = .agg #[v0, v1, v2, v3, v4, v5, v6] ∧
   DataW.trod enc P w base spare held n f0.type [v0] = some y0 ∧ DataW.trod enc P w base spare held n f1.type [v1, v2] = some y1 ∧ DataW.trod enc P w base spare held n f2.type [v3] = some y2 ∧
   DataW.trod enc P w base spare held n f3.type [v4] = some y3 ∧ DataW.trod enc P w base spare held n f4.type [v5] = some y4 ∧ DataW.trod enc P w base spare held n f5.type [v6] = some y5 := by
 obtain ⟨cs, rfl, hsz⟩ := okWide_struct hs hv
 obtain ⟨c0, c1, c2, c3, c4, c5, c6, rfl⟩ := array7 (hsz.trans hC)
 obtain ⟨fuel, hf⟩ := h
 obtain ⟨xs, n, _, _, _, hlen, hff⟩ := DataW.trod_struct hs hf
 obtain ⟨o0, o1, o2, o3, o4, o5⟩ := ho
 obtain ⟨k0, k1, k2, k3, k4, k5⟩ := hk
 match xs, hlen with
 | [y0, y1, y2, y3, y4, y5], _ =>
   exact ⟨c0, c1, c2, c3, c4, c5, c6, y0, y1, y2, y3, y4, y5, n, rfl, by simpa [Value.cells, o0, k0] using hff 0 f0 rfl, by simpa [Value.cells, o1, k1] using hff 1 f1 rfl, by simpa [Value.cells, o2, k2] using hff 2 f2 rfl,
    by simpa [Value.cells, o3, k3] using hff 3 f3 rfl, by simpa [Value.cells, o4, k4] using hff 4 f4 rfl, by simpa [Value.cells, o5, k5] using hff 5 f5 rfl⟩
end
section
variable {H : Type} {enc : TypeId × Value → H} {w : World} {base : Nat} {spare : Nat → Bool} {held : Bool}
set_option maxRecDepth 100000 in
theorem open_graph_cells {fuel : Nat} {v0 v1 : Value} {y : DataW H × List MemPlace} (h : DataW.trod enc Tryz.prog w base spare held fuel 24 [v0, v1] = some y) :
 ∃ sz A n c x, v0 = .int .i64 sz ∧ v1 = .slice A n c ∧ Rd w w.heap.size A n c x ∧ n ≤ maxLen := by
 obtain ⟨y0, y1, n, h0, h1⟩ := trod2_cells Tryz.underlying24 (by kernel_rfl) h
 obtain ⟨sz, e0, _, _⟩ := DataW.trod_int Tryz.underlying3 h0
 simp only [List.cons.injEq, and_true] at e0
 obtain ⟨A, n, c, x, e1, hr, hn⟩ := open_intS h1
 exact ⟨sz, A, n, c, x, e0, e1, hr, hn⟩
theorem open_ss_cells {fuel : Nat} {vv : Value} {y : DataW H × List MemPlace} (hf : DataW.trod enc Tryz.prog w base spare held fuel 48 [vv] = some y) :
 ∃ A c D, vv = .slice A D.length c ∧ RdD w w.heap.size A c D ∧ D.length ≤ maxLen ∧ ∀ e ∈ D, e.2.2.length ≤ maxLen := by
 rcases open_slice1 Tryz.underlying48 (by kernel_rfl) hf with ⟨h0, _⟩ | ⟨ad, l, cp, m, n, V, D0, Pl, hcs, _, hl, hm, hmm, _, hi⟩
 ·simp at h0
  subst h0
  exact ⟨none, 0, [], rfl, ⟨⟨Nat.le_refl _, fun h => absurd h (by simp)⟩, fun e he => by cases he⟩, Nat.zero_le _, fun e he => by cases he⟩
 ·simp at hcs
  subst hcs
  have hall : ∀ i, i < l → ∃ (q : Dsc), w.cell? (ad.add i) = some (dv q) ∧ Rd w w.heap.size q.1 q.2.2.length q.2.1 (fun i => q.2.2.getD i 0) ∧ q.2.2.length ≤ maxLen := by
   intro i hin
   obtain ⟨c1, t1⟩ := hi i (by rw [hmm]; split <;> omega)
   obtain ⟨A, k, c, x, e1, hr, hk⟩ := open_intS t1
   refine ⟨(A, c, (List.range k).map x), ?_, ?_, by simpa using hk⟩
   ·rw [c1, e1]; simp [dv]
   ·simp only [List.length_map, List.length_range]
    exact hr.congr (fun j hj => by simp [List.getD, hj])
  obtain ⟨f, hff⟩ := choose_lt (n := l) (p := fun i (q : Dsc) => w.cell? (ad.add i) = some (dv q) ∧ Rd w w.heap.size q.1 q.2.2.length q.2.1 (fun i => q.2.2.getD i 0) ∧ q.2.2.length ≤ maxLen) hall
  have hlen : ((List.range l).map f).length = l := by simp
  refine ⟨some ad, cp, (List.range l).map f, by rw [hlen], ⟨⟨by rw [hlen]; exact hl, fun hn => ?_⟩, fun e he => ?_⟩, by rw [hlen]; omega, fun e he => ?_⟩
  ·rw [hlen] at hn
   obtain ⟨b, o, s⟩ := ad
   have h0 := (hff 0 hn).1
   have hs : s = none := by simpa [Addr.add] using World.cell?_spot h0
   subst hs
   have hadd : ∀ k, (⟨b, o, none⟩ : Addr).add k = ⟨b, o + k, none⟩ := fun k => by unfold Addr.add; split <;> simp_all
   simp only [hadd] at hff h0
   refine ⟨b, o, rfl, World.block_lt_of_cell? w _ h0, fun k hk => ?_⟩
   rw [hlen] at hk
   rw [(hff k hk).1]
   unfold dvs
   simp [List.getD, hk]
  ·obtain ⟨i, hi, rfl⟩ := List.mem_map.1 he
   exact (hff i (List.mem_range.1 hi)).2.1
  ·obtain ⟨i, hi, rfl⟩ := List.mem_map.1 he
   exact (hff i (List.mem_range.1 hi)).2.2
set_option maxRecDepth 100000 in
theorem open_claim {r : Reach} {b0 : Nat} {v : Value} {d : DataW H} {p : List MemPlace} (hv : Value.okWide Tryz.prog w r b0 50 v)
 (h : DataW.Trod enc Tryz.prog w base spare held 50 v d p) :
 ∃ k : Clm, v = .agg #[.int .i64 k.K, .int .i64 k.s, .slice k.A0 k.n0 k.c0, .string k.t, .slice k.A1 k.n1 k.c1, .slice k.A2 k.n2 k.c2, .slice k.A3 k.D.length k.c3] ∧ RdK w w.heap.size k ∧ LenK k := by
 obtain ⟨v0, v1, v2, v3, v4, v5, v6, y0, y1, y2, y3, y4, y5, m, rfl, h0, h1, h2, h3, h4, h5⟩ := open_agg7 Tryz.underlying50 ⟨rfl, rfl, rfl, rfl, rfl, rfl⟩ ⟨by kernel_rfl, by kernel_rfl, by kernel_rfl, by kernel_rfl, by kernel_rfl, by kernel_rfl⟩ (by kernel_rfl) hv h
 obtain ⟨K, e0, _, _⟩ := DataW.trod_int Tryz.underlying3 h0
 simp only [List.cons.injEq, and_true] at e0
 obtain ⟨sz, A0, n0, c0, x0, e1, e2, r0, l0⟩ := open_graph_cells h1
 obtain ⟨s, e3, _, ls⟩ := DataW.trod_string Tryz.underlying9 h2
 simp only [List.cons.injEq, and_true] at e3
 obtain ⟨A1, n1, c1, x1, e4, r1, l1⟩ := open_intS h3
 obtain ⟨A2, n2, c2, x2, e5, r2, l2⟩ := open_intS h4
 obtain ⟨A3, c3, D, e6, r3, l3, l4⟩ := open_ss_cells h5
 subst e0 e1 e2 e3 e4 e5 e6
 exact ⟨⟨K, sz, A0, n0, c0, x0, s, A1, n1, c1, x1, A2, n2, c2, x2, A3, c3, D⟩, rfl, ⟨r0, r1, r2, r3⟩, ⟨l0, ls, l1, l2, l3, l4⟩⟩
end
end Go.Proofs.YtdpkbfiggbcclaaGreat
