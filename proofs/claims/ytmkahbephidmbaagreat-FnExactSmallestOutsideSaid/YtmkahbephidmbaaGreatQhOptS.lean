/-
  Several texts in one: words for memory, plain laws and contracts that the later texts lean on.
-/
import Derived.Test.YtmkahbephidmbaaGreatQhGA
import Derived.Test.YtmkahbephidmbaaGreatQhGB
import Derived.Test.YtmkahbephidmbaaGreatRows
import Derived.Deep.RegionHeld3
import Derived.Deep.QuietTactic
import Derived.BigQuiet
import Derived.ProofKit
import Derived.OpenShut
import Derived.ShutString
import Derived.Lib.SmallJoins
import Derived.Carry
import Derived.Deep.Slices
import Derived.Deep.Fields
import Derived.ChangeSame
/-
  Plain: a graph with those of some new edges whose bits are set.
-/
namespace Go.Proofs.YtmkahbephidmbaaGreat
open Go.RowKit

def PrE (E : List (Nat × Nat)) : List (List Int) := E.map fun p => [(p.1 : Int), (p.2 : Int)]
/-- The rows with those of the first i edges whose bits are set. -/
def wbR (r : Nat → Nat) (E : List (Nat × Nat)) (b : Nat) : Nat → Nat → Nat
  | 0 => r
  | i + 1 => if b.testBit i = true then addN (wbR r E b i) (E.getD i (0, 0)).1 (E.getD i (0, 0)).2 else wbR r E b i
theorem wbR_yes {r : Nat → Nat} {E : List (Nat × Nat)} {b i : Nat} (h : b.testBit i = true) : wbR r E b (i + 1) = addN (wbR r E b i) (E.getD i (0, 0)).1 (E.getD i (0, 0)).2 := by rw [wbR, if_pos h]
theorem wbR_no {r : Nat → Nat} {E : List (Nat × Nat)} {b i : Nat} (h : b.testBit i = false) : wbR r E b (i + 1) = wbR r E b i := by rw [wbR, if_neg (by rw [h]; simp)]
/-- New edges, each once, the lesser vertex ahead. -/
structure EdN (r : Nat → Nat) (m : Nat) (E : List (Nat × Nat)) : Prop where
  inc : ∀ p ∈ E, p.1 < p.2 ∧ p.2 < m
  new : ∀ p ∈ E, (r p.1).testBit p.2 = false
  nd : E.Nodup
theorem getP_mem {E : List (Nat × Nat)} {i : Nat} (h : i < E.length) : E.getD i (0, 0) ∈ E := by simp [List.getD, h]
theorem getP_ne {E : List (Nat × Nat)} (h : E.Nodup) {i k : Nat} (hik : i < k) (hk : k < E.length) : E.getD i (0, 0) ≠ E.getD k (0, 0) := by
  have hi : i < E.length := by omega
  have e1 : E.getD i (0, 0) = E[i] := by simp [List.getD, hi]
  have e2 : E.getD k (0, 0) = E[k] := by simp [List.getD, hk]
  rw [e1, e2]
  exact (List.pairwise_iff_getElem.1 h) i k hi hk hik
theorem addN_other {q : Nat → Nat} {v u v' u' : Nat} (huv : v < u) (h' : v' < u') (hne : ¬ (v = v' ∧ u = u')) : (addN q v u v').testBit u' = (q v').testBit u' := by
  unfold addN
  by_cases h1 : v' = v
  · rw [if_pos h1, Nat.testBit_xor, Nat.testBit_two_pow, h1]
    have : u ≠ u' := fun e => hne ⟨h1.symm, e⟩
    simp [this]
  · rw [if_neg h1]
    by_cases h2 : v' = u
    · rw [if_pos h2, Nat.testBit_xor, Nat.testBit_two_pow, h2]
      have : v ≠ u' := by omega
      simp [this]
    · rw [if_neg h2]
section
variable {r : Nat → Nat} {m b : Nat} {E : List (Nat × Nat)}
theorem wbR_vg (vg : VG m r) (h : EdN r m E) : ∀ i, i ≤ E.length → VG m (wbR r E b i) := by
  intro i
  induction i with
  | zero => exact fun _ => vg
  | succ i ih =>
    intro hi
    have hv := ih (by omega)
    cases hb : b.testBit i
    · rw [wbR_no hb]; exact hv
    · rw [wbR_yes hb]
      have := h.inc _ (getP_mem (show i < E.length by omega))
      exact hv.add (by omega) this.2 (by omega)
theorem wbR_bit (h : EdN r m E) {k : Nat} (hk : k < E.length) : ∀ i, i ≤ k → (wbR r E b i (E.getD k (0, 0)).1).testBit (E.getD k (0, 0)).2 = false := by
  intro i
  induction i with
  | zero => exact fun _ => h.new _ (getP_mem hk)
  | succ i ih =>
    intro hi
    have hv := ih (by omega)
    cases hb : b.testBit i
    · rw [wbR_no hb]; exact hv
    · rw [wbR_yes hb, addN_other (h.inc _ (getP_mem (show i < E.length by omega))).1 (h.inc _ (getP_mem hk)).1]
      · exact hv
      · rintro ⟨h1, h2⟩
        exact getP_ne h.nd (show i < k by omega) hk (Prod.ext h1 h2)
end
end Go.Proofs.YtmkahbephidmbaaGreat

/-
  Several texts in one: words for memory, plain laws and contracts that the later texts lean on.
-/
/-
  Contracts of the law's helpers on slices of edits.
-/
namespace Go.Proofs.YtmkahbephidmbaaGreat
open Go.RowKit

end Go.Proofs.YtmkahbephidmbaaGreat

/-
  Contracts of the law's helpers on slices of at most nine strings.
-/
namespace Go.Proofs.YtmkahbephidmbaaGreat
open Go.RowKit

/-- Strings as cells. -/
def strs (x : Nat → ByteArray) : Nat → Value := fun j => .string (x j)

end Go.Proofs.YtmkahbephidmbaaGreat

/-
  How the laws' arguments read: slices of integers, graphs, integers, strings.
-/
namespace Go.Proofs.YtmkahbephidmbaaGreat
open Go.ChangeShapes Go.WideShapes Go.ChangeAt Go.RowKit

theorem own : ownKnob Tryz.prog.godebug = none := by kernel_rfl
theorem laidOut : laidOutB Tryz.prog = true := by kernel_rfl

section
variable {H : Type} {enc : TypeId × Value → H} {w : World} {base : Nat} {spare : Nat → Bool} {held : Bool}

theorem rd_of_cells {a : Addr} {n c : Nat} {x : Nat → Int} (hl : n ≤ c) (hc : ∀ i, i < n → w.cell? (a.add i) = some (.int .i64 (x i))) : Rd w w.heap.size (some a) n c x := by
  refine ⟨hl, fun hn => ?_⟩
  obtain ⟨b, o, s⟩ := a
  have h0 := hc 0 hn
  have hs : s = none := by simpa [Addr.add] using World.cell?_spot h0
  subst hs
  have hadd : ∀ k, (⟨b, o, none⟩ : Addr).add k = ⟨b, o + k, none⟩ := fun k => by unfold Addr.add; split <;> simp_all
  refine ⟨b, o, rfl, ?_, fun k hk => by rw [← hadd]; exact hc k hk⟩
  have := World.block_lt_of_cell? w _ h0
  rw [hadd] at this
  exact this

theorem open_intS {fuel : Nat} {v : Value} {y : DataW H × List MemPlace} (h : DataW.trod enc Tryz.prog w base spare held fuel 22 [v] = some y) :
    ∃ A n c x, v = .slice A n c ∧ Rd w w.heap.size A n c x ∧ n ≤ maxLen := by
  rcases open_ints Tryz.underlying22 Tryz.underlying3 (by kernel_rfl) h with ⟨hcs, _⟩ | ⟨a, l, c, zs, hcs, _, hl, hm, hz, _, hcell, _⟩
  · simp only [List.cons.injEq, and_true] at hcs
    exact ⟨none, 0, 0, fun _ => 0, hcs, Rd.nil _ _ _ _ _, Nat.zero_le _⟩
  · simp only [List.cons.injEq, and_true] at hcs
    refine ⟨some a, l, c, fun i => zs.getD i 0, hcs, rd_of_cells hl (fun i hi => hcell i ?_), Nat.le_trans hl hm⟩
    rw [hz]; split <;> omega

set_option maxRecDepth 100000 in
theorem open_graph {r : Reach} {b0 : Nat} {v : Value} {d : DataW H} {p : List MemPlace} (hv : Value.okWide Tryz.prog w r b0 24 v)
    (h : DataW.Trod enc Tryz.prog w base spare held 24 v d p) :
    ∃ sz A n c x, v = .agg #[.int .i64 sz, .slice A n c] ∧ Rd w w.heap.size A n c x ∧ n ≤ maxLen := by
  obtain ⟨v0, v1, y0, y1, m, rfl, _, _, h0, h1⟩ := Go.Joins.open_agg2 Tryz.underlying24 (by kernel_rfl) (by kernel_rfl) hv h
  obtain ⟨sz, e0, _, _⟩ := DataW.trod_int Tryz.underlying3 h0
  simp only [List.cons.injEq, and_true] at e0
  subst e0
  obtain ⟨A, n, c, x, rfl, hr, hn⟩ := open_intS h1
  exact ⟨sz, A, n, c, x, rfl, hr, hn⟩

theorem places_lt {t : TypeId} {v : Value} {d : DataW H} {p : List MemPlace} (h : DataW.Trod enc Tryz.prog w base spare held t v d p) : ∀ x ∈ p, x.block < w.heap.size := by
  obtain ⟨m, hm⟩ := h
  exact DataW.trod_lt m _ _ _ hm
end
end Go.Proofs.YtmkahbephidmbaaGreat

/-
  How further arguments read (slices of edits); small laws that the generated walks use.
-/
namespace Go.Proofs.YtmkahbephidmbaaGreat
open Go.ChangeShapes Go.WideShapes Go.ChangeAt Go.RowKit Go.Deep

theorem bd {w w' : World} (h : Below w.drew.heap.size w.drew w') : Below w.heap.size w w' := ⟨h.os, h.tape, h.output, h.size, h.block⟩
theorem upFr {lo hi b o : Nat} {W w1 : World} {v : Value} (hf : Fr lo hi W w1) (e : W.cell? ⟨b, o, none⟩ = some v) (h : b < W.heap.size) (h2 : b < lo ∨ hi ≤ b) : w1.cell? ⟨b, o, none⟩ = some v := (hf.cell (p := ⟨b, o, none⟩) h h2).trans e
theorem Own.marked {w : World} {lo hi n c : Nat} {e : TypeId} {A : Option Addr} {k : Int} {x : Nat → Value} (h : Own w lo hi e 1 A n c (mks k x n)) : Own w lo hi e 1 A n c (fun j => .int .i64 (k + j)) :=
  h.congr (fun j hj => by unfold mks; rw [if_pos (by omega)])
section
variable {H : Type} {enc : TypeId × Value → H} {w : World} {base : Nat} {spare : Nat → Bool} {held : Bool}
end
end Go.Proofs.YtmkahbephidmbaaGreat

/-
  Contract of the law's helper that asks whether a graph holds its marks.
-/
namespace Go.Proofs.YtmkahbephidmbaaGreat
open Go.RowKit

set_option maxHeartbeats 400000 in
theorem heldGraph_yes (sz : Int) (A : Option Addr) (n c : Nat) (k : Int) (w : World) (B : Nat) (h : Rd w B A n c (fun j => k + j)) (hn : n ≤ 1048576) (hk0 : 0 ≤ k) (hk1 : k ≤ 1099511627776) (hB : B ≤ w.heap.size) :
    Calls Tryz.prog 38 #[.agg #[.int .i64 sz, .slice A n c], .int .i64 k] w fun e w' => e = .returned (.int .i64 (k + n)) ∧ Below w.heap.size w w' := by
  have hk2 : 0 ≤ k + n := by omega
  have HB : Hid (Below w.heap.size w (w.alloc (Obj.cells #[Value.int IntKind.i64 sz, Value.slice A n c] 30))) := (Below.refl _ _).alloc (Nat.le_refl _) _
  have HK := Lib.hid (h.keep (HB.out.mono hB) (Nat.le_refl _))
  clear h
  go_enter Tryz.func38, Tryz.ntmps38
  go_wp2_with fail
  refine (heldIntS_yes A n c k _ B HK.out (by omega) hk0 (by omega)).mono ?_
  rintro e w' ⟨rfl, rfl⟩
  clear HK
  go_wp2
  go_ret
  exact ⟨rfl, HB.out⟩
end Go.Proofs.YtmkahbephidmbaaGreat

/-
  How arguments read: slices of slices of integers; integers; strings.
-/
namespace Go.Proofs.YtmkahbephidmbaaGreat
open Go.ChangeShapes Go.WideShapes Go.ChangeAt Go.RowKit Go.Deep

section
variable {H : Type} {enc : TypeId × Value → H} {w : World} {base : Nat} {spare : Nat → Bool} {held : Bool}
set_option maxRecDepth 100000 in
theorem open_int_arg {r : Reach} {b0 : Nat} {vv : Value} {d : DataW H} {p : List MemPlace} (hv : Value.okWide Tryz.prog w r b0 3 vv)
    (h : DataW.Trod enc Tryz.prog w base spare held 3 vv d p) : ∃ i, vv = .int .i64 i := by
  obtain ⟨i, e, _⟩ := open_int Tryz.underlying3 hv h
  exact ⟨i, e⟩
end
end Go.Proofs.YtmkahbephidmbaaGreat

/-
  Contract: the optional edges between two graphs, of the reference.
-/
namespace Go.Proofs.YtmkahbephidmbaaGreat
open Go.RowKit

set_option maxHeartbeats 1000000 in
theorem OptionalEdges_s (s1 : Int) (A1 : Option Addr) (m1 c1 : Nat) (x1 : Nat → Int) (s2 : Int) (A2 : Option Addr) (m2 c2 : Nat) (x2 : Nat → Int) (w : World) (B : Nat) (h1 : Rd w B A1 m1 c1 x1) (h2 : Rd w B A2 m2 c2 x2) (hB : B ≤ w.heap.size) (hm1 : m1 ≤ 1048576) (hm2 : m2 ≤ 1048576) :
    Calls Tryz.prog 114 #[.agg #[.int .i64 s1, .slice A1 m1 c1], .agg #[.int .i64 s2, .slice A2 m2 c2]] w fun e w' => ∃ A' c' D, e = .returned (.tuple #[.slice A' D.length c', .bool (wiB s1 m1 x1 s2 m2 x2)]) ∧ lists D = optL s1 m1 x1 s2 m2 x2 ∧ OwnD w' w.heap.size w'.heap.size A' c' D ∧ Below w.heap.size w w' := by
  obtain ⟨W, hW⟩ : ∃ W : World, W = ((w.alloc (Obj.cells #[Value.int IntKind.i64 s1, Value.slice A1 m1 c1] 30)).alloc (Obj.cells #[Value.int IntKind.i64 s2, Value.slice A2 m2 c2] 30)).alloc (Obj.cells #[] 22) := ⟨_, rfl⟩
  have HB : Hid (Below w.heap.size w W) := by rw [hW]; exact (((Below.refl _ _).alloc (Nat.le_refl _) _).alloc (by simp) _).alloc (by simp <;> omega) _
  have hsz : w.heap.size + 3 = W.heap.size := by rw [hW]; simp
  have hs0 : w.heap.size < W.heap.size := by omega
  have hs1 : w.heap.size + 1 < W.heap.size := by omega
  have e0 : W.cell? ⟨w.heap.size, 0, none⟩ = some (.int .i64 s1) := by rw [hW]; simp [go_sem]
  have e1 : W.cell? ⟨w.heap.size, 1, none⟩ = some (.slice A1 m1 c1) := by rw [hW]; simp [go_sem]
  have e2 : W.cell? ⟨w.heap.size + 1, 0, none⟩ = some (.int .i64 s2) := by rw [hW]; simp [go_sem]
  have e3 : W.cell? ⟨w.heap.size + 1, 1, none⟩ = some (.slice A2 m2 c2) := by rw [hW]; simp [go_sem]
  have hg0 : W.heap[w.heap.size + 2]? = some (.cells #[] 22 (0, 0)) := by
    rw [hW]
    have := heap_alloc_new ((w.alloc (Obj.cells #[Value.int IntKind.i64 s1, Value.slice A1 m1 c1] 30)).alloc (Obj.cells #[Value.int IntKind.i64 s2, Value.slice A2 m2 c2] 30)) (Obj.cells #[] 22)
    simpa using this
  have k1 := h1.keep (HB.out.mono hB) (Nat.le_refl _)
  have k2 := h2.keep (HB.out.mono hB) (Nat.le_refl _)
  have HW := Lib.hid hW
  clear hW h1 h2
  go_enter Tryz.func114, Tryz.ntmps114
  go_wp2_with fail
  rw [← HW.out]
  refine (l31Within_any s1 s2 A1 A2 m1 m2 c1 c2 x1 x2 W B k1 k2 (by omega) hm1 hm2).mono ?_
  rintro e w1 ⟨rfl, hb1⟩
  have f0 := up hb1 e0 hs0
  have f1 := up hb1 e1 hs0
  have f2 := up hb1 e2 hs1
  have f3 := up hb1 e3 hs1
  have z1 := hb1.size
  have hg1 := (hb1.block _ (by omega)).trans hg0
  clear hg0
  have HB1 := Lib.hid (HB.out.trans (hb1.mono (by omega)))
  have k1' := k1.keep (hb1.mono (by omega)) (Nat.le_refl _)
  have k2' := k2.keep (hb1.mono (by omega)) (Nat.le_refl _)
  clear HW HB e0 e1 e2 e3 hb1 k1 k2
  cases hw : wiB s1 m1 x1 s2 m2 x2
  · have HL : Hid (([] : List (List Int)) = optL s1 m1 x1 s2 m2 x2) := by show [] = optL _ _ _ _ _ _; unfold optL; rw [hw]; rfl
    have Hw := Lib.hid hw
    clear hw
    go_wp2
    go_ret2
    exact ⟨_, 0, [], by rw [Hw.out]; rfl, HL.out, OwnD.none_ _ _ _ _ (by omega) (by omega) hg1, HB1.out⟩
  · have HL : Hid ((edgesL s2 m2 x2).filter (pOpt x1) = optL s1 m1 x1 s2 m2 x2) := by show _ = optL _ _ _ _ _ _; unfold optL; rw [hw]; rfl
    have hWi : Wi s1 m1 x1 s2 m2 x2 := by
      refine Classical.byContradiction fun h => ?_
      rw [wiB_no h] at hw; cases hw
    obtain ⟨⟨r1, es1, vg1, hx1⟩, ⟨r2, es2, vg2, hx2⟩, es, _⟩ := hWi
    obtain rfl : m1 = m2 := by omega
    have hzz0 : w.heap.size < w1.heap.size := by omega
    have hzz1 : w.heap.size + 1 < w1.heap.size := by omega
    have Hw := Lib.hid hw
    have hn1 := vg1.n1
    have hn7 := vg1.n7
    obtain ⟨b, o, rfl, lb, hc⟩ := k1'.pos (by omega)
    have HX := Lib.hid hx1
    have HV := Lib.hid vg1
    have HC := Lib.hid hc
    clear hw es1 es2 es vg1 hx1 hx2 hc vg2
    go_wp2_with fail
    refine (EdgesOf_s s2 A2 m1 c2 x2 w1 B k2' (by omega) hm1).mono ?_
    rintro e w2 ⟨A', c', D, rfl, hD, hO, hb2⟩
    have hz2 := hb2.size
    have HO := Lib.hid hO
    have HD := Lib.hid hD
    have g1 := up hb2 (w1 := w2) (b := w.heap.size) (o := 1) (v := .slice (some ⟨b, o, none⟩) m1 c1) f1 (by omega)
    have g2 := up hb2 (w1 := w2) (b := w.heap.size) (o := 0) (v := .int .i64 s1) f0 (by omega)
    have hg0 : Own w2 (w.heap.size + 2) (w.heap.size + 2 + 1) 22 1 (some ⟨w.heap.size + 2, 0, none⟩) 0 0 (dvs []) := by
      refine .inr ⟨w.heap.size + 2, #[], rfl, Nat.le_refl _, Nat.lt_succ_self _, (hb2.block _ (by omega)).trans hg1, Nat.le_refl _, by unfold maxLen; omega, rfl, fun j hj => absurd hj (by simp)⟩
    have HG := Lib.hid hg0
    have HB2 : Hid (Below w1.heap.size w1 w2) := hb2
    have hl21 := edges_len hD
    have HB3 : Hid (Below w.heap.size w w2) := HB1.out.trans (HB2.out.mono (by omega))
    have HC2 : Hid (∀ v, v < m1 → w2.cell? ⟨b, o + v, none⟩ = some (.int .i64 (x1 v))) := fun v hv => (HB2.out.cell (p := ⟨b, o + v, none⟩) (by show b < _; omega)).trans (HC.out v hv)
    clear hO hD hb2 f0 f1 f2 f3 k1' k2' hg0 hg1 HB1 HB2 HC
    go_wp2
    go_loopw [6, 8] (fun l i wr => ∃ (k g cg : Nat), k ≤ D.length ∧ i = .int .i64 k ∧ l = .slice (some ⟨g, 0, none⟩) ((D.take k).filter (qOpt x1)).length cg ∧ (g = w.heap.size + 2 ∨ w2.heap.size ≤ g) ∧ g < wr.heap.size ∧ Hid (Own wr g (g + 1) 22 1 (some ⟨g, 0, none⟩) ((D.take k).filter (qOpt x1)).length cg (dvs ((D.take k).filter (qOpt x1)))) ∧ Hid (OwnD wr w1.heap.size w2.heap.size A' c' D) ∧ Hid (Below (w.heap.size + 2) w2 wr)) (fun _ i _ => D.length - (intOf i).toNat)
    case atStart => exact ⟨0, w.heap.size + 2, 0, Nat.zero_le _, rfl, rfl, .inl rfl, by omega, HG, HO, Below.refl _ _⟩
    case round =>
      obtain ⟨k, g, cg, hk, rfl, rfl, hg1, hg3, hG, hE, hbr⟩ := hrel
      have q1 := up hbr.out g1 (by omega)
      have q0 := up hbr.out g2 (by omega)
      have hzr := hbr.out.size
      by_cases hlt : k < D.length
      · obtain ⟨Ad, cd, v, u, hd, hvu, hum, _⟩ := edge_at HD.out hlt
        obtain ⟨gD, gd, rfl, rfl, d0, d1, d2⟩ := hE.out.pair hd
        have d3 := (hbr.out.cell (p := ⟨b, o + v, none⟩) (by show b < _; omega)).trans (HC2.out v (by omega))
        have y0 : 0 ≤ x1 v := by have := HX.out v (by omega); omega
        have y1 : x1 v < 16777216 := by have := HX.out v (by omega); have := HV.out.lt128 (v := v) (by omega); omega
        have i1 : (k : Int) < (D.length : Int) := by omega
        have i2 : (v : Int) < (m1 : Int) := by omega
        have hlen : ((D.take k).filter (qOpt x1)).length ≤ 21 := by
          have := List.length_filter_le (qOpt x1) (D.take k)
          rw [List.length_take] at this
          omega
        have Hd := Lib.hid hd
        clear hd
        cases hbit : (x1 v).toNat.testBit u
        · have hq : qOpt x1 (some ⟨gd, 0, none⟩, cd, [(v : Int), (u : Int)]) = true := by show (!(x1 ((v : Int)).toNat).toNat.testBit ((u : Int)).toNat) = true; simp [hbit]
          have Hs := Lib.hid (opt_step_yes Hd.out hq)
          have Hbit := Lib.hid hbit
          clear hbit hq
          go_wp2
          have HK : Hid (∀ a z : World, (a.cell? ⟨w.heap.size, 0, none⟩ = some (.int .i64 s1) ∧ a.cell? ⟨w.heap.size, 1, none⟩ = some (.slice (some ⟨b, o, none⟩) m1 c1) ∧ a.cell? ⟨gD, k, none⟩ = some (.slice (some ⟨gd, 0, none⟩) 2 cd) ∧ a.cell? ⟨gd, 0, none⟩ = some (.int .i64 v) ∧ a.cell? ⟨gd, 1, none⟩ = some (.int .i64 u)) → Below a.heap.size a z → (z.cell? ⟨w.heap.size, 0, none⟩ = some (.int .i64 s1) ∧ z.cell? ⟨w.heap.size, 1, none⟩ = some (.slice (some ⟨b, o, none⟩) m1 c1) ∧ z.cell? ⟨gD, k, none⟩ = some (.slice (some ⟨gd, 0, none⟩) 2 cd) ∧ z.cell? ⟨gd, 0, none⟩ = some (.int .i64 v) ∧ z.cell? ⟨gd, 1, none⟩ = some (.int .i64 u))) := by
            rintro a z ⟨r0, r1, r2, r3, r4⟩ hb
            exact ⟨up hb r0 (World.block_lt_of_cell? _ _ r0), up hb r1 (World.block_lt_of_cell? _ _ r1), up hb r2 (World.block_lt_of_cell? _ _ r2), up hb r3 (World.block_lt_of_cell? _ _ r3), up hb r4 (World.block_lt_of_cell? _ _ r4)⟩
          have d3' : wr.drew.cell? ⟨b, o + v, none⟩ = some (.int .i64 (x1 v)) := d3
          have t1 : b < wr.drew.heap.size := by show b < wr.heap.size; omega
          have t2 : v < m1 := by omega
          have t3 : u ≤ 63 := by omega
          go_region_held3 (fun z => z.cell? ⟨w.heap.size, 0, none⟩ = some (.int .i64 s1) ∧ z.cell? ⟨w.heap.size, 1, none⟩ = some (.slice (some ⟨b, o, none⟩) m1 c1) ∧ z.cell? ⟨gD, k, none⟩ = some (.slice (some ⟨gd, 0, none⟩) 2 cd) ∧ z.cell? ⟨gd, 0, none⟩ = some (.int .i64 v) ∧ z.cell? ⟨gd, 1, none⟩ = some (.int .i64 u))
            (first | (refine ⟨?_, ?_, ?_, ?_, ?_⟩ <;> assumption) | exact HK.out _ _ (by assumption) hb3)
            ((go_at_call 153; ((with_reducible refine (l2Edge_any s1 b o m1 c1 wr.drew v u (x1 v) d3' t1 t2 y0 y1 t3).mono ?_); rintro e w3 ⟨rfl, hb3⟩)))
          replace hb3 := bd hb3
          rw [Hbit.out]
          have z3 := hb3.size
          have hO3 := hE.out.keepB hb3 hzr
          have hG3 := hG.out.keepB hb3 (by omega)
          have Hb3 : Hid (Below (w.heap.size + 2) w2 w3) := hbr.out.trans (hb3.mono (by omega))
          have p0 := up hb3 d0 (World.block_lt_of_cell? _ _ d0)
          clear hE hG hb3 hbr HK d0 d1 d2 d3 d3'
          go_wp2_with (first | (at_builtin; (refine wpList_pushC w3 rfl _ _ rfl _ g cg hG3 (by omega) (some ⟨gd, 0, none⟩, cd, [(v : Int), (u : Int)]) rfl 1 w3.heap.size rfl rfl (by omega) ?_; intro g' cap w4 hO2 hg' hl3 hf)))
          have H1 : Hid (Own w4 g' (g' + 1) 22 1 (some ⟨g', 0, none⟩) ((D.take (k + 1)).filter (qOpt x1)).length cap (dvs ((D.take (k + 1)).filter (qOpt x1)))) := by
            show Own _ _ _ _ _ _ _ _ _
            rw [Hs.out, List.length_append]; exact hO2
          have H2 := Lib.hid (hO3.keep hf (by omega))
          have H3 : Hid (Below (w.heap.size + 2) w2 w4) := Hb3.out.trans (hf.below (by omega) (by omega))
          have hgg : g' = w.heap.size + 2 ∨ w2.heap.size ≤ g' := by omega
          clear hO2 hf hG3 hO3 hg'
          go_wp2
          go_roundw
          case rel => exact ⟨k + 1, g', cap, by omega, by go_num, by rw [Hs.out, List.length_append]; rfl, hgg, hl3, H1, H2, H3⟩
          case measure => simp [intOf]; omega
        · have hq : qOpt x1 (some ⟨gd, 0, none⟩, cd, [(v : Int), (u : Int)]) = false := by show (!(x1 ((v : Int)).toNat).toNat.testBit ((u : Int)).toNat) = false; simp [hbit]
          have Hs := Lib.hid (opt_step_no Hd.out hq)
          have Hbit := Lib.hid hbit
          clear hbit hq
          go_wp2
          have HK : Hid (∀ a z : World, (a.cell? ⟨w.heap.size, 0, none⟩ = some (.int .i64 s1) ∧ a.cell? ⟨w.heap.size, 1, none⟩ = some (.slice (some ⟨b, o, none⟩) m1 c1) ∧ a.cell? ⟨gD, k, none⟩ = some (.slice (some ⟨gd, 0, none⟩) 2 cd) ∧ a.cell? ⟨gd, 0, none⟩ = some (.int .i64 v) ∧ a.cell? ⟨gd, 1, none⟩ = some (.int .i64 u)) → Below a.heap.size a z → (z.cell? ⟨w.heap.size, 0, none⟩ = some (.int .i64 s1) ∧ z.cell? ⟨w.heap.size, 1, none⟩ = some (.slice (some ⟨b, o, none⟩) m1 c1) ∧ z.cell? ⟨gD, k, none⟩ = some (.slice (some ⟨gd, 0, none⟩) 2 cd) ∧ z.cell? ⟨gd, 0, none⟩ = some (.int .i64 v) ∧ z.cell? ⟨gd, 1, none⟩ = some (.int .i64 u))) := by
            rintro a z ⟨r0, r1, r2, r3, r4⟩ hb
            exact ⟨up hb r0 (World.block_lt_of_cell? _ _ r0), up hb r1 (World.block_lt_of_cell? _ _ r1), up hb r2 (World.block_lt_of_cell? _ _ r2), up hb r3 (World.block_lt_of_cell? _ _ r3), up hb r4 (World.block_lt_of_cell? _ _ r4)⟩
          have d3' : wr.drew.cell? ⟨b, o + v, none⟩ = some (.int .i64 (x1 v)) := d3
          have t1 : b < wr.drew.heap.size := by show b < wr.heap.size; omega
          have t2 : v < m1 := by omega
          have t3 : u ≤ 63 := by omega
          go_region_held3 (fun z => z.cell? ⟨w.heap.size, 0, none⟩ = some (.int .i64 s1) ∧ z.cell? ⟨w.heap.size, 1, none⟩ = some (.slice (some ⟨b, o, none⟩) m1 c1) ∧ z.cell? ⟨gD, k, none⟩ = some (.slice (some ⟨gd, 0, none⟩) 2 cd) ∧ z.cell? ⟨gd, 0, none⟩ = some (.int .i64 v) ∧ z.cell? ⟨gd, 1, none⟩ = some (.int .i64 u))
            (first | (refine ⟨?_, ?_, ?_, ?_, ?_⟩ <;> assumption) | exact HK.out _ _ (by assumption) hb3)
            ((go_at_call 153; ((with_reducible refine (l2Edge_any s1 b o m1 c1 wr.drew v u (x1 v) d3' t1 t2 y0 y1 t3).mono ?_); rintro e w3 ⟨rfl, hb3⟩)))
          replace hb3 := bd hb3
          rw [Hbit.out]
          have z3 := hb3.size
          have hO3 := Lib.hid (hE.out.keepB hb3 hzr)
          have hG3 := Lib.hid (hG.out.keepB hb3 (by omega))
          have Hb3 : Hid (Below (w.heap.size + 2) w2 w3) := hbr.out.trans (hb3.mono (by omega))
          clear hE hG hb3 hbr HK d3 d3'
          go_wp2
          go_roundw
          case rel => exact ⟨k + 1, g, cg, by omega, by go_num, by rw [Hs.out], hg1, by omega, by rw [Hs.out]; exact hG3, hO3, Hb3⟩
          case measure => simp [intOf]; omega
      · obtain rfl : k = D.length := by omega
        have HF : Hid (lists (D.filter (qOpt x1)) = optL s1 m1 x1 s2 m1 x2) := by show _ = _; rw [lists_filter, HD.out]; exact HL.out
        have hO3 : Hid (OwnD wr w.heap.size wr.heap.size (some ⟨g, 0, none⟩) cg (D.filter (qOpt x1))) := by
          have := hG.out
          rw [List.take_length] at this
          exact hE.out.filtered this (by omega) hzr (by omega) hg3
        have HB4 : Hid (Below w.heap.size w wr) := HB3.out.trans (hbr.out.mono (by omega))
        rw [List.take_length]
        clear hG hE hbr
        go_wp2
        go_ret2
        exact ⟨_, cg, D.filter (qOpt x1), by rw [Hw.out]; rfl, HF.out, hO3.out, HB4.out⟩

section
variable {s1 s2 : Int} {m1 m2 : Nat} {x1 x2 : Nat → Int}
end
end Go.Proofs.YtmkahbephidmbaaGreat
