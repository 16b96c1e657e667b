/-
  How further arguments read (slices of edits); small laws that the generated walks use.
-/
import Derived.Test.YtnnlmdenffnjbaaOpen
import Derived.Test.YtnnlmdenffnjbaaLawEdit
import Derived.Test.YtnnlmdenffnjbaaBits
import Derived.Deep.Fields
import Derived.ChangeSame
namespace Go.Proofs.Ytnnlmdenffnjbaa
open Go.ChangeShapes Go.WideShapes Go.ChangeAt Go.RowKit Go.Deep

theorem bd {w w' : World} (h : Below w.drew.heap.size w.drew w') : Below w.heap.size w w' := ⟨h.os, h.tape, h.output, h.size, h.block⟩
theorem upFr {lo hi b o : Nat} {W w1 : World} {v : Value} (hf : Fr lo hi W w1) (e : W.cell? ⟨b, o, none⟩ = some v) (h : b < W.heap.size) (h2 : b < lo ∨ hi ≤ b) : w1.cell? ⟨b, o, none⟩ = some v := (hf.cell (p := ⟨b, o, none⟩) h h2).trans e
theorem Own.marked {w : World} {lo hi n c : Nat} {e : TypeId} {A : Option Addr} {k : Int} {x : Nat → Value} (h : Own w lo hi e 1 A n c (mks k x n)) : Own w lo hi e 1 A n c (fun j => .int .i64 (k + j)) :=
  h.congr (fun j hj => by unfold mks; rw [if_pos (by omega)])
theorem Own.markedE {w : World} {lo hi n c : Nat} {e : TypeId} {A : Option Addr} {k : Int} {a : Nat → Bool} {v u : Nat → Int} (h : Own w lo hi e 3 A n c (mke k a v u n)) : Own w lo hi e 3 A n c (eds (fun j => (k + 3 * j) % 3 == 0) (fun j => k + 3 * j + 1) (fun j => k + 3 * j + 2)) :=
  h.congr (fun j hj => by
    have : j / 3 < n := by omega
    unfold mke eds
    simp only [this, if_true])

section
variable {H : Type} {enc : TypeId × Value → H} {w : World} {base : Nat} {spare : Nat → Bool} {held : Bool}
theorem open_slice_fields {P : Program} {t e : TypeId} {fs : Array Field} {fuel : Nat} {cs : List Value} {x : DataW H × List MemPlace} (ht : P.underlying t = some (.slice e)) (he : P.underlying e = some (.struct fs))
    (hone : oneCellFields P fs = true) (hC : P.cellsOf e = fs.size) (h : DataW.trod enc P w base spare held fuel t cs = some x) :
    cs = [.slice none 0 0] ∨
    ∃ (a : Addr) (len cap : Nat), cs = [.slice (some a) len cap] ∧ len ≤ cap ∧ cap ≤ maxLen ∧
      ∀ i, i < len → ∀ (j : Nat) (f : Field), fs[j]? = some f → ∃ (n : Nat) (v : Value) (y : DataW H × List MemPlace), w.cell? (a.add (i * fs.size + j)) = some v ∧ DataW.trod enc P w base spare held n f.type [v] = some y := by
  rcases open_slice ht h with ⟨h0, _⟩ | ⟨a, len, cap, m, n, D, Pl, hcs, hb, hl, hm, hmm, hx, hi⟩
  · exact .inl h0
  · refine .inr ⟨a, len, cap, hcs, hl, hm, fun i him j f hj => ?_⟩
    obtain ⟨cs', hc, ht'⟩ := hi i (by rw [hmm]; split <;> omega)
    rw [hC] at hc
    obtain ⟨ys, n', hn', hy, hlen, hyl, hf⟩ := DataW.trod_struct he ht'
    obtain ⟨_, hcl, hat⟩ := World.cells?_some hc
    obtain ⟨ho, hk⟩ := hone_of hone j f hj
    have hjl : j < fs.size := (Array.getElem?_eq_some_iff.1 hj).1
    have hcell := hat j hjl
    have hv : cs'[j]? = some (cs'[j]'(by omega)) := List.getElem?_eq_getElem (by omega)
    have h1 := hf j f hj
    rw [ho, hk] at h1
    have hone' : (cs'.drop j).take 1 = [cs'[j]'(by omega)] := by
      rw [List.drop_eq_getElem_cons (by omega)]
      rfl
    rw [hone'] at h1
    have hys : ys[j]? = some (ys[j]'(by omega)) := List.getElem?_eq_getElem (by omega)
    refine ⟨_, _, _, ?_, h1.trans hys⟩
    rw [← Go.Deep.add_add, hcell, hv]

set_option maxRecDepth 100000 in
theorem open_edits {r : Reach} {b0 : Nat} {vv : Value} {d : DataW H} {p : List MemPlace} (hv : Value.okWide Try.prog w r b0 25 vv)
    (h : DataW.Trod enc Try.prog w base spare held 25 vv d p) :
    ∃ A n c a v u, vv = .slice A n c ∧ RdE w w.heap.size A n c a v u ∧ n ≤ maxLen := by
  obtain ⟨A0, n0, c0, rfl⟩ := okWide_slice Try.underlying25 hv
  obtain ⟨fuel, hf⟩ := h
  rcases open_slice_fields Try.underlying25 Try.underlying68 (by kernel_rfl) (by kernel_rfl) hf with h0 | ⟨ad, l, cp, hcs, hl, hm, hi⟩
  · simp [Value.cells] at h0
    obtain ⟨rfl, rfl, rfl⟩ := h0
    exact ⟨none, 0, 0, fun _ => false, fun _ => 0, fun _ => 0, rfl, ⟨Nat.le_refl _, fun h => absurd h (by omega)⟩, Nat.zero_le _⟩
  · simp [Value.cells] at hcs
    obtain ⟨rfl, rfl, rfl⟩ := hcs
    have hall : ∀ i, i < n0 → ∃ (q : Bool × Int × Int), w.cell? (ad.add (i * 3)) = some (.bool q.1) ∧ w.cell? (ad.add (i * 3 + 1)) = some (.int .i64 q.2.1) ∧ w.cell? (ad.add (i * 3 + 2)) = some (.int .i64 q.2.2) := by
      intro i hin
      obtain ⟨n1, v1, y1, c1, t1⟩ := hi i hin 0 _ rfl
      obtain ⟨n2, v2, y2, c2, t2⟩ := hi i hin 1 _ rfl
      obtain ⟨n3, v3, y3, c3, t3⟩ := hi i hin 2 _ rfl
      obtain ⟨q1, e1, _⟩ := DataW.trod_bool Try.underlying4 t1
      obtain ⟨q2, e2, _, _⟩ := DataW.trod_int Try.underlying3 t2
      obtain ⟨q3, e3, _, _⟩ := DataW.trod_int Try.underlying3 t3
      simp only [List.cons.injEq, and_true] at e1 e2 e3
      subst e1 e2 e3
      exact ⟨(q1, q2, q3), c1, c2, c3⟩
    obtain ⟨f, hff⟩ := choose_lt (n := n0) (p := fun i (q : Bool × Int × Int) => w.cell? (ad.add (i * 3)) = some (.bool q.1) ∧ w.cell? (ad.add (i * 3 + 1)) = some (.int .i64 q.2.1) ∧ w.cell? (ad.add (i * 3 + 2)) = some (.int .i64 q.2.2)) hall
    refine ⟨some ad, n0, c0, fun i => (f i).1, fun i => (f i).2.1, fun i => (f i).2.2, rfl, ⟨hl, fun hn => ?_⟩, Nat.le_trans hl hm⟩
    obtain ⟨b, o, s⟩ := ad
    have h0 := (hff 0 hn).1
    have hs : s = none := by simpa [Addr.add] using World.cell?_spot h0
    subst hs
    have hadd : ∀ k, (⟨b, o, none⟩ : Addr).add k = ⟨b, o + k, none⟩ := fun k => by unfold Addr.add; split <;> simp_all
    simp only [hadd] at hff h0
    exact ⟨b, o, rfl, World.block_lt_of_cell? w _ h0, fun k hk => hff k hk⟩
end
end Go.Proofs.Ytnnlmdenffnjbaa
