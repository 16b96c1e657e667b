/-
  Contracts: the optional edges between two graphs, of both programs.
-/
import Derived.Test.YtnnlmdenffnjbaaEdgesS
import Derived.Test.YtnnlmdenffnjbaaLawSS
namespace Go.Proofs.Ytnnlmdenffnjbaa
open Go.RowKit

/-- append of one inner slice onto an outer one that lies in one known block. -/
theorem wpList_pushC (W : World) {ops : Array Oper} {rest : List Oper} {o : Oper} {a : Act} {Q : Exit → Act → World → Prop} (hgd : o.guard = none) (s y : Operand)
    (ho : o.op = .call { callee := .builtin .append, args := #[s, y], argTypes := #[39, 39] })
    (E : List Dsc) (g c : Nat) (h : Own W g (g + 1) 22 1 (some ⟨g, 0, none⟩) E.length c (dvs E)) (hg : g < W.heap.size) (d : Dsc) (hs : a.eval s = .slice (some ⟨g, 0, none⟩) E.length c) (cx H : Nat) (hH : W.heap.size = H) (hy : a.eval y = .slice (some ⟨H, 0, none⟩) 1 cx)
    (hn : E.length ≤ 1073741824)
    (hK : ∀ g' cap w', Own w' g' (g' + 1) 22 1 (some ⟨g', 0, none⟩) (E.length + 1) cap (dvs (E ++ [d])) → (g' = g ∨ W.heap.size ≤ g') → g' < w'.heap.size → Fr g (g + 1) W w' → wpList Try.prog ops Q rest (a.put o.dst (.slice (some ⟨g', 0, none⟩) (E.length + 1) cap)) w') :
    wpList Try.prog ops Q (o :: rest) a (W.alloc (Obj.cells #[dv d] 22)) := by
  subst hH
  have ha := h.alloc (Obj.cells #[dv d] 22)
  refine wpList_push (W.alloc (Obj.cells #[dv d] 22)) hgd s y 39 ho 22 (.slice none 0 0) 1 24 Try.underlying39 info_ints rfl (by omega) g (g + 1) (some ⟨g, 0, none⟩) E.length c (dvs (E ++ [d])) hs
    (ha.congr (fun j hj => (dvs_left (by omega)).symm)) (by simp; omega) W.heap.size #[dv d] 22 (0, 0) cx (heap_alloc_new W _) hy rfl ?_ (by intro u hu; simp at hu; subst hu; rfl) hn (by omega) ?_
  · intro j hj
    obtain rfl : j = 0 := by omega
    rw [show E.length * 1 + 0 = E.length by omega, dvs_last]; rfl
  · intro g' cap w' hp
    have hg' : g' = g ∨ W.heap.size ≤ g' := by
      rcases hp.at_ with h | h
      · simp [Value.ownBlock] at h; exact .inl h.symm
      · right; rw [h]; simp
    have hown : Own w' g' (g' + 1) 22 1 (some ⟨g', 0, none⟩) (E.length + 1) cap (dvs (E ++ [d])) ∧ g' < w'.heap.size := by
      rcases hp.own with ⟨h, _⟩ | ⟨g1, cur, k1, k2, k3, r⟩
      · cases h
      · simp only [Option.some.injEq, Addr.mk.injEq, and_true] at k1
        subst k1
        exact ⟨.inr ⟨g', cur, rfl, Nat.le_refl _, Nat.lt_succ_self _, r⟩, k3⟩
    refine hK g' cap w' hown.1 hg' hown.2 (((Fr.refl g (g + 1) W).alloc _).trans ⟨hp.grown.os, hp.grown.tape, hp.grown.output, hp.grown.size, fun k hk ho => hp.grown.block k hk ?_⟩)
    simp [Value.ownBlock]
    omega

theorem edge_at {D : List Dsc} {s : Int} {m : Nat} {x : Nat → Int} {k : Nat} (hD : lists D = edgesL s m x) (hk : k < D.length) :
    ∃ Ad cd v u, D[k]? = some (Ad, cd, [((v : Nat) : Int), ((u : Nat) : Int)]) ∧ v < u ∧ u < m ∧ OkG s m x := by
  have hok : okB s m x = true := by
    cases h : okB s m x
    · have h0 : lists D = [] := by rw [hD]; unfold edgesL; rw [h]; rfl
      have h1 := congrArg List.length h0
      rw [lists, List.length_map, List.length_nil] at h1
      omega
    · rfl
  have hOK : OkG s m x := by
    refine Classical.byContradiction fun h => ?_
    rw [okB_no h] at hok; cases hok
  unfold edgesL at hD
  rw [if_pos hok] at hD
  have h1 : (D[k]).2.2 ∈ edAll x m := by
    rw [← hD]
    exact List.mem_map.2 ⟨D[k], List.getElem_mem hk, rfl⟩
  unfold edAll at h1
  obtain ⟨p, hp, e⟩ := List.mem_map.1 h1
  have hp2 := mem_pr.1 (List.mem_filter.1 hp).1
  refine ⟨(D[k]).1, (D[k]).2.1, p.1, p.2, ?_, hp2.1, hp2.2, hOK⟩
  rw [List.getElem?_eq_getElem hk, e]
theorem edAll_len {m : Nat} {x : Nat → Int} (hm : m ≤ 7) : (edAll x m).length ≤ 21 := by
  unfold edAll
  rw [List.length_map]
  exact Nat.le_trans (List.length_filter_le _ _) (length_pr_le hm)
theorem edges_len {D : List Dsc} {s : Int} {m : Nat} {x : Nat → Int} (hD : lists D = edgesL s m x) : D.length ≤ 21 := by
  have h1 := congrArg List.length hD
  rw [lists, List.length_map] at h1
  rw [h1]
  unfold edgesL
  split
  · rename_i h
    have hOK : OkG s m x := by
      refine Classical.byContradiction fun h2 => ?_
      rw [okB_no h2] at h; cases h
    obtain ⟨r, rfl, vg, _⟩ := hOK
    exact edAll_len vg.n7
  · simp
/-- What stands in a slice of slices at a place. -/
theorem OwnD.pair {w : World} {lo hi c k : Nat} {A Ad : Option Addr} {cd : Nat} {v u : Int} {D : List Dsc} (h : OwnD w lo hi A c D) (hk : D[k]? = some (Ad, cd, [v, u])) :
    ∃ g gd, A = some ⟨g, 0, none⟩ ∧ Ad = some ⟨gd, 0, none⟩ ∧ w.cell? ⟨g, k, none⟩ = some (.slice Ad 2 cd) ∧ w.cell? ⟨gd, 0, none⟩ = some (.int .i64 v) ∧ w.cell? ⟨gd, 1, none⟩ = some (.int .i64 u) := by
  obtain ⟨hlt, he⟩ := List.getElem?_eq_some_iff.1 hk
  obtain ⟨g, e1, _, _, _, h1, _⟩ := h.1.at_ (by omega)
  obtain ⟨gd, e2, _, _, _, h2, _⟩ := (h.2.1 (Ad, cd, [v, u]) (List.mem_of_getElem? hk)).at_ (by show 0 < 2; omega)
  refine ⟨g, gd, e1, e2, ?_, h2 0 (by show 0 < 2 * 1; omega), h2 1 (by show 1 < 2 * 1; omega)⟩
  rw [h1 k (by omega)]
  unfold dvs
  simp [List.getD, hk, dv]

def pOpt (x : Nat → Int) (l : List Int) : Bool := !(x (l.getD 0 0).toNat).toNat.testBit (l.getD 1 0).toNat
def qOpt (x : Nat → Int) (d : Dsc) : Bool := pOpt x d.2.2
noncomputable def optL (s1 : Int) (m1 : Nat) (x1 : Nat → Int) (s2 : Int) (m2 : Nat) (x2 : Nat → Int) : List (List Int) := if wiB s1 m1 x1 s2 m2 x2 = true then (edgesL s2 m2 x2).filter (pOpt x1) else []
theorem lists_filter (D : List Dsc) (x : Nat → Int) : lists (D.filter (qOpt x)) = (lists D).filter (pOpt x) := by
  unfold lists; rw [List.filter_map]; rfl
theorem opt_step_yes {D : List Dsc} {d : Dsc} {x : Nat → Int} {k : Nat} (h : D[k]? = some d) (hq : qOpt x d = true) : (D.take (k + 1)).filter (qOpt x) = (D.take k).filter (qOpt x) ++ [d] := by
  rw [take_at h, List.filter_append]; simp [hq]
theorem opt_step_no {D : List Dsc} {d : Dsc} {x : Nat → Int} {k : Nat} (h : D[k]? = some d) (hq : qOpt x d = false) : (D.take (k + 1)).filter (qOpt x) = (D.take k).filter (qOpt x) := by
  rw [take_at h, List.filter_append]; simp [hq]
theorem OwnD.filtered {w : World} {lo hi lo2 hi2 c g c2 : Nat} {A : Option Addr} {D : List Dsc} {x : Nat → Int} (h : OwnD w lo hi A c D) (ho : Own w g (g + 1) 22 1 (some ⟨g, 0, none⟩) (D.filter (qOpt x)).length c2 (dvs (D.filter (qOpt x)))) (h1 : lo2 ≤ lo) (h2 : hi ≤ hi2) (h3 : lo2 ≤ g) (h4 : g < hi2) :
    OwnD w lo2 hi2 (some ⟨g, 0, none⟩) c2 (D.filter (qOpt x)) :=
  ⟨ho.mono h3 (by omega), fun d hd => (h.2.1 d (List.mem_filter.1 hd).1).mono h1 h2, h.2.2.filter _⟩
theorem OwnD.nil_ (w : World) (lo hi : Nat) : OwnD w lo hi none 0 [] := ⟨Own.nil _ _ _ _ _ _, (fun d hd => by cases hd), List.Pairwise.nil⟩

end Go.Proofs.Ytnnlmdenffnjbaa
