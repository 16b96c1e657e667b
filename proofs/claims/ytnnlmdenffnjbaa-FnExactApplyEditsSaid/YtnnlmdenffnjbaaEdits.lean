/-
  Plain lists of edits, and pushes onto slices of edits.
-/
import Derived.Test.YtnnlmdenffnjbaaPairsOf
import Derived.Test.YtnnlmdenffnjbaaEdit
namespace Go.Proofs.Ytnnlmdenffnjbaa
open Go.RowKit

def ed0 : Bool × Int × Int := (false, 0, 0)
def edT (T : List (Bool × Int × Int)) : Nat → Value := eds (fun i => (T.getD i ed0).1) (fun i => (T.getD i ed0).2.1) (fun i => (T.getD i ed0).2.2)
theorem edT_left {T S : List (Bool × Int × Int)} {j : Nat} (h : j < T.length * 3) : edT (T ++ S) j = edT T j := by
  have h1 : j / 3 < T.length := by omega
  unfold edT eds
  simp [List.getD, List.getElem?_append_left h1]
theorem edT_right {T S : List (Bool × Int × Int)} {j : Nat} : edT (T ++ S) (T.length * 3 + j) = edT S j := by
  have h2 : T.length ≤ T.length + j / 3 := Nat.le_add_right _ _
  unfold edT eds
  rw [show (T.length * 3 + j) % 3 = j % 3 by omega, show (T.length * 3 + j) / 3 = T.length + j / 3 by omega]
  simp [List.getD, List.getElem?_append_right h2]
theorem edT_news {T : List (Bool × Int × Int)} {p : Bool} {q r : Int} : ∀ i, i < 3 → (#[Value.bool p, Value.int .i64 q, Value.int .i64 r] : Array Value)[i]? = some (edT (T ++ [(p, q, r)]) (T.length * 3 + i)) :=
  eds_news (by simp [List.getD]) (by simp [List.getD]) (by simp [List.getD])
theorem edT_one (T : List (Bool × Int × Int)) (j : Nat) : (edT T j).oneCell' = true := by
  unfold edT eds; split
  · rfl
  · split <;> rfl

/-- In the first graph, not in the second. -/
def dOne (x1 x2 : Nat → Int) (p : Nat × Nat) : Bool := (x1 p.1).toNat.testBit p.2 && !(x2 p.1).toNat.testBit p.2
def eR (b : Bool) (P : List (Nat × Nat)) (x1 x2 : Nat → Int) : List (Bool × Int × Int) := (P.filter (dOne x1 x2)).map fun p => (b, (p.1 : Int), (p.2 : Int))
def ebT (n : Nat) (x1 x2 : Nat → Int) : List (Bool × Int × Int) := eR false (pr n) x1 x2 ++ eR true (pr n) x2 x1
noncomputable def ebB (s1 : Int) (m1 : Nat) (x1 : Nat → Int) (s2 : Int) (m2 : Nat) (x2 : Nat → Int) : Bool := okB s1 m1 x1 && okB s2 m2 x2 && decide (s1 = s2)
noncomputable def ebL (s1 : Int) (m1 : Nat) (x1 : Nat → Int) (s2 : Int) (m2 : Nat) (x2 : Nat → Int) : List (Bool × Int × Int) := if ebB s1 m1 x1 s2 m2 x2 = true then ebT m1 x1 x2 else []
theorem eR_snoc_yes {b : Bool} {P : List (Nat × Nat)} {p : Nat × Nat} {x1 x2 : Nat → Int} (h : dOne x1 x2 p = true) : eR b (P ++ [p]) x1 x2 = eR b P x1 x2 ++ [(b, (p.1 : Int), (p.2 : Int))] := by
  unfold eR; rw [List.filter_append]; simp [h]
theorem eR_snoc_no {b : Bool} {P : List (Nat × Nat)} {p : Nat × Nat} {x1 x2 : Nat → Int} (h : dOne x1 x2 p = false) : eR b (P ++ [p]) x1 x2 = eR b P x1 x2 := by
  unfold eR; rw [List.filter_append]; simp [h]
theorem eR_len {b : Bool} {P : List (Nat × Nat)} {x1 x2 : Nat → Int} : (eR b P x1 x2).length ≤ P.length := by
  unfold eR; rw [List.length_map]; exact List.length_filter_le _ _
theorem take_pr {P : List (Nat × Nat)} {k : Nat} {p : Nat × Nat} (h : P[k]? = some p) : P.take (k + 1) = P.take k ++ [p] := by
  rw [List.take_add_one, h]; rfl
theorem okB_ok {s : Int} {m : Nat} {x : Nat → Int} (h : okB s m x = true) : OkG s m x := by
  refine Classical.byContradiction fun h2 => ?_
  rw [okB_no h2] at h; cases h
theorem ebL_len {s1 : Int} {m1 : Nat} {x1 : Nat → Int} {s2 : Int} {m2 : Nat} {x2 : Nat → Int} : (ebL s1 m1 x1 s2 m2 x2).length ≤ 42 := by
  unfold ebL
  split
  · rename_i h
    unfold ebB at h
    have h1 : okB s1 m1 x1 = true := by
      cases h3 : okB s1 m1 x1
      · rw [h3] at h; simp at h
      · rfl
    obtain ⟨r, _, vg, _⟩ := okB_ok h1
    have := length_pr_le vg.n7
    unfold ebT
    rw [List.length_append]
    have := eR_len (b := false) (P := pr m1) (x1 := x1) (x2 := x2)
    have := eR_len (b := true) (P := pr m1) (x1 := x2) (x2 := x1)
    omega
  · simp
theorem pair_at {D : List Dsc} {m k : Nat} (hD : lists D = prL m) (hk : k < D.length) :
    ∃ Ad cd v u, D[k]? = some (Ad, cd, [((v : Nat) : Int), ((u : Nat) : Int)]) ∧ (pr m)[k]? = some (v, u) ∧ v < u ∧ u < m := by
  have hl : D.length = (pr m).length := by
    have := congrArg List.length hD
    rwa [lists, List.length_map, prL, List.length_map] at this
  have h1 : (lists D)[k]? = (prL m)[k]? := by rw [hD]
  have hk2 : k < (pr m).length := by omega
  unfold lists prL at h1
  rw [List.getElem?_map, List.getElem?_map, List.getElem?_eq_getElem hk, List.getElem?_eq_getElem hk2] at h1
  simp only [Option.map_some, Option.some.injEq] at h1
  have hp2 := mem_pr.1 (List.getElem_mem hk2)
  refine ⟨(D[k]).1, (D[k]).2.1, ((pr m)[k]).1, ((pr m)[k]).2, ?_, ?_, hp2.1, hp2.2⟩
  · rw [List.getElem?_eq_getElem hk, ← h1]
  · rw [List.getElem?_eq_getElem hk2]
theorem pairs_len {D : List Dsc} {m : Nat} (hD : lists D = prL m) : D.length = (pr m).length := by
  have := congrArg List.length hD
  rwa [lists, List.length_map, prL, List.length_map] at this
theorem OwnD.pair2 {w : World} {lo hi c k : Nat} {A Ad : Option Addr} {cd : Nat} {v u : Int} {D : List Dsc} (h : OwnD w lo hi A c D) (hk : D[k]? = some (Ad, cd, [v, u])) :
    ∃ g gd, A = some ⟨g, 0, none⟩ ∧ Ad = some ⟨gd, 0, none⟩ ∧ w.cell? ⟨g, k, none⟩ = some (.slice Ad 2 cd) ∧ w.cell? ⟨gd, 0, none⟩ = some (.int .i64 v) ∧ w.cell? ⟨gd, 1, none⟩ = some (.int .i64 u) ∧ lo ≤ gd ∧ gd < hi := by
  obtain ⟨hlt, he⟩ := List.getElem?_eq_some_iff.1 hk
  obtain ⟨g, e1, _, _, _, h1, _⟩ := h.1.at_ (by omega)
  obtain ⟨gd, e2, l1, l2, _, h2, _⟩ := (h.2.1 (Ad, cd, [v, u]) (List.mem_of_getElem? hk)).at_ (by show 0 < 2; omega)
  refine ⟨g, gd, e1, e2, ?_, h2 0 (by show 0 < 2 * 1; omega), h2 1 (by show 1 < 2 * 1; omega), l1, l2⟩
  rw [h1 k (by omega)]
  unfold dvs
  simp [List.getD, hk, dv]

theorem Pushed.caged {w w' : World} {lo g size n c g' cap : Nat} {e : TypeId} {x : Nat → Value} (hp : Pushed w w' lo e size (some ⟨g, 0, none⟩) n c x g' cap) :
    Own w' g' (g' + 1) e size (some ⟨g', 0, none⟩) (n + 1) cap x ∧ (g' = g ∨ g' = w.heap.size) ∧ g' < w'.heap.size ∧ Fr g (g + 1) w w' := by
  have hg' : g' = g ∨ g' = w.heap.size := by
    rcases hp.at_ with h | h
    · simp [Value.ownBlock] at h; exact .inl h.symm
    · exact .inr h
  rcases hp.own with ⟨h, _⟩ | ⟨g1, cur, k1, k2, k3, r⟩
  · cases h
  · simp only [Option.some.injEq, Addr.mk.injEq, and_true] at k1
    subst k1
    refine ⟨.inr ⟨g', cur, rfl, Nat.le_refl _, Nat.lt_succ_self _, r⟩, hg', k3, ⟨hp.grown.os, hp.grown.tape, hp.grown.output, hp.grown.size, fun k hk ho => hp.grown.block k hk ?_⟩⟩
    simp [Value.ownBlock]
    omega

/-- append of all elements of one slice of edits onto another. -/
theorem wpList_appendE (W : World) {ops : Array Oper} {rest : List Oper} {o : Oper} {a : Act} {Q : Exit → Act → World → Prop} (hgd : o.guard = none) (s y : Operand)
    (ho : o.op = .call { callee := .builtin .append, args := #[s, y], argTypes := #[32, 32] })
    (lo g1 g2 c1 c2 : Nat) (T S : List (Bool × Int × Int)) (h1 : Own W g1 (g1 + 1) 66 3 (some ⟨g1, 0, none⟩) T.length c1 (edT T)) (h2 : Own W g2 (g2 + 1) 66 3 (some ⟨g2, 0, none⟩) S.length c2 (edT S))
    (hs : a.eval s = .slice (some ⟨g1, 0, none⟩) T.length c1) (hy : a.eval y = .slice (some ⟨g2, 0, none⟩) S.length c2) (hlo : lo ≤ g1) (hlw : lo ≤ W.heap.size) (hn : T.length ≤ 1048576) (hm : S.length ≤ 1048576)
    (hK : ∀ A' c' w', Own w' lo w'.heap.size 66 3 A' (T ++ S).length c' (edT (T ++ S)) → Below lo W w' → wpList Try.prog ops Q rest (a.put o.dst (.slice A' (T ++ S).length c')) w') :
    wpList Try.prog ops Q (o :: rest) a W := by
  obtain ⟨i, hi, hzz⟩ := Option.map_eq_some_iff.1 info_edit
  simp only [Prod.mk.injEq] at hzz
  obtain ⟨hz, hsize, hbytes⟩ := hzz
  refine wpList_append_own_at W hgd s y 32 ho lo 66 i _ 3 24 Try.underlying32 hi hz hsize hbytes rfl (by omega) _ T.length _ hs (h1.mono hlo (Nat.le_refl _)).row ⟨g2, 0, none⟩ S.length c2 ((List.range (S.length * 3)).map (edT S)) hy (by simp) ?_ ?_ (by unfold maxLen; omega) (by omega) hlw ?_
  · intro j u hj
    have hlt : j < S.length * 3 := by
      have := (List.getElem?_eq_some_iff.1 hj).1
      simpa using this
    have hS : 0 < S.length := by omega
    obtain ⟨g, e1, _, _, _, hc, _⟩ := h2.at_ hS
    simp only [Option.some.injEq, Addr.mk.injEq, and_true] at e1
    subst e1
    have hadd : (⟨g2, 0, none⟩ : Addr).add j = ⟨g2, j, none⟩ := by unfold Addr.add; split <;> simp_all
    rw [hadd, hc j hlt]
    simpa [hlt] using hj
  · intro u hu
    obtain ⟨j, _, rfl⟩ := List.mem_map.1 hu
    exact edT_one S j
  · intro v' w' hrow hg _ hb
    obtain ⟨A', c', rfl⟩ := row_form hrow
    rw [← List.length_append] at hrow ⊢
    refine hK A' c' w' (Own.of_row hrow fun j hj => ?_) ((Below.refl _ _).grown hg hlw (fun k hk => ?_))
    · rw [List.getElem?_append]
      simp only [List.length_map, List.length_range]
      rw [List.length_append] at hj
      by_cases hj2 : j < T.length * 3
      · rw [if_pos hj2, edT_left hj2]; simp [hj2]
      · rw [if_neg hj2]
        have e : j = T.length * 3 + (j - T.length * 3) := by omega
        have hlt : j - T.length * 3 < S.length * 3 := by omega
        have ee : edT (T ++ S) j = edT S (j - T.length * 3) := by
          have := edT_right (T := T) (S := S) (j := j - T.length * 3)
          rwa [← e] at this
        rw [ee]
        simp [hlt]
    · simp [Value.ownBlock] at hk; omega

/-- append of one edit. -/
theorem wpList_pushE (W : World) {ops : Array Oper} {rest : List Oper} {o : Oper} {a : Act} {Q : Exit → Act → World → Prop} (hgd : o.guard = none) (s y : Operand)
    (ho : o.op = .call { callee := .builtin .append, args := #[s, y], argTypes := #[32, 32] })
    (lo hi : Nat) (A : Option Addr) (c : Nat) (T : List (Bool × Int × Int)) (h : Own W lo hi 66 3 A T.length c (edT T)) (hlo : lo ≤ W.heap.size) (p : Bool) (q r : Int) (hs : a.eval s = .slice A T.length c) (cx H : Nat) (hH : W.heap.size = H) (hy : a.eval y = .slice (some ⟨H, 0, none⟩) 1 cx)
    (hn : T.length ≤ 1073741824)
    (hK : ∀ g cap w', Own w' lo w'.heap.size 66 3 (some ⟨g, 0, none⟩) (T.length + 1) cap (edT (T ++ [(p, q, r)])) → Below lo W w' → wpList Try.prog ops Q rest (a.put o.dst (.slice (some ⟨g, 0, none⟩) (T.length + 1) cap)) w') :
    wpList Try.prog ops Q (o :: rest) a (W.alloc (Obj.cells #[.bool p, .int .i64 q, .int .i64 r] 66)) := by
  subst hH
  have ha := h.alloc (Obj.cells #[.bool p, .int .i64 q, .int .i64 r] 66)
  refine wpList_push (W.alloc (Obj.cells #[.bool p, .int .i64 q, .int .i64 r] 66)) hgd s y 32 ho 66 _ 3 24 Try.underlying32 info_edit rfl (by omega) lo hi A T.length c (edT (T ++ [(p, q, r)])) hs
    (ha.congr (fun j hj => (edT_left hj).symm)) (by simp; omega) W.heap.size #[.bool p, .int .i64 q, .int .i64 r] 66 (0, 0) cx (heap_alloc_new W _) hy rfl edT_news (by simp [Value.oneCell']) hn (by omega) ?_
  intro g cap w' hp
  exact hK g cap w' hp.own (((Below.refl _ _).alloc hlo _).trans hp.below)

theorem eR_step_yes {b : Bool} {n v u : Nat} {x1 x2 : Nat → Int} (h : v + 1 ≤ u) (h1 : dOne x1 x2 (v, u) = true) : eR b (prTo n v (u + 1)) x1 x2 = eR b (prTo n v u) x1 x2 ++ [(b, (v : Int), (u : Int))] := by
  rw [prTo_step n v u h]; exact eR_snoc_yes h1
theorem eR_step_no {b : Bool} {n v u : Nat} {x1 x2 : Nat → Int} (h : v + 1 ≤ u) (h1 : dOne x1 x2 (v, u) = false) : eR b (prTo n v (u + 1)) x1 x2 = eR b (prTo n v u) x1 x2 := by
  rw [prTo_step n v u h]; exact eR_snoc_no h1
theorem prTo_len {n v u : Nat} (hn : n ≤ 7) (hv : v < n) (h : v + 1 ≤ u) (hu : u ≤ n) : (prTo n v u).length ≤ 21 := by
  obtain ⟨t, ht⟩ := prTo_prefix n v u hv h hu
  have h1 := length_pr_le hn
  rw [ht, List.length_append] at h1
  omega
end Go.Proofs.Ytnnlmdenffnjbaa
