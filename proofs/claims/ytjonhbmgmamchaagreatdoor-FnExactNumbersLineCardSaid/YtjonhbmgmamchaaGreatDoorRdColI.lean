/-
  Contracts: the program's search for a coloring: a function value that calls itself through a variable and writes into another.
-/
import Derived.Test.YtjonhbmgmamchaaGreatDoorRdIdxI
namespace Go.Proofs.YtjonhbmgmamchaaGreatDoor
open Go.RowKit

theorem set_cell {w : World} {q : Nat} {u v : Value} (h : w.cell? ⟨q, 0, none⟩ = some u) (hf : w.frozen? ⟨q, 0, none⟩ = false) : (w.setCell ⟨q, 0, none⟩ v).cell? ⟨q, 0, none⟩ = some v ∧ (w.setCell ⟨q, 0, none⟩ v).frozen? ⟨q, 0, none⟩ = false := by
  constructor <;> simp [go_sem, h, hf]
/-- append of one number; what else lies there stays. -/
theorem wpList_pushT (W : World) {ops : Array Oper} {rest : List Oper} {o : Oper} {a : Act} {Q : Exit → Act → World → Prop} (hgd : o.guard = none) (s y : Operand)
    (ho : o.op = .call { callee := .builtin .append, args := #[s, y], argTypes := #[22, 22] })
    (lo g c : Nat) (T : List Nat) (h : Own W lo W.heap.size 3 1 (some ⟨g, 0, none⟩) T.length c (ni T)) (hlo : lo ≤ W.heap.size) (k : Nat) (hs : a.eval s = .slice (some ⟨g, 0, none⟩) T.length c) (cx H : Nat) (hH : W.heap.size = H) (hy : a.eval y = .slice (some ⟨H, 0, none⟩) 1 cx)
    (hn : T.length ≤ 1073741824)
    (hK : ∀ g' cap w', Own w' lo w'.heap.size 3 1 (some ⟨g', 0, none⟩) (T.length + 1) cap (ni (T ++ [k])) → Below lo W w' → (∀ b, b < W.heap.size → b ≠ g → w'.heap[b]? = W.heap[b]?) → (g' = g ∨ W.heap.size ≤ g') → wpList Tryz.prog ops Q rest (a.put o.dst (.slice (some ⟨g', 0, none⟩) (T.length + 1) cap)) w') :
    wpList Tryz.prog ops Q (o :: rest) a (W.alloc (Obj.cells #[.int .i64 (k : Int)] 3)) := by
  subst hH
  have ha := h.alloc (Obj.cells #[.int .i64 (k : Int)] 3)
  refine wpList_push (W.alloc (Obj.cells #[.int .i64 (k : Int)] 3)) hgd s y 22 ho 3 _ 1 8 Tryz.underlying22 info_int rfl (by omega) lo W.heap.size (some ⟨g, 0, none⟩) T.length c (ni (T ++ [k])) hs
    (ha.congr (fun j hj => (ni_left hj).symm)) (by simp; omega) W.heap.size #[.int .i64 (k : Int)] 3 (0, 0) cx (heap_alloc_new W _) hy rfl ni_news (by simp [Value.oneCell']) hn (by omega) ?_
  intro g' cap w' hp
  refine hK g' cap w' hp.own (((Below.refl _ _).alloc hlo _).trans hp.below) (fun b hb hne => ?_) ?_
  · refine (hp.grown.block b (by simp; omega) (by simp [Value.ownBlock]; omega)).trans (Below.heap_alloc W _ b hb)
  · rcases hp.at_ with h1 | h1
    · left; simp [Value.ownBlock] at h1; exact h1.symm
    · right; rw [h1]; simp
/-- The variables of the search. -/
structure CE (z : World) (q m kk b0 o0 c0 : Nat) (r : Nat → Nat) (l : List Nat) (g c : Nat) : Prop where
  rd : Rd z q (some ⟨b0, o0, none⟩) m c0 (fun v => (r v : Int))
  g0 : z.cell? ⟨q + 1, 0, none⟩ = some (.int .i64 m)
  g1 : z.cell? ⟨q + 1, 1, none⟩ = some (.slice (some ⟨b0, o0, none⟩) m c0)
  k : z.cell? ⟨q + 2, 0, none⟩ = some (.int .i64 kk)
  vis : z.cell? ⟨q + 3, 0, none⟩ = some (.func (.func 93) #[] #[.pointer (some ⟨q, 0, none⟩)])
  srch : z.cell? ⟨q + 6, 0, none⟩ = some (.func (.func 114) #[] #[.pointer (some ⟨q + 5, 0, none⟩), .pointer (some ⟨q + 1, 0, none⟩), .pointer (some ⟨q + 3, 0, none⟩), .pointer (some ⟨q + 2, 0, none⟩), .pointer (some ⟨q + 6, 0, none⟩)])
  col : z.cell? ⟨q + 5, 0, none⟩ = some (.slice (some ⟨g, 0, none⟩) l.length c)
  colf : z.frozen? ⟨q + 5, 0, none⟩ = false
  out : z.cell? ⟨q, 0, none⟩ = some (.slice none 0 0)
  outf : z.frozen? ⟨q, 0, none⟩ = false
  own : Own z (q + 4) z.heap.size 3 1 (some ⟨g, 0, none⟩) l.length c (ni l)
  ne5 : g ≠ q + 5
  ne6 : g ≠ q + 6
section
variable {z z' w3 : World} {q m kk b0 o0 c0 g c : Nat} {r : Nat → Nat} {l : List Nat}
theorem CE.lt (h : CE z q m kk b0 o0 c0 r l g c) : q + 6 < z.heap.size := World.block_lt_of_cell? _ _ h.srch
theorem CE.keep (h : CE z q m kk b0 o0 c0 r l g c) (hb : Below z.heap.size z z') : CE z' q m kk b0 o0 c0 r l g c := by
  have hl := h.lt
  exact ⟨h.rd.keep (hb.mono (by omega)) (Nat.le_refl _), up_ hb h.g0, up_ hb h.g1, up_ hb h.k, up_ hb h.vis, up_ hb h.srch, up_ hb h.col, upf hb h.colf (by omega), up_ hb h.out, upf hb h.outf (by omega), (h.own.keepB hb (Nat.le_refl _)).mono (Nat.le_refl _) hb.size, h.ne5, h.ne6⟩
theorem CE.row (h : CE z q m kk b0 o0 c0 r l g c) {v : Nat} (hv : v < m) : z.cell? ⟨b0, o0 + v, none⟩ = some (.int .i64 (r v : Nat)) := by
  obtain ⟨b', o', e, _, hc⟩ := h.rd.pos (by omega)
  simp only [Option.some.injEq, Addr.mk.injEq, and_true] at e
  obtain ⟨rfl, rfl⟩ := e
  exact hc v hv
theorem CE.at (h : CE z q m kk b0 o0 c0 r l g c) {j : Nat} (hj : j < l.length) : z.cell? ⟨g, j, none⟩ = some (.int .i64 (l.getD j 0 : Nat)) := by
  obtain ⟨g', e, _, _, _, h1, _⟩ := h.own.at_ (by omega)
  simp only [Option.some.injEq, Addr.mk.injEq, and_true] at e
  subst e
  rw [h1 j (by omega), ni_at hj]
  simp [List.getD, hj]
theorem CE.set (h : CE z q m kk b0 o0 c0 r l g c) {l' : List Nat} {g' c' : Nat} (ho : Own z (q + 4) z.heap.size 3 1 (some ⟨g', 0, none⟩) l'.length c' (ni l')) (h5 : g' ≠ q + 5) (h6 : g' ≠ q + 6) :
    CE (z.setCell ⟨q + 5, 0, none⟩ (.slice (some ⟨g', 0, none⟩) l'.length c')) q m kk b0 o0 c0 r l' g' c' := by
  have hl := h.lt
  have F : Fr (q + 5) (q + 6) z (z.setCell ⟨q + 5, 0, none⟩ (.slice (some ⟨g', 0, none⟩) l'.length c')) := (Fr.refl _ _ z).setCell (p := ⟨q + 5, 0, none⟩) (Nat.le_refl _) (Nat.lt_succ_self _) _
  have hs := set_cell (v := .slice (some ⟨g', 0, none⟩) l'.length c') h.col h.colf
  have k : ∀ {b o : Nat} {v : Value}, b < q + 5 ∨ q + 6 ≤ b → z.cell? ⟨b, o, none⟩ = some v → (z.setCell ⟨q + 5, 0, none⟩ (.slice (some ⟨g', 0, none⟩) l'.length c')).cell? ⟨b, o, none⟩ = some v := fun hb e => frC_ F e (World.block_lt_of_cell? _ _ e) hb
  refine ⟨h.rd.keep (F.below (by omega) (by omega)) (Nat.le_refl _), k (by omega) h.g0, k (by omega) h.g1, k (by omega) h.k, k (by omega) h.vis, k (by omega) h.srch, hs.1, hs.2, k (by omega) h.out, frZ_ F h.outf (by omega) (by omega), ?_, h5, h6⟩
  rcases ho with ⟨e, _⟩ | ⟨g2, cur, e, k2, k3, k4, rest⟩
  · cases e
  · simp only [Option.some.injEq, Addr.mk.injEq, and_true] at e
    subst e
    exact .inr ⟨g', cur, rfl, k2, Nat.lt_of_lt_of_le k3 F.size, (F.block g' k3 (by omega)).trans k4, rest⟩
/-- Behind an append. -/
theorem CE.grow (h : CE z q m kk b0 o0 c0 r l g c) (hk : ∀ b, b < z.heap.size → b ≠ g → w3.heap[b]? = z.heap[b]?) (hb : Below (q + 4) z w3) {v g' c' : Nat} (ho : Own w3 (q + 4) w3.heap.size 3 1 (some ⟨g', 0, none⟩) (l.length + 1) c' (ni (l ++ [v]))) (hg : g' = g ∨ z.heap.size ≤ g') :
    w3.cell? ⟨q + 5, 0, none⟩ = some (.slice (some ⟨g, 0, none⟩) l.length c) ∧ w3.frozen? ⟨q + 5, 0, none⟩ = false ∧ w3.cell? ⟨q + 6, 0, none⟩ = some (.func (.func 114) #[] #[.pointer (some ⟨q + 5, 0, none⟩), .pointer (some ⟨q + 1, 0, none⟩), .pointer (some ⟨q + 3, 0, none⟩), .pointer (some ⟨q + 2, 0, none⟩), .pointer (some ⟨q + 6, 0, none⟩)]) ∧ CE (w3.setCell ⟨q + 5, 0, none⟩ (.slice (some ⟨g', 0, none⟩) (l.length + 1) c')) q m kk b0 o0 c0 r (l ++ [v]) g' c' := by
  have hl := h.lt
  have h5 := h.ne5
  have h6 := h.ne6
  have c5 : w3.cell? ⟨q + 5, 0, none⟩ = some (.slice (some ⟨g, 0, none⟩) l.length c) := (World.cell?_of_block (a := ⟨q + 5, 0, none⟩) (hk (q + 5) (by omega) (by omega))).trans h.col
  have f5 : w3.frozen? ⟨q + 5, 0, none⟩ = false := (World.frozen?_of_block (a := ⟨q + 5, 0, none⟩) (hk (q + 5) (by omega) (by omega))).trans h.colf
  have c6 : w3.cell? ⟨q + 6, 0, none⟩ = _ := (World.cell?_of_block (a := ⟨q + 6, 0, none⟩) (hk (q + 6) (by omega) (by omega))).trans h.srch
  refine ⟨c5, f5, c6, ?_⟩
  have F : Fr (q + 5) (q + 6) w3 (w3.setCell ⟨q + 5, 0, none⟩ (.slice (some ⟨g', 0, none⟩) (l.length + 1) c')) := (Fr.refl _ _ w3).setCell (p := ⟨q + 5, 0, none⟩) (Nat.le_refl _) (Nat.lt_succ_self _) _
  have hs := set_cell (v := .slice (some ⟨g', 0, none⟩) (l.length + 1) c') c5 f5
  have hz := hb.size
  have k : ∀ {b o : Nat} {v : Value}, b < q + 4 → z.cell? ⟨b, o, none⟩ = some v → (w3.setCell ⟨q + 5, 0, none⟩ (.slice (some ⟨g', 0, none⟩) (l.length + 1) c')).cell? ⟨b, o, none⟩ = some v := fun h4 e => frC_ F (up hb e h4) (by have := World.block_lt_of_cell? _ _ e; simp at this; omega) (by omega)
  have hB : Below q z (w3.setCell ⟨q + 5, 0, none⟩ (.slice (some ⟨g', 0, none⟩) (l.length + 1) c')) := (hb.mono (by omega)).trans (F.below (by omega) (by omega))
  refine ⟨h.rd.keep hB (Nat.le_refl _), k (by omega) h.g0, k (by omega) h.g1, k (by omega) h.k, k (by omega) h.vis, frC_ F c6 (by omega) (by omega), ?_, hs.2, k (by omega) h.out, frZ_ F (upf hb h.outf (by omega)) (by omega) (by omega), ?_, by omega, by omega⟩
  · rw [hs.1, List.length_append]; rfl
  · rw [List.length_append]
    rcases ho with ⟨e, _⟩ | ⟨g2, cur, e, k2, k3, k4, rest⟩
    · cases e
    · simp only [Option.some.injEq, Addr.mk.injEq, and_true] at e
      subst e
      exact .inr ⟨g', cur, rfl, k2, Nat.lt_of_lt_of_le k3 F.size, (F.block g' k3 (by omega)).trans k4, rest⟩
/-- The list made shorter by one. -/
theorem CE.cut {v : Nat} (h : CE z q m kk b0 o0 c0 r (l ++ [v]) g c) : CE (z.setCell ⟨q + 5, 0, none⟩ (.slice (some ⟨g, 0, none⟩) l.length c)) q m kk b0 o0 c0 r l g c := by
  refine h.set (l' := l) (g' := g) (c' := c) ?_ h.ne5 h.ne6
  rcases h.own with ⟨e, _⟩ | ⟨g2, cur, e, k2, k3, k4, k5, k6, k7, k8⟩
  · cases e
  · rw [List.length_append] at k5 k8
    refine .inr ⟨g2, cur, e, k2, k3, k4, by simp at k5; omega, k6, k7, fun j hj => ?_⟩
    rw [k8 j (by simp; omega), ni_left (by omega)]
end
/-- What the search leaves. -/
def colQ (q m kk b0 o0 c0 : Nat) (r : Nat → Nat) (l : List Nat) (w : World) (o : Option (List Nat)) (e : Ending) (w' : World) : Prop :=
  Below q w w' ∧ match o with
  | none => e = .returned (.bool true) ∧ ∃ g c, CE w' q m kk b0 o0 c0 r l g c
  | some x => e = .returned (.bool false) ∧ ∃ g c, w'.cell? ⟨q, 0, none⟩ = some (.slice (some ⟨g, 0, none⟩) x.length c) ∧ Own w' q w'.heap.size 3 1 (some ⟨g, 0, none⟩) x.length c (ni x)

set_option maxHeartbeats 1600000 in
theorem visit_c (q b o c : Nat) (l : List Nat) (w : World) (h : Rd w w.heap.size (some ⟨b, o, none⟩) l.length c (fun j => ((l.getD j 0 : Nat) : Int))) (h0 : l ≠ []) (hlen : l.length ≤ 7) {u : Value} (hq : w.cell? ⟨q, 0, none⟩ = some u) (hf : w.frozen? ⟨q, 0, none⟩ = false) :
    Calls Tryz.prog 93 #[.slice (some ⟨b, o, none⟩) l.length c, .pointer (some ⟨q, 0, none⟩)] w fun e w' => e = .returned (.bool false) ∧ (∃ g c', w'.cell? ⟨q, 0, none⟩ = some (.slice (some ⟨g, 0, none⟩) l.length c') ∧ Own w' q w'.heap.size 3 1 (some ⟨g, 0, none⟩) l.length c' (ni l)) ∧ Below q w w' := by
  have hql := World.block_lt_of_cell? _ _ hq
  simp only at hql
  have HO : Hid (Own (w.alloc (Obj.cells #[] 3)) w.heap.size (w.heap.size + 1) 3 1 (some ⟨w.heap.size, 0, none⟩) 0 0 (ni [])) :=
    .inr ⟨w.heap.size, #[], rfl, Nat.le_refl _, Nat.lt_succ_self _, heap_alloc_new w _, Nat.le_refl _, by unfold maxLen; omega, rfl, fun j hj => absurd hj (by omega)⟩
  have HR : Hid (Rd (w.alloc (Obj.cells #[] 3)) w.heap.size (some ⟨b, o, none⟩) l.length c (fun j => ((l.getD j 0 : Nat) : Int))) := h.keep ((Below.refl _ _).alloc (Nat.le_refl _) _) (Nat.le_refl _)
  have hpos : 0 < l.length := List.length_pos_iff.2 h0
  have H0 := Lib.hid hpos
  have HQ := Lib.hid hq
  have HF := Lib.hid hf
  clear h h0 hpos hq hf
  go_enter Tryz.func93, Tryz.ntmps93
  go_wp2_with (first | (at_builtin; (refine wpList_appendI _ rfl _ _ rfl rfl HO.out rfl HR.out (by simp) (by omega) (by omega) ?_; intro A' c' w1 hO hb; have q1 := up (((Below.refl _ _).alloc (Nat.le_refl _) _).trans hb) HQ.out hql; have f1 := upf (((Below.refl _ _).alloc (Nat.le_refl _) _).trans hb) HF.out hql)))
  rw [Nat.zero_add] at hO
  have hO2 := hO.congr (y := ni l) (fun j hj => by unfold thenI ni; simp)
  obtain ⟨g, rfl, hg, _⟩ := hO2.at_ H0.out
  have hB : Below w.heap.size w w1 := ((Below.refl _ _).alloc (Nat.le_refl _) _).trans hb
  have F : Fr q (q + 1) w1 (w1.setCell ⟨q, 0, none⟩ (.slice (some ⟨g, 0, none⟩) l.length c')) := (Fr.refl _ _ w1).setCell (p := ⟨q, 0, none⟩) (Nat.le_refl _) (Nat.lt_succ_self _) _
  have hs := set_cell (v := .slice (some ⟨g, 0, none⟩) l.length c') q1 f1
  have HE : Hid ((∃ g' c2, (w1.setCell ⟨q, 0, none⟩ (.slice (some ⟨g, 0, none⟩) l.length c')).cell? ⟨q, 0, none⟩ = some (.slice (some ⟨g', 0, none⟩) l.length c2) ∧ Own (w1.setCell ⟨q, 0, none⟩ (.slice (some ⟨g, 0, none⟩) l.length c')) q (w1.setCell ⟨q, 0, none⟩ (.slice (some ⟨g, 0, none⟩) l.length c')).heap.size 3 1 (some ⟨g', 0, none⟩) l.length c2 (ni l)) ∧ Below q w (w1.setCell ⟨q, 0, none⟩ (.slice (some ⟨g, 0, none⟩) l.length c'))) :=
    ⟨⟨g, c', hs.1, (hO2.keep F (.inr (by omega))).mono (by omega) F.size⟩, (hB.mono (by omega)).trans (F.below (Nat.le_refl _) (by have := hB.size; omega))⟩
  clear hO hO2 hb hB F hs
  go_wp2
  go_ret
  exact ⟨rfl, HE.out⟩

set_option maxRecDepth 100000 in
set_option maxHeartbeats 3200000 in
theorem col_i {q m kk b0 o0 c0 : Nat} {r : Nat → Nat} (hV : VG m r) (hk7 : kk ≤ 7) : ∀ (j : Nat) (l : List Nat) (g c : Nat) (w : World), l.length + j = m → CE w q m kk b0 o0 c0 r l g c →
    Calls Tryz.prog 114 #[.pointer (some ⟨q + 5, 0, none⟩), .pointer (some ⟨q + 1, 0, none⟩), .pointer (some ⟨q + 3, 0, none⟩), .pointer (some ⟨q + 2, 0, none⟩), .pointer (some ⟨q + 6, 0, none⟩)] w (colQ q m kk b0 o0 c0 r l w (colS r kk j l)) := by
  have hn7 := hV.n7
  have hn1 := hV.n1
  have HV := Lib.hid hV
  clear hV
  intro j
  induction j with
  | zero =>
    intro l g c w hlm hE
    have hl0 : l ≠ [] := by rintro rfl; simp at hlm; omega
    have hl := hE.lt
    have KV : Hid (Calls Tryz.prog 93 #[.slice (some ⟨g, 0, none⟩) l.length c, .pointer (some ⟨q, 0, none⟩)] w fun e w' => e = .returned (.bool false) ∧ (∃ g c', w'.cell? ⟨q, 0, none⟩ = some (.slice (some ⟨g, 0, none⟩) l.length c') ∧ Own w' q w'.heap.size 3 1 (some ⟨g, 0, none⟩) l.length c' (ni l)) ∧ Below q w w') :=
      visit_c q g 0 c l w hE.own.rd hl0 (by omega) hE.out hE.outf
    have e1 := hE.col
    have e2 := hE.g0
    have e3 := hE.vis
    have heq : ((l.length : Int) == (m : Int)) = true := by simp; omega
    have heq2 : (l.length = m) = True := by simp; omega
    clear hlm hE hl0
    go_enter Tryz.func114, Tryz.ntmps114
    go_wp2_with fail
    refine KV.out.mono ?_
    rintro e w1 ⟨rfl, hx, hb⟩
    have HX := Lib.hid hx
    have HB := Lib.hid hb
    clear hx hb e1 e2 e3
    go_wp2
    go_ret
    exact ⟨HB.out, rfl, HX.out⟩
  | succ j ih =>
    intro l g c w hlm hE
    have IH := Lib.hid ih
    have HE := Lib.hid hE
    have e1 := hE.col
    have e2 := hE.g0
    have e3 := hE.k
    have hne : ((l.length : Int) == (m : Int)) = false := by simp; omega
    have hne2 : (l.length = m) = False := by simp; omega
    have Hlm := Lib.hid hlm
    have hl7 : l.length ≤ 6 := by omega
    have hlm1 : l.length < m := by omega
    clear ih hE hlm
    go_enter Tryz.func114, Tryz.ntmps114
    go_wp2
    go_loopw [21] (fun i wr => ∃ (v g c : Nat), v ≤ kk ∧ i = .int .i64 v ∧ Hid (∀ u, u < v → cAt r kk j l u = none) ∧ Hid (CE wr q m kk b0 o0 c0 r l g c) ∧ Hid (Below q w wr)) (fun i _ => kk - (intOf i).toNat)
    case atStart => exact ⟨0, g, c, Nat.zero_le _, rfl, (fun u hu => absurd hu (by omega)), HE, Below.refl _ _⟩
    case round =>
      clear HE e1 e2 e3
      obtain ⟨v, g, c, hv, rfl, hall, HE, HB⟩ := hrel
      by_cases hvk : v < kk
      · have i1 : (v : Int) < (kk : Int) := by omega
        have e1 := HE.out.col
        go_wp2
        go_loop [8, 26] (fun f i => ∃ t : Nat, t ≤ l.length ∧ i = .int .i64 t ∧ f = .bool (frK r l l.length v t)) (fun _ i => l.length - (intOf i).toNat)
        case atStart => exact ⟨0, Nat.zero_le _, rfl, rfl⟩
        case round =>
          obtain ⟨t, ht, rfl, rfl⟩ := hrel
          by_cases htl : t < l.length
          · have i2 : (t : Int) < (l.length : Int) := by omega
            have p0 := HE.out.at htl
            have g1 := HE.out.g1
            have q0 := HE.out.row hlm1
            have hr := HV.out.lt128 hlm1
            obtain ⟨y, hy⟩ : ∃ y, y = l.getD t 0 := ⟨_, rfl⟩
            have hst : frK r l l.length v (t + 1) = (frK r l l.length v t && !(y == v && (r l.length).testBit t)) := by rw [hy]; rfl
            rw [← hy] at p0
            obtain ⟨x, hx⟩ : ∃ x, x = r l.length := ⟨_, rfl⟩
            rw [← hx] at q0 hr hst
            have i4 : (l.length : Int) < (m : Int) := by omega
            cases hf : frK r l l.length v t
            · have Hs : Hid (frK r l l.length v (t + 1) = false) := by rw [hf] at hst; exact hst
              clear hst hy hx q0 g1
              go_wp2
              go_round
              case rel => exact ⟨t + 1, by omega, by go_num, by rw [Hs.out]⟩
              case measure => (simp [intOf] <;> omega)
            · by_cases hyv : y = v
              · have d1 : ((y : Int) == (v : Int)) = true := by simp; omega
                cases hb : x.testBit t
                · have Hs : Hid (frK r l l.length v (t + 1) = true) := by rw [hf, hb] at hst; show _ = _; simpa using hst
                  have KH : Hid (Calls Tryz.prog 58 #[.int .i64 (x : Int), .int .i64 (t : Int)] wr fun e w' => e = .returned (.bool false) ∧ wr = w') := by
                    have := has_v (s := x) (v := t) wr hr (by omega)
                    rwa [hb] at this
                  clear hst hy hx hyv
                  go_wp2_with fail
                  refine KH.out.mono ?_
                  rintro e w' ⟨rfl, rfl⟩
                  go_wp2
                  go_round
                  case rel => exact ⟨t + 1, by omega, by go_num, by rw [Hs.out]⟩
                  case measure => (simp [intOf] <;> omega)
                · have Hs : Hid (frK r l l.length v (t + 1) = false) := by rw [hf, hb] at hst; show _ = _; simpa [hyv] using hst
                  have KH : Hid (Calls Tryz.prog 58 #[.int .i64 (x : Int), .int .i64 (t : Int)] wr fun e w' => e = .returned (.bool true) ∧ wr = w') := by
                    have := has_v (s := x) (v := t) wr hr (by omega)
                    rwa [hb] at this
                  clear hst hy hx hyv
                  go_wp2_with fail
                  refine KH.out.mono ?_
                  rintro e w' ⟨rfl, rfl⟩
                  go_wp2
                  go_round
                  case rel => exact ⟨t + 1, by omega, by go_num, by rw [Hs.out]⟩
                  case measure => (simp [intOf] <;> omega)
              · have d1 : ((y : Int) == (v : Int)) = false := by simp; omega
                have Hs : Hid (frK r l l.length v (t + 1) = true) := by
                  rw [hf] at hst
                  have : (y == v) = false := by simpa using hyv
                  rw [this] at hst
                  show _ = _
                  simpa using hst
                clear hst hy hx hyv q0 g1
                go_wp2
                go_round
                case rel => exact ⟨t + 1, by omega, by go_num, by rw [Hs.out]⟩
                case measure => (simp [intOf] <;> omega)
          · obtain rfl : l.length = t := by omega
            have hlt := HE.out.lt
            cases hf : frK r l l.length v l.length
            · have Hn : Hid (∀ u, u < v + 1 → cAt r kk j l u = none) := fun u hu => by
                by_cases huv : u < v
                · exact hall.out u huv
                · obtain rfl : u = v := by omega
                  exact cAt_no hf
              clear hf
              go_wp2
              go_roundw
              case rel => exact ⟨v + 1, g, c, by omega, by go_num, Hn, HE, HB⟩
              case measure => (simp [intOf] <;> omega)
            · have HF := Lib.hid (cAt_yes (k := kk) (j := j) hf)
              clear hf
              go_wp2_with (first | (at_builtin; (refine wpList_pushT wr rfl _ _ rfl (q + 4) g c l HE.out.own (by omega) v rfl 1 wr.heap.size rfl rfl (by omega) ?_; intro g' cap w3 hO3 hb3 hk3 hg3; obtain ⟨c5, f5, c6, hE3⟩ := HE.out.grow hk3 hb3 hO3 hg3)))
              have hB4 : Below q wr (w3.setCell ⟨q + 5, 0, none⟩ (.slice (some ⟨g', 0, none⟩) (l.length + 1) cap)) := (hb3.mono (by omega)).setCell (p := ⟨q + 5, 0, none⟩) (by show q ≤ q + 5; omega) _
              refine (IH.out (l ++ [v]) g' cap _ (by rw [List.length_append]; have := Hlm.out; simp; omega) hE3).mono ?_
              rintro e w5 ⟨hb5, hp⟩
              have HB5 : Hid (Below q w w5) := (HB.out.trans hB4).trans hb5
              clear hb5 hB4 hO3 hb3 hk3 hg3 c5 f5 c6 hE3 e1
              cases hs : colS r kk j (l ++ [v]) with
              | none =>
                rw [hs] at hp
                obtain ⟨rfl, g5, cc, hE5⟩ := hp
                have Hn : Hid (∀ u, u < v + 1 → cAt r kk j l u = none) := fun u hu => by
                  by_cases huv : u < v
                  · exact hall.out u huv
                  · obtain rfl : u = v := by omega
                    exact HF.out.trans hs
                have e5 := hE5.col
                rw [List.length_append, List.length_singleton] at e5
                have f5 := hE5.colf
                have hcap := hE5.own.le
                rw [List.length_append, List.length_singleton] at hcap
                have i3 : (l.length : Int) ≤ (cc : Int) := by omega
                have HE5 := Lib.hid hE5.cut
                have HB6 : Hid (Below q w (w5.setCell ⟨q + 5, 0, none⟩ (.slice (some ⟨g5, 0, none⟩) l.length cc))) := HB5.out.setCell (p := ⟨q + 5, 0, none⟩) (by show q ≤ q + 5; omega) _
                clear hs hE5
                go_wp2
                go_roundw
                case rel => exact ⟨v + 1, g5, cc, by omega, by go_num, Hn, HE5, HB6⟩
                case measure => (simp [intOf] <;> omega)
              | some x =>
                rw [hs] at hp
                obtain ⟨rfl, hx⟩ := hp
                have Hs : Hid (colS r kk (j + 1) l = some x) := colS_some hvk (HF.out.trans hs) hall.out
                have HX := Lib.hid hx
                clear hs hx
                go_wp2
                go_ret
                rw [Hs.out]
                exact ⟨HB5.out, rfl, HX.out⟩
      · have Hn : Hid (colS r kk (j + 1) l = none) := colS_none fun u hu => hall.out u (by omega)
        have i1 : (kk : Int) ≤ (v : Int) := by omega
        go_wp2
        go_ret
        rw [Hn.out]
        exact ⟨HB.out, rfl, g, c, HE.out⟩

/-- The variable behind the search. -/
def colO (q : Nat) (w' : World) : Option (List Nat) → Prop
  | none => w'.cell? ⟨q, 0, none⟩ = some (.slice none 0 0)
  | some x => ∃ g c, w'.cell? ⟨q, 0, none⟩ = some (.slice (some ⟨g, 0, none⟩) x.length c) ∧ Own w' q w'.heap.size 3 1 (some ⟨g, 0, none⟩) x.length c (ni x)
/-- The world in which the search begins. -/
def colW (w : World) (q m kk b0 o0 c0 : Nat) (t1 t2 t3 t5 t6 : TypeId) : World :=
  ((((((w.alloc (Obj.cells #[Value.int IntKind.i64 m, Value.slice (some ⟨b0, o0, none⟩) m c0] t1)).alloc (Obj.cells #[Value.int IntKind.i64 kk] t2)).alloc
    (Obj.cells #[Value.func (Fn.func 93) #[] #[Value.pointer (some ⟨q, 0, none⟩)]] t3)).alloc (Obj.cells #[] 3)).alloc
    (Obj.cells #[Value.slice (some ⟨q + 1 + 1 + 1 + 1, 0, none⟩) 0 0] t5)).alloc
    (Obj.cells #[Value.func (Fn.func 114) #[] #[.pointer (some ⟨q + 1 + 1 + 1 + 1 + 1, 0, none⟩), .pointer (some ⟨q + 1, 0, none⟩), .pointer (some ⟨q + 1 + 1 + 1, 0, none⟩), .pointer (some ⟨q + 1 + 1, 0, none⟩), .pointer (some ⟨q + 1 + 1 + 1 + 1 + 1 + 1, 0, none⟩)]] t6))
theorem colW_below (w : World) (q m kk b0 o0 c0 : Nat) (t1 t2 t3 t5 t6 : TypeId) : Below w.heap.size w (colW w q m kk b0 o0 c0 t1 t2 t3 t5 t6) :=
  bl_alloc (bl_alloc (bl_alloc (bl_alloc (bl_alloc (bl_alloc (Below.refl _ _))))))
theorem CE.new {w : World} {q m kk b0 o0 c0 : Nat} {r : Nat → Nat} (hz : w.heap.size = q + 1) (hr : Rd w q (some ⟨b0, o0, none⟩) m c0 (fun v => (r v : Int)))
    (hout : w.cell? ⟨q, 0, none⟩ = some (.slice none 0 0)) (hof : w.frozen? ⟨q, 0, none⟩ = false) (t1 t2 t3 t5 t6 : TypeId) : CE (colW w q m kk b0 o0 c0 t1 t2 t3 t5 t6) q m kk b0 o0 c0 r [] (q + 4) 0 := by
  have hb := colW_below w q m kk b0 o0 c0 t1 t2 t3 t5 t6
  refine ⟨hr.keep (hb.mono (by omega)) (Nat.le_refl _), ?_, ?_, ?_, ?_, ?_, ?_, ?_, up_ hb hout, upf hb hof (by omega), ?_, by omega, by omega⟩
  · unfold colW; simp [go_sem, hz]
  · unfold colW; simp [go_sem, hz]
  · unfold colW; simp [go_sem, hz]
  · unfold colW; simp [go_sem, hz]
  · unfold colW; simp [go_sem, hz]
  · unfold colW; simp [go_sem, hz]
  · unfold colW; simp [go_sem, hz]
  · refine .inr ⟨q + 4, #[], rfl, Nat.le_refl _, by unfold colW; simp [hz], ?_, Nat.le_refl _, by unfold maxLen; omega, rfl, fun j hj => absurd hj (by simp)⟩
    unfold colW
    rw [Below.heap_alloc _ _ _ (by simp [hz]), Below.heap_alloc _ _ _ (by simp [hz])]
    have := heap_alloc_new (((w.alloc (Obj.cells #[Value.int IntKind.i64 m, Value.slice (some ⟨b0, o0, none⟩) m c0] t1)).alloc (Obj.cells #[Value.int IntKind.i64 kk] t2)).alloc (Obj.cells #[Value.func (Fn.func 93) #[] #[Value.pointer (some ⟨q, 0, none⟩)]] t3)) (Obj.cells #[] 3)
    simpa [hz] using this
set_option maxRecDepth 100000 in
set_option maxHeartbeats 1600000 in
/-- colorings, with the function value of ColoringWith: it writes the first coloring into the variable at q. -/
theorem colorings_v {q m kk b0 o0 c0 : Nat} {r : Nat → Nat} {w : World} (hV : VG m r) (hk7 : kk ≤ 7) (hz : w.heap.size = q + 1) (hr : Rd w q (some ⟨b0, o0, none⟩) m c0 (fun v => (r v : Int)))
    (hout : w.cell? ⟨q, 0, none⟩ = some (.slice none 0 0)) (hof : w.frozen? ⟨q, 0, none⟩ = false) :
    Calls Tryz.prog 92 #[.agg #[.int .i64 m, .slice (some ⟨b0, o0, none⟩) m c0], .int .i64 kk, .func (.func 93) #[] #[.pointer (some ⟨q, 0, none⟩)]] w fun e w' => e = .returned (.tuple #[]) ∧ Below q w w' ∧ colO q w' (cOf r m kk) := by
  have HV := Lib.hid hV
  have HR := Lib.hid hr
  have HO := Lib.hid hout
  have HOF := Lib.hid hof
  clear hV hr hout hof
  go_enter Tryz.func92, Tryz.ntmps92
  go_wp2_with fail
  refine (col_i HV.out hk7 m [] (q + 4) 0 _ (by simp) (CE.new hz HR.out HO.out HOF.out _ _ _ _ _)).mono ?_
  rintro e w1 ⟨hb1, hp⟩
  have HB : Hid (Below q w w1) := ((colW_below _ _ _ _ _ _ _ _ _ _ _ _).mono (by omega)).trans hb1
  clear hb1
  cases hs : cOf r m kk with
  | none =>
    rw [show colS r kk m [] = cOf r m kk from rfl, hs] at hp
    obtain ⟨rfl, g, c, hE⟩ := hp
    have HX := Lib.hid hE.out
    have HS := Lib.hid hs
    clear hs hE
    go_wp2
    go_end0
    exact ⟨rfl, HB.out, by rw [HS.out]; exact HX.out⟩
  | some x =>
    rw [show colS r kk m [] = cOf r m kk from rfl, hs] at hp
    obtain ⟨rfl, hx⟩ := hp
    have HX := Lib.hid hx
    have HS := Lib.hid hs
    clear hs hx
    go_wp2
    go_end0
    exact ⟨rfl, HB.out, by rw [HS.out]; exact HX.out⟩

set_option maxRecDepth 100000 in
set_option maxHeartbeats 1600000 in
theorem ColoringWith_v {A : Option Addr} {m c k : Nat} {r : Nat → Nat} {w : World} (h : GV w A m c r) (hk1 : 1 ≤ k) (hk7 : k ≤ 7) :
    Calls Tryz.prog 60 #[.agg #[.int .i64 m, .slice A m c], .int .i64 k] w fun e w' => ∃ A' n' c', e = .returned (.tuple #[.slice A' n' c', .bool (cOf r m k).isSome]) ∧ (∀ x, cOf r m k = some x → n' = x.length ∧ ON w.heap.size w' A' c' x) ∧ Below w.heap.size w w' := by
  obtain ⟨b0, o0, rfl⟩ := h.addr
  have hbl := h.bl
  obtain ⟨W, hW⟩ : ∃ W : World, W = (w.alloc (Obj.cells #[Value.int IntKind.i64 m, Value.slice (some ⟨b0, o0, none⟩) m c] 27)) := ⟨_, rfl⟩
  have HB : Hid (From w W) := by rw [hW]; exact From.alloc _ _
  have HG : Hid (GBox W w.heap.size (some ⟨b0, o0, none⟩) m c r) := by rw [hW]; exact h.box
  have HW := Lib.hid hW
  clear hW h
  have e0 := HG.out.c0
  have e1 := HG.out.c1
  go_enter Tryz.func60, Tryz.ntmps60
  have K1 : Calls Tryz.prog 57 #[.int .i64 (k : Int), .int .i64 1, .int .i64 7] W fun e w' => e = .returned (.bool true) ∧ Below W.heap.size W w' := (within_yes _ _ _ W (by omega) (by omega)).mono fun _ _ ⟨h1, h2⟩ => ⟨h1, h2 ▸ Below.refl _ _⟩
  have HK1 := Lib.hid K1
  clear K1
  go_wp2_with fail
  rw [← HW.out]
  refine (HK1.out).mono ?_
  rintro e w1 ⟨rfl, hb1⟩
  clear HW
  clear e0 e1
  replace HB := Lib.hid (HB.out.keep hb1)
  replace HG := Lib.hid (HG.out.keep hb1)
  clear hb1
  have e0 := HG.out.c0
  have e1 := HG.out.c1
  go_wp2_with fail
  refine (IsGraph_v HG.out.gv).mono ?_
  rintro e w2 ⟨rfl, hb2⟩
  clear e0 e1
  replace HB := Lib.hid (HB.out.keep hb2)
  replace HG := Lib.hid (HG.out.keep hb2)
  clear hb2
  have e0 := HG.out.c0
  have e1 := HG.out.c1
  obtain ⟨W3, hW3⟩ : ∃ W3 : World, W3 = (w2.alloc (Obj.cells #[Value.slice none 0 0] 22)) := ⟨_, rfl⟩
  have HR3 : Hid (From w2 W3) := by rw [hW3]; exact From.alloc _ _
  have hz3 : W3.heap.size = w2.heap.size + 1 := by rw [hW3]; simp
  have HO3 : Hid (W3.cell? ⟨w2.heap.size, 0, none⟩ = some (.slice none 0 0)) := by rw [hW3]; simp [Hid, go_sem]
  have HF3 : Hid (W3.frozen? ⟨w2.heap.size, 0, none⟩ = false) := by rw [hW3]; simp [Hid, go_sem]
  have HW3 := Lib.hid hW3
  have HD : Hid (Rd W3 w2.heap.size (some ⟨b0, o0, none⟩) m c (fun v => (r v : Int))) := HG.out.gv.rd.keep HR3.out.below (Nat.le_refl _)
  have HV := Lib.hid HG.out.gv.vg
  have hlt := HG.out.lt
  clear hW3
  go_wp2_with fail
  rw [← HW3.out]
  clear HW3
  refine (colorings_v (q := w2.heap.size) HV.out hk7 hz3 HD.out HO3.out HF3.out).mono ?_
  rintro e w3 ⟨rfl, hb3, hx⟩
  have HB3 : Hid (From w w3) := ⟨(HB.out.up HR3.out).below.trans (hb3.mono HB.out.below.size)⟩
  clear hb3
  have hz2 := HB.out.below.size
  cases hc : cOf r m k with
  | none =>
    rw [hc] at hx
    have q1 : w3.cell? ⟨w2.heap.size, 0, none⟩ = some (.slice none 0 0) := hx
    have Hc := Lib.hid hc
    clear hc hx
    go_wp2
    go_region
    go_wp2
    go_ret2
    exact ⟨none, 0, 0, by rw [Hc.out]; rfl, (fun x h => by rw [Hc.out] at h; cases h), HB3.out.drew.below⟩
  | some x =>
    rw [hc] at hx
    obtain ⟨g, cc, q1, ho⟩ := hx
    have HOX : Hid (ON w.heap.size w3 (some ⟨g, 0, none⟩) cc x) := ⟨ho.mono hz2 (Nat.le_refl _)⟩
    have Hc := Lib.hid hc
    clear hc ho
    go_wp2
    go_region
    go_wp2
    go_ret2
    exact ⟨some ⟨g, 0, none⟩, x.length, cc, by rw [Hc.out]; rfl, (fun y h => by rw [Hc.out] at h; injection h with h; subst h; exact ⟨rfl, HOX.out.keep (Below.refl _ _).drew⟩), HB3.out.drew.below⟩
end Go.Proofs.YtjonhbmgmamchaaGreatDoor
