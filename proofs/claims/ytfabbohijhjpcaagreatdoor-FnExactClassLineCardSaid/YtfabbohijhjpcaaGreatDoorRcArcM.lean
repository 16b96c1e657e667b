/-
-/
import Derived.Test.YtfabbohijhjpcaaGreatDoorRcGB
import Derived.Test.YtfabbohijhjpcaaGreatDoorRcOriP
import Derived.Test.YtfabbohijhjpcaaGreatDoorRcPushI
namespace Go.Proofs.YtfabbohijhjpcaaGreatDoor
open Go.RowKit
def OwnE (w : World) (lo hi : Nat) (A : Option Addr) (c : Nat) (D : List Dsc) : Prop :=
 Own w lo hi 24 1 A D.length c (dvs D) ∧ ∀ d ∈ D, Own w lo hi 3 1 d.1 d.2.2.length d.2.1 (ii d.2.2)
def arI (L : List (Nat × Nat)) : List (List Int) := L.map fun p => [(p.1 : Int), (p.2 : Int)]
section
variable {w w' : World} {lo hi lo' hi' B c : Nat} {A : Option Addr} {D : List Dsc} {L : List (Nat × Nat)}
theorem OwnD.e (h : OwnD w lo hi A c D) : OwnE w lo hi A c D := ⟨h.1, h.2.1⟩
theorem OwnE.mono (h : OwnE w lo hi A c D) (h1 : lo' ≤ lo) (h2 : hi ≤ hi') : OwnE w lo' hi' A c D := ⟨h.1.mono h1 h2, fun d hd => (h.2 d hd).mono h1 h2⟩
theorem OwnE.keep {a b : Nat} (h : OwnE w lo hi A c D) (hf : Fr a b w w') (hab : hi ≤ a ∨ b ≤ lo) : OwnE w' lo hi A c D := ⟨h.1.keep hf hab, fun d hd => (h.2 d hd).keep hf hab⟩
theorem OwnE.keepB (h : OwnE w lo hi A c D) (hf : Below B w w') (hB : hi ≤ B) : OwnE w' lo hi A c D := ⟨h.1.keepB hf hB, fun d hd => (h.2 d hd).keepB hf hB⟩
theorem OwnE.alloc (h : OwnE w lo hi A c D) (o : Obj) : OwnE (w.alloc o) lo hi A c D := ⟨h.1.alloc o, fun d hd => (h.2 d hd).alloc o⟩
theorem OwnE.drewN (h : OwnE w lo hi A c D) (k : Nat) : OwnE (w.drewN k) lo hi A c D := h
theorem OwnE.push {d : Dsc} {w w1 : World} {g cap : Nat} (h : OwnE w lo hi A c D) (hd : Own w lo hi 3 1 d.1 d.2.2.length d.2.1 (ii d.2.2))
 (hp : Pushed w w1 lo 24 1 A D.length c (dvs (D ++ [d])) g cap) (hhi : hi ≤ w.heap.size) : OwnE w1 lo w1.heap.size (some ⟨g, 0, none⟩) cap (D ++ [d]) := by
 have hs := hp.grown.size
 have hown := h.1
 have keep : ∀ e : Dsc, Own w lo hi 3 1 e.1 e.2.2.length e.2.1 (ii e.2.2) → Own w1 lo w1.heap.size 3 1 e.1 e.2.2.length e.2.1 (ii e.2.2) := by
  intro e he
  have hne : ∀ g', e.1 = some ⟨g', 0, none⟩ → A ≠ some ⟨g', 0, none⟩ := fun g' hg' => he.types hown (by decide) hg'
  rcases he with h | ⟨g1, cur, k1, k2, k3, k4, r⟩
  ·exact .inl h
  ·refine .inr ⟨g1, cur, k1, k2, by omega, (hp.grown.block g1 (Array.getElem?_eq_some_iff.1 k4).1 ?_).trans k4, r⟩
   intro heq
   rcases hown with ⟨rfl, _⟩ | ⟨g2, cur2, rfl, _⟩
   ·simp [Value.ownBlock] at heq
   ·simp [Value.ownBlock] at heq
    exact hne g1 k1 (by rw [heq])
 refine ⟨by rw [List.length_append]; exact hp.own, fun e he => ?_⟩
 rw [List.mem_append, List.mem_singleton] at he
 rcases he with he | rfl
 ·exact keep e (h.2 e he)
 ·exact keep e hd
structure AC (w : World) (g : Nat) (cap : Nat) (p : Nat × Nat) : Prop where
 own : Own w g (g + 1) 3 1 (some ⟨g, 0, none⟩) 2 cap (ii [(p.1 : Int), (p.2 : Int)])
theorem AC.lt {g cap : Nat} {p : Nat × Nat} (h : AC w g cap p) : g < w.heap.size := by
 obtain ⟨g2, e, _, _, h2, _⟩ := h.own.at_ (by omega)
 cases e
 exact h2
theorem AC.c0 {g cap : Nat} {p : Nat × Nat} (h : AC w g cap p) : w.cell? ⟨g, 0, none⟩ = some (.int .i64 (p.1 : Nat)) := by
 obtain ⟨g2, e, _, _, _, h2, _⟩ := h.own.at_ (by omega)
 cases e
 exact h2 0 (by omega)
theorem AC.c1 {g cap : Nat} {p : Nat × Nat} (h : AC w g cap p) : w.cell? ⟨g, 1, none⟩ = some (.int .i64 (p.2 : Nat)) := by
 obtain ⟨g2, e, _, _, _, h2, _⟩ := h.own.at_ (by omega)
 cases e
 exact h2 1 (by omega)
theorem AC.le {g cap : Nat} {p : Nat × Nat} (h : AC w g cap p) : 2 ≤ cap := h.own.le
theorem AC.keep {g cap : Nat} {p : Nat × Nat} (h : AC w g cap p) (hb : Below w.heap.size w w') : AC w' g cap p := ⟨h.own.keepB hb h.lt⟩
theorem OwnE.arc (h : OwnE w lo hi A c D) (hD : lists D = arI L) {k : Nat} (hk : k < L.length) : ∃ (b g cap : Nat), A = some ⟨b, 0, none⟩ ∧ b < w.heap.size ∧ w.cell? ⟨b, k, none⟩ = some (.slice (some ⟨g, 0, none⟩) 2 cap) ∧ lo ≤ g ∧ g < hi ∧ AC w g cap L[k] ∧ D[k]? = some (some ⟨g, 0, none⟩, cap, [((L[k]).1 : Int), ((L[k]).2 : Int)]) := by
 have hlen : D.length = L.length := by
  have := congrArg List.length hD
  unfold lists arI at this
  rwa [List.length_map, List.length_map] at this
 obtain ⟨b, e, _, _, hbw, hc, _⟩ := h.1.at_ (by omega)
 obtain ⟨d, hd1, hd2, hd3⟩ := dvs_at (D := D) (j := k) (by omega)
 have h3 := hc k (by omega)
 rw [hd3] at h3
 have hv : d.2.2 = [((L[k]).1 : Int), ((L[k]).2 : Int)] := by
  have e1 : (lists D)[k]? = some d.2.2 := by unfold lists; rw [List.getElem?_map, hd1]; rfl
  have e2 : (arI L)[k]? = some [((L[k]).1 : Int), ((L[k]).2 : Int)] := by unfold arI; rw [List.getElem?_map, List.getElem?_eq_getElem hk]; rfl
  rw [hD, e2] at e1
  exact (Option.some.inj e1).symm
 have ho := h.2 d hd2
 obtain ⟨a, cp, l⟩ := d
 simp only at hv
 subst hv
 have ho2 : Own w lo hi 3 1 a 2 cp (ii [((L[k]).1 : Int), ((L[k]).2 : Int)]) := ho
 obtain ⟨g, hg1, hg2, hg3, hg4⟩ := ho2.only (by omega)
 subst hg1
 exact ⟨b, g, cp, e, hbw, h3, hg2, hg3, ⟨hg4⟩, hd1⟩
theorem arI_len (hD : lists D = arI L) : D.length = L.length := by
 have := congrArg List.length hD
 unfold lists arI at this
 rwa [List.length_map, List.length_map] at this
theorem arI_snoc (hD : lists D = arI L) {d : Dsc} {p : Nat × Nat} (hd : d.2.2 = [(p.1 : Int), (p.2 : Int)]) : lists (D ++ [d]) = arI (L ++ [p]) := by
 unfold lists arI at hD ⊢
 rw [List.map_append, List.map_append, hD]
 simp [hd]
end
structure OC (lo hi : Nat) (w : World) (A : Option Addr) (c : Nat) (L : List (Nat × Nat)) : Prop where
 ex : ∃ D, OwnE w lo hi A c D ∧ lists D = arI L
 hi_le : hi ≤ w.heap.size
structure OB (P : Nat → Prop) (lo : Nat) (w : World) (g c : Nat) (L : List (Nat × Nat)) : Prop where
 ex : ∃ D, Own w g (g + 1) 24 1 (some ⟨g, 0, none⟩) D.length c (dvs D) ∧ lists D = arI L ∧ ∀ d ∈ D, ∃ k, d.1 = some ⟨k, 0, none⟩ ∧ lo ≤ k ∧ P k ∧ Own w k (k + 1) 3 1 d.1 d.2.2.length d.2.1 (ii d.2.2)
 l : lo ≤ g
section
variable {w w' : World} {lo hi lo' hi' B c g : Nat} {A : Option Addr} {L : List (Nat × Nat)} {p : Nat × Nat} {P P' : Nat → Prop}
theorem OC.keep (h : OC lo hi w A c L) (hb : Below w.heap.size w w') : OC lo hi w' A c L := by
 obtain ⟨D, h1, h2⟩ := h.ex
 exact ⟨⟨D, h1.keepB hb h.hi_le, h2⟩, Nat.le_trans h.hi_le hb.size⟩
theorem OC.keepF (h : OC lo hi w A c L) (hf : Fr g (g + 1) w w') (hg : g < lo ∨ hi ≤ g) : OC lo hi w' A c L := by
 obtain ⟨D, h1, h2⟩ := h.ex
 exact ⟨⟨D, h1.keep hf (by omega), h2⟩, Nat.le_trans h.hi_le hf.size⟩
theorem OC.mono (h : OC lo hi w A c L) (hl : lo' ≤ lo) : OC lo' hi w A c L := by
 obtain ⟨D, h1, h2⟩ := h.ex
 exact ⟨⟨D, h1.mono hl (Nat.le_refl _), h2⟩, h.hi_le⟩
theorem OC.le (h : OC lo hi w A c L) : L.length ≤ c := by
 obtain ⟨D, h1, h2⟩ := h.ex
 have := h1.1.le
 rwa [arI_len h2] at this
theorem OC.addr (h : OC lo hi w A c L) (hn : 0 < L.length) : ∃ b, A = some ⟨b, 0, none⟩ := by
 obtain ⟨D, h1, h2⟩ := h.ex
 obtain ⟨b, g, cap, e, _⟩ := h1.arc h2 hn
 exact ⟨b, e⟩
theorem OC.arc {b : Nat} (h : OC lo hi w (some ⟨b, 0, none⟩) c L) {k : Nat} (hk : k < L.length) : ∃ (g cap : Nat), w.cell? ⟨b, k, none⟩ = some (.slice (some ⟨g, 0, none⟩) 2 cap) ∧ (lo ≤ g ∧ g < hi) ∧ AC w g cap L[k] := by
 obtain ⟨D, h1, h2⟩ := h.ex
 obtain ⟨b2, g, cap, e, _, h3, h4, h5, h6, _⟩ := h1.arc h2 hk
 cases e
 exact ⟨g, cap, h3, ⟨h4, h5⟩, h6⟩
theorem AC.new (w : World) (u v : Nat) : AC (w.alloc (Obj.cells #[Value.int .i64 (u : Int), Value.int .i64 (v : Int)] 3)) w.heap.size 2 (u, v) := ⟨pair_own w w.heap.size (Nat.le_refl _) _ _⟩
theorem OB.lt (h : OB P lo w g c L) : g < w.heap.size := by
 obtain ⟨D, h1, _⟩ := h.ex
 rcases h1 with ⟨e, _⟩ | ⟨g2, cur, e, _, _, k4, _⟩
 ·cases e
 ·cases e
  exact (Array.getElem?_eq_some_iff.1 k4).1
theorem OB.keep (h : OB P lo w g c L) (hb : Below w.heap.size w w') : OB P lo w' g c L := by
 obtain ⟨D, h1, h2, h3⟩ := h.ex
 refine ⟨⟨D, h1.keepB hb h.lt, h2, fun d hd => ?_⟩, h.l⟩
 obtain ⟨k, k1, k2, k3, k4⟩ := h3 d hd
 refine ⟨k, k1, k2, k3, ?_⟩
 rcases k4 with ⟨e, _⟩ | ⟨g2, cur, e, a1, a2, a4, r⟩
 ·rw [k1] at e; cases e
 ·rw [k1] at e
  cases e
  exact .inr ⟨k, cur, k1, a1, a2, (hb.block k (Array.getElem?_eq_some_iff.1 a4).1).trans a4, r⟩
theorem OB.imp (h : OB P lo w g c L) (hP : ∀ k, k < w.heap.size → P k → P' k) : OB P' lo w g c L := by
 obtain ⟨D, h1, h2, h3⟩ := h.ex
 refine ⟨⟨D, h1, h2, fun d hd => ?_⟩, h.l⟩
 obtain ⟨k, k1, k2, k3, k4⟩ := h3 d hd
 refine ⟨k, k1, k2, hP k ?_ k3, k4⟩
 rcases k4 with ⟨e, _⟩ | ⟨g2, cur, e, a1, a2, a4, r⟩
 ·rw [k1] at e; cases e
 ·rw [k1] at e
  cases e
  exact (Array.getElem?_eq_some_iff.1 a4).1
theorem OB.keepF {k : Nat} (h : OB P lo w g c L) (hf : Fr k (k + 1) w w') (hg : g ≠ k) (hP : ∀ j, P j → j ≠ k) : OB P lo w' g c L := by
 obtain ⟨D, h1, h2, h3⟩ := h.ex
 refine ⟨⟨D, h1.keep hf (by omega), h2, fun d hd => ?_⟩, h.l⟩
 obtain ⟨j, k1, k2, k3, k4⟩ := h3 d hd
 have := hP j k3
 exact ⟨j, k1, k2, k3, k4.keep hf (by omega)⟩
theorem OB.oc (h : OB P lo w g c L) : OC lo w.heap.size w (some ⟨g, 0, none⟩) c L := by
 have hlt := h.lt
 have hl := h.l
 obtain ⟨D, h1, h2, h3⟩ := h.ex
 refine ⟨⟨D, ⟨h1.mono hl hlt, fun d hd => ?_⟩, h2⟩, Nat.le_refl _⟩
 obtain ⟨k, k1, k2, k3, k4⟩ := h3 d hd
 exact k4.lt.mono k2 (Nat.min_le_right _ _)
theorem OB.nil (w : World) (h : lo ≤ w.heap.size) : OB P lo (w.alloc (Obj.cells #[] 24)) w.heap.size 0 [] :=
 ⟨⟨[], .inr ⟨w.heap.size, #[], rfl, Nat.le_refl _, Nat.lt_succ_self _, heap_alloc_new w _, Nat.le_refl _, by unfold maxLen; omega, rfl, fun j hj => absurd hj (by simp)⟩, rfl, fun d hd => by cases hd⟩, h⟩
theorem OB.one (w : World) (u v : Nat) (h : lo ≤ w.heap.size) (hP : P w.heap.size) : OB P lo ((w.alloc (Obj.cells #[.int .i64 (u : Int), .int .i64 (v : Int)] 3)).alloc (Obj.cells #[.slice (some ⟨w.heap.size, 0, none⟩) 2 2] 24)) (w.heap.size + 1) 1 [(u, v)] := by
 have hz : (w.alloc (Obj.cells #[Value.int .i64 (u : Int), Value.int .i64 (v : Int)] 3)).heap.size = w.heap.size + 1 := by simp
 have hn := heap_alloc_new (w.alloc (Obj.cells #[Value.int .i64 (u : Int), Value.int .i64 (v : Int)] 3)) (Obj.cells #[.slice (some ⟨w.heap.size, 0, none⟩) 2 2] 24)
 rw [hz] at hn
 refine ⟨⟨[(some ⟨w.heap.size, 0, none⟩, 2, [(u : Int), (v : Int)])], .inr ⟨w.heap.size + 1, _, rfl, Nat.le_refl _, Nat.lt_succ_self _, hn, Nat.le_refl _, by unfold maxLen; omega, rfl, fun j hj => ?_⟩, rfl, fun d hd => ?_⟩, by omega⟩
 ·have h0 : j = 0 := by simp at hj; omega
  subst h0
  rfl
 ·rw [List.mem_singleton] at hd
  subst hd
  exact ⟨w.heap.size, rfl, h, hP, (pair_own w w.heap.size (Nat.le_refl _) _ _).alloc _⟩
theorem OB.ints {lo5 hi5 n5 c5 : Nat} {A5 : Option Addr} {x5 : Nat → Value} (h : OB P lo w g c L) (hf : Fr g (g + 1) w w') (h5 : Own w lo5 hi5 3 1 A5 n5 c5 x5) : Own w' lo5 hi5 3 1 A5 n5 c5 x5 := by
 obtain ⟨D, h1, _⟩ := h.ex
 refine h5.keep1 hf fun e => ?_
 exact h1.types h5 (by decide) rfl e
theorem OB.push {d : Dsc} {w1 : World} {g' cap k : Nat} (h : OB P lo w g c L) (hk : d.1 = some ⟨k, 0, none⟩) (hl : lo ≤ k) (hPk : P k) (hd : Own w k (k + 1) 3 1 d.1 d.2.2.length d.2.1 (ii d.2.2)) (hv : d.2.2 = [(p.1 : Int), (p.2 : Int)])
 (hp : ∀ D, D.length = L.length → lists D = arI L → Own w g (g + 1) 24 1 (some ⟨g, 0, none⟩) D.length c (dvs D) → Own w1 g' (g' + 1) 24 1 (some ⟨g', 0, none⟩) (D.length + 1) cap (dvs (D ++ [d]))) (hf : Fr g (g + 1) w w1) (hg' : lo ≤ g') : OB P lo w1 g' cap (L ++ [p]) := by
 obtain ⟨D, h1, h2, h3⟩ := h.ex
 refine ⟨⟨D ++ [d], by rw [List.length_append]; exact hp D (arI_len h2) h2 h1, arI_snoc h2 hv, fun e he => ?_⟩, hg'⟩
 rw [List.mem_append, List.mem_singleton] at he
 rcases he with he | rfl
 ·obtain ⟨j, k1, k2, k3, k4⟩ := h3 e he
  exact ⟨j, k1, k2, k3, h.ints hf k4⟩
 ·exact ⟨k, hk, hl, hPk, h.ints hf hd⟩
theorem AC.keepO {k cap : Nat} {P : Nat → Prop} (h : AC w k cap p) (ho : OB P lo w g c L) (hf : Fr g (g + 1) w w') : AC w' k cap p := ⟨ho.ints hf h.own⟩
theorem ON.keepO {lo5 c5 : Nat} {A5 : Option Addr} {l : List Nat} (h : ON lo5 w A5 c5 l) (ho : OB P lo w g c L) (hf : Fr g (g + 1) w w') : ON lo5 w' A5 c5 l := ⟨(ho.ints hf h.own).mono (Nat.le_refl _) hf.size⟩
end
theorem wpList_pushO (W : World) {ops : Array Oper} {rest : List Oper} {o : Oper} {a : Act} {Q : Exit → Act → World → Prop} (hgd : o.guard = none) (s y : Operand)
 (ho : o.op = .call { callee := .builtin .append, args := #[s, y], argTypes := #[65, 65] })
 (P : Nat → Prop) (lo g c : Nat) (L : List (Nat × Nat)) (h : OB P lo W g c L) (p : Nat × Nat) (g0 cap0 : Nat) (hp : AC W g0 cap0 p) (hg0 : lo ≤ g0) (hP : P g0) (hs : a.eval s = .slice (some ⟨g, 0, none⟩) L.length c) (cx H : Nat) (hH : W.heap.size = H) (hy : a.eval y = .slice (some ⟨H, 0, none⟩) 1 cx)
 (hn : L.length ≤ 1073741824)
 (hK : ∀ g' cap w', OB P lo w' g' cap (L ++ [p]) → (g' = g ∨ W.heap.size < g') → Fr g (g + 1) W w' → wpList Tryz.prog ops Q rest (a.put o.dst (.slice (some ⟨g', 0, none⟩) (L.length + 1) cap)) w') :
 wpList Tryz.prog ops Q (o :: rest) a (W.alloc (Obj.cells #[.slice (some ⟨g0, 0, none⟩) 2 cap0] 24)) := by
 subst hH
 have hlt := h.lt
 have hll := h.l
 have ha : OB P lo (W.alloc (Obj.cells #[.slice (some ⟨g0, 0, none⟩) 2 cap0] 24)) g c L := h.keep ((Below.refl _ _).alloc (Nat.le_refl _) _)
 obtain ⟨D, h1, h2, h3⟩ := ha.ex
 have hlen := arI_len h2
 refine wpList_push (W.alloc (Obj.cells #[.slice (some ⟨g0, 0, none⟩) 2 cap0] 24)) hgd s y 65 ho 24 (.slice none 0 0) 1 24 Tryz.underlying65 info_ints rfl (by omega) g (g + 1) (some ⟨g, 0, none⟩) D.length c (dvs (D ++ [(some ⟨g0, 0, none⟩, cap0, [(p.1 : Int), (p.2 : Int)])])) (by rw [hlen]; exact hs)
  (h1.congr (fun j hj => (dvs_left (by omega)).symm)) (by simp; omega) W.heap.size #[.slice (some ⟨g0, 0, none⟩) 2 cap0] 24 (0, 0) cx (heap_alloc_new W _) hy rfl ?_ (by intro u hu; simp at hu; subst hu; rfl) (by omega) (by omega) ?_
 ·intro j hj
  obtain rfl : j = 0 := by omega
  rw [show D.length * 1 + 0 = D.length by omega, dvs_last]; rfl
 ·intro g' cap w' hpu
  obtain ⟨k1, k2, k3, k4⟩ := hpu.caged
  rw [hlen]
  have hf : Fr g (g + 1) W w' := ((Fr.refl g (g + 1) W).alloc _).trans k4
  have hsz : (W.alloc (Obj.cells #[.slice (some ⟨g0, 0, none⟩) 2 cap0] 24)).heap.size = W.heap.size + 1 := by simp
  refine hK g' cap w' ?_ (k2.imp id (fun e => by omega)) hf
  refine ⟨⟨D ++ [(some ⟨g0, 0, none⟩, cap0, [(p.1 : Int), (p.2 : Int)])], by rw [List.length_append]; exact k1, arI_snoc h2 rfl, fun e he => ?_⟩, by omega⟩
  rw [List.mem_append, List.mem_singleton] at he
  rcases he with he | rfl
  ·obtain ⟨j, j1, j2, j3, j4⟩ := h3 e he
   exact ⟨j, j1, j2, j3, ha.ints k4 j4⟩
  ·exact ⟨g0, rfl, hg0, hP, h.ints hf hp.own⟩
theorem wpList_pushNa (W : World) {ops : Array Oper} {rest : List Oper} {o : Oper} {a : Act} {Q : Exit → Act → World → Prop} (hgd : o.guard = none) (s y : Operand)
 (ho : o.op = .call { callee := .builtin .append, args := #[s, y], argTypes := #[65, 65] })
 (P : Nat → Prop) (lo g c : Nat) (L : List (Nat × Nat)) (h : OB P lo W g c L) (u v : Nat) (hP : P W.heap.size) (hs : a.eval s = .slice (some ⟨g, 0, none⟩) L.length c) (cx H : Nat) (hH : W.heap.size + 1 = H) (hy : a.eval y = .slice (some ⟨H, 0, none⟩) 1 cx)
 (hn : L.length ≤ 1073741824)
 (hK : ∀ g' cap w', OB P lo w' g' cap (L ++ [(u, v)]) → (g' = g ∨ W.heap.size < g') → Fr g (g + 1) W w' → wpList Tryz.prog ops Q rest (a.put o.dst (.slice (some ⟨g', 0, none⟩) (L.length + 1) cap)) w') :
 wpList Tryz.prog ops Q (o :: rest) a ((W.alloc (Obj.cells #[.int .i64 (u : Int), .int .i64 (v : Int)] 3)).alloc (Obj.cells #[.slice (some ⟨W.heap.size, 0, none⟩) 2 2] 24)) := by
 have hlt := h.lt
 have hll := h.l
 refine wpList_pushO _ hgd s y ho P lo g c L (h.keep ((Below.refl _ _).alloc (Nat.le_refl _) _)) (u, v) W.heap.size 2 (AC.new W u v) (by omega) hP hs cx H (by simpa using hH) hy hn ?_
 intro g' cap w' h3 h4 h5
 refine hK g' cap w' h3 (h4.imp id (fun e => by simp at e; omega)) (((Fr.refl g (g + 1) W).alloc _).trans h5)
end Go.Proofs.YtfabbohijhjpcaaGreatDoor
