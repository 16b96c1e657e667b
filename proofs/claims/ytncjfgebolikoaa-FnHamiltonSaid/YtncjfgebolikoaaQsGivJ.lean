/-
  Several texts in one.
-/
import Derived.Test.YtncjfgebolikoaaQsLater
import Derived.Test.YtncjfgebolikoaaQsGB
import Derived.Test.YtncjfgebolikoaaQsGA
import Derived.Test.YtncjfgebolikoaaQsGivP
/-
  Plain: first and last place of each vertex in a list of sets; two lists of a call's own at two places.
-/
namespace Go.Proofs.Ytncjfgebolikoaa
open Go.RowKit

/-- Two lists of the call's own at two places, each perhaps without a block. -/
structure TwoN (w : World) (lo : Nat) (A1 : Option Addr) (c1 : Nat) (T : List Nat) (A2 : Option Addr) (c2 : Nat) (U : List Nat) : Prop where
  o1 : Own w lo w.heap.size 3 1 A1 T.length c1 (ni T)
  o2 : Own w lo w.heap.size 3 1 A2 U.length c2 (ni U)
  ne : ∀ a, A1 = some a → A2 ≠ some a
section
variable {w w' : World} {lo c1 c2 : Nat} {A1 A2 : Option Addr} {T U : List Nat}
theorem TwoN.nil (w : World) (lo : Nat) : TwoN w lo none 0 [] none 0 [] := ⟨Own.nil _ _ _ _ _ _, Own.nil _ _ _ _ _ _, fun a h => (by cases h)⟩
theorem TwoN.keep (h : TwoN w lo A1 c1 T A2 c2 U) (hb : Below w.heap.size w w') : TwoN w' lo A1 c1 T A2 c2 U :=
  ⟨(h.o1.keepB hb (Nat.le_refl _)).mono (Nat.le_refl _) hb.size, (h.o2.keepB hb (Nat.le_refl _)).mono (Nat.le_refl _) hb.size, h.ne⟩
theorem TwoN.keepF {a b : Nat} (h : TwoN w lo A1 c1 T A2 c2 U) (hf : Fr a b w w') (hq : b ≤ lo) : TwoN w' lo A1 c1 T A2 c2 U :=
  ⟨(h.o1.keep hf (.inr hq)).mono (Nat.le_refl _) hf.size, (h.o2.keep hf (.inr hq)).mono (Nat.le_refl _) hf.size, h.ne⟩
theorem TwoN.mono {lo' : Nat} (h : TwoN w lo A1 c1 T A2 c2 U) (hl : lo' ≤ lo) : TwoN w lo' A1 c1 T A2 c2 U := ⟨h.o1.mono hl (Nat.le_refl _), h.o2.mono hl (Nat.le_refl _), h.ne⟩
theorem TwoN.alloc (h : TwoN w lo A1 c1 T A2 c2 U) (o : Obj) : TwoN (w.alloc o) lo A1 c1 T A2 c2 U := h.keep ((Below.refl _ _).alloc (Nat.le_refl _) _)
theorem TwoN.drew (h : TwoN w lo A1 c1 T A2 c2 U) : TwoN w.drew lo A1 c1 T A2 c2 U := ⟨h.o1, h.o2, h.ne⟩
/-- A block that was made later is not that of the list. -/
theorem TwoN.other {W : World} {n k : Nat} (h : TwoN w lo A1 c1 T A2 c2 U) (hg : W.grownBy w' (Value.slice A1 n c1).ownBlock) (hk : w.heap.size ≤ k) (hk2 : k < W.heap.size) : w'.heap[k]? = W.heap[k]? := by
  refine hg.block k hk2 ?_
  rcases h.o1.at_block with e | ⟨g, e, _, hlt⟩
  · subst e; simp [Value.ownBlock]
  · subst e; simp [Value.ownBlock]; omega
theorem TwoN.swap (h : TwoN w lo A1 c1 T A2 c2 U) : TwoN w lo A2 c2 U A1 c1 T := ⟨h.o2, h.o1, fun a h2 h1 => h.ne a h1 h2⟩
theorem TwoN.grow {n c A' T' : _} (h : TwoN w lo A1 c1 T A2 c2 U) (h1 : Own w' lo w'.heap.size 3 1 A' (List.length T') c (ni T')) (hg : w.grownBy w' (Value.slice A1 n c1).ownBlock) (hat : (Value.slice A' n c).ownBlock = (Value.slice A1 n c1).ownBlock ∨ (Value.slice A' n c).ownBlock = some w.heap.size) : TwoN w' lo A' c T' A2 c2 U := by
  have hnew : A2 ≠ some ⟨w.heap.size, 0, none⟩ := fun e => by
    rcases h.o2.at_block with h' | ⟨g', h', _, hlt⟩
    · rw [h'] at e; cases e
    · rw [h'] at e
      simp only [Option.some.injEq, Addr.mk.injEq, and_true] at e
      omega
  have h2 : Own w' lo w'.heap.size 3 1 A2 U.length c2 (ni U) := by
    rcases h.o1 with ⟨e1, _, _⟩ | ⟨g0, cur, e1, _, _, _⟩
    · subst e1
      have hb : Below w.heap.size w w' := ⟨hg.os, hg.tape, hg.output, hg.size, fun k hk => hg.block k hk (by simp [Value.ownBlock])⟩
      exact (h.o2.keepB hb (Nat.le_refl _)).mono (Nat.le_refl _) hb.size
    · subst e1
      have hf : Fr g0 (g0 + 1) w w' := ⟨hg.os, hg.tape, hg.output, hg.size, fun k hk ho => hg.block k hk (by simp [Value.ownBlock]; omega)⟩
      exact (h.o2.keep1 hf (h.ne _ rfl)).mono (Nat.le_refl _) hf.size
  refine ⟨h1, h2, fun a e => ?_⟩
  rcases h1.at_block with h' | ⟨g, h', _, _⟩
  · rw [h'] at e; cases e
  · rw [h'] at e
    obtain rfl := Option.some.inj e
    rw [h'] at hat
    rcases hat with hat | hat
    · rcases h.o1 with ⟨e1, _, _⟩ | ⟨g0, cur, e1, _, _, _⟩
      · subst e1; simp [Value.ownBlock] at hat
      · subst e1
        simp [Value.ownBlock] at hat
        rw [hat]
        exact h.ne _ rfl
    · simp [Value.ownBlock] at hat
      rw [hat]
      exact hnew
theorem TwoN.push (h : TwoN w lo A1 c1 T A2 c2 U) {v g cap : Nat} (hp : Pushed w w' lo 3 1 A1 T.length c1 (ni (T ++ [v])) g cap) : TwoN w' lo (some ⟨g, 0, none⟩) cap (T ++ [v]) A2 c2 U := by
  refine h.grow (n := T.length) (by rw [List.length_append]; exact hp.own) hp.grown ?_
  rcases hp.at_ with h' | h'
  · exact .inl (by rw [h']; simp [Value.ownBlock])
  · exact .inr (by rw [h']; simp [Value.ownBlock])
end
section
variable {ops : Array Oper} {o : Oper} {a : Act} {K : Act → World → Prop} {Q : Exit → Act → World → Prop} {E : Prop} {lo c1 c2 : Nat} {A1 A2 : Option Addr} {T U : List Nat}
theorem step_twoN (W : World) (hgd : o.guard = none) (s y : Operand)
    (ho : o.op = .call { callee := .builtin .append, args := #[s, y], argTypes := #[24, 24] })
    (hT : TwoN W lo A1 c1 T A2 c2 U) (hlo : lo ≤ W.heap.size) (hs : a.eval s = .slice A1 T.length c1)
    (B cx v : Nat) (hy : a.eval y = .slice (some ⟨B, 0, none⟩) 1 cx) (hB : W.heap[B]? = some (.cells #[.int .i64 (v : Int)] 3 (0, 0))) (hn : T.length ≤ 1073741824)
    (hK : ∀ g' cap w', TwoN w' lo (some ⟨g', 0, none⟩) cap (T ++ [v]) A2 c2 U → Below lo W w' → W.grownBy w' (Value.slice A1 T.length c1).ownBlock → K (a.put o.dst (.slice (some ⟨g', 0, none⟩) (T.length + 1) cap)) w') :
    if Region.wanted o (yielded ops a.tmps) = true then Oper.wp Try.prog o a W K Q else E :=
  step_push W hgd s y 24 ho 3 _ 1 8 Try.underlying24 info_int rfl (by omega) lo W.heap.size A1 T.length c1 (ni (T ++ [v])) hs (hT.o1.congr (fun j hj => (ni_left (by omega)).symm)) hlo B #[.int .i64 (v : Int)] 3 (0, 0) cx hB hy rfl ni_news (by simp [Value.oneCell']) hn (by omega) fun g' cap w' hp => hK g' cap w' (hT.push hp) hp.below hp.grown
theorem wpList_twoN (W : World) {rest : List Oper} {Qx : Exit → Act → World → Prop} (hgd : o.guard = none) (s y : Operand)
    (ho : o.op = .call { callee := .builtin .append, args := #[s, y], argTypes := #[24, 24] })
    (hT : TwoN W lo A1 c1 T A2 c2 U) (hlo : lo ≤ W.heap.size) (hs : a.eval s = .slice A1 T.length c1)
    (B cx v : Nat) (hy : a.eval y = .slice (some ⟨B, 0, none⟩) 1 cx) (hB : W.heap[B]? = some (.cells #[.int .i64 (v : Int)] 3 (0, 0))) (hn : T.length ≤ 1073741824)
    (hK : ∀ g' cap w', TwoN w' lo (some ⟨g', 0, none⟩) cap (T ++ [v]) A2 c2 U → Below lo W w' → wpList Try.prog ops Qx rest (a.put o.dst (.slice (some ⟨g', 0, none⟩) (T.length + 1) cap)) w') :
    wpList Try.prog ops Qx (o :: rest) a W :=
  wpList_push W hgd s y 24 ho 3 _ 1 8 Try.underlying24 info_int rfl (by omega) lo W.heap.size A1 T.length c1 (ni (T ++ [v])) hs (hT.o1.congr (fun j hj => (ni_left (by omega)).symm)) hlo B #[.int .i64 (v : Int)] 3 (0, 0) cx hB hy rfl ni_news (by simp [Value.oneCell']) hn (by omega) fun g' cap w' hp => hK g' cap w' (hT.push hp) hp.below
end

/-- Two slices in a box that may be written. -/
structure MB (w : World) (q : Nat) (A1 : Option Addr) (n1 c1 : Nat) (A2 : Option Addr) (n2 c2 : Nat) : Prop where
  c0 : w.cell? ⟨q, 0, none⟩ = some (.slice A1 n1 c1)
  c1 : w.cell? ⟨q, 1, none⟩ = some (.slice A2 n2 c2)
  f0 : w.frozen? ⟨q, 0, none⟩ = false
  f1 : w.frozen? ⟨q, 1, none⟩ = false
section
variable {w w' : World} {q n1 c1 n2 c2 m1 d1 m2 d2 lo hi : Nat} {A1 A2 B1 B2 : Option Addr}
theorem MB.lt (h : MB w q A1 n1 c1 A2 n2 c2) : q < w.heap.size := World.block_lt_of_cell? _ _ h.c0
theorem MB.keep (h : MB w q A1 n1 c1 A2 n2 c2) (hb : Below w.heap.size w w') : MB w' q A1 n1 c1 A2 n2 c2 := ⟨up hb h.c0 h.lt, up hb h.c1 h.lt, upf hb h.f0 h.lt, upf hb h.f1 h.lt⟩
theorem MB.keepB {B : Nat} (h : MB w q A1 n1 c1 A2 n2 c2) (hb : Below B w w') (hq : q < B) : MB w' q A1 n1 c1 A2 n2 c2 := ⟨up hb h.c0 hq, up hb h.c1 hq, upf hb h.f0 hq, upf hb h.f1 hq⟩
theorem MB.new (w : World) : MB (w.alloc (Obj.cells #[Value.slice none 0 0, Value.slice none 0 0] 54)) w.heap.size none 0 0 none 0 0 := by constructor <;> simp [go_sem]
theorem MB.set (h : MB w q A1 n1 c1 A2 n2 c2) : MB ((w.setCell ⟨q, 0, none⟩ (.slice B1 m1 d1)).setCell ⟨q, 1, none⟩ (.slice B2 m2 d2)) q B1 m1 d1 B2 m2 d2 := by
  have h0 := h.c0
  have h1 := h.c1
  have h2 := h.f0
  have h3 := h.f1
  constructor <;> simp [go_sem, h0, h1, h2, h3]
theorem MB.drew (h : MB w q A1 n1 c1 A2 n2 c2) : MB w.drew q A1 n1 c1 A2 n2 c2 := ⟨h.c0, h.c1, h.f0, h.f1⟩
end

theorem MB.set0 {w : World} {q n1 c1 n2 c2 m1 d1 : Nat} {A1 A2 B1 : Option Addr} (h : MB w q A1 n1 c1 A2 n2 c2) : MB (w.setCell ⟨q, 0, none⟩ (.slice B1 m1 d1)) q B1 m1 d1 A2 n2 c2 := by
  have h0 := h.c0
  have h1 := h.c1
  have h2 := h.f0
  have h3 := h.f1
  constructor <;> simp [go_sem, h0, h1, h2, h3]
theorem MB.set1 {w : World} {q n1 c1 n2 c2 m1 d1 : Nat} {A1 A2 B1 : Option Addr} (h : MB w q A1 n1 c1 A2 n2 c2) : MB (w.setCell ⟨q, 1, none⟩ (.slice B1 m1 d1)) q A1 n1 c1 B1 m1 d1 := by
  have h0 := h.c0
  have h1 := h.c1
  have h2 := h.f0
  have h3 := h.f1
  constructor <;> simp [go_sem, h0, h1, h2, h3]
theorem frOne (w : World) (q j : Nat) (x : Value) : Fr q (q + 1) w (w.setCell ⟨q, j, none⟩ x) := (Fr.refl _ _ w).setCell (p := ⟨q, j, none⟩) (Nat.le_refl _) (Nat.lt_succ_self _) _

end Go.Proofs.Ytncjfgebolikoaa

/-
  Contracts: a graph made pair by pair, whatever joins: the program's.
-/
namespace Go.Proofs.Ytncjfgebolikoaa
open Go.RowKit

/-- Do the intervals of v and u meet? -/
def jnB (L R : List Int) (v u : Nat) : Bool := decide (L.getD v 0 ≤ R.getD u 0) && decide (L.getD u 0 ≤ R.getD v 0)
end Go.Proofs.Ytncjfgebolikoaa

/-
  Contracts: the graph of intervals; are intervals a model of a graph? The program's.
-/
namespace Go.Proofs.Ytncjfgebolikoaa
open Go.RowKit

/-- The rows of the graph of intervals. -/
def ivR (L R : List Int) (j : Nat) : Nat := grS (jnB L R) L.length L.length 0 j
end Go.Proofs.Ytncjfgebolikoaa
