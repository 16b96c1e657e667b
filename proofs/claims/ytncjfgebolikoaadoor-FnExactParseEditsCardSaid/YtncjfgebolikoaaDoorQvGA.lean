/-
  Several texts in one: words for memory, plain laws and contracts that the later texts lean on.
-/
import Derived.WalkKit
import Derived.WalkSpells
import Derived.WalkLawsBesides
import Derived.Lib.Hide
import Derived.Deep.OwnRows
import Derived.Deep.AppendLies
import Derived.Deep.RegionHeld3
import Derived.Test.YtncjfgebolikoaaDoorRows
import Derived.Deep.QuietTactic
import Derived.BigQuiet
import Derived.Deep.DeepCutAuto
import Derived.Deep.RegionWith
import Derived.Outline
/-
  Small words for memory and for bits, over no program: a slice that reads as so many numbers, what lies below a block, bits of numbers that are not negative.
-/
namespace Go.Proofs.YtncjfgebolikoaaDoor
open Go.RowKit

theorem ret_bool {a b : Bool} (h : a = b) : Ending.returned (.bool a) = .returned (.bool b) := by rw [h]
theorem ret_int {k : IntKind} {a b : Int} (h : a = b) : Ending.returned (.int k a) = .returned (.int k b) := by rw [h]

/-- The slice value '.slice A n c' reads as the numbers x 0, .., x (n - 1), in blocks below B. -/
def Rd (w : World) (B : Nat) (A : Option Addr) (n c : Nat) (x : Nat → Int) : Prop :=
  n ≤ c ∧ (0 < n → ∃ b o, A = some ⟨b, o, none⟩ ∧ b < B ∧ ∀ k, k < n → w.cell? ⟨b, o + k, none⟩ = some (.int .i64 (x k)))

theorem Rd.le {w : World} {B : Nat} {A : Option Addr} {n c : Nat} {x : Nat → Int} (h : Rd w B A n c x) : n ≤ c := h.1
theorem Rd.keep {w w' : World} {B B' : Nat} {A : Option Addr} {n c : Nat} {x : Nat → Int} (h : Rd w B A n c x) (hb : Below B w w') (hB : B ≤ B') : Rd w' B' A n c x := by
  refine ⟨h.1, fun hn => ?_⟩
  obtain ⟨b, o, e, hlt, hc⟩ := h.2 hn
  exact ⟨b, o, e, by omega, fun k hk => (hb.cell (p := ⟨b, o + k, none⟩) hlt).trans (hc k hk)⟩
theorem Rd.nil (w : World) (B : Nat) (A : Option Addr) (c : Nat) (x : Nat → Int) : Rd w B A 0 c x := ⟨Nat.zero_le _, fun h => absurd h (by omega)⟩
theorem Rd.congr {w : World} {B : Nat} {A : Option Addr} {n c : Nat} {x y : Nat → Int} (h : Rd w B A n c x) (he : ∀ k, k < n → x k = y k) : Rd w B A n c y :=
  ⟨h.1, fun hn => by
    obtain ⟨b, o, e, hlt, hc⟩ := h.2 hn
    exact ⟨b, o, e, hlt, fun k hk => by rw [← he k hk]; exact hc k hk⟩⟩

/-! ### bits -/
end Go.Proofs.YtncjfgebolikoaaDoor

/-
  The operations on bits of an int, where both numbers are small and not negative; over no program.
-/
namespace Go.Proofs.YtncjfgebolikoaaDoor
open Go.RowKit

theorem up {B b o : Nat} {W w1 : World} {v : Value} (hb : Below B W w1) (e : W.cell? ⟨b, o, none⟩ = some v) (h : b < B) : w1.cell? ⟨b, o, none⟩ = some v := (hb.cell (p := ⟨b, o, none⟩) h).trans e
end Go.Proofs.YtncjfgebolikoaaDoor

/-
  Graphs of at most seven vertices as plain functions: no program in sight.
-/
namespace Go.Proofs.YtncjfgebolikoaaDoor

end Go.Proofs.YtncjfgebolikoaaDoor

/-
  Plain: a graph and one edge more.
-/
namespace Go.Proofs.YtncjfgebolikoaaDoor

end Go.Proofs.YtncjfgebolikoaaDoor

/-
  Plain: sets of at most seven vertices as numbers; cliques; the elimination of simplicial vertices.
-/
namespace Go.Proofs.YtncjfgebolikoaaDoor

end Go.Proofs.YtncjfgebolikoaaDoor

/-
  Plain: the parts of a set of vertices; a witness against toughness.
-/
namespace Go.Proofs.YtncjfgebolikoaaDoor

/-! ### growing within what is left -/
/-! ### the witness -/
end Go.Proofs.YtncjfgebolikoaaDoor

/-
  Plain: the least set with fewest, the least set with most vertices for which something holds.
-/
namespace Go.Proofs.YtncjfgebolikoaaDoor

end Go.Proofs.YtncjfgebolikoaaDoor

/-
  Plain: the search for a way through all vertices.
-/
namespace Go.Proofs.YtncjfgebolikoaaDoor

def edg (r : Nat → Nat) (a b : Nat) : Bool := (r a).testBit b
/-- May v be set behind l? -/
def cnd (r : Nat → Nat) (closed : Bool) (l : List Nat) (v : Nat) : Bool := !l.contains v && (match l.getLast? with | none => !closed || v == 0 | some a => edg r a v)
def fin_ (r : Nat → Nat) (closed : Bool) (l : List Nat) : Bool := !closed || edg r (l.getLastD 0) (l.headD 0)
def sea (r : Nat → Nat) (m : Nat) (closed : Bool) : Nat → List Nat → Option (List Nat)
  | 0, l => if fin_ r closed l = true then some l else none
  | k + 1, l => (List.range m).findSome? fun v => if cnd r closed l v = true then sea r m closed k (l ++ [v]) else none
/-- What the search does at one vertex. -/
def at_ (r : Nat → Nat) (m : Nat) (closed : Bool) (k : Nat) (l : List Nat) (v : Nat) : Option (List Nat) := if cnd r closed l v = true then sea r m closed k (l ++ [v]) else none
end Go.Proofs.YtncjfgebolikoaaDoor

/-
  Words for memory, over no program: what lies outside a range of blocks is as it was; a slice of the call's own whose cells are known; a slice that is only read.
-/
namespace Go.Proofs.YtncjfgebolikoaaDoor
open Go.RowKit

/-- Outside the blocks lo, .., hi - 1 the world w' is as w was. -/
structure Fr (lo hi : Nat) (w w' : World) : Prop where
  os : w'.os = w.os
  tape : w'.tape = w.tape
  output : w'.output = w.output
  size : w.heap.size ≤ w'.heap.size
  block : ∀ k, k < w.heap.size → (k < lo ∨ hi ≤ k) → w'.heap[k]? = w.heap[k]?

section
variable {lo hi B : Nat} {w w' w'' : World}
theorem Fr.refl (lo hi : Nat) (w : World) : Fr lo hi w w := ⟨rfl, rfl, rfl, Nat.le_refl _, fun _ _ _ => rfl⟩
theorem Fr.trans (h : Fr lo hi w w') (k : Fr lo hi w' w'') : Fr lo hi w w'' :=
  ⟨k.os.trans h.os, k.tape.trans h.tape, k.output.trans h.output, Nat.le_trans h.size k.size, fun i hi ho => (k.block i (Nat.lt_of_lt_of_le hi h.size) ho).trans (h.block i hi ho)⟩
theorem Fr.drew (h : Fr lo hi w w') : Fr lo hi w w'.drew := ⟨h.os, h.tape, h.output, h.size, h.block⟩
theorem Fr.drewN (h : Fr lo hi w w') (n : Nat) : Fr lo hi w (w'.drewN n) := ⟨h.os, h.tape, h.output, h.size, h.block⟩
theorem Fr.alloc (h : Fr lo hi w w') (o : Obj) : Fr lo hi w (w'.alloc o) :=
  ⟨h.os, h.tape, h.output, by have := h.size; simp; omega, fun k hk ho => (Below.heap_alloc w' o k (Nat.lt_of_lt_of_le hk h.size)).trans (h.block k hk ho)⟩
theorem Fr.setCell (h : Fr lo hi w w') {p : Addr} (hp : lo ≤ p.block) (hq : p.block < hi) (u : Value) : Fr lo hi w (w'.setCell p u) :=
  ⟨h.os, h.tape, h.output, by have := h.size; simpa [World.setCell] using this, fun k hk ho => (Below.heap_setCell w' p u k (by omega)).trans (h.block k hk ho)⟩
theorem Fr.below (h : Fr lo hi w w') (hB : B ≤ lo) (hw : B ≤ w.heap.size) : Below B w w' := ⟨h.os, h.tape, h.output, h.size, fun k hk => h.block k (by omega) (by omega)⟩
theorem Fr.cell (h : Fr lo hi w w') {p : Addr} (hp : p.block < w.heap.size) (ho : p.block < lo ∨ hi ≤ p.block) : w'.cell? p = w.cell? p := World.cell?_of_block (h.block _ hp ho)
theorem Fr.mono {lo' hi' : Nat} (h : Fr lo hi w w') (h1 : lo' ≤ lo) (h2 : hi ≤ hi') : Fr lo' hi' w w' := ⟨h.os, h.tape, h.output, h.size, fun k hk ho => h.block k hk (by omega)⟩
theorem below_drewN {a : World} (h : Below B a w) (n : Nat) : Below B a (w.drewN n) := ⟨h.os, h.tape, h.output, h.size, h.block⟩
end

/-- The slice value '.slice A n c', its elements of 'size' cells of type e, lies at the head of a block from lo to hi - 1 (or is nil), and its cells hold x 0, x 1, .. -/
def Own (w : World) (lo hi : Nat) (e : TypeId) (size : Nat) (A : Option Addr) (n c : Nat) (x : Nat → Value) : Prop :=
  (A = none ∧ n = 0 ∧ c = 0) ∨ ∃ g cur, A = some ⟨g, 0, none⟩ ∧ lo ≤ g ∧ g < hi ∧ w.heap[g]? = some (.cells cur e (0, 0)) ∧ n ≤ c ∧ c ≤ maxLen ∧ cur.size = c * size ∧ ∀ j, j < n * size → cur[j]? = some (x j)

section
variable {lo hi lo' hi' : Nat} {w w' : World} {e : TypeId} {size n c : Nat} {A : Option Addr} {x y : Nat → Value}
theorem Own.congr (h : Own w lo hi e size A n c x) (hx : ∀ j, j < n * size → x j = y j) : Own w lo hi e size A n c y := by
  rcases h with h | ⟨g, cur, h1, h2, h3, h4, h5, h6, h7, h8⟩
  · exact .inl h
  · exact .inr ⟨g, cur, h1, h2, h3, h4, h5, h6, h7, fun j hj => by rw [h8 j hj, hx j hj]⟩
theorem Own.mono (h : Own w lo hi e size A n c x) (h1 : lo' ≤ lo) (h2 : hi ≤ hi') : Own w lo' hi' e size A n c x := by
  rcases h with h | ⟨g, cur, k1, k2, k3, r⟩
  · exact .inl h
  · exact .inr ⟨g, cur, k1, by omega, by omega, r⟩
theorem Own.le (h : Own w lo hi e size A n c x) : n ≤ c := by
  rcases h with ⟨_, h1, h2⟩ | ⟨g, cur, _, _, _, _, h5, _⟩ <;> omega
/-- It stays while other blocks are written. -/
theorem Own.keep {a b : Nat} (h : Own w lo hi e size A n c x) (hf : Fr a b w w') (hab : hi ≤ a ∨ b ≤ lo) : Own w' lo hi e size A n c x := by
  rcases h with h | ⟨g, cur, k1, k2, k3, k4, r⟩
  · exact .inl h
  · exact .inr ⟨g, cur, k1, k2, k3, (hf.block g (Array.getElem?_eq_some_iff.1 k4).1 (by omega)).trans k4, r⟩
theorem Own.keepB {B : Nat} (h : Own w lo hi e size A n c x) (hf : Below B w w') (hB : hi ≤ B) : Own w' lo hi e size A n c x := by
  rcases h with h | ⟨g, cur, k1, k2, k3, k4, r⟩
  · exact .inl h
  · exact .inr ⟨g, cur, k1, k2, k3, (hf.block g (by omega)).trans k4, r⟩
theorem Own.alloc (h : Own w lo hi e size A n c x) (o : Obj) : Own (w.alloc o) lo hi e size A n c x := by
  rcases h with h | ⟨g, cur, k1, k2, k3, k4, r⟩
  · exact .inl h
  · exact .inr ⟨g, cur, k1, k2, k3, (Below.heap_alloc w o g (Array.getElem?_eq_some_iff.1 k4).1).trans k4, r⟩
theorem Own.drewN (h : Own w lo hi e size A n c x) (k : Nat) : Own (w.drewN k) lo hi e size A n c x := h
theorem Own.drew (h : Own w lo hi e size A n c x) : Own w.drew lo hi e size A n c x := h
/-- Where there are elements: the block; its cells; that none is frozen. -/
theorem Own.at_ (h : Own w lo hi e size A n c x) (hn : 0 < n) : ∃ g, A = some ⟨g, 0, none⟩ ∧ lo ≤ g ∧ g < hi ∧ g < w.heap.size ∧ (∀ j, j < n * size → w.cell? ⟨g, j, none⟩ = some (x j)) ∧ ∀ j, w.frozen? ⟨g, j, none⟩ = false := by
  rcases h with h | ⟨g, cur, k1, k2, k3, k4, k5, k6, k7, k8⟩
  · omega
  · refine ⟨g, k1, k2, k3, (Array.getElem?_eq_some_iff.1 k4).1, fun j hj => ?_, fun j => ?_⟩
    · rw [cell_of_row w g j cur e (0, 0) k4]; exact k8 j hj
    · exact frozen_of_row w g j cur e k4
/-- A store into it. -/
theorem Own.set_ {g : Nat} (h : Own w lo hi e size (some ⟨g, 0, none⟩) n c x) (i : Nat) (u : Value) :
    Own (w.setCell ⟨g, i, none⟩ u) lo hi e size (some ⟨g, 0, none⟩) n c (fun j => if j = i then u else x j) := by
  rcases h with ⟨h, _⟩ | ⟨g', cur, k1, k2, k3, k4, k5, k6, k7, k8⟩
  · cases h
  · simp only [Option.some.injEq, Addr.mk.injEq, and_true] at k1
    subst k1
    refine .inr ⟨g, cur.setIfInBounds i u, rfl, k2, k3, heap_setCell_same w g i cur e u k4, k5, k6, by simpa using k7, fun j hj => ?_⟩
    have hlt : j < cur.size := by rw [k7]; exact Nat.lt_of_lt_of_le hj (Nat.mul_le_mul_right _ k5)
    rw [Array.getElem?_setIfInBounds]
    by_cases hji : j = i
    · subst hji; simp [hlt]
    · rw [if_neg (fun e => hji e.symm)]; simp only [if_neg hji]; exact k8 j hj
theorem Own.of_row {xs : List Value} (h : w.ownsRow lo e size (.slice A n c) n xs) (hx : ∀ j, j < n * size → xs[j]? = some (x j)) : Own w lo w.heap.size e size A n c x := by
  rcases h.2 with ⟨h1, h2⟩ | ⟨g, cap, cur, h1, h2, h3, h4, h5, h6, h7⟩
  · simp only [Value.slice.injEq] at h1
    exact .inl ⟨h1.1, h2, h1.2.2⟩
  · simp only [Value.slice.injEq, true_and] at h1
    obtain ⟨rfl, rfl⟩ := h1
    refine .inr ⟨g, cur, rfl, h2, (Array.getElem?_eq_some_iff.1 h3).1, h3, h4, h5, h6, fun j hj => ?_⟩
    have := hx j hj
    rw [← h7, List.getElem?_take, if_pos hj] at this
    simpa using this
theorem Own.nil (w : World) (lo hi : Nat) (e : TypeId) (size : Nat) (x : Nat → Value) : Own w lo hi e size none 0 0 x := .inl ⟨rfl, rfl, rfl⟩
theorem Own.row (h : Own w lo hi e size A n c x) : w.ownsRow lo e size (.slice A n c) n ((List.range (n * size)).map x) := by
  refine ⟨by simp, ?_⟩
  rcases h with ⟨rfl, rfl, rfl⟩ | ⟨g, cur, rfl, k2, k3, k4, k5, k6, k7, k8⟩
  · exact .inl ⟨rfl, rfl⟩
  · refine .inr ⟨g, c, cur, rfl, k2, k4, k5, k6, k7, ?_⟩
    have hle : n * size ≤ cur.size := by rw [k7]; exact Nat.mul_le_mul_right _ k5
    apply List.ext_getElem?
    intro j
    rw [List.getElem?_take]
    by_cases hj : j < n * size
    · rw [if_pos hj, Array.getElem?_toList, k8 j hj]; simp [hj]
    · rw [if_neg hj]; simp [hj]
end

theorem Own.rd {lo hi : Nat} {w : World} {e : TypeId} {n c : Nat} {A : Option Addr} {x : Nat → Int} (h : Own w lo hi e 1 A n c (fun j => .int .i64 (x j))) : Rd w hi A n c x :=
  ⟨h.le, fun hn => by
    obtain ⟨g, e1, _, h2, _, h3, _⟩ := h.at_ hn
    exact ⟨g, 0, e1, h2, fun k hk => by rw [Nat.zero_add]; exact h3 k (by omega)⟩⟩
end Go.Proofs.YtncjfgebolikoaaDoor

/-
  append of one element onto a slice of the call's own, whose cells are a fixed function of the place; over no program.
-/
namespace Go.Proofs.YtncjfgebolikoaaDoor
open Go.RowKit

theorem Own.block {w : World} {lo hi : Nat} {e : TypeId} {size n c : Nat} {A : Option Addr} {x : Nat → Value} (h : Own w lo hi e size A n c x) : ∀ k, (Value.slice A n c).ownBlock = some k → lo ≤ k ∧ k < hi := by
  intro k hk
  rcases h with ⟨rfl, _⟩ | ⟨g, cur, rfl, h2, h3, _⟩
  · simp [Value.ownBlock] at hk
  · simp [Value.ownBlock] at hk
    omega

/-- What stands behind an append: the new value owns one element more; nothing below lo has turned; of the blocks that were there only its own. -/
structure Pushed (w w' : World) (lo : Nat) (e : TypeId) (size : Nat) (A : Option Addr) (n c : Nat) (x : Nat → Value) (g cap : Nat) : Prop where
  own : Own w' lo w'.heap.size e size (some ⟨g, 0, none⟩) (n + 1) cap x
  below : Below lo w w'
  grown : w.grownBy w' (Value.slice A n c).ownBlock
  at_ : (Value.slice A n c).ownBlock = some g ∨ g = w.heap.size

section
variable {P : Program}
theorem wp_push (w : World) {o : Oper} {a : Act} {K : Act → World → Prop} {Q : Exit → Act → World → Prop} (s y : Operand) (t : TypeId)
    (ho : o.op = .call { callee := .builtin .append, args := #[s, y], argTypes := #[t, t] })
    (e : TypeId) (z : Value) (size bytes : Nat) (ht : P.underlying t = some (.slice e)) (hinfo : (P.info? e).map (fun i => (i.zero, i.size, i.bytes)) = some (some z, size, bytes)) (hzs : z.cells.size = size) (hsz : 0 < size)
    (lo hi : Nat) (A : Option Addr) (n c : Nat) (x : Nat → Value) (hs : a.eval s = .slice A n c) (hown : Own w lo hi e size A n c x) (hlo : lo ≤ w.heap.size)
    (B : Nat) (cs : Array Value) (T : TypeId) (fr : Nat × Nat) (cx : Nat) (hB : w.heap[B]? = some (.cells cs T fr)) (hy : a.eval y = .slice (some ⟨B, 0, none⟩) 1 cx) (hl : cs.size = size)
    (hX : ∀ j, j < size → cs[j]? = some (x (n * size + j))) (h1 : ∀ u ∈ cs.toList, u.oneCell' = true) (hn : n ≤ 1073741824) (hby : bytes ≤ 1024)
    (h : ∀ g cap w', Pushed w w' lo e size A n c x g cap → K (a.put o.dst (.slice (some ⟨g, 0, none⟩) (n + 1) cap)) w') : o.wp P a w K Q := by
  obtain ⟨i, hi, hzz⟩ := Option.map_eq_some_iff.1 hinfo
  simp only [Prod.mk.injEq] at hzz
  obtain ⟨hz, hsize, hbytes⟩ := hzz
  have hb2 : (n + 1) * bytes ≤ 140737488355328 := by
    have : (n + 1) * bytes ≤ 1073741825 * 1024 := Nat.mul_le_mul (by omega) hby
    omega
  refine wp_append_lies w s y t ho lo e i z size bytes ht hi hz hsize hbytes hzs hsz (.slice A n c) n _ hs hown.row ⟨B, 0, none⟩ 1 cx cs.toList hy (by simp [hl]) (World.news_of_block hB) h1 (by omega) (by unfold maxLen; omega) hb2 hlo w.heap.size rfl ?_
  intro g cap w' hr hg hat hlt
  refine h g cap w' ⟨Own.of_row hr (fun j hj => ?_), (Below.refl _ _).grown hg hlo (fun k hk => (hown.block k hk).1), hg, hat⟩
  rw [List.getElem?_append]
  simp only [List.length_map, List.length_range]
  by_cases hj2 : j < n * size
  · rw [if_pos hj2]; simp [hj2]
  · rw [if_neg hj2]
    have hlt2 : j - n * size < size := by rw [Nat.add_mul] at hj; omega
    have := hX (j - n * size) hlt2
    rw [show n * size + (j - n * size) = j by omega] at this
    simpa using this

theorem wpList_push (w : World) {ops : Array Oper} {rest : List Oper} {o : Oper} {a : Act} {Q : Exit → Act → World → Prop} (hgd : o.guard = none) (s y : Operand) (t : TypeId)
    (ho : o.op = .call { callee := .builtin .append, args := #[s, y], argTypes := #[t, t] })
    (e : TypeId) (z : Value) (size bytes : Nat) (ht : P.underlying t = some (.slice e)) (hinfo : (P.info? e).map (fun i => (i.zero, i.size, i.bytes)) = some (some z, size, bytes)) (hzs : z.cells.size = size) (hsz : 0 < size)
    (lo hi : Nat) (A : Option Addr) (n c : Nat) (x : Nat → Value) (hs : a.eval s = .slice A n c) (hown : Own w lo hi e size A n c x) (hlo : lo ≤ w.heap.size)
    (B : Nat) (cs : Array Value) (T : TypeId) (fr : Nat × Nat) (cx : Nat) (hB : w.heap[B]? = some (.cells cs T fr)) (hy : a.eval y = .slice (some ⟨B, 0, none⟩) 1 cx) (hl : cs.size = size)
    (hX : ∀ j, j < size → cs[j]? = some (x (n * size + j))) (h1 : ∀ u ∈ cs.toList, u.oneCell' = true) (hn : n ≤ 1073741824) (hby : bytes ≤ 1024)
    (h : ∀ g cap w', Pushed w w' lo e size A n c x g cap → wpList P ops Q rest (a.put o.dst (.slice (some ⟨g, 0, none⟩) (n + 1) cap)) w') : wpList P ops Q (o :: rest) a w :=
  wpList_plain hgd fun _ hK => wp_push w s y t ho e z size bytes ht hinfo hzs hsz lo hi A n c x hs hown hlo B cs T fr cx hB hy hl hX h1 hn hby fun g cap w' hp => hK _ _ (h g cap w' hp)

theorem step_push (w : World) {ops : Array Oper} {o : Oper} {a : Act} {K : Act → World → Prop} {Q : Exit → Act → World → Prop} {E : Prop} (hgd : o.guard = none) (s y : Operand) (t : TypeId)
    (ho : o.op = .call { callee := .builtin .append, args := #[s, y], argTypes := #[t, t] })
    (e : TypeId) (z : Value) (size bytes : Nat) (ht : P.underlying t = some (.slice e)) (hinfo : (P.info? e).map (fun i => (i.zero, i.size, i.bytes)) = some (some z, size, bytes)) (hzs : z.cells.size = size) (hsz : 0 < size)
    (lo hi : Nat) (A : Option Addr) (n c : Nat) (x : Nat → Value) (hs : a.eval s = .slice A n c) (hown : Own w lo hi e size A n c x) (hlo : lo ≤ w.heap.size)
    (B : Nat) (cs : Array Value) (T : TypeId) (fr : Nat × Nat) (cx : Nat) (hB : w.heap[B]? = some (.cells cs T fr)) (hy : a.eval y = .slice (some ⟨B, 0, none⟩) 1 cx) (hl : cs.size = size)
    (hX : ∀ j, j < size → cs[j]? = some (x (n * size + j))) (h1 : ∀ u ∈ cs.toList, u.oneCell' = true) (hn : n ≤ 1073741824) (hby : bytes ≤ 1024)
    (h : ∀ g cap w', Pushed w w' lo e size A n c x g cap → K (a.put o.dst (.slice (some ⟨g, 0, none⟩) (n + 1) cap)) w') :
    if Region.wanted o (yielded ops a.tmps) = true then Oper.wp P o a w K Q else E := by
  have hw : Region.wanted o (yielded ops a.tmps) = true := by simp [Region.wanted, hgd]
  rw [if_pos hw]
  exact wp_push w s y t ho e z size bytes ht hinfo hzs hsz lo hi A n c x hs hown hlo B cs T fr cx hB hy hl hX h1 hn hby h
end
end Go.Proofs.YtncjfgebolikoaaDoor

/-
  Contracts of the smallest functions of the seat: ranges and bits.
-/
namespace Go.Proofs.YtncjfgebolikoaaDoor
open Go.RowKit

theorem within_any (n lo hi : Int) (w : World) :
    Calls Tryd.prog 25 #[.int .i64 n, .int .i64 lo, .int .i64 hi] w fun e w' => e = .returned (.bool (decide (lo ≤ n) && decide (n ≤ hi))) ∧ w = w' := by
  by_cases h1 : lo ≤ n
  · by_cases h2 : n ≤ hi
    · go_enter Tryd.func25, Tryd.ntmps25
      go_wp2
      go_ret
      exact ⟨ret_bool (by simp; omega), rfl⟩
    · have h2' : hi < n := by omega
      go_enter Tryd.func25, Tryd.ntmps25
      go_wp2
      go_ret
      exact ⟨ret_bool (by simp; omega), rfl⟩
  · go_enter Tryd.func25, Tryd.ntmps25
    go_wp2
    go_ret
    exact ⟨ret_bool (by simp; omega), rfl⟩

theorem l1In_any (n lo hi : Int) (w : World) :
    Calls Tryd.prog 20 #[.int .i64 n, .int .i64 lo, .int .i64 hi] w fun e w' => e = .returned (.bool (decide (lo ≤ n) && decide (n ≤ hi))) ∧ w = w' := by
  by_cases h1 : lo ≤ n
  · by_cases h2 : n ≤ hi
    · go_enter Tryd.func20, Tryd.ntmps20
      go_wp2
      go_ret
      exact ⟨ret_bool (by simp; omega), rfl⟩
    · have h2' : hi < n := by omega
      go_enter Tryd.func20, Tryd.ntmps20
      go_wp2
      go_ret
      exact ⟨ret_bool (by simp; omega), rfl⟩
  · go_enter Tryd.func20, Tryd.ntmps20
    go_wp2
    go_ret
    exact ⟨ret_bool (by simp; omega), rfl⟩

theorem l1In_yes (n lo hi : Int) (w : World) (h1 : lo ≤ n) (h2 : n ≤ hi) :
    Calls Tryd.prog 20 #[.int .i64 n, .int .i64 lo, .int .i64 hi] w fun e w' => e = .returned (.bool true) ∧ w = w' :=
  (l1In_any n lo hi w).mono fun _ _ ⟨he, hw⟩ => ⟨he.trans (ret_bool (by simp; omega)), hw⟩
theorem l1In_no (n lo hi : Int) (w : World) (h : n < lo ∨ hi < n) :
    Calls Tryd.prog 20 #[.int .i64 n, .int .i64 lo, .int .i64 hi] w fun e w' => e = .returned (.bool false) ∧ w = w' :=
  (l1In_any n lo hi w).mono fun _ _ ⟨he, hw⟩ => ⟨he.trans (ret_bool (by simp; omega)), hw⟩

end Go.Proofs.YtncjfgebolikoaaDoor

/-
  Contracts of the law's own helpers on slices of integers: copy, compare, mark, look at the marks, size.
-/
namespace Go.Proofs.YtncjfgebolikoaaDoor
open Go.RowKit

end Go.Proofs.YtncjfgebolikoaaDoor

/-
  Contracts of the law's own helpers on graphs: size, copy, compare, mark.
-/
namespace Go.Proofs.YtncjfgebolikoaaDoor
open Go.RowKit

end Go.Proofs.YtncjfgebolikoaaDoor

/-
  Contracts: is it a graph? Both programs' tests, and the law's helpers on graphs.
-/
namespace Go.Proofs.YtncjfgebolikoaaDoor
open Go.RowKit

end Go.Proofs.YtncjfgebolikoaaDoor

/-
  Contract: the reference's IsGraph.
-/
namespace Go.Proofs.YtncjfgebolikoaaDoor
open Go.RowKit

end Go.Proofs.YtncjfgebolikoaaDoor

/-
  Contracts: is it a graph (any size); has one graph at most the edges of another; is a graph between two others.
-/
namespace Go.Proofs.YtncjfgebolikoaaDoor
open Go.RowKit

end Go.Proofs.YtncjfgebolikoaaDoor
