/-
  Several texts in one.
-/
import Derived.Deep.RegionHeld3
import Derived.Test.YtjonhbmgmamchaaGreatDoorRdListS
import Derived.Deep.QuietTactic
import Derived.BigQuiet
import Derived.Test.YtjonhbmgmamchaaGreatDoorRdFirst
import Derived.Test.YtjonhbmgmamchaaGreatDoorRdSet2P
/-
  Laws: the operations of a region that draws its order are taken one by one, those that are not wanted too.
-/
namespace Go.Proofs.YtjonhbmgmamchaaGreatDoor

section
variable {P : Program} {ops : Array Oper} {Q : Exit → Act → World → Prop} {md : Region.Mode} {S : World → Prop}
/-- An operation of a drawn region is taken first; one that is not wanted is passed by. -/
theorem take_yes {i d : Nat} {oi : Oper} {v : Value} {fuel : Nat} {listed : Array Bool} {a : Act} {w : World} (hi : ops[i]? = some oi) (hd : oi.dst = some d)
    (hs : Region.noSelect ops = true) (hf : Region.free md ops listed i = true) (hr : (Region.ready md ops listed).contains i = true)
    (hQ : ∀ c a w, Q (.panic c) (a.put oi.dst v) w → Q (.panic c) a w) (hw : Region.wanted oi (yielded ops a.tmps) = true) (hy : ∀ w, S w → (execOp a.eval oi).run P w = .ok (.value v) w) (hS : S w)
    (h : wpAnyH P md ops Q S fuel (listed.setIfInBounds i true) (a.put (some d) v) w) : wpAnyH P md ops Q S (fuel + 1) listed a w :=
  wpAnyH_take hi hs hf hr hQ (.inl ⟨hw, hy⟩) hS (hd ▸ h)
end
end Go.Proofs.YtjonhbmgmamchaaGreatDoor

/-
  Plain: the complement of a graph.
-/
namespace Go.Proofs.YtjonhbmgmamchaaGreatDoor
open Go.RowKit

/-- The rows of the complement. -/
def coR (r : Nat → Nat) (m v : Nat) : Nat := (2 ^ m - 1) ^^^ (r v ||| 2 ^ v)
section
variable {m : Nat} {r : Nat → Nat}
theorem or_pow_lt (vg : VG m r) {v : Nat} (hv : v < m) : r v ||| 2 ^ v < 2 ^ m := Nat.or_lt_two_pow (vg.lt v hv) (Nat.pow_lt_pow_right (by omega) hv)
theorem coR_sub (vg : VG m r) {v : Nat} (hv : v < m) : coR r m v = 2 ^ m - 1 - r v - 2 ^ v ∧ r v + 2 ^ v ≤ 2 ^ m - 1 := by
  have h1 := or_pow_lt vg hv
  have h2 : r v + 2 ^ v = r v ||| 2 ^ v := or_of_add (vg.irr v hv)
  unfold coR
  rw [full_sub vg.n7 h1, ← h2]
  rw [← h2] at h1
  omega
theorem coR_bit {v u : Nat} (hu : u < m) : (coR r m v).testBit u = (!((r v).testBit u || decide (v = u))) := by
  unfold coR
  rw [Nat.testBit_xor, Nat.testBit_two_pow_sub_one, Nat.testBit_or, Nat.testBit_two_pow, decide_eq_true hu]
  simp
theorem coR_vg (vg : VG m r) : VG m (coR r m) where
  n1 := vg.n1
  n7 := vg.n7
  lt := fun v hv => by unfold coR; exact full_lt vg.n7 (or_pow_lt vg hv)
  irr := fun v hv => by rw [coR_bit hv]; simp
  sym := fun v w hv hw => by
    rw [coR_bit hw, coR_bit hv, vg.sym v w hv hw]
    by_cases h : v = w
    · subst h; rfl
    · rw [decide_eq_false h, decide_eq_false (fun e => h e.symm)]
theorem coR_and {v : Nat} : ((2 ^ m - 1) ^^^ ((2 ^ m - 1) &&& r v)) ^^^ (((2 ^ m - 1) ^^^ ((2 ^ m - 1) &&& r v)) &&& 2 ^ v) = (2 ^ m - 1) ^^^ ((2 ^ m - 1) &&& (r v ||| 2 ^ v)) := by
  apply Nat.eq_of_testBit_eq
  intro i
  simp only [Nat.testBit_xor, Nat.testBit_and, Nat.testBit_or]
  cases (2 ^ m - 1).testBit i <;> cases (r v).testBit i <;> cases (2 ^ v).testBit i <;> rfl
end
end Go.Proofs.YtjonhbmgmamchaaGreatDoor

/-
  Plain: the first coloring with so many colors; the fewest colors; a cover by the colors' sets.
-/
namespace Go.Proofs.YtjonhbmgmamchaaGreatDoor
open Go.RowKit

/-- Is a color free for vertex v, seen against the first j vertices? -/
def frK (r : Nat → Nat) (l : List Nat) (v c : Nat) : Nat → Bool
  | 0 => true
  | j + 1 => frK r l v c j && !(l.getD j 0 == c && (r v).testBit j)
def colS (r : Nat → Nat) (k : Nat) : Nat → List Nat → Option (List Nat)
  | 0, l => some l
  | j + 1, l => (List.range k).findSome? fun c => if frK r l l.length c l.length = true then colS r k j (l ++ [c]) else none
def cAt (r : Nat → Nat) (k j : Nat) (l : List Nat) (c : Nat) : Option (List Nat) := if frK r l l.length c l.length = true then colS r k j (l ++ [c]) else none
def cOf (r : Nat → Nat) (m k : Nat) : Option (List Nat) := colS r k m []
section
variable {r : Nat → Nat} {k j v c m : Nat} {l : List Nat}
theorem cAt_no (h : frK r l l.length c l.length = false) : cAt r k j l c = none := by unfold cAt; rw [h]; rfl
theorem cAt_yes (h : frK r l l.length c l.length = true) : cAt r k j l c = colS r k j (l ++ [c]) := by unfold cAt; rw [h]; rfl
theorem colS_some {o : List Nat} (hc : c < k) (h : cAt r k j l c = some o) (hmin : ∀ u, u < c → cAt r k j l u = none) : colS r k (j + 1) l = some o := range_some hc h hmin
theorem colS_none (h : ∀ u, u < k → cAt r k j l u = none) : colS r k (j + 1) l = none := range_none h
theorem colS_len : ∀ (j : Nat) (l o : List Nat), (∀ c ∈ l, c < k) → colS r k j l = some o → o.length = l.length + j ∧ ∀ c ∈ o, c < k := by
  intro j
  induction j with
  | zero =>
    intro l o hl h
    rw [colS] at h
    injection h with h
    subst h
    exact ⟨rfl, hl⟩
  | succ j ih =>
    intro l o hl h
    rw [colS] at h
    obtain ⟨c, hc, h2⟩ := List.exists_of_findSome?_eq_some h
    rw [List.mem_range] at hc
    split at h2
    · have := ih (l ++ [c]) o (fun u hu => by
        rw [List.mem_append, List.mem_singleton] at hu
        rcases hu with hu | rfl
        · exact hl u hu
        · exact hc) h2
      rw [List.length_append] at this
      exact ⟨by have := this.1; simp at this; omega, this.2⟩
    · cases h2
theorem cOf_len {o : List Nat} (h : cOf r m k = some o) : o.length = m ∧ ∀ c ∈ o, c < k := by
  have := colS_len m [] o (fun c hc => absurd hc (by simp)) h
  exact ⟨by simpa using this.1, this.2⟩
theorem missing : ∀ (k : Nat) (l : List Nat), l.length < k → ∃ c, c < k ∧ c ∉ l := by
  intro k
  induction k with
  | zero => intro l h; omega
  | succ k ih =>
    intro l h
    by_cases hk : k ∈ l
    · obtain ⟨c, hc, hn⟩ := ih (l.erase k) (by rw [List.length_erase_of_mem hk]; have := List.length_pos_of_mem hk; omega)
      exact ⟨c, by omega, fun hm => hn ((List.mem_erase_of_ne (by omega)).2 hm)⟩
    · exact ⟨k, Nat.lt_succ_self _, hk⟩
theorem frK_new (h : c ∉ l) : ∀ j, j ≤ l.length → frK r l v c j = true := by
  intro j
  induction j with
  | zero => intro _; rfl
  | succ j ih =>
    intro hj
    have h1 : (l.getD j 0 == c) = false := by
      have hlt : j < l.length := by omega
      simp only [List.getD, List.getElem?_eq_getElem hlt, Option.getD_some]
      rw [beq_eq_false_iff_ne]
      exact fun e => h (e ▸ List.getElem_mem hlt)
    rw [frK, ih (by omega), h1]; rfl
/-- With as many colors as vertices there is a coloring. -/
theorem colS_enough : ∀ (j : Nat) (l : List Nat), l.length + j ≤ k → colS r k j l ≠ none := by
  intro j
  induction j with
  | zero => intro l _ h; cases h
  | succ j ih =>
    intro l hl h
    obtain ⟨c, hc, hn⟩ := missing k l (by omega)
    rw [colS, List.findSome?_eq_none_iff] at h
    have := h c (List.mem_range.2 hc)
    rw [if_pos (frK_new hn _ (Nat.le_refl _))] at this
    exact ih (l ++ [c]) (by rw [List.length_append]; simp; omega) this
theorem cOf_enough (h : m ≤ k) : (cOf r m k).isSome = true := by
  cases e : cOf r m k with
  | none => exact absurd e (colS_enough m [] (by simpa using h))
  | some o => rfl
end
/-- The fewest colors. -/
def chN (r : Nat → Nat) (m : Nat) : Nat := ((List.range m).find? fun k => (cOf r m (k + 1)).isSome).getD 0 + 1
section
variable {r : Nat → Nat} {m k : Nat}
theorem chN_spec (hm : 1 ≤ m) : chN r m ≤ m ∧ (cOf r m (chN r m)).isSome = true ∧ ∀ j, 1 ≤ j → j < chN r m → (cOf r m j).isSome = false := by
  unfold chN
  cases e : (List.range m).find? fun k => (cOf r m (k + 1)).isSome with
  | none =>
    rw [List.find?_eq_none] at e
    have := e (m - 1) (List.mem_range.2 (by omega))
    rw [show m - 1 + 1 = m by omega, cOf_enough (Nat.le_refl _)] at this
    exact absurd rfl this
  | some i =>
    rw [List.find?_range_eq_some] at e
    obtain ⟨h1, h2, h3⟩ := e
    rw [List.mem_range] at h2
    refine ⟨by simp; omega, by simpa using h1, fun j hj1 hj => ?_⟩
    have := h3 (j - 1) (by simp at hj; omega)
    rw [show j - 1 + 1 = j by omega] at this
    simpa using this
theorem chN_pos : 1 ≤ chN r m := by unfold chN; omega
end
def coL (r : Nat → Nat) (m : Nat) : List Nat := (cOf r m (chN r m)).getD []
theorem coL_some {r : Nat → Nat} {m : Nat} (hm : 1 ≤ m) : cOf r m (chN r m) = some (coL r m) := by
  unfold coL
  have := (chN_spec (r := r) hm).2.1
  cases e : cOf r m (chN r m) with
  | none => rw [e] at this; cases this
  | some o => rfl
/-- The vertices of a color among the first n. -/
def ccK (l : List Nat) (c : Nat) : Nat → Nat
  | 0 => 0
  | n + 1 => if l.getD n 0 = c then ccK l c n ||| 2 ^ n else ccK l c n
theorem ccK_lt {l : List Nat} {c : Nat} : ∀ n, ccK l c n < 2 ^ n := by
  intro n
  induction n with
  | zero => exact Nat.one_pos
  | succ n ih =>
    have h1 : 2 ^ n < 2 ^ (n + 1) := Nat.pow_lt_pow_right (by omega) (Nat.lt_succ_self _)
    rw [ccK]
    split
    · exact Nat.or_lt_two_pow (by omega) h1
    · omega
theorem ccK_add {l : List Nat} {c n : Nat} : ccK l c n ||| 2 ^ n = ccK l c n + 2 ^ n := by
  have h := ccK_lt (l := l) (c := c) n
  have : (ccK l c n).testBit n = false := Nat.testBit_lt_two_pow h
  exact (or_of_add this).symm
/-- The sets of the colors of the complement. -/
def cvL (r : Nat → Nat) (m : Nat) : List Nat := (List.range (chN (coR r m) m)).map fun c => ccK (coL (coR r m) m) c m
theorem cvL_len {r : Nat → Nat} {m : Nat} : (cvL r m).length = chN (coR r m) m := by unfold cvL; simp
def lqN (r : Nat → Nat) (m : Nat) : Nat := lgK (cliq r) (2 ^ m)
def liN (r : Nat → Nat) (m : Nat) : Nat := lgK (indB r) (2 ^ m)
theorem lq_lt (r : Nat → Nat) (m : Nat) : lqN r m < 2 ^ m := lgK_lt _ (Nat.two_pow_pos m)
theorem li_lt (r : Nat → Nat) (m : Nat) : liN r m < 2 ^ m := lgK_lt _ (Nat.two_pow_pos m)
end Go.Proofs.YtjonhbmgmamchaaGreatDoor

/-
  Contracts: the first place of a list at which something holds, whatever it is.
-/
namespace Go.Proofs.YtjonhbmgmamchaaGreatDoor
open Go.RowKit

theorem LN.li {w : World} {A : Option Addr} {c : Nat} {l : List Nat} (h : LN w A c l) : LI w A l.length c (l.map fun v : Nat => (v : Int)) :=
  ⟨by simp, h.rd.congr fun k hk => by simp [List.getD, hk]⟩
section
variable {fn : FuncId} {caps : Array Value} {p : Int → Bool}
end
end Go.Proofs.YtjonhbmgmamchaaGreatDoor
