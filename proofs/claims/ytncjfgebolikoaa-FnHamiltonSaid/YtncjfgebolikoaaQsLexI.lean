/-
  Several texts in one.
-/
import Derived.Test.YtncjfgebolikoaaQsUmoI
import Derived.Test.YtncjfgebolikoaaQsFillS
import Derived.Test.YtncjfgebolikoaaQsLater
import Derived.Test.YtncjfgebolikoaaQsGC
/-
  Contract: all orders of a few numbers, of the reference.
-/
namespace Go.Proofs.Ytncjfgebolikoaa
open Go.RowKit

def ci (l : List Nat) : List Int := l.map fun v : Nat => (v : Int)
def nl (L : List (List Nat)) : List (List Int) := L.map ci
end Go.Proofs.Ytncjfgebolikoaa

/-
  Plain: the order of a search: labels, the first vertex whose label is greatest, the order that grows.
-/
namespace Go.Proofs.Ytncjfgebolikoaa

/-- The first number below k with p whose f is greatest. -/
def bestK (f : Nat → Nat) (p : Nat → Bool) : Nat → Option Nat
  | 0 => none
  | k + 1 => match bestK f p k with
    | none => if p k = true then some k else none
    | some b => if p k = true ∧ f b < f k then some k else some b
theorem bestK_no {f : Nat → Nat} {p : Nat → Bool} {k : Nat} (h : p k = false) : bestK f p (k + 1) = bestK f p k := by
  rw [bestK]; cases bestK f p k <;> simp [h]
theorem bestK_first {f : Nat → Nat} {p : Nat → Bool} {k : Nat} (h : p k = true) (hb : bestK f p k = none) : bestK f p (k + 1) = some k := by
  rw [bestK, hb]; simp [h]
theorem bestK_more {f : Nat → Nat} {p : Nat → Bool} {k b : Nat} (h : p k = true) (hb : bestK f p k = some b) (hf : f b < f k) : bestK f p (k + 1) = some k := by
  rw [bestK, hb]; simp [h, hf]
theorem bestK_less {f : Nat → Nat} {p : Nat → Bool} {k b : Nat} (hb : bestK f p k = some b) (hf : ¬ f b < f k) : bestK f p (k + 1) = some b := by
  rw [bestK, hb]; simp [hf]
theorem bestK_in {f : Nat → Nat} {p : Nat → Bool} : ∀ {k b : Nat}, bestK f p k = some b → b < k ∧ p b = true := by
  intro k
  induction k with
  | zero => intro b h; simp [bestK] at h
  | succ k ih =>
    intro b h
    rw [bestK] at h
    cases hb : bestK f p k with
    | none =>
      rw [hb] at h
      simp only at h
      split at h
      · injection h with h; subst h; exact ⟨Nat.lt_succ_self _, by assumption⟩
      · cases h
    | some a =>
      rw [hb] at h
      simp only at h
      have ha := ih hb
      split at h
      · rename_i hp
        injection h with h; subst h; exact ⟨Nat.lt_succ_self _, hp.1⟩
      · injection h with h; subst h; exact ⟨by omega, ha.2⟩
theorem bestK_some {f : Nat → Nat} {p : Nat → Bool} : ∀ {k v : Nat}, v < k → p v = true → bestK f p k ≠ none := by
  intro k
  induction k with
  | zero => intro v h; omega
  | succ k ih =>
    intro v h hp hn
    by_cases hv : v < k
    · have := ih hv hp
      rw [bestK] at hn
      cases hb : bestK f p k with
      | none => exact this hb
      | some a => rw [hb] at hn; simp only at hn; split at hn <;> cases hn
    · obtain rfl : v = k := by omega
      rw [bestK] at hn
      cases hb : bestK f p v with
      | none => rw [hb] at hn; simp [hp] at hn
      | some a => rw [hb] at hn; simp only at hn; split at hn <;> cases hn
/-- The order that begins with s and goes on with the best of those that are left. -/
def grN (f : List Nat → Nat → Nat) (m s : Nat) : Nat → List Nat
  | 0 => [s]
  | k + 1 => grN f m s k ++ [(bestK (f (grN f m s k)) (fun v => !decide (v ∈ grN f m s k)) m).getD 0]
theorem grN_len (f : List Nat → Nat → Nat) (m s : Nat) : ∀ k, (grN f m s k).length = k + 1
  | 0 => rfl
  | k + 1 => by rw [grN, List.length_append, grN_len f m s k]; rfl
theorem range_nodup_sub {m : Nat} {l : List Nat} (hl : l.length < m) : ∃ v, v < m ∧ v ∉ l := by
  refine Classical.byContradiction fun h => ?_
  have h2 : ∀ v ∈ List.range m, v ∈ l := fun v hv => Classical.byContradiction fun hn => h ⟨v, List.mem_range.1 hv, hn⟩
  have := (List.nodup_range (n := m)).length_le_of_subset h2
  rw [List.length_range] at this
  omega
/-- What is chosen: it is a vertex, and not there yet. -/
theorem grN_step {f : List Nat → Nat → Nat} {m s k : Nat} (hk : k + 1 < m) :
    ∃ b, bestK (f (grN f m s k)) (fun v => !decide (v ∈ grN f m s k)) m = some b ∧ b < m ∧ b ∉ grN f m s k ∧ grN f m s (k + 1) = grN f m s k ++ [b] := by
  obtain ⟨v, hv, hn⟩ := range_nodup_sub (l := grN f m s k) (m := m) (by rw [grN_len]; exact hk)
  cases hb : bestK (f (grN f m s k)) (fun v => !decide (v ∈ grN f m s k)) m with
  | none => exact absurd hb (bestK_some hv (by simp [hn]))
  | some b =>
    have := bestK_in hb
    exact ⟨b, rfl, this.1, by simpa using this.2, by rw [grN, hb]; rfl⟩
theorem grN_fine {f : List Nat → Nat → Nat} {m s : Nat} (hs : s < m) : ∀ k, k < m → (grN f m s k).Nodup ∧ ∀ v ∈ grN f m s k, v < m := by
  intro k
  induction k with
  | zero => intro _; exact ⟨by simp [grN], fun v hv => by simp [grN] at hv; omega⟩
  | succ k ih =>
    intro hk
    obtain ⟨b, _, hbm, hbn, he⟩ := grN_step (f := f) (s := s) hk
    obtain ⟨h1, h2⟩ := ih (by omega)
    rw [he]
    refine ⟨?_, fun v hv => ?_⟩
    · rw [List.nodup_append]
      exact ⟨h1, by simp, fun a ha c hc e => by rw [List.mem_singleton] at hc; subst hc; subst e; exact hbn ha⟩
    · rw [List.mem_append, List.mem_singleton] at hv
      rcases hv with hv | rfl
      · exact h2 v hv
      · exact hbm
/-- The label of a vertex behind an order: its neighbours there, as bits. -/
def labN (r : Nat → Nat) (l : List Nat) (v : Nat) : Nat := l.foldl (fun a u => 2 * a + (if (r v).testBit u = true then 1 else 0)) 0
theorem labN_one (r : Nat → Nat) (l : List Nat) (u v : Nat) : labN r (l ++ [u]) v = 2 * labN r l v + (if (r v).testBit u = true then 1 else 0) := by
  unfold labN; rw [List.foldl_append]; rfl
theorem labN_lt (r : Nat → Nat) (v : Nat) : ∀ l : List Nat, labN r l v < 2 ^ l.length := by
  have key : ∀ (n : Nat) (l : List Nat), l.length = n → labN r l v < 2 ^ n := by
    intro n
    induction n with
    | zero => intro l hl; rw [List.length_eq_zero_iff.1 hl]; simp [labN]
    | succ n ih =>
      intro l hl
      have e : l.take n ++ [l[n]'(by omega)] = l := by rw [← List.take_succ_eq_append_getElem (by omega), List.take_of_length_le (by omega)]
      have := ih (l.take n) (by rw [List.length_take]; omega)
      rw [← e, labN_one, Nat.pow_succ]
      split <;> omega
  exact fun l => key l.length l rfl
/-- The order of the search. -/
def lexN (r : Nat → Nat) (m s : Nat) : List Nat := grN (labN r) m s (m - 1)
theorem lexN_len {r : Nat → Nat} {m s : Nat} (hm : 1 ≤ m) : (lexN r m s).length = m := by unfold lexN; rw [grN_len]; omega
/-- A used vertex is a bit. -/
theorem stN_ci_bit {l : List Nat} {v : Nat} : (stN (ci l)).testBit v = decide (v ∈ l) := by
  rw [Bool.eq_iff_iff, decide_eq_true_eq]
  rw [stN_bit (fun u hu => by unfold ci at hu; obtain ⟨a, _, rfl⟩ := List.mem_map.1 hu; omega)]
  unfold ci
  rw [List.mem_map]
  exact ⟨fun ⟨a, ha, e⟩ => by have : a = v := by omega
                              rw [← this]; exact ha, fun h => ⟨v, h, rfl⟩⟩
theorem stN_ci_lt {l : List Nat} {m : Nat} (h : ∀ v ∈ l, v < m) : stN (ci l) < 2 ^ m :=
  stN_lt (fun u hu => by unfold ci at hu; obtain ⟨a, ha, rfl⟩ := List.mem_map.1 hu; have := h a ha; omega)
theorem stN_ci_one {l : List Nat} {b : Nat} (h : b ∉ l) : stN (ci (l ++ [b])) = stN (ci l) + 2 ^ b := by
  have hb : (stN (ci l)).testBit b = false := by rw [stN_ci_bit, decide_eq_false h]
  have e : ci (l ++ [b]) = ci l ++ [(b : Int)] := by unfold ci; rw [List.map_append]; rfl
  rw [e, stN_append]
  show stN (ci l) ||| (2 ^ (b : Int).toNat ||| 0) = _
  rw [Nat.or_zero, Int.toNat_natCast]
  exact (or_of_add hb).symm
end Go.Proofs.Ytncjfgebolikoaa

/-
  Contracts: a greedy order, whatever its number is; the lexicographic order: the program's.
-/
namespace Go.Proofs.Ytncjfgebolikoaa
open Go.RowKit

theorem own_1 (w : World) (v : Int) : Own (w.alloc (Obj.cells #[.int .i64 v] 3)) w.heap.size (w.heap.size + 1) 3 1 (some ⟨w.heap.size, 0, none⟩) 1 1 (fun _ => .int .i64 v) :=
  .inr ⟨w.heap.size, #[.int .i64 v], rfl, Nat.le_refl _, Nat.lt_succ_self _, heap_alloc_new w _, Nat.le_refl _, by unfold maxLen; omega, rfl, fun j hj => by
    have e : j = 0 := by omega
    subst e; rfl⟩
theorem one_on (z : World) (v : Nat) : ON z.heap.size (z.alloc (Obj.cells #[Value.int .i64 (v : Int)] 3)) (some ⟨z.heap.size, 0, none⟩) 1 [v] :=
  ⟨((own_1 z (v : Int)).mono (Nat.le_refl _) (by simp)).congr (fun j hj => by
    have : j = 0 := by simp at hj; omega
    subst this; rfl)⟩

section
variable {A : Option Addr} {m c : Nat} {r : Nat → Nat} {fn : FuncId} {caps : Array Value} {f : List Nat → Nat → Nat}
/-- The best so far, and its number. -/
def bsI (o : Option Nat) : Int := match o with | none => -1 | some b => (b : Int)
end
/-- The order of the search: is there one? which? -/
noncomputable def lxB (sz : Int) (m : Nat) (x : Nat → Int) (s : Int) : Bool := decide (0 ≤ s ∧ s < sz) && okB sz m x
noncomputable def lxL (sz : Int) (m : Nat) (x : Nat → Int) (s : Int) : List Nat := if lxB sz m x s = true then lexN (rw_ x) m s.toNat else []
theorem lxL_no {sz : Int} {m : Nat} {x : Nat → Int} {s : Int} (h : lxB sz m x s = false) : lxL sz m x s = [] := by unfold lxL; rw [h]; rfl
theorem lxL_yes {sz : Int} {m : Nat} {x : Nat → Int} {s : Int} (h : lxB sz m x s = true) : lxL sz m x s = lexN (rw_ x) m s.toNat := by unfold lxL; rw [h]; rfl
end Go.Proofs.Ytncjfgebolikoaa
