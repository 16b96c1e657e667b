/-
  What a text of edits reads as: in plain words.
-/
import Derived.Test.YtncjfgebolikoaaDoorQvCutS
namespace Go.Proofs.YtncjfgebolikoaaDoor
open Go.RowKit

theorem cutA_length (c : UInt8) : ∀ (l p : List UInt8), (cutA c p l).length ≤ l.length + 1
  | [], p => by unfold cutA; simp
  | b :: l, p => by
    unfold cutA
    split
    · have := cutA_length c l []
      simp only [List.length_cons]; omega
    · have := cutA_length c l (p ++ [b])
      simp only [List.length_cons]; omega
theorem cutA_none (c : UInt8) : ∀ (x p : List UInt8), ¬ c ∈ x → cutA c p x = [p ++ x]
  | [], p, _ => by unfold cutA; simp
  | b :: x, p, h => by
    have hb : b ≠ c := fun e => h (by rw [e]; simp)
    unfold cutA
    rw [if_neg hb, cutA_none c x _ (fun hm => h (by simp [hm]))]
    simp
theorem cutA_step (c : UInt8) (rest : List UInt8) : ∀ (x p : List UInt8), ¬ c ∈ x → cutA c p (x ++ c :: rest) = (p ++ x) :: cutA c [] rest
  | [], p, _ => by
    conv => lhs; unfold cutA
    simp
  | b :: x, p, h => by
    have hb : b ≠ c := fun e => h (by rw [e]; simp)
    conv => lhs; unfold cutA
    rw [List.cons_append]
    show (if b = c then _ else _) = _
    rw [if_neg hb, cutA_step c rest x _ (fun hm => h (by simp [hm]))]
    simp
/-- Words without the byte, joined by it and cut at it. -/
theorem cutA_join (c : UInt8) : ∀ (r : List (List UInt8)) (x p : List UInt8), ¬ c ∈ x → (∀ y ∈ r, ¬ c ∈ y) → cutA c p (x ++ Lib.joinTail [c] r) = (p ++ x) :: r
  | [], x, p, h, _ => by
    simp only [Lib.joinTail, List.map_nil, List.flatten_nil, List.append_nil]
    exact cutA_none c x p h
  | y :: r, x, p, h, hr => by
    have e : x ++ Lib.joinTail [c] (y :: r) = x ++ c :: (y ++ Lib.joinTail [c] r) := by simp [Lib.joinTail]
    rw [e, cutA_step c _ x p h, cutA_join c r y [] (hr y (by simp)) (fun z hz => hr z (by simp [hz]))]
    rfl

/-- The words. -/
def peW (s : ByteArray) : List (List UInt8) := cutA 44 [] s.data.toList
def peA (s : ByteArray) (j : Nat) : Bool := ((peW s).getD j []).getD 0 0 == 43
def peV (s : ByteArray) (j : Nat) : Int := ((((peW s).getD j []).getD 1 0).toNat : Int) - 48
def peU (s : ByteArray) (j : Nat) : Int := ((((peW s).getD j []).getD 2 0).toNat : Int) - 48
/-- All words are three bytes long, and the edits read as the text does. -/
def peOk (s : ByteArray) : Prop := (∀ x ∈ peW s, x.length = 3) ∧ fmO (peW s).length (peA s) (peV s) (peU s) = s
theorem peW_pos (s : ByteArray) : 0 < (peW s).length := List.length_pos_iff.2 (cutA_some _ _ _)

theorem fmO_size {n : Nat} {a : Nat → Bool} {v u : Nat → Int} : (fmO n a v u).size ≤ 48 := by
  unfold fmO
  split
  · exact Nat.zero_le _
  · split
    · decide
    · have := fmJ_size a v u n; omega
theorem peOk_long {s : ByteArray} (h : 60 < s.size) : ¬ peOk s := fun ⟨_, e⟩ => by
  have := fmO_size (n := (peW s).length) (a := peA s) (v := peV s) (u := peU s)
  rw [e] at this; omega
theorem fmW_list (a : Nat → Bool) (v u : Nat → Int) (j : Nat) : (fmW a v u j).data.toList = [if a j then 43 else 45, UInt8.ofNat (48 + (v j).toNat), UInt8.ofNat (48 + (u j).toNat)] := by
  unfold fmW sgn
  cases a j <;> simp [dvB, dgB]
theorem fmW_comma {a : Nat → Bool} {v u : Nat → Int} {j : Nat} (h : exB (v j) (u j) = true) : ¬ (44 : UInt8) ∈ (fmW a v u j).data.toList := by
  obtain ⟨h1, h2⟩ := exB_two h
  obtain ⟨a1, a2⟩ := vxB_yes h1
  obtain ⟨b1, b2⟩ := vxB_yes h2
  rw [fmW_list]
  have d : ∀ x : Int, 0 ≤ x → x ≤ 6 → (44 : UInt8) ≠ UInt8.ofNat (48 + x.toNat) := by
    intro x h0 h6
    have hc : x.toNat = 0 ∨ x.toNat = 1 ∨ x.toNat = 2 ∨ x.toNat = 3 ∨ x.toNat = 4 ∨ x.toNat = 5 ∨ x.toNat = 6 := by omega
    rcases hc with h | h | h | h | h | h | h <;> rw [h] <;> decide
  simp only [List.mem_cons, List.not_mem_nil, or_false, not_or]
  refine ⟨by cases a j <;> decide, d _ a1 a2, d _ b1 b2⟩
/-- What reads back: its words are the edits' words. -/
theorem peOk_words {s : ByteArray} (h : peOk s) : peW s = (fmL (peA s) (peV s) (peU s) (peW s).length).map (·.data.toList) := by
  obtain ⟨h3, e⟩ := h
  have hp := peW_pos s
  obtain ⟨n, hn⟩ : ∃ n, n = (peW s).length := ⟨_, rfl⟩
  rw [← hn] at e hp ⊢
  have hne : s ≠ ⟨#[]⟩ := by
    intro h0
    have : peW s = [[]] := by rw [h0]; rfl
    have := h3 [] (by rw [this]; simp)
    simp at this
  have hb : ¬ (12 < n ∨ 0 ≤ exP (peV s) (peU s) n) := fun hh => hne (by rw [← e]; exact if_pos hh)
  have hall := exP_all (v := peV s) (u := peU s) (n := n) (by omega)
  have eJ : fmJ (peA s) (peV s) (peU s) n = s := by rw [← fmO_yes hp (by omega) hall]; exact e
  have hj := fmJ_join (peA s) (peV s) (peU s) n
  rw [eJ] at hj
  show cutA 44 [] s.data.toList = _
  rw [← hj]
  have hno : ∀ y ∈ (fmL (peA s) (peV s) (peU s) n).map (·.data.toList), ¬ (44 : UInt8) ∈ y := by
    intro y hy
    simp only [fmL, List.map_map, List.mem_map, List.mem_range, Function.comp] at hy
    obtain ⟨j, hjn, rfl⟩ := hy
    exact fmW_comma (hall j hjn)
  have hl : ((fmL (peA s) (peV s) (peU s) n).map (·.data.toList)).length = n := by rw [List.length_map, fmL_len]
  obtain ⟨L, hL⟩ : ∃ L, L = (fmL (peA s) (peV s) (peU s) n).map (·.data.toList) := ⟨_, rfl⟩
  rw [← hL] at hno hl ⊢
  cases L with
  | nil => simp at hl; omega
  | cons x r =>
    rw [Lib.join_cons, cutA_join 44 r x [] (hno x (by simp)) (fun y hy => hno y (by simp [hy]))]
    rfl
/-- A word with another sign: it does not read back. -/
theorem peOk_sign {s : ByteArray} {j : Nat} (hj : j < (peW s).length) (h1 : ((peW s).getD j []).getD 0 0 ≠ 43) (h2 : ((peW s).getD j []).getD 0 0 ≠ 45) : ¬ peOk s := by
  intro h
  have e := peOk_words h
  have : (peW s).getD j [] = (fmW (peA s) (peV s) (peU s) j).data.toList := by
    conv => lhs; rw [e]
    simp [List.getD, fmL, hj]
  rw [this, fmW_list] at h1 h2
  cases ha : peA s j <;> rw [ha] at h1 h2 <;> simp at h1 h2
theorem peOk_len {s : ByteArray} {j : Nat} (hj : j < (peW s).length) (h : ((peW s).getD j []).length ≠ 3) : ¬ peOk s := fun ⟨h3, _⟩ => h (h3 _ (by simp [List.getD, hj]))
end Go.Proofs.YtncjfgebolikoaaDoor
