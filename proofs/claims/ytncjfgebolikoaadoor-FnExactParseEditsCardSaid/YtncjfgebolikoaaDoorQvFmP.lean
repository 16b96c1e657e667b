/-
  What a list of edits reads as, as text: in plain words.
-/
import Derived.Test.YtncjfgebolikoaaDoorQvFmE
import Derived.Lib.Join
namespace Go.Proofs.YtncjfgebolikoaaDoor
open Go.RowKit

theorem dataApp (a b : ByteArray) : (a ++ b).data.toList = a.data.toList ++ b.data.toList := by simp
theorem join_snoc (xs : List (List UInt8)) (y sep : List UInt8) (h : xs ≠ []) : Lib.join (xs ++ [y]) sep = Lib.join xs sep ++ (sep ++ y) := by
  cases xs with
  | nil => exact absurd rfl h
  | cons x r =>
    rw [List.cons_append, Lib.join_cons, Lib.join_cons]
    simp [Lib.joinTail, List.append_assoc]
def dvB (v : Int) : ByteArray := dgB v.toNat
def sgn (a : Bool) : ByteArray := if a then ⟨#[43]⟩ else ⟨#[45]⟩
/-- The text of the first k edits. -/
def fmJ (a : Nat → Bool) (v u : Nat → Int) : Nat → ByteArray
  | 0 => ⟨#[]⟩
  | k + 1 => (if k = 0 then fmJ a v u k else fmJ a v u k ++ ⟨#[44]⟩) ++ sgn (a k) ++ dvB (v k) ++ dvB (u k)
/-- What FormatEdits answers. -/
def fmO (n : Nat) (a : Nat → Bool) (v u : Nat → Int) : ByteArray := if 12 < n ∨ 0 ≤ exP v u n then ⟨#[]⟩ else if n = 0 then ⟨#[110, 111, 110, 101]⟩ else fmJ a v u n

theorem FormatInt_sv (v : Int) (hv : vxB v = true) (w : World) : Calls Tryd.prog 21 #[.int .i64 v] w fun e w' => e = .returned (.string (dvB v)) ∧ Below w.heap.size w w' := by
  obtain ⟨h0, h1⟩ := vxB_yes hv
  obtain ⟨d, rfl⟩ : ∃ d : Nat, v = d := ⟨v.toNat, by omega⟩
  exact FormatInt_s1 d (by omega) w

theorem exP_bad {v u : Nat → Int} {n k : Nat} (hk : k < n) (h : exB (v k) (u k) = false) : 0 ≤ exP v u n := by
  unfold exP fIdx
  cases e : (List.range n).find? (fun j => !exB (v j) (u j)) with
  | some j => show (0 : Int) ≤ (j : Int); omega
  | none =>
    rw [List.find?_eq_none] at e
    have := e k (List.mem_range.2 hk)
    rw [h] at this; simp at this
theorem exP_good {v u : Nat → Int} {n : Nat} (h : ∀ j, j < n → exB (v j) (u j) = true) : exP v u n < 0 := by
  have : exP v u n = -1 := fIdx_no fun j hj => by rw [h j hj]; rfl
  omega
theorem exP_all {v u : Nat → Int} {n : Nat} (h : exP v u n < 0) : ∀ j, j < n → exB (v j) (u j) = true := by
  intro j hj
  cases e : exB (v j) (u j)
  · exact absurd (exP_bad hj e) (by omega)
  · rfl
theorem exB_two {v u : Int} (h : exB v u = true) : vxB v = true ∧ vxB u = true := by
  unfold exB at h; simpa using h
theorem fmO_many {n : Nat} {a : Nat → Bool} {v u : Nat → Int} (h : 12 < n) : fmO n a v u = ⟨#[]⟩ := by unfold fmO; rw [if_pos (.inl h)]
theorem fmO_bad {n k : Nat} {a : Nat → Bool} {v u : Nat → Int} (hk : k < n) (h : exB (v k) (u k) = false) : fmO n a v u = ⟨#[]⟩ := by unfold fmO; rw [if_pos (.inr (exP_bad hk h))]
theorem fmO_none {a : Nat → Bool} {v u : Nat → Int} : fmO 0 a v u = ⟨#[110, 111, 110, 101]⟩ := by
  unfold fmO
  have := exP_good (v := v) (u := u) (n := 0) fun j hj => absurd hj (by omega)
  rw [if_neg (by omega), if_pos rfl]
theorem fmO_yes {n : Nat} {a : Nat → Bool} {v u : Nat → Int} (h0 : 0 < n) (h12 : n ≤ 12) (h : ∀ j, j < n → exB (v j) (u j) = true) : fmO n a v u = fmJ a v u n := by
  have := exP_good h
  unfold fmO
  rw [if_neg (by omega), if_neg (by omega)]
theorem fmJ_one (a : Nat → Bool) (v u : Nat → Int) {k : Nat} (h : k = 0) : fmJ a v u (k + 1) = fmJ a v u k ++ sgn (a k) ++ dvB (v k) ++ dvB (u k) := by
  show (if k = 0 then _ else _) ++ _ ++ _ ++ _ = _
  rw [if_pos h]
theorem fmJ_more (a : Nat → Bool) (v u : Nat → Int) {k : Nat} (h : k ≠ 0) : fmJ a v u (k + 1) = fmJ a v u k ++ ⟨#[44]⟩ ++ sgn (a k) ++ dvB (v k) ++ dvB (u k) := by
  show (if k = 0 then _ else _) ++ _ ++ _ ++ _ = _
  rw [if_neg h]
theorem dvB_size (v : Int) : (dvB v).size = 1 := rfl
theorem sgn_size (a : Bool) : (sgn a).size = 1 := by cases a <;> rfl
theorem fmJ_size (a : Nat → Bool) (v u : Nat → Int) : ∀ k, (fmJ a v u k).size ≤ 4 * k
  | 0 => Nat.le_refl _
  | k + 1 => by
    have ih := fmJ_size a v u k
    by_cases h : k = 0
    · rw [fmJ_one a v u h]
      simp only [ByteArray.size_append, dvB_size, sgn_size]; omega
    · rw [fmJ_more a v u h]
      simp only [ByteArray.size_append, dvB_size, sgn_size, show (⟨#[44]⟩ : ByteArray).size = 1 from rfl]; omega
theorem fmJ_some (a : Nat → Bool) (v u : Nat → Int) {k : Nat} (h : 0 < k) : 0 < (fmJ a v u k).size := by
  obtain ⟨j, rfl⟩ : ∃ j, k = j + 1 := ⟨k - 1, by omega⟩
  by_cases h : j = 0
  · rw [fmJ_one a v u h]; simp only [ByteArray.size_append, dvB_size, sgn_size]; omega
  · rw [fmJ_more a v u h]; simp only [ByteArray.size_append, dvB_size, sgn_size]; omega
/-- A list of edits that is only read. -/
structure RE (w : World) (A : Option Addr) (n c : Nat) (a : Nat → Bool) (v u : Nat → Int) : Prop where
  rd : RdE w w.heap.size A n c a v u
theorem RE.keep {w w' : World} {A : Option Addr} {n c : Nat} {a : Nat → Bool} {v u : Nat → Int} (h : RE w A n c a v u) (hb : Below w.heap.size w w') : RE w' A n c a v u := ⟨h.rd.keep hb hb.size⟩
end Go.Proofs.YtncjfgebolikoaaDoor
