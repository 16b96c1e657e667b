/-
  Numbers, lists of numbers and lists of words as text: in plain words.
-/
import Derived.Lib.ItoaLen
import Derived.Test.YtppkokgiojcgbaaDoorQzFmP
namespace Go.Proofs.YtppkokgiojcgbaaDoor
open Go.RowKit

/-- What an int holds. -/
def I64 (n : Int) : Prop := -9223372036854775808 ≤ n ∧ n ≤ 9223372036854775807
/-- The numeral. -/
def itB (n : Int) : ByteArray := ⟨(Lib.itoa n).toArray⟩
theorem itB_size {n : Int} (h : I64 n) : (itB n).size ≤ 21 := by
  have := Lib.itoa_length_le n h.1 h.2
  show (Lib.itoa n).toArray.size ≤ 21
  simpa using this
theorem itB_dg {d : Nat} (h : d < 10) : itB (d : Int) = dgB d := by
  unfold itB dgB
  rw [Lib.itoa_nonneg, Lib.decDigits_one h]
/-- Words joined by commas. -/
def cmJ (T : Nat → ByteArray) : Nat → ByteArray
  | 0 => ⟨#[]⟩
  | k + 1 => (if k = 0 then cmJ T k else cmJ T k ++ ⟨#[44]⟩) ++ T k
theorem cmJ_one (T : Nat → ByteArray) {k : Nat} (h : k = 0) : cmJ T (k + 1) = cmJ T k ++ T k := by
  show (if k = 0 then _ else _) ++ _ = _
  rw [if_pos h]
theorem cmJ_more (T : Nat → ByteArray) {k : Nat} (h : k ≠ 0) : cmJ T (k + 1) = cmJ T k ++ ⟨#[44]⟩ ++ T k := by
  show (if k = 0 then _ else _) ++ _ = _
  rw [if_neg h]
theorem cmJ_size {T : Nat → ByteArray} {M : Nat} : ∀ k, (∀ j, j < k → (T j).size ≤ M) → (cmJ T k).size ≤ (M + 1) * k
  | 0, _ => Nat.zero_le _
  | k + 1, h => by
    have ih := cmJ_size k (fun j hj => h j (by omega))
    have h1 := h k (by omega)
    rw [Nat.mul_add]
    by_cases h0 : k = 0
    · rw [cmJ_one T h0, ByteArray.size_append]; omega
    · rw [cmJ_more T h0, ByteArray.size_append, ByteArray.size_append, show (⟨#[44]⟩ : ByteArray).size = 1 from rfl]; omega
def cmL (T : Nat → ByteArray) (k : Nat) : List ByteArray := (List.range k).map T
theorem cmL_succ (T : Nat → ByteArray) (k : Nat) : cmL T (k + 1) = cmL T k ++ [T k] := by unfold cmL; rw [List.range_succ, List.map_append]; rfl
theorem cmL_len (T : Nat → ByteArray) (k : Nat) : (cmL T k).length = k := by unfold cmL; simp
theorem cmJ_join (T : Nat → ByteArray) : ∀ k, Lib.join ((cmL T k).map (·.data.toList)) [44] = (cmJ T k).data.toList
  | 0 => rfl
  | k + 1 => by
    have ih := cmJ_join T k
    rw [cmL_succ, List.map_append]
    by_cases h : k = 0
    · subst h
      rw [cmJ_one T rfl]
      show Lib.join ([] ++ [(T 0).data.toList]) [44] = _
      rw [List.nil_append, Lib.join_one, dataApp]
      rfl
    · rw [cmJ_more T h]
      show Lib.join (_ ++ [(T k).data.toList]) [44] = _
      rw [join_snoc _ _ _ (fun e => h (by have := congrArg List.length e; rw [List.length_map, cmL_len] at this; exact this)), ih]
      simp only [dataApp, List.append_assoc]
/-- Numbers one after the other. -/
def dgJ (X : Nat → Int) : Nat → ByteArray
  | 0 => ⟨#[]⟩
  | k + 1 => dgJ X k ++ itB (X k)
theorem dgJ_size {X : Nat → Int} : ∀ k, (∀ j, j < k → I64 (X j)) → (dgJ X k).size ≤ 21 * k
  | 0, _ => Nat.zero_le _
  | k + 1, h => by
    have ih := dgJ_size k (fun j hj => h j (by omega))
    have h1 := itB_size (h k (by omega))
    show (dgJ X k ++ itB (X k)).size ≤ _
    rw [ByteArray.size_append]; omega
/-- A text, or none. -/
def noB (b : ByteArray) : ByteArray := if b.toList = [] then ⟨#[110, 111, 110, 101]⟩ else b
theorem noB_yes {b : ByteArray} (h : b.toList = []) : noB b = ⟨#[110, 111, 110, 101]⟩ := if_pos h
theorem noB_no {b : ByteArray} (h : ¬ b.toList = []) : noB b = b := if_neg h
theorem noB_size (b : ByteArray) : (noB b).size ≤ b.size + 4 := by
  unfold noB
  split
  · show 4 ≤ _; omega
  · omega
/-- A list of numbers as text. -/
def nuB (X : Nat → Int) (n : Nat) : ByteArray := noB (cmJ (fun j => itB (X j)) n)
theorem nuB_size {X : Nat → Int} {n : Nat} (h : ∀ j, j < n → I64 (X j)) : (nuB X n).size ≤ 22 * n + 4 := by
  have := noB_size (cmJ (fun j => itB (X j)) n)
  have := cmJ_size (T := fun j => itB (X j)) (M := 21) n (fun j hj => itB_size (h j hj))
  unfold nuB; omega
end Go.Proofs.YtppkokgiojcgbaaDoor
