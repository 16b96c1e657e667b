/-
  A text cut at a byte: as the library's split says it, and as the reference goes over it. In plain words.
-/
import Derived.Lib.Split
namespace Go.Proofs.YtncjfgebolikoaaDoor

/-- As the reference goes: what is gathered so far, then the rest. -/
def cutA (c : UInt8) (p : List UInt8) : List UInt8 → List (List UInt8)
  | [] => [p]
  | b :: l => if b = c then p :: cutA c [] l else cutA c (p ++ [b]) l

theorem cutA_some (c : UInt8) : ∀ (l p : List UInt8), cutA c p l ≠ []
  | [], p => by unfold cutA; simp
  | b :: l, p => by
    unfold cutA
    split
    · simp
    · exact cutA_some c l _

theorem prefix_one (b c : UInt8) (l : List UInt8) : List.isPrefixOf [c] (b :: l) = (c == b) := by
  simp [List.isPrefixOf]

theorem index_one_cons (c b : UInt8) (l : List UInt8) : Lib.index (b :: l) [c] = if b = c then 0 else if Lib.index l [c] == -1 then -1 else Lib.index l [c] + 1 := by
  rw [Lib.index, prefix_one]
  by_cases h : b = c
  · subst h; simp
  · rw [if_neg h, if_neg (by simp; exact fun e => h e.symm)]

theorem index_one_ge (c : UInt8) : ∀ l : List UInt8, -1 ≤ Lib.index l [c]
  | [] => by simp [Lib.index]
  | b :: l => by
    have ih := index_one_ge c l
    rw [index_one_cons]
    split
    · omega
    · split
      · omega
      · omega

/-- Where the byte does not stand: one piece. -/
theorem cutA_miss (c : UInt8) : ∀ (l p : List UInt8), Lib.index l [c] = -1 → cutA c p l = [p ++ l]
  | [], p, _ => by unfold cutA; simp
  | b :: l, p, h => by
    rw [index_one_cons] at h
    have hg := index_one_ge c l
    by_cases hb : b = c
    · rw [if_pos hb] at h; omega
    · rw [if_neg hb] at h
      by_cases hi : Lib.index l [c] = -1
      · unfold cutA
        rw [if_neg hb, cutA_miss c l _ hi]
        simp
      · rw [if_neg (by simpa using hi)] at h
        omega
/-- Where it stands: the piece ahead of it, then the rest. -/
theorem cutA_hit (c : UInt8) : ∀ (l p : List UInt8) (i : Nat), Lib.index l [c] = i → cutA c p l = (p ++ l.take i) :: cutA c [] (l.drop (i + 1))
  | [], p, i, h => by simp [Lib.index] at h
  | b :: l, p, i, h => by
    rw [index_one_cons] at h
    have hg := index_one_ge c l
    by_cases hb : b = c
    · rw [if_pos hb] at h
      obtain rfl : i = 0 := by omega
      conv => lhs; unfold cutA
      rw [if_pos hb]; simp
    · rw [if_neg hb] at h
      by_cases hi : Lib.index l [c] = -1
      · rw [if_pos (by simpa using hi)] at h; omega
      · rw [if_neg (by simpa using hi)] at h
        obtain ⟨j, rfl⟩ : ∃ j, i = j + 1 := ⟨i - 1, by omega⟩
        conv => lhs; unfold cutA
        rw [if_neg hb, cutA_hit c l _ j (by omega)]
        simp
/-- The library's pieces, however many instances it is told of, if they are enough. -/
theorem splitK_cut (c : UInt8) : ∀ (k : Nat) (l : List UInt8), l.count c ≤ k → Lib.splitK [c] 0 k l = cutA c [] l
  | 0, l, h => by
    have h0 : Lib.index l [c] = -1 := by
      have hc : ¬ c ∈ l := fun hm => by have := List.count_pos_iff.2 hm; omega
      clear h
      induction l with
      | nil => simp [Lib.index]
      | cons b l ih =>
        rw [index_one_cons, if_neg (fun e => hc (by rw [e]; simp)), ih (fun hm => hc (by simp [hm]))]
        rfl
    rw [cutA_miss c l [] h0]
    rfl
  | k + 1, l, h => by
    rw [Lib.splitK]
    have hg := index_one_ge c l
    by_cases hi : Lib.index l [c] = -1
    · rw [if_pos (by simpa using hi), cutA_miss c l [] hi]; rfl
    · obtain ⟨i, e⟩ : ∃ i : Nat, Lib.index l [c] = i := ⟨(Lib.index l [c]).toNat, by omega⟩
      rw [if_neg (by simpa using hi), cutA_hit c l [] i e, e]
      have hcount : (l.drop (i + 1)).count c ≤ k := by
        have hm : ∀ (l : List UInt8) (i : Nat), Lib.index l [c] = i → (l.drop (i + 1)).count c + 1 ≤ l.count c := by
          intro l
          induction l with
          | nil => intro i h; simp [Lib.index] at h
          | cons b l ih =>
            intro i h
            rw [index_one_cons] at h
            have hg := index_one_ge c l
            by_cases hb : b = c
            · rw [if_pos hb] at h
              obtain rfl : i = 0 := by omega
              subst hb; simp
            · rw [if_neg hb] at h
              by_cases hi : Lib.index l [c] = -1
              · rw [if_pos (by simpa using hi)] at h; omega
              · rw [if_neg (by simpa using hi)] at h
                obtain ⟨j, rfl⟩ : ∃ j, i = j + 1 := ⟨i - 1, by omega⟩
                have := ih j (by omega)
                rw [List.drop_succ_cons, List.count_cons_of_ne hb]
                exact this
        have := hm l i e
        omega
      have ih := splitK_cut c k (l.drop (i + 1)) hcount
      simp only [Int.toNat_natCast, Nat.add_zero, List.length_singleton, List.nil_append]
      rw [ih]
end Go.Proofs.YtncjfgebolikoaaDoor
