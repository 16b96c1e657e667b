/-
  Contract: the program's FormatEdits.
-/
import Derived.Test.YtncjfgebolikoaaDoorQvFmT
import Derived.Test.YtncjfgebolikoaaDoorQvShlF
import Derived.Test.YtncjfgebolikoaaDoorQvNms
import Derived.Test.YtncjfgebolikoaaDoorQvGA
namespace Go.Proofs.YtncjfgebolikoaaDoor
open Go.RowKit

theorem FormatInt_iv (v : Int) (hv : vxB v = true) (w : World) : Calls Tryd.prog 26 #[.int .i64 v] w fun e w' => e = .returned (.string (dvB v)) ∧ w' = w := by
  obtain ⟨h0, h1⟩ := vxB_yes hv
  obtain ⟨d, rfl⟩ : ∃ d : Nat, v = d := ⟨v.toNat, by omega⟩
  have K := Lib.hid (itoa_small d (by omega) w)
  have HE : Hid ((⟨(Lib.decDigits d).toArray⟩ : ByteArray) = dvB (d : Int)) := by
    show _ = _
    rw [Lib.decDigits_one (by omega)]; rfl
  clear hv h0 h1
  go_enter Tryd.func26, Tryd.ntmps26
  go_wp2_with fail
  refine K.out.mono ?_
  rintro e w1 ⟨rfl, rfl⟩
  rw [HE.out]
  go_wp2
  go_ret
  exact ⟨rfl, rfl⟩

/-- The words. -/
def fmW (a : Nat → Bool) (v u : Nat → Int) (j : Nat) : ByteArray := sgn (a j) ++ dvB (v j) ++ dvB (u j)
def fmL (a : Nat → Bool) (v u : Nat → Int) (k : Nat) : List ByteArray := (List.range k).map (fmW a v u)
theorem fmL_succ (a : Nat → Bool) (v u : Nat → Int) (k : Nat) : fmL a v u (k + 1) = fmL a v u k ++ [fmW a v u k] := by
  unfold fmL; rw [List.range_succ, List.map_append]; rfl
theorem fmL_len (a : Nat → Bool) (v u : Nat → Int) (k : Nat) : (fmL a v u k).length = k := by unfold fmL; simp
theorem fmJ_join (a : Nat → Bool) (v u : Nat → Int) : ∀ k, Lib.join ((fmL a v u k).map (·.data.toList)) [44] = (fmJ a v u k).data.toList
  | 0 => rfl
  | k + 1 => by
    have ih := fmJ_join a v u k
    rw [fmL_succ, List.map_append]
    by_cases h : k = 0
    · subst h
      rw [fmJ_one a v u rfl]
      show Lib.join ([] ++ [(fmW a v u 0).data.toList]) [44] = _
      rw [List.nil_append, Lib.join_one]
      unfold fmW
      simp only [dataApp]
      rfl
    · rw [fmJ_more a v u h]
      show Lib.join (_ ++ [(fmW a v u k).data.toList]) [44] = _
      rw [join_snoc _ _ _ (fun e => h (by have := congrArg List.length e; rw [List.length_map, fmL_len] at this; exact this)), ih]
      unfold fmW
      simp only [dataApp, List.append_assoc]
end Go.Proofs.YtncjfgebolikoaaDoor
