/-
  A minimal fill makes a graph chordal and no edge of it can be spared, and deleting as few vertices as found leads into the class: the law FnChanges answers true at every input.
  No condition.
-/
import Derived.Test.YticadlkcjhglnaaGreatQoGreat
import Derived.Test.YticadlkcjhglnaaGreatQoChgW
import Derived.Test.YticadlkcjhglnaaGreatQoBoxG
import Derived.Test.YticadlkcjhglnaaGreatQoFillS
import Derived.Test.YticadlkcjhglnaaGreatQoPthS
import Derived.ChangeMaps5
namespace Go.Proofs.YticadlkcjhglnaaGreat.fnChanges
open Go.ChangeShapes Go.WideShapes Go.ChangeAt Go.RowKit
set_option maxRecDepth 100000 in
theorem lifted (os : Os) (started : os.Started) (H : Type) (enc : TypeId × Value → H) :
 ReturnsInHanded {} Tryz.checked os 4 .any (Rows.fnChangesSpec.pre6 enc Tryz.prog Tryz.f4 Rows.fnChangesRow.domain false) (Rows.fnChangesSpec.post enc Tryz.prog Tryz.f4 false true false false) := by
 refine returnsInHanded_of_change (C := Tryz.checked) own started (by kernel_rfl) Tryz.func4
  (ChangeSpec.witness6 (enc := enc) (C := Tryz.checked) false ⟨#[], #[.slice none 0 0], []⟩ 8 (by kernel_rfl) (by kernel_rfl) (by kernel_rfl) (by kernel_rfl)) ?_
 intro W base args ds gs before hval0 hW hcnd _;have hval : ∀ (j : Nat) t v, Tryz.f4.params[j]? = some t → args[j]? = some v → Value.okWide Tryz.prog W .any base t v := hval0;have hW' := hW;obtain ⟨p, q, hA0, hV, rfl, hfz, hnd⟩ := hW;have hA : DataW.TrodAll enc Tryz.prog W 0 (fun _ => true) true Tryz.f4.params.toList args.toList ds p := hA0;rw [Tryz.params4] at hA hval;obtain ⟨v0, vs0, d0, ds0, p0, q0, hargs, rfl, rfl, l0, r0⟩ := trodAll_cons hA;obtain ⟨rfl, rfl, rfl⟩ := trodAll_nil r0;obtain rfl : args = #[v0] := by cases args; simp_all
 obtain ⟨rfl, rfl⟩ := trodVars_none hV;have lt0 := places_lt l0;obtain ⟨A, n, c, rfl, h1, n1⟩ := open_bytes_arg (hval 0 22 v0 rfl rfl) l0;clear hA0 hval0;refine (fnChanges_walk A n c W h1 n1).mono fun e W' ⟨he, bel⟩ => ?_
 subst he;exact ⟨_, rfl, _, _, _, [], _, [], hW', trodAll_mk1 (shut_bool Tryz.underlying4 _), (trodAll_cons_mk (Below.trod laidOut (by kernel_rfl) (of_decide_eq_true (by kernel_rfl)) l0 bel lt0) trodAll_mk0), rfl, bel.frame _, fun h => by cases h⟩
theorem unf : Tryz.pinned.checked.prog.unfollowed 4 = true := unfollowed_of (closure_step (closure_step (closure_step closure_self (h := 34) (by kernel_rfl)) (h := 32) (by kernel_rfl)) (h := 87) (by kernel_rfl)) (by kernel_rfl)
theorem closed : joinedFacts Tryz.pinned.checked.prog 4 Tryz.f4 Rows.fnChangesSpec Rows.fnChangesRow = true := by
 unfold joinedFacts;rw [inPlace_none (f := 4) all_own (by decide) (by decide), varsNamed_none (f := 4) all_own (by decide) (by decide), recurses_of unf, unf];kernel_rfl
theorem over : Rows.fnChangesRow.holds Tryz.pinned (OpenSpec.ofChange Rows.fnChangesSpec) :=
 OpenClaim.holds_of_wide 4 Tryz.f4 rfl rfl rfl rfl rfl rfl rfl ⟨rfl, rfl, rfl, rfl, rfl⟩ rfl rfl rfl rfl rfl (by kernel_rfl) Tryz.func4 closed
  (of_decide_eq_true (by kernel_rfl)) (by unfold Func.isWrapper; first | (rw [if_pos (by decide +kernel)]; kernel_rfl) | (rw [if_neg (by decide +kernel)]; exact ⟨rfl, rfl⟩))
  (fun os started H enc _ => lifted os started H enc)
/-- The statement. -/
theorem proved : Rows.FnChangesSaid := over
#print axioms proved
end Go.Proofs.YticadlkcjhglnaaGreat.fnChanges
