/-
  Several texts in one.
-/
import Derived.Test.YtjonhbmgmamchaaGreatDoorRdGA
import Derived.JoinedOf
import Derived.Test.YtjonhbmgmamchaaGreatDoorRdNms
import Derived.Lib.LaidTab
import Derived.LaidSub
import Derived.LaidMore
import Derived.Lay
import Derived.Stop.Joined
import Derived.SevenTiedAt
import Derived.Handed
/-
  Closed facts of the laws of this seat, without a run through all that a law reaches: what is reached is closed under calls; nothing in the whole program is run in place or names a variable.
-/
namespace Go.Proofs.YtjonhbmgmamchaaGreatDoor
open Go.RowKit

/-- What a place of the program leads to. -/
def leadsAt (P : Program) (i : FuncId) : List FuncId := (P.funcs[i]?).elim [] P.leadsTo
section
variable {P : Program} {f g h : FuncId}
theorem recurses_of (hu : P.unfollowed f = true) : P.recurses f = true := by unfold Program.recurses; rw [hu]; rfl
variable {lo hi : Nat}
end
end Go.Proofs.YtjonhbmgmamchaaGreatDoor

/-
  What a law of a great door seat reaches, out of a table of what each function leads to.
-/
namespace Go.Proofs.YtjonhbmgmamchaaGreatDoor
open Go.RowKit

def tabAt (adj : List (List Nat)) (i : Nat) : List Nat := adj.getD i []
/-- As closureVia goes: what was seen is told by the bits of a number. -/
def goT (adj : List (List Nat)) : Nat → List Nat → Nat → List Nat → List Nat
  | 0, _, _, seen => seen.reverse
  | _ + 1, [], _, seen => seen.reverse
  | n + 1, f :: todo, k, seen => bif k.testBit f then goT adj n todo k seen else goT adj n (tabAt adj f ++ todo) (k ||| (1 <<< f)) (f :: seen)
theorem goT_eq {P : Program} {adj : List (List Nat)} (hadj : ∀ i, leadsAt P i = tabAt adj i) : ∀ (n : Nat) (todo : List Nat) (k : Nat) (seen : List Nat), (∀ i, k.testBit i = seen.contains i) → goT adj n todo k seen = P.closureVia n todo seen
  | 0, todo, k, seen, _ => by unfold goT Program.closureVia; rfl
  | n + 1, [], k, seen, _ => by unfold goT Program.closureVia; rfl
  | n + 1, f :: todo, k, seen, h => by
    unfold goT
    conv => rhs; unfold Program.closureVia
    rw [h f]
    cases hs : seen.contains f
    · show goT adj n (tabAt adj f ++ todo) (k ||| (1 <<< f)) (f :: seen) = P.closureVia n (leadsAt P f ++ todo) (f :: seen)
      rw [hadj f]
      refine goT_eq hadj n _ _ _ fun i => ?_
      rw [Nat.testBit_or, h i, List.contains_cons, Nat.one_shiftLeft, Nat.testBit_two_pow, Bool.or_comm]
      congr 1
      by_cases e : f = i
      · subst e; simp
      · have e2 : ¬ i = f := fun h => e h.symm
        simp [e, e2]
    · exact goT_eq hadj n todo k seen h
theorem tab_all {P : Program} {adj : List (List Nat)} (h1 : P.funcs.size = adj.length) (h2 : (List.range adj.length).map (leadsAt P) = adj) : ∀ i, leadsAt P i = tabAt adj i := by
  intro i
  by_cases hi : i < adj.length
  · have e : ((List.range adj.length).map (leadsAt P))[i]? = adj[i]? := by rw [h2]
    rw [List.getElem?_map, List.getElem?_range hi, Option.map_some, List.getElem?_eq_getElem hi] at e
    unfold tabAt
    rw [Option.some.inj e]
    simp [List.getD, hi]
  · unfold leadsAt tabAt
    rw [Array.getElem?_eq_none (by rw [h1]; exact Nat.le_of_not_lt hi)]
    simp [List.getD, List.getElem?_eq_none (Nat.le_of_not_lt hi)]
theorem tab_sum {P : Program} {adj : List (List Nat)} (h1 : P.funcs.size = adj.length) (h2 : (List.range adj.length).map (leadsAt P) = adj) : (P.funcs.toList.map fun g => (P.leadsTo g).length + 1).sum = (adj.map fun l => l.length + 1).sum := by
  have e : P.funcs.toList.map P.leadsTo = adj := by
    rw [← h2]
    apply List.ext_getElem
    · simp [h1]
    · intro i h3 h4
      have hi : i < P.funcs.size := by simpa using h3
      simp [leadsAt, hi]
  rw [← e, List.map_map]
  rfl
theorem closure_tab {P : Program} {adj : List (List Nat)} (h1 : P.funcs.size = adj.length) (h2 : (List.range adj.length).map (leadsAt P) = adj) (f : FuncId) : P.closure f = goT adj (1 + (adj.map fun l => l.length + 1).sum) [f] 0 [] := by
  unfold Program.closure
  rw [tab_sum h1 h2]
  exact (goT_eq (tab_all h1 h2) _ _ _ _ (fun i => by simp)).symm
end Go.Proofs.YtjonhbmgmamchaaGreatDoor

/-
  What a door seat's laws share: the table of powers out of the row's list; the wrap that hands the world's shape on.
-/
namespace Go.Proofs.YtjonhbmgmamchaaGreatDoor
open Go.RowKit

theorem tb_of {W : World} {l : List (String × DataW Unit)} (h : laidMetH Tryz.prog l W) (hf : l.filter (fun x => x.1 == "internal/strconv.uint64pow10") = [("internal/strconv.uint64pow10", Rows.laid_internal_strconv_uint64pow10)]) : Tb W := by
  have h2 := h.filter (fun x => x.1 == "internal/strconv.uint64pow10")
  rw [hf, MakeChecks.laidMetH_plain _ _ _ (by kernel_rfl)] at h2
  have e : Rows.laid_internal_strconv_uint64pow10 = (Lib.tabData .u64 Lib.pow10Tab : DataW Unit) := by kernel_rfl
  rw [e] at h2
  exact Lib.tabIs_of_head layItoaM.m17 (by kernel_rfl) (layItoaM.t212) (layItoaM.t53) (by kernel_rfl) (by kernel_rfl) h2
/-- As the kit's wrap for rows with a list, and the world's shape is handed on. -/
theorem handed_shaped {H : Type} {enc : TypeId × Value → H} {a : Assume} {C : Checked} {os : Os} {f : FuncId} {fn : Func} {s : ChangeSpec} {conds : List PathCond} {apart fresh handsOn again : Bool} {X : World → Array Value → Prop}
    (hX : ∀ (w w' : World) (args : Array Value), w.heap = w'.heap → X w args → X w' args)
    (own : ownKnob C.prog.godebug = none) (started : os.Started) (noInit : C.prog.inits.idxOf? f = none) (hfn : C.prog.funcs[f]? = some fn)
    (witness : ∃ (w : World) (tape : Tape) (i : Input), w.os = os ∧ (w.forCall tape i).Shaped C.prog ∧ i.vars = [] ∧ Input.okWide C.prog (w.forCall tape i) .any w.heap.size f i ∧
      ((s.pre enc C.prog fn conds apart (w.forCall tape i).memory i.args ∧ X (w.forCall tape i).memory i.args) ∧ sizedMet enc C.prog fn (OpenSpec.ofChange s) apart (w.forCall tape i).memory i.args) ∧ a.holds C.prog (lone (Frame.enter C.prog f i.args .normal) [] (w.forCall tape i)))
    (contract : ∀ (W : World) (base : Nat) (args : Array Value) (ds gs : List (DataW H)) (before : List MemPlace),
      (∀ (j : Nat) t v, fn.params[j]? = some t → args[j]? = some v → Value.okWide C.prog W .any base t v) →
      DataW.Whole enc C.prog fn.params.toList s.vars apart W args.toList ds gs before → W.ShapedOpen C.prog → X W args →
      a.holds C.prog (lone (Frame.enter C.prog f args .normal) [] W) →
      Calls C.prog f args W fun e W' => ∃ v, e = .returned v ∧ s.post enc C.prog fn apart fresh handsOn again W args v W') :
    ReturnsInHanded a C os f .any (fun w args => (s.pre enc C.prog fn conds apart w args ∧ X w args) ∧ sizedMet enc C.prog fn (OpenSpec.ofChange s) apart w args) (s.post enc C.prog fn apart fresh handsOn again) := by
  refine returnsInHanded_of_calls own started noInit witness fun w tape i _ hsh _ hok hpre hholds => ?_
  obtain ⟨_, _, _, fn2, hfn2, _, _, _, _, hval⟩ := hok
  obtain rfl : fn2 = fn := Option.some.inj (hfn2.symm.trans hfn)
  obtain ⟨⟨⟨ds, gs, before, hw, _⟩, hx⟩, _⟩ := hpre
  refine (contract (w.forCall tape i) w.heap.size i.args ds gs before hval (DataW.Whole.of_heap (w' := w.forCall tape i) (by rfl) hw) hsh (hX _ _ _ (by rfl) hx) hholds).mono fun e W' ⟨v, he, hp⟩ => ?_
  subst he
  exact ChangeSpec.post_blind hp
end Go.Proofs.YtjonhbmgmamchaaGreatDoor

/-
  What each function of this seat leads to, as a table; what the laws reach.
-/
namespace Go.Proofs.YtjonhbmgmamchaaGreatDoor
open Go.RowKit

def adjT : List (List Nat) := [[], [], [1], [4, 6, 5, 6, 7, 6, 8], [9], [10, 12, 11, 13, 11, 15, 14, 11, 16, 11, 17, 11, 18, 14, 11, 19, 11, 20, 11, 21, 11, 22, 23, 24, 24], [25], [26, 27, 28, 30, 29, 31, 32, 33, 29, 34, 35, 36, 37, 38, 39, 40], [41], [], [42], [], [10, 43, 14], [10, 44], [45], [10, 14, 14, 46], [47, 13, 44], [49, 48], [10, 50, 14, 14], [51, 52], [10, 53], [10, 55, 54, 14], [10, 56], [10, 56], [], [], [57, 57, 58, 58, 58], [26, 59, 29], [60], [61], [62, 63], [26, 64, 28, 60], [66, 65], [67, 68], [69, 70], [69, 71], [69, 72], [73], [75, 74, 77], [78, 79, 74], [80, 81, 81, 81, 82], [], [], [10, 14, 14, 83], [10, 42, 84], [85], [86], [10], [48, 48], [10, 87], [86, 54], [10, 88], [89, 87], [], [86], [54], [87, 90, 87, 56], [], [], [62, 91], [57, 26, 93, 92], [57, 58], [26, 94, 29, 29], [95, 96], [26, 97, 94], [65, 58, 58, 65], [26, 58], [26, 94, 29, 29], [95, 98, 94], [99, 74, 77], [100, 66, 101, 101], [100, 61], [102, 97, 103, 104, 29], [105], [106, 26], [76], [109, 58], [], [76], [58], [110, 111], [110], [], [86], [87, 84], [42], [10], [], [90, 87, 88], [112], [], [95, 113], [114], [], [], [26, 94, 57], [61], [], [95, 96], [], [109], [], [100, 97, 104, 61, 66, 58], [], [100, 57, 101, 115], [116], [107, 108], [], [101], [57, 108, 26], [117], [118], [119, 10, 86], [61], [58], [57, 58], [120, 121, 122, 123], [], [], [42], [], [125, 124, 126], [], [127, 128], [], [], [], [], [129, 130], [], [], [], [], [], [], [], [], [], [], [], [], [], [], [], [], [], [], [], [], [], [], [], [], []]
set_option maxRecDepth 100000 in
theorem tab_len : Tryz.prog.funcs.size = adjT.length := by kernel_rfl
set_option maxRecDepth 100000 in
theorem tab_is : (List.range adjT.length).map (leadsAt Tryz.prog) = adjT := by kernel_rfl
def cloLNumbersLine : List Nat := [3, 4, 9, 6, 25, 5, 10, 42, 12, 43, 14, 45, 85, 83, 86, 11, 13, 44, 84, 87, 15, 46, 16, 47, 17, 49, 48, 18, 50, 54, 19, 51, 88, 90, 52, 89, 112, 119, 20, 53, 21, 55, 22, 56, 23, 24, 7, 26, 57, 58, 27, 59, 62, 94, 29, 61, 91, 95, 113, 28, 60, 93, 92, 114, 30, 63, 96, 31, 64, 97, 32, 66, 65, 33, 67, 68, 98, 34, 69, 99, 74, 106, 107, 108, 101, 77, 70, 100, 109, 35, 71, 36, 72, 102, 104, 115, 103, 37, 73, 105, 116, 120, 121, 125, 124, 126, 122, 123, 127, 128, 129, 130, 38, 75, 76, 39, 78, 79, 40, 80, 110, 117, 111, 118, 81, 82, 8, 41]
end Go.Proofs.YtjonhbmgmamchaaGreatDoor
