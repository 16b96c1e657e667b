/-
  Several texts in one.
-/
import Derived.Test.YtppkokgiojcgbaaGreatDoorQxGA
import Derived.JoinedOf
import Derived.Test.YtppkokgiojcgbaaGreatDoorQxFmU
import Derived.Lib.LaidTab
import Derived.LaidSub
import Derived.LaidMore
import Derived.Lay
import Derived.Stop.Joined
import Derived.SevenTiedAt
import Derived.Handed
import Derived.Test.YtppkokgiojcgbaaGreatDoorQxFmS
import Derived.Test.YtppkokgiojcgbaaGreatDoorQxJoinS
import Derived.ChangeMaps5
/-
-/
namespace Go.Proofs.YtppkokgiojcgbaaGreatDoor
open Go.RowKit
def leadsAt (P : Program) (i : FuncId) : List FuncId := (P.funcs[i]?).elim [] P.leadsTo
section
variable {P : Program} {f g h : FuncId}
theorem recurses_of (hu : P.unfollowed f = true) : P.recurses f = true := by unfold Program.recurses; rw [hu]; rfl
variable {lo hi : Nat}
end
end Go.Proofs.YtppkokgiojcgbaaGreatDoor

/-
-/
namespace Go.Proofs.YtppkokgiojcgbaaGreatDoor
open Go.RowKit
def tabAt (adj : List (List Nat)) (i : Nat) : List Nat := adj.getD i []
def goT (adj : List (List Nat)) : Nat → List Nat → Nat → List Nat → List Nat
 | 0, _, _, seen => seen.reverse
 | _ + 1, [], _, seen => seen.reverse
 | n + 1, f :: todo, k, seen => bif k.testBit f then goT adj n todo k seen else goT adj n (tabAt adj f ++ todo) (k ||| (1 <<< f)) (f :: seen)
theorem goT_eq {P : Program} {adj : List (List Nat)} (hadj : ∀ i, leadsAt P i = tabAt adj i) : ∀ (n : Nat) (todo : List Nat) (k : Nat) (seen : List Nat), (∀ i, k.testBit i = seen.contains i) → goT adj n todo k seen = P.closureVia n todo seen
 | 0, todo, k, seen, _ => by unfold goT Program.closureVia; rfl
 | n + 1, [], k, seen, _ => by unfold goT Program.closureVia; rfl
 | n + 1, f :: todo, k, seen, h => by
   unfold goT
   conv => rhs; unfold Program.closureVia
   rw [h f]
   cases hs : seen.contains f
   ·show goT adj n (tabAt adj f ++ todo) (k ||| (1 <<< f)) (f :: seen) = P.closureVia n (leadsAt P f ++ todo) (f :: seen)
    rw [hadj f]
    refine goT_eq hadj n _ _ _ fun i => ?_
    rw [Nat.testBit_or, h i, List.contains_cons, Nat.one_shiftLeft, Nat.testBit_two_pow, Bool.or_comm]
    congr 1
    by_cases e : f = i
    ·subst e; simp
    ·have e2 : ¬ i = f := fun h => e h.symm
     simp [e, e2]
   ·exact goT_eq hadj n todo k seen h
theorem tab_all {P : Program} {adj : List (List Nat)} (h1 : P.funcs.size = adj.length) (h2 : (List.range adj.length).map (leadsAt P) = adj) : ∀ i, leadsAt P i = tabAt adj i := by
 intro i
 by_cases hi : i < adj.length
 ·have e : ((List.range adj.length).map (leadsAt P))[i]? = adj[i]? := by rw [h2]
  rw [List.getElem?_map, List.getElem?_range hi, Option.map_some, List.getElem?_eq_getElem hi] at e
  unfold tabAt
  rw [Option.some.inj e]
  simp [List.getD, hi]
 ·unfold leadsAt tabAt
  rw [Array.getElem?_eq_none (by rw [h1]; exact Nat.le_of_not_lt hi)]
  simp [List.getD, List.getElem?_eq_none (Nat.le_of_not_lt hi)]
theorem tab_sum {P : Program} {adj : List (List Nat)} (h1 : P.funcs.size = adj.length) (h2 : (List.range adj.length).map (leadsAt P) = adj) : (P.funcs.toList.map fun g => (P.leadsTo g).length + 1).sum = (adj.map fun l => l.length + 1).sum := by
 have e : P.funcs.toList.map P.leadsTo = adj := by
  rw [← h2]
  apply List.ext_getElem
  ·simp [h1]
  ·intro i h3 h4
   have hi : i < P.funcs.size := by simpa using h3
   simp [leadsAt, hi]
 rw [← e, List.map_map]
 rfl
theorem closure_tab {P : Program} {adj : List (List Nat)} (h1 : P.funcs.size = adj.length) (h2 : (List.range adj.length).map (leadsAt P) = adj) (f : FuncId) : P.closure f = goT adj (1 + (adj.map fun l => l.length + 1).sum) [f] 0 [] := by
 unfold Program.closure
 rw [tab_sum h1 h2]
 exact (goT_eq (tab_all h1 h2) _ _ _ _ (fun i => by simp)).symm
end Go.Proofs.YtppkokgiojcgbaaGreatDoor

/-
-/
namespace Go.Proofs.YtppkokgiojcgbaaGreatDoor
open Go.RowKit
theorem tb_of {W : World} {l : List (String × DataW Unit)} (h : laidMetH Tryz.prog l W) (hf : l.filter (fun x => x.1 == "internal/strconv.uint64pow10") = [("internal/strconv.uint64pow10", Rows.laid_internal_strconv_uint64pow10)]) : Tb W := by
 have h2 := h.filter (fun x => x.1 == "internal/strconv.uint64pow10")
 rw [hf, MakeChecks.laidMetH_plain _ _ _ (by kernel_rfl)] at h2
 have e : Rows.laid_internal_strconv_uint64pow10 = (Lib.tabData .u64 Lib.pow10Tab : DataW Unit) := by kernel_rfl
 rw [e] at h2
 exact Lib.tabIs_of_head layItoaM.m17 (by kernel_rfl) (layItoaM.t212) (layItoaM.t53) (by kernel_rfl) (by kernel_rfl) h2
theorem handed_shaped {H : Type} {enc : TypeId × Value → H} {a : Assume} {C : Checked} {os : Os} {f : FuncId} {fn : Func} {s : ChangeSpec} {conds : List PathCond} {apart fresh handsOn again : Bool} {X : World → Array Value → Prop}
 (hX : ∀ (w w' : World) (args : Array Value), w.heap = w'.heap → X w args → X w' args)
 (own : ownKnob C.prog.godebug = none) (started : os.Started) (noInit : C.prog.inits.idxOf? f = none) (hfn : C.prog.funcs[f]? = some fn)
 (witness : ∃ (w : World) (tape : Tape) (i : Input), w.os = os ∧ (w.forCall tape i).Shaped C.prog ∧ i.vars = [] ∧ Input.okWide C.prog (w.forCall tape i) .any w.heap.size f i ∧
   ((s.pre enc C.prog fn conds apart (w.forCall tape i).memory i.args ∧ X (w.forCall tape i).memory i.args) ∧ sizedMet enc C.prog fn (OpenSpec.ofChange s) apart (w.forCall tape i).memory i.args) ∧ a.holds C.prog (lone (Frame.enter C.prog f i.args .normal) [] (w.forCall tape i)))
 (contract : ∀ (W : World) (base : Nat) (args : Array Value) (ds gs : List (DataW H)) (before : List MemPlace),
   (∀ (j : Nat) t v, fn.params[j]? = some t → args[j]? = some v → Value.okWide C.prog W .any base t v) →
   DataW.Whole enc C.prog fn.params.toList s.vars apart W args.toList ds gs before → W.ShapedOpen C.prog → X W args →
   a.holds C.prog (lone (Frame.enter C.prog f args .normal) [] W) →
   Calls C.prog f args W fun e W' => ∃ v, e = .returned v ∧ s.post enc C.prog fn apart fresh handsOn again W args v W') :
 ReturnsInHanded a C os f .any (fun w args => (s.pre enc C.prog fn conds apart w args ∧ X w args) ∧ sizedMet enc C.prog fn (OpenSpec.ofChange s) apart w args) (s.post enc C.prog fn apart fresh handsOn again) := by
 refine returnsInHanded_of_calls own started noInit witness fun w tape i _ hsh _ hok hpre hholds => ?_
 obtain ⟨_, _, _, fn2, hfn2, _, _, _, _, hval⟩ := hok
 obtain rfl : fn2 = fn := Option.some.inj (hfn2.symm.trans hfn)
 obtain ⟨⟨⟨ds, gs, before, hw, _⟩, hx⟩, _⟩ := hpre
 refine (contract (w.forCall tape i) w.heap.size i.args ds gs before hval (DataW.Whole.of_heap (w' := w.forCall tape i) (by rfl) hw) hsh (hX _ _ _ (by rfl) hx) hholds).mono fun e W' ⟨v, he, hp⟩ => ?_
 subst he
 exact ChangeSpec.post_blind hp
end Go.Proofs.YtppkokgiojcgbaaGreatDoor

/-
-/
namespace Go.Proofs.YtppkokgiojcgbaaGreatDoor
open Go.RowKit
def adjT : List (List Nat) := [[], [], [1], [6, 7, 9, 10, 8, 9, 10, 11, 9, 12, 10, 13], [6, 9, 14, 9, 15, 9, 12], [16, 17, 18, 19, 20, 21, 18, 21, 22, 23, 24, 18, 21, 25, 26, 27, 19, 28, 29, 30, 31, 32, 33, 34, 35, 36, 35, 37, 38], [39], [], [19, 27, 30, 38, 40], [41], [42], [18, 26, 29, 34, 43], [44], [45], [46, 47, 48, 50, 49, 51, 33, 49], [52, 53, 54, 56, 55, 57, 32, 55], [], [58, 59, 60], [61, 62, 63], [64, 65, 66], [], [], [58, 67], [61, 61, 68, 69, 69], [64, 64, 70, 70], [71], [18, 18, 72], [19, 65, 28, 66], [73, 74, 75, 76, 77, 78, 79, 80, 81], [26], [27], [82], [61, 68, 69, 63, 72], [64, 70, 66, 28], [83, 84, 55, 55, 86], [87, 34], [58, 59, 60, 38, 88, 89, 90], [91, 38], [92, 92, 49, 49], [], [64, 49, 93, 49, 49], [], [], [61, 55, 94, 55, 55], [], [], [64, 95, 96, 28], [97, 99, 98, 100, 73], [101, 49, 102], [], [46, 95], [49], [104, 103], [107, 109, 108, 110, 111], [113, 112], [114], [52, 115], [112, 116], [], [117, 88, 118, 118], [65, 88, 64, 88, 88, 70, 66, 119, 119, 118, 88], [85, 85, 69, 69, 69], [], [120, 121], [92], [], [122, 123], [124, 65, 125, 93, 119, 122, 119], [], [], [], [58, 126, 127, 60], [128, 129, 130, 131, 132, 133, 134, 135, 136], [137], [138], [139], [140, 64], [141], [142], [143], [144], [145, 64], [58, 126, 124], [146], [85, 85], [], [147, 148, 148, 148, 149], [150], [151, 151, 151, 151, 151], [152, 88, 88, 151, 88], [88], [], [], [64, 70], [61, 69], [101], [153, 101, 70], [64, 154, 154], [155, 156, 93, 70], [], [65, 122, 64], [102], [92], [61, 106, 115, 115], [106, 105, 72], [157, 158], [], [160, 159], [162, 62, 163, 113, 94, 69], [164, 165], [166], [167, 128], [55], [85, 69], [168], [113], [86], [88, 88, 90, 169, 88, 88, 119, 122, 170, 170], [88], [88], [62, 171, 69, 172], [62, 173, 172], [65, 174, 70], [65, 174, 70], [175, 119, 96], [64], [176, 119, 90, 88], [88, 177, 178, 179, 180, 181, 175], [182], [183], [184], [185, 61], [186], [187], [188], [189], [190, 61], [64, 191], [73, 193, 192], [64, 194], [195], [64, 196], [64], [64, 197, 101, 198, 64, 199, 199], [64, 200], [64, 96, 201, 202], [], [203, 204], [203], [], [205, 206, 207], [], [88, 88, 151], [64], [70], [208], [65, 209, 101, 122], [61, 106, 85], [113, 69], [171, 210], [161], [], [211], [162, 85, 213, 212], [], [], [214], [61, 62, 120], [215], [92, 122], [88, 122], [85, 61], [], [171, 69], [64], [119, 59, 88, 169, 88, 88, 119, 122], [], [59, 88, 97, 119, 156], [119, 216, 88, 88, 217], [119, 59, 88, 88, 101, 122, 119, 122], [119, 218, 219, 119, 220], [59, 64, 119, 123], [61, 106, 113, 222, 221, 113], [225, 224], [227, 226, 229], [230], [231, 232], [61, 106, 113, 233, 109], [61, 106, 234, 113, 113, 235, 236, 106, 236], [61, 106, 113, 237, 221, 113], [231, 239], [242], [243, 244, 192], [64, 242], [243, 245, 194], [64, 92, 246], [242, 199], [247], [64, 247], [153], [153, 92, 101], [64, 248], [64, 249, 95], [250], [251], [252, 253], [252, 254, 207], [255], [256, 64, 153], [155], [213], [85, 210, 61], [85, 69], [], [], [257, 258, 259, 260], [119, 261, 122, 88, 88, 119, 122], [262, 122], [59, 64, 119, 88, 122, 123], [88, 88, 119, 118], [263, 122], [], [223], [113], [264, 265, 128], [], [267, 61], [228], [69, 69, 69], [], [85, 268, 226, 229], [61, 106], [270, 106, 236], [], [271], [171, 69, 272], [157, 272], [238], [157, 85, 69, 113], [105, 240, 241], [273], [61, 274, 115], [153], [], [], [70, 70, 70], [275, 276, 275, 246], [153], [64, 92, 277], [64, 95, 95, 242], [], [], [], [278], [], [279, 280, 279, 281, 280, 282], [92], [], [284, 283, 285], [], [286, 287], [119, 177, 288, 217], [92, 92, 92], [256, 92], [61, 106, 223, 69], [164, 210, 266], [], [164, 210], [269], [289, 290], [157, 223], [272], [113], [85, 61, 292, 291], [293, 270], [208, 70], [208, 70], [70, 277], [], [294], [], [], [295], [], [], [], [], [296, 297], [119, 88, 88, 88, 88, 118], [211, 69], [], [298], [], [61, 106, 115, 115], [], [], [], [], [69], [], [], [], [], [], [], [], [], [], [], [], [], [], [], [], [], [], [], [], [], [], [], [], [], []]
set_option maxRecDepth 100000 in
theorem tab_len : Tryz.prog.funcs.size = adjT.length := by kernel_rfl
set_option maxRecDepth 100000 in
theorem tab_is : (List.range adjT.length).map (leadsAt Tryz.prog) = adjT := by kernel_rfl
def cloLChangeLine : List Nat := [4, 6, 39, 9, 41, 14, 46, 64, 92, 95, 101, 102, 96, 153, 70, 28, 73, 137, 191, 242, 74, 138, 193, 192, 243, 244, 75, 139, 194, 245, 76, 140, 195, 246, 275, 208, 256, 276, 77, 141, 196, 199, 78, 142, 79, 143, 197, 247, 198, 80, 144, 200, 81, 145, 201, 248, 277, 202, 249, 47, 97, 154, 99, 98, 155, 156, 65, 209, 122, 174, 93, 100, 48, 49, 50, 51, 33, 66, 123, 15, 52, 104, 106, 105, 157, 61, 85, 69, 158, 113, 72, 128, 182, 222, 223, 221, 129, 183, 225, 224, 264, 265, 164, 210, 213, 266, 130, 184, 227, 228, 226, 267, 229, 131, 185, 230, 268, 269, 289, 211, 290, 132, 186, 231, 232, 270, 236, 272, 133, 187, 233, 109, 165, 134, 188, 234, 271, 235, 171, 135, 189, 237, 238, 136, 190, 239, 240, 273, 292, 291, 298, 241, 274, 293, 115, 103, 53, 107, 160, 161, 159, 108, 162, 62, 163, 212, 94, 110, 166, 214, 111, 167, 120, 172, 54, 112, 55, 114, 168, 215, 257, 258, 284, 283, 285, 259, 260, 286, 287, 296, 297, 56, 57, 116, 86, 147, 203, 250, 204, 251, 148, 149, 32, 68, 63, 121, 173, 12, 44]
end Go.Proofs.YtppkokgiojcgbaaGreatDoor

/-
-/
namespace Go.Proofs.YtppkokgiojcgbaaGreatDoor
open Go.ChangeShapes Go.WideShapes Go.ChangeAt Go.RowKit Go.Deep
section
variable {H : Type} {enc : TypeId × Value → H} {P : Program} {w : World} {base : Nat} {spare : Nat → Bool} {held : Bool}
end
section
variable {H : Type} {enc : TypeId × Value → H} {w : World} {base : Nat} {spare : Nat → Bool} {held : Bool}
set_option maxRecDepth 100000 in
theorem open_string_arg {r : Reach} {b0 : Nat} {vv : Value} {d : DataW H} {p : List MemPlace} (hv : Value.okWide Tryz.prog w r b0 9 vv)
 (h : DataW.Trod enc Tryz.prog w base spare held 9 vv d p) : ∃ t : ByteArray, vv = .string t ∧ t.size ≤ maxLen := by
 obtain ⟨t, e, _, _, hl⟩ := Go.ChangeMaps.open_string Tryz.underlying9 hv h
 exact ⟨t, e, hl⟩
end
end Go.Proofs.YtppkokgiojcgbaaGreatDoor
