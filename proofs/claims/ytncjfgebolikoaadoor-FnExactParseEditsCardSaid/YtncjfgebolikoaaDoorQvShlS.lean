/-
  Contract: the library's Split, laid at this seat (out of the kit's laying in plain words); its pieces are those of the reference.
-/
import Derived.Shelf.Strings.Split
import Derived.Lib.SplitLaws
import Derived.Test.YtncjfgebolikoaaDoorQvPedP
namespace Go.Proofs.YtncjfgebolikoaaDoor
open Go.Shelf Go.RowKit
def laySplit_ren : Go.Shelf.Ren := ⟨fun | 146 => 48 | 221 => 60 | 268 => 65 | 138 => 66 | 143 => 67 | 195 => 71 | 197 => 72 | 218 => 73 | 219 => 74 | 260 => 79 | 217 => 80 | 225 => 81 | 224 => 82 | 267 => 83 | 266 => 89 | 314 => 90 | n => n, fun | 9 => 9 | 31 => 55 | 3 => 3 | 4 => 4 | 0 => 0 | 105 => 98 | 21 => 21 | 5 => 5 | 46 => 108 | 119 => 115 | 139 => 118 | 138 => 117 | 146 => 119 | 51 => 111 | n => n, fun | 1 => 0 | 3 => 2 | 4 => 3 | n => n⟩
theorem laySplit : Go.Proofs.Lays.n146 Tryd.prog laySplit_ren := {
  mixed := by kernel_rfl
  f138 := Tryd.func66.trans (congrArg some (by kernel_rfl))
  f143 := Tryd.func67.trans (congrArg some (by kernel_rfl))
  f146 := Tryd.func48.trans (congrArg some (by kernel_rfl))
  f195 := Tryd.func71.trans (congrArg some (by kernel_rfl))
  f197 := Tryd.func72.trans (congrArg some (by kernel_rfl))
  f217 := Tryd.func80.trans (congrArg some (by kernel_rfl))
  f218 := Tryd.func73.trans (congrArg some (by kernel_rfl))
  f219 := Tryd.func74.trans (congrArg some (by kernel_rfl))
  f221 := Tryd.func60.trans (congrArg some (by kernel_rfl))
  f224 := Tryd.func82.trans (congrArg some (by kernel_rfl))
  f225 := Tryd.func81.trans (congrArg some (by kernel_rfl))
  f260 := Tryd.func79.trans (congrArg some (by kernel_rfl))
  f266 := Tryd.func89.trans (congrArg some (by kernel_rfl))
  f267 := Tryd.func83.trans (congrArg some (by kernel_rfl))
  f268 := Tryd.func65.trans (congrArg some (by kernel_rfl))
  f314 := Tryd.func90.trans (congrArg some (by kernel_rfl))
  t0 := Tryd.underlying0
  a0 := Tryd.isAgg0
  z0 := Tryd.sizeOf0
  v0 := Tryd.zeroValue0
  t3 := Tryd.underlying3
  a3 := Tryd.isAgg3
  z3 := Tryd.sizeOf3
  v3 := Tryd.zeroValue3
  t4 := Tryd.underlying4
  a4 := Tryd.isAgg4
  z4 := Tryd.sizeOf4
  v4 := Tryd.zeroValue4
  t5 := Tryd.underlying5
  a5 := Tryd.isAgg5
  z5 := Tryd.sizeOf5
  v5 := Tryd.zeroValue5
  t9 := Tryd.underlying9
  a9 := Tryd.isAgg9
  z9 := Tryd.sizeOf9
  v9 := Tryd.zeroValue9
  t21 := Tryd.underlying21
  a21 := Tryd.isAgg21
  z21 := Tryd.sizeOf21
  v21 := Tryd.zeroValue21
  t31 := Tryd.underlying55
  a31 := Tryd.isAgg55
  z31 := Tryd.sizeOf55
  v31 := Tryd.zeroValue55
  t46 := Tryd.underlying108
  a46 := Tryd.isAgg108
  z46 := Tryd.sizeOf108
  v46 := Tryd.zeroValue108
  t51 := Tryd.underlying111
  a51 := Tryd.isAgg111
  z51 := Tryd.sizeOf111
  v51 := Tryd.zeroValue111
  t105 := Tryd.underlying98
  a105 := Tryd.isAgg98
  z105 := Tryd.sizeOf98
  v105 := Tryd.zeroValue98
  t119 := Tryd.underlying115
  a119 := Tryd.isAgg115
  z119 := Tryd.sizeOf115
  t138 := Tryd.underlying117
  a138 := Tryd.isAgg117
  z138 := Tryd.sizeOf117
  v138 := Tryd.zeroValue117
  t139 := Tryd.underlying118
  a139 := Tryd.isAgg118
  z139 := Tryd.sizeOf118
  v139 := Tryd.zeroValue118
  t146 := Tryd.underlying119
  a146 := Tryd.isAgg119
  z146 := Tryd.sizeOf119
  v146 := Tryd.zeroValue119
  g1 := by kernel_rfl
  g3 := by kernel_rfl
  g4 := by kernel_rfl }
theorem split_any (s : ByteArray) (m : Int) (w : World) (hs : s.size < 4294967281) (hm : w.cell? ⟨laySplit_ren.g 1, 0, none⟩ = some (.int .i64 m)) :
    Calls Tryd.prog 48 #[.string s, .string ⟨#[44]⟩] w fun e w' =>
      e = .returned (.slice (some ⟨w.heap.size, 0, none⟩) (Lib.countB s ⟨#[44]⟩ + 1) (Lib.countB s ⟨#[44]⟩ + 1)) ∧ w' = w.alloc (.cells ((Lib.splitB ⟨#[44]⟩ 0 (Lib.countB s ⟨#[44]⟩) s).map Value.string).toArray 9) :=
  Any.strings_Split laySplit (by kernel_rfl) s ⟨#[44]⟩ m w hs hm (by decide)
/-- The pieces. -/
def spB (s : ByteArray) : List ByteArray := Lib.splitB ⟨#[44]⟩ 0 (Lib.countB s ⟨#[44]⟩) s
theorem spB_words (s : ByteArray) : (spB s).map (·.data.toList) = peW s := by
  unfold spB
  rw [Lib.splitB_data]
  refine splitK_cut 44 _ _ ?_
  show _ ≤ Lib.count s.data.toList [44]
  rw [Lib.count_one]
  exact Nat.le_refl _
theorem spB_len (s : ByteArray) : (spB s).length = (peW s).length := by rw [← spB_words, List.length_map]
theorem spB_count (s : ByteArray) : Lib.countB s ⟨#[44]⟩ + 1 = (peW s).length := by
  have := Lib.splitB_all ⟨#[44]⟩ (by decide) 0 _ s rfl
  rw [← spB_len]
  exact this.symm
theorem spB_cell (s : ByteArray) (w : World) {j : Nat} (hj : j < (peW s).length) : (w.alloc (.cells ((spB s).map Value.string).toArray 9)).cell? ⟨w.heap.size, j, none⟩ = some (.string ((spB s).getD j ⟨#[]⟩)) := by
  rw [← spB_len] at hj
  simp [go_sem, List.getD, hj]
theorem spB_at (s : ByteArray) (j : Nat) : ((spB s).getD j ⟨#[]⟩).data.toList = (peW s).getD j [] := by
  rw [← spB_words]
  by_cases hj : j < (spB s).length
  · simp [List.getD, hj]
  · simp [List.getD, List.getElem?_eq_none (Nat.le_of_not_lt hj)]
end Go.Proofs.YtncjfgebolikoaaDoor
