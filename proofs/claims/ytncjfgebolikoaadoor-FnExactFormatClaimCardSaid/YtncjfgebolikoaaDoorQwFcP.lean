/-
  FormatClaim's answer in plain words; a claim's box that is read.
-/
import Derived.Test.YtncjfgebolikoaaDoorQwFcW
import Derived.Test.YtncjfgebolikoaaDoorQwFgI
import Derived.Test.YtncjfgebolikoaaDoorQwNumR
import Derived.Test.YtncjfgebolikoaaDoorQwClaim
namespace Go.Proofs.YtncjfgebolikoaaDoor
open Go.RowKit

noncomputable def fcH (k : Clm) : ByteArray := cwB k.K ++ ⟨#[32]⟩ ++ fgB k.s k.n0 k.x0
noncomputable def fcY (k : Clm) : ByteArray :=
  if k.K = 1 then fcH k ++ ⟨#[32, 111, 102, 32]⟩ ++ k.t ++ ⟨#[32, 98, 121, 32]⟩ ++ nmB k.x1 k.n1 ++ ⟨#[32, 97, 110, 100, 32]⟩ ++ nmB k.x2 k.n2
  else if k.K = 2 then fcH k ++ ⟨#[32, 111, 102, 32]⟩ ++ k.t ++ ⟨#[32, 98, 121, 32]⟩ ++ nmB k.x1 k.n1
  else if k.K = 5 then fcH k ++ ⟨#[32, 98, 121, 32]⟩ ++ edB (lists k.D)
  else fcH k ++ ⟨#[32, 98, 121, 32]⟩ ++ nmB k.x1 k.n1 ++ ⟨#[32, 97, 110, 100, 32]⟩ ++ nmB k.x2 k.n2
/-- What FormatClaim answers. -/
noncomputable def fcB (k : Clm) : ByteArray := if (1 ≤ k.K ∧ k.K ≤ 6) ∧ okB k.s k.n0 k.x0 = true then fcY k else ⟨#[]⟩
theorem fcB_no {k : Clm} (h : ¬ ((1 ≤ k.K ∧ k.K ≤ 6) ∧ okB k.s k.n0 k.x0 = true)) : fcB k = ⟨#[]⟩ := if_neg h
theorem fcB_yes {k : Clm} (h : (1 ≤ k.K ∧ k.K ≤ 6) ∧ okB k.s k.n0 k.x0 = true) : fcB k = fcY k := if_pos h
/-- Numbers that an int holds. -/
def I64K (k : Clm) : Prop := (∀ j, j < k.n1 → I64 (k.x1 j)) ∧ (∀ j, j < k.n2 → I64 (k.x2 j)) ∧ ∀ d ∈ k.D, ∀ z ∈ d.2.2, I64 z
theorem I64K.same {k j : Clm} (h : SameK k j) (hi : I64K k) : I64K j := by
  obtain ⟨_, _, _, _, _, h6, h7, h8, h9, h10⟩ := h
  refine ⟨h6 ▸ h7 ▸ hi.1, h8 ▸ h9 ▸ hi.2.1, ?_⟩
  intro d hd z hz
  have hm : d.2.2 ∈ lists k.D := by rw [h10]; exact List.mem_map_of_mem hd
  obtain ⟨d2, hd2, e⟩ := List.mem_map.1 hm
  exact hi.2.2 d2 hd2 z (by rw [e]; exact hz)
theorem fcB_same {k j : Clm} (h : SameK k j) : fcB k = fcB j := by
  obtain ⟨h1, h2, h3, h4, h5, h6, h7, h8, h9, h10⟩ := h
  unfold fcB fcY fcH
  rw [h1, h2, h3, h4, h5, h6, h7, h8, h9, h10]
/-- The box at q holds the claim k. -/
structure CB (w : World) (q : Nat) (K : Int) (k : Clm) : Prop where
  c0 : w.cell? ⟨q, 0, none⟩ = some (.int .i64 K)
  c1 : w.cell? ⟨q, 1, none⟩ = some (.int .i64 k.s)
  c2 : w.cell? ⟨q, 2, none⟩ = some (.slice k.A0 k.n0 k.c0)
  c3 : w.cell? ⟨q, 3, none⟩ = some (.string k.t)
  c4 : w.cell? ⟨q, 4, none⟩ = some (.slice k.A1 k.n1 k.c1)
  c5 : w.cell? ⟨q, 5, none⟩ = some (.slice k.A2 k.n2 k.c2)
  c6 : w.cell? ⟨q, 6, none⟩ = some (.slice k.A3 k.D.length k.c3)
theorem CB.lt {w : World} {q : Nat} {K : Int} {k : Clm} (h : CB w q K k) : q < w.heap.size := World.block_lt_of_cell? _ _ h.c0
theorem CB.keep {w w' : World} {q : Nat} {K : Int} {k : Clm} (h : CB w q K k) (hb : Below w.heap.size w w') : CB w' q K k :=
  ⟨up hb h.c0 h.lt, up hb h.c1 h.lt, up hb h.c2 h.lt, up hb h.c3 h.lt, up hb h.c4 h.lt, up hb h.c5 h.lt, up hb h.c6 h.lt⟩
theorem CB.new (w : World) (K : Int) (k : Clm) : CB (w.alloc (Obj.cells #[.int .i64 K, .int .i64 k.s, .slice k.A0 k.n0 k.c0, .string k.t, .slice k.A1 k.n1 k.c1, .slice k.A2 k.n2 k.c2, .slice k.A3 k.D.length k.c3] 39)) w.heap.size K k := by
  constructor <;> simp [go_sem]
theorem edB_size {D : List Dsc} (hI : ∀ d ∈ D, ∀ z ∈ d.2.2, I64 z) (ht : tot D ≤ 1048576) (hl : D.length ≤ 1048576) : (edB (lists D)).size ≤ 23089745231876 := by
  have a1 := noB_size (cmJ (erT (lists D)) (lists D).length)
  have hll : (lists D).length = D.length := by simp [lists]
  have a2 := cmJ_size (T := erT (lists D)) (M := 22020096) (lists D).length (fun j hj => erT_size hI ht (by rw [← hll]; exact hj))
  rw [edB_eq]; omega
theorem some_text {b : ByteArray} (h : 0 < b.size) : b.toList.isEmpty = false := by
  rw [List.isEmpty_eq_false_iff]
  intro h2
  have := congrArg List.length h2
  rw [ByteArray.toList_eq] at this
  have : b.size = 0 := by simpa using this
  omega
theorem fgB_some {s : Int} {m : Nat} {x : Nat → Int} (h : okB s m x = true) : 2 ≤ (fgB s m x).size := by
  obtain ⟨r, es, vg, _⟩ := okB_ok' h
  subst es
  have hm7 := vg.n7
  unfold fgB
  rw [if_pos h]
  have hb : ∀ j, 2 ≤ (fgJ (itB (m : Int) ++ ⟨#[58]⟩) (edgesL (m : Int) m x) j).size := by
    intro j
    induction j with
    | zero => show 2 ≤ (itB (m : Int) ++ ⟨#[58]⟩).size; rw [ByteArray.size_append, itB_size1 (by omega)]; exact Nat.le_refl _
    | succ j ih =>
      show 2 ≤ (fgJ _ _ j ++ _ ++ _ ++ _).size
      rw [ByteArray.size_append, ByteArray.size_append, ByteArray.size_append]; omega
  exact hb _
theorem fcY_1 {k : Clm} (h : k.K = 1) : fcY k = fcH k ++ ⟨#[32, 111, 102, 32]⟩ ++ k.t ++ ⟨#[32, 98, 121, 32]⟩ ++ nmB k.x1 k.n1 ++ ⟨#[32, 97, 110, 100, 32]⟩ ++ nmB k.x2 k.n2 := by unfold fcY; rw [if_pos h]
theorem fcY_2 {k : Clm} (h : k.K = 2) : fcY k = fcH k ++ ⟨#[32, 111, 102, 32]⟩ ++ k.t ++ ⟨#[32, 98, 121, 32]⟩ ++ nmB k.x1 k.n1 := by unfold fcY; rw [if_neg (by omega), if_pos h]
theorem fcY_5 {k : Clm} (h : k.K = 5) : fcY k = fcH k ++ ⟨#[32, 98, 121, 32]⟩ ++ edB (lists k.D) := by unfold fcY; rw [if_neg (by omega), if_neg (by omega), if_pos h]
theorem fcY_3 {k : Clm} (h1 : k.K ≠ 1) (h2 : k.K ≠ 2) (h5 : k.K ≠ 5) : fcY k = fcH k ++ ⟨#[32, 98, 121, 32]⟩ ++ nmB k.x1 k.n1 ++ ⟨#[32, 97, 110, 100, 32]⟩ ++ nmB k.x2 k.n2 := by unfold fcY; rw [if_neg h1, if_neg h2, if_neg h5]
end Go.Proofs.YtncjfgebolikoaaDoor
