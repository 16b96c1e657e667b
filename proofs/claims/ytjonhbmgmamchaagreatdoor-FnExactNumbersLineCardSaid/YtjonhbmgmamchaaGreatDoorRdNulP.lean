/-
  Several texts in one.
-/
import Derived.Test.YtjonhbmgmamchaaGreatDoorRdNms
import Derived.Test.YtjonhbmgmamchaaGreatDoorRdV
import Derived.Laws.Closers25b
import Derived.Test.YtjonhbmgmamchaaGreatDoorRdGA
import Derived.Test.YtjonhbmgmamchaaGreatDoorRdGB
import Derived.Test.YtjonhbmgmamchaaGreatDoorRdPackP
import Derived.Test.YtjonhbmgmamchaaGreatDoorRdIdxI
import Derived.Test.YtjonhbmgmamchaaGreatDoorRdGC
/-
  append of several texts onto a list of texts of the call's own; a joined list of texts.
-/
namespace Go.Proofs.YtjonhbmgmamchaaGreatDoor
open Go.RowKit

theorem wpList_pushSs (w : World) {ops : Array Oper} {rest : List Oper} {o : Oper} {a : Act} {Q : Exit → Act → World → Prop} (hgd : o.guard = none) (s y : Operand)
    (ho : o.op = .call { callee := .builtin .append, args := #[s, y], argTypes := #[44, 44] })
    (lo hi : Nat) (A : Option Addr) (n m N c : Nat) (L M : List ByteArray) (hL : L.length = n) (hM : M.length = m) (hN : n + m = N) (hm : 0 < m) (hn : N ≤ 1048576)
    (hs : a.eval s = .slice A n c) (hown : Own w lo hi 9 1 A n c (stL L)) (hlo : lo ≤ w.heap.size)
    (B cx : Nat) (hB : w.heap[B]? = some (.cells (M.map Value.string).toArray 9 (0, 0))) (hy : a.eval y = .slice (some ⟨B, 0, none⟩) m cx)
    (h : ∀ g cap w', Own w' lo w'.heap.size 9 1 (some ⟨g, 0, none⟩) N cap (stL (L ++ M)) → Below lo w w' → wpList Tryz.prog ops Q rest (a.put o.dst (.slice (some ⟨g, 0, none⟩) N cap)) w') : wpList Tryz.prog ops Q (o :: rest) a w := by
  obtain ⟨i, hi2, hzz⟩ := Option.map_eq_some_iff.1 info_string
  simp only [Prod.mk.injEq] at hzz
  obtain ⟨hz, hsize, hbytes⟩ := hzz
  subst hN
  refine wpList_append_lies w hgd s y 44 ho lo 9 i (.string ⟨#[]⟩) 1 16 Tryz.underlying44 hi2 hz hsize hbytes rfl (by omega) (.slice A n c) n _ hs hown.row ⟨B, 0, none⟩ m cx (M.map Value.string) hy (by simp [hM]) (by have := World.news_of_block hB; simpa using this) (by
    intro u hu
    obtain ⟨x, _, rfl⟩ := List.mem_map.1 hu
    rfl) hm (by unfold maxLen; omega) (by omega) hlo w.heap.size rfl ?_
  intro g cap w' hr hg _ _
  refine h g cap w' (Own.of_row hr (fun j hj => ?_)) ((Below.refl _ _).grown hg hlo (fun k hk => (hown.block k hk).1))
  rw [List.getElem?_append]
  simp only [List.length_map, List.length_range, Nat.mul_one]
  by_cases hj2 : j < n
  · rw [if_pos hj2]
    simp only [hj2, List.getElem?_map, List.getElem?_range, Option.map_some]
    unfold stL
    simp [List.getD, List.getElem?_append_left (show j < L.length by omega)]
  · rw [if_neg hj2]
    have h3 : j - n < M.length := by omega
    unfold stL
    rw [← hL] at h3 ⊢
    simp [List.getD, List.getElem?_append_right (show L.length ≤ j by omega), h3]
/-- Join of such a list. -/
theorem join_own (g n c : Nat) (L : List ByteArray) (J sep : ByteArray) (w : World) (lo : Nat) (hL : L.length = n) (h : Own w lo w.heap.size 9 1 (some ⟨g, 0, none⟩) n c (stL L)) (hJ : Lib.join (L.map (·.data.toList)) sep.data.toList = J.data.toList) (hl : n ≤ 1048576) (hs : J.size ≤ 140737488355328) :
    Calls Tryz.prog 40 #[.slice (some ⟨g, 0, none⟩) n c, .string sep] w fun e w' => e = .returned (.string J) ∧ Below w.heap.size w w' := by
  subst hL
  have hg : g < w.heap.size := by
    rcases h.at_block with h2 | ⟨g2, h2, _, h3⟩
    · cases h2
    · cases h2; exact h3
  have K := join_any g 0 c L sep w (fun j x hx => by
    obtain ⟨hj, hx2⟩ := List.getElem?_eq_some_iff.1 hx
    obtain ⟨g2, e2, _, _, _, hc, _⟩ := h.at_ (by omega)
    cases e2
    rw [Nat.zero_add, hc j (by omega)]
    unfold stL
    simp [List.getD, hx]) hg (by omega) h.le (by
      show (Lib.join (L.map (·.data.toList)) sep.data.toList).length ≤ _
      rw [hJ]
      have : J.data.toList.length = J.size := by simp
      omega)
  refine K.mono fun e w' ⟨he, hb⟩ => ⟨?_, hb⟩
  rw [he]
  show Ending.returned (.string ⟨(Lib.join (L.map (·.data.toList)) sep.data.toList).toArray⟩) = _
  rw [hJ]
end Go.Proofs.YtjonhbmgmamchaaGreatDoor

/-
  Words joined by blanks, as text: plain; and a list of such words in memory, one word more, all of them joined.
-/
namespace Go.Proofs.YtjonhbmgmamchaaGreatDoor
open Go.RowKit

/-- Words joined by blanks. -/
def spJ (L : List ByteArray) : ByteArray := ⟨(Lib.join (L.map (·.data.toList)) [32]).toArray⟩
theorem spJ_join (L : List ByteArray) : Lib.join (L.map (·.data.toList)) [32] = (spJ L).data.toList := by unfold spJ; simp
theorem spJ_one (x : ByteArray) : spJ [x] = x := Go.WideShapes.bytes_inj (by rw [← spJ_join]; exact Lib.join_one _ _)
theorem spJ_snoc {L : List ByteArray} (h : L ≠ []) (x : ByteArray) : spJ (L ++ [x]) = spJ L ++ ⟨#[32]⟩ ++ x :=
  Go.WideShapes.bytes_inj (by
    rw [← spJ_join, List.map_append]
    show Lib.join (_ ++ [x.data.toList]) [32] = _
    rw [join_snoc _ _ _ (fun e => h (List.map_eq_nil_iff.1 e)), dataApp, dataApp, ← spJ_join, List.append_assoc])
/-- A list of words of the call's own. -/
structure WL (lo : Nat) (w : World) (g c : Nat) (L : List ByteArray) : Prop where
  own : Own w lo w.heap.size 9 1 (some ⟨g, 0, none⟩) L.length c (stL L)
section
variable {lo g c : Nat} {w w' : World} {L : List ByteArray}
theorem WL.keep (h : WL lo w g c L) (hb : Below w.heap.size w w') : WL lo w' g c L := ⟨(h.own.keepB hb (Nat.le_refl _)).mono (Nat.le_refl _) hb.size⟩
theorem WL.mono {lo' : Nat} (h : WL lo w g c L) (hl : lo' ≤ lo) : WL lo' w g c L := ⟨h.own.mono hl (Nat.le_refl _)⟩
theorem WL.le (h : WL lo w g c L) : L.length ≤ c := h.own.le
theorem WL.join (h : WL lo w g c L) (hl : L.length ≤ 1048576) (hs : (spJ L).size ≤ 140737488355328) :
    Calls Tryz.prog 40 #[.slice (some ⟨g, 0, none⟩) L.length c, .string ⟨#[32]⟩] w fun e w' => e = .returned (.string (spJ L)) ∧ Below w.heap.size w w' :=
  join_own g L.length c L (spJ L) ⟨#[32]⟩ w lo rfl h.own (spJ_join L) hl hs
end
/-- append of one word. -/
theorem wpList_pushW (W : World) {ops : Array Oper} {rest : List Oper} {o : Oper} {a : Act} {Q : Exit → Act → World → Prop} (hgd : o.guard = none) (s y : Operand)
    (ho : o.op = .call { callee := .builtin .append, args := #[s, y], argTypes := #[44, 44] })
    (lo g c : Nat) (L : List ByteArray) (h : WL lo W g c L) (hlo : lo ≤ W.heap.size) (k : ByteArray) (hs : a.eval s = .slice (some ⟨g, 0, none⟩) L.length c) (cx H : Nat) (hH : W.heap.size = H) (hy : a.eval y = .slice (some ⟨H, 0, none⟩) 1 cx)
    (hn : L.length < 1048576)
    (hK : ∀ g' cap w', WL lo w' g' cap (L ++ [k]) → Below lo W w' → wpList Tryz.prog ops Q rest (a.put o.dst (.slice (some ⟨g', 0, none⟩) (L.length + 1) cap)) w') :
    wpList Tryz.prog ops Q (o :: rest) a (W.alloc (Obj.cells #[.string k] 9)) := by
  subst hH
  refine wpList_pushSs (W.alloc (Obj.cells #[.string k] 9)) hgd s y ho lo _ (some ⟨g, 0, none⟩) L.length 1 (L.length + 1) c L [k] rfl rfl rfl (by omega) (by omega) hs (h.own.alloc _) (by simp; omega) W.heap.size cx (heap_alloc_new W _) hy ?_
  intro g' cap w' h1 h2
  exact hK g' cap w' ⟨by rw [List.length_append]; exact h1⟩ (((Below.refl _ _).alloc hlo _).trans h2)
end Go.Proofs.YtjonhbmgmamchaaGreatDoor

/-
  What NumbersLine answers, in plain words.
-/
namespace Go.Proofs.YtjonhbmgmamchaaGreatDoor
open Go.RowKit

def nuWs : List ByteArray := [⟨#[99, 108, 105, 113, 117, 101]⟩, ⟨#[99, 111, 108, 111, 114, 115]⟩, ⟨#[105, 110, 100, 101, 112, 101, 110, 100, 101, 110, 116]⟩, ⟨#[99, 111, 118, 101, 114, 115]⟩, ⟨#[109, 97, 116, 99, 104, 105, 110, 103]⟩, ⟨#[100, 111, 109, 105, 110, 97, 116, 105, 110, 103]⟩, ⟨#[98, 97, 110, 100, 119, 105, 100, 116, 104]⟩, ⟨#[112, 97, 116, 104, 119, 105, 100, 116, 104]⟩, ⟨#[116, 114, 101, 101, 119, 105, 100, 116, 104]⟩]
def nuW (k : Nat) : ByteArray := nuWs.getD k ⟨#[]⟩
def paW : ByteArray := ⟨#[112, 97, 116, 104]⟩
def cyW : ByteArray := ⟨#[99, 121, 99, 108, 101]⟩
noncomputable def nuNs (r : Nat → Nat) (m : Nat) : List Int := [((cn (lqN r m) : Nat) : Int), ((chN r m : Nat) : Int), ((cn (liN r m) : Nat) : Int), (((cvL r m).length : Nat) : Int), (((maL (edN r m) 0).length : Nat) : Int), ((cn (fdN r m) : Nat) : Int), bwI r m, pwI r m, trI r m]
noncomputable def nuN (r : Nat → Nat) (m k : Nat) : Int := (nuNs r m).getD k 0
noncomputable def nlL (r : Nat → Nat) (m : Nat) : Nat → List ByteArray
  | 0 => []
  | k + 1 => nlL r m k ++ [nuW k, itB (nuN r m k)]
def owW (b : Bool) (t : ByteArray) (L : List ByteArray) : List ByteArray := if b = true then L ++ [t] else L
noncomputable def nlF (m : Nat) (x : Nat → Int) : List ByteArray := owW (hamB (m : Int) m x true) cyW (owW (hamB (m : Int) m x false) paW (nlL (rw_ x) m 9))
noncomputable def nulB (s : Int) (m : Nat) (x : Nat → Int) : ByteArray := if okB s m x = true then spJ (nlF m x) else ⟨#[]⟩
section
variable {m k : Nat} {r : Nat → Nat} {x : Nat → Int} {b : Bool} {t : ByteArray} {L : List ByteArray}
theorem app_nilW (b : ByteArray) : b ++ (⟨#[]⟩ : ByteArray) = b := Go.WideShapes.bytes_inj (by rw [dataApp]; simp)
theorem nulB_no {s : Int} (h : okB s m x = false) : nulB s m x = ⟨#[]⟩ := by unfold nulB; rw [h]; rfl
theorem nulB_yes {s : Int} (h : okB s m x = true) : nulB s m x = spJ (nlF m x) := by unfold nulB; rw [if_pos h]
theorem nlL_len : ∀ k, (nlL r m k).length = 2 * k
  | 0 => rfl
  | k + 1 => by rw [nlL, List.length_append, nlL_len k]; show _ + 2 = _; omega
theorem nlL_ne : nlL r m (k + 1) ≠ [] := by
  intro h
  have := nlL_len (r := r) (m := m) (k + 1)
  rw [h] at this
  simp at this
theorem spJ_two (h : L ≠ []) (a b : ByteArray) : spJ (L ++ [a, b]) = spJ L ++ (⟨#[32]⟩ ++ a ++ ⟨#[32]⟩) ++ b := by
  rw [show L ++ [a, b] = (L ++ [a]) ++ [b] by simp, spJ_snoc (by simp), spJ_snoc h]
  simp only [ByteArray.append_assoc]
theorem nl_zero : spJ (nlL r m 1) = (nuW 0 ++ ⟨#[32]⟩) ++ itB (nuN r m 0) := by
  show spJ ([] ++ [nuW 0, itB (nuN r m 0)]) = _
  rw [show ([] ++ [nuW 0, itB (nuN r m 0)] : List ByteArray) = [nuW 0] ++ [itB (nuN r m 0)] from rfl, spJ_snoc (by simp), spJ_one]
theorem nl_step : spJ (nlL r m (k + 2)) = spJ (nlL r m (k + 1)) ++ (⟨#[32]⟩ ++ nuW (k + 1) ++ ⟨#[32]⟩) ++ itB (nuN r m (k + 1)) := by
  rw [nlL, spJ_two nlL_ne]
/-- The text up to the last number. -/
theorem nl_text : spJ (nlL r m 9) = ⟨#[99, 108, 105, 113, 117, 101, 32]⟩ ++ itB (nuN r m 0) ++ ⟨#[32, 99, 111, 108, 111, 114, 115, 32]⟩ ++ itB (nuN r m 1) ++ ⟨#[32, 105, 110, 100, 101, 112, 101, 110, 100, 101, 110, 116, 32]⟩ ++ itB (nuN r m 2) ++ ⟨#[32, 99, 111, 118, 101, 114, 115, 32]⟩ ++ itB (nuN r m 3) ++ ⟨#[32, 109, 97, 116, 99, 104, 105, 110, 103, 32]⟩ ++ itB (nuN r m 4) ++ ⟨#[32, 100, 111, 109, 105, 110, 97, 116, 105, 110, 103, 32]⟩ ++ itB (nuN r m 5) ++ ⟨#[32, 98, 97, 110, 100, 119, 105, 100, 116, 104, 32]⟩ ++ itB (nuN r m 6) ++ ⟨#[32, 112, 97, 116, 104, 119, 105, 100, 116, 104, 32]⟩ ++ itB (nuN r m 7) ++ ⟨#[32, 116, 114, 101, 101, 119, 105, 100, 116, 104, 32]⟩ ++ itB (nuN r m 8) := by
  rw [nl_step, nl_step, nl_step, nl_step, nl_step, nl_step, nl_step, nl_step, nl_zero]
  rfl
theorem nuW_size (k : Nat) : (nuW k).size ≤ 11 := by
  by_cases h : k < 9
  · have hc : k = 0 ∨ k = 1 ∨ k = 2 ∨ k = 3 ∨ k = 4 ∨ k = 5 ∨ k = 6 ∨ k = 7 ∨ k = 8 := by omega
    rcases hc with rfl | rfl | rfl | rfl | rfl | rfl | rfl | rfl | rfl <;> decide
  · unfold nuW
    simp only [List.getD, List.getElem?_eq_none (show nuWs.length ≤ k by show 9 ≤ k; omega), Option.getD_none]
    decide
theorem owJ (h : L ≠ []) : spJ (owW b t L) = spJ L ++ (if b = true then ⟨#[32]⟩ ++ t else ⟨#[]⟩) := by
  cases b
  · show spJ L = spJ L ++ ⟨#[]⟩
    exact (app_nilW _).symm
  · show spJ (L ++ [t]) = _
    rw [spJ_snoc h, if_pos rfl, ByteArray.append_assoc]
theorem owW_ne (h : L ≠ []) : owW b t L ≠ [] := by
  unfold owW
  split
  · simp
  · exact h
theorem owW_yes : owW true t L = L ++ [t] := rfl
theorem owW_no : owW false t L = L := rfl
theorem cn_low {s : Nat} (vg : VG m r) (h : s < 2 ^ m) : cn s ≤ 7 := Nat.le_trans (cn_le_table m (by have := vg.n7; omega) s h).1 vg.n7
theorem nuN_low (vg : VG m r) (k : Nat) : 0 ≤ nuN r m k ∧ nuN r m k ≤ 21 := by
  by_cases h : k < 9
  · have n1 := vg.n1
    have n7 := vg.n7
    have a0 := cn_low vg (lq_lt r m)
    have a1 := (chN_spec (r := r) n1).1
    have a2 := cn_low vg (li_lt r m)
    have a3 : (cvL r m).length ≤ m := by rw [cvL_len]; exact (chN_spec (r := coR r m) n1).1
    have a4 : (maL (edN r m) 0).length ≤ 21 := Nat.le_trans maL_len (edN_len n7)
    have a5 := cn_low vg (fd_lt vg)
    obtain ⟨b6, e6, c6⟩ := bwI_low (r := r) n1
    obtain ⟨b7, e7, c7⟩ := pwI_low vg
    obtain ⟨b8, e8, c8⟩ := trI_low vg
    have hc : k = 0 ∨ k = 1 ∨ k = 2 ∨ k = 3 ∨ k = 4 ∨ k = 5 ∨ k = 6 ∨ k = 7 ∨ k = 8 := by omega
    rcases hc with rfl | rfl | rfl | rfl | rfl | rfl | rfl | rfl | rfl
    · show 0 ≤ ((cn (lqN r m) : Nat) : Int) ∧ ((cn (lqN r m) : Nat) : Int) ≤ 21; omega
    · show 0 ≤ ((chN r m : Nat) : Int) ∧ ((chN r m : Nat) : Int) ≤ 21; omega
    · show 0 ≤ ((cn (liN r m) : Nat) : Int) ∧ ((cn (liN r m) : Nat) : Int) ≤ 21; omega
    · show 0 ≤ (((cvL r m).length : Nat) : Int) ∧ (((cvL r m).length : Nat) : Int) ≤ 21; omega
    · show 0 ≤ (((maL (edN r m) 0).length : Nat) : Int) ∧ (((maL (edN r m) 0).length : Nat) : Int) ≤ 21; omega
    · show 0 ≤ ((cn (fdN r m) : Nat) : Int) ∧ ((cn (fdN r m) : Nat) : Int) ≤ 21; omega
    · show 0 ≤ bwI r m ∧ bwI r m ≤ 21; omega
    · show 0 ≤ pwI r m ∧ pwI r m ≤ 21; omega
    · show 0 ≤ trI r m ∧ trI r m ≤ 21; omega
  · unfold nuN
    rw [List.getD_eq_getElem?_getD, List.getElem?_eq_none (show (nuNs r m).length ≤ k by show 9 ≤ k; omega)]
    simp
theorem nuN_I64 (vg : VG m r) (k : Nat) : I64 (nuN r m k) := by
  have := nuN_low vg k
  constructor <;> omega
theorem nuI_size (vg : VG m r) (k : Nat) : (itB (nuN r m k)).size ≤ 21 := itB_size (nuN_I64 vg k)
theorem nl_size (vg : VG m r) : ∀ k, (spJ (nlL r m (k + 1))).size ≤ 34 * (k + 1)
  | 0 => by
    have := nuI_size vg 0
    rw [nl_zero, ByteArray.size_append, ByteArray.size_append]
    show 6 + 1 + _ ≤ _
    omega
  | k + 1 => by
    have ih := nl_size vg k
    have h1 := nuI_size vg (k + 1)
    have h2 := nuW_size (k + 1)
    rw [nl_step, ByteArray.size_append, ByteArray.size_append, ByteArray.size_append, ByteArray.size_append]
    show _ + (1 + _ + 1) + _ ≤ _
    omega
theorem nlF_join : spJ (nlF m x) = spJ (nlL (rw_ x) m 9) ++ (if hamB (m : Int) m x false = true then ⟨#[32]⟩ ++ paW else ⟨#[]⟩) ++ (if hamB (m : Int) m x true = true then ⟨#[32]⟩ ++ cyW else ⟨#[]⟩) := by
  unfold nlF
  rw [owJ (owW_ne nlL_ne), owJ nlL_ne]
theorem nlF_size (vg : VG m (rw_ x)) : (spJ (nlF m x)).size ≤ 340 := by
  have h1 : (spJ (nlL (rw_ x) m 9)).size ≤ 306 := nl_size vg 8
  have hs : ∀ (b : Bool) (t : ByteArray), t.size ≤ 5 → (if b = true then (⟨#[32]⟩ : ByteArray) ++ t else ⟨#[]⟩).size ≤ 6 := by
    intro b t ht
    cases b
    · rw [if_neg (by simp)]; exact Nat.zero_le _
    · rw [if_pos rfl, ByteArray.size_append]; show 1 + _ ≤ _; omega
  have h2 := hs (hamB (m : Int) m x false) paW (by decide)
  have h3 := hs (hamB (m : Int) m x true) cyW (by decide)
  rw [nlF_join, ByteArray.size_append, ByteArray.size_append]
  omega
end
end Go.Proofs.YtjonhbmgmamchaaGreatDoor
