/-
  Contract: the reference cuts a text at a byte.
-/
import Derived.Test.YtncjfgebolikoaaDoorQvCutP
import Derived.Test.YtncjfgebolikoaaDoorQvFmU
namespace Go.Proofs.YtncjfgebolikoaaDoor
open Go.RowKit

theorem ext_one {s : ByteArray} {k : Nat} (h : k < s.size) : (s.extract k (k + 1)).data.toList = [s[k]] := by
  rw [ByteArray.data_extract, Array.toList_extract]
  have h2 : k < s.data.toList.length := by simpa using h
  simp only [List.extract_eq_take_drop, Nat.add_sub_cancel_left]
  rw [List.drop_eq_getElem_cons h2]
  rfl
set_option maxRecDepth 100000 in
set_option maxHeartbeats 3200000 in
theorem l2Cut_s (s : ByteArray) (w : World) (hs : s.size ≤ 1048576) :
    Calls Tryd.prog 47 #[.string s, .int .u8 44] w fun e w' => ∃ (D : List ByteArray) (A' : Option Addr) (c' : Nat), D.map (·.data.toList) = cutA 44 [] s.data.toList ∧ e = .returned (.slice A' D.length c') ∧ Own w' w.heap.size w'.heap.size 9 1 A' D.length c' (stL D) ∧ Below w.heap.size w w' := by
  go_enter Tryd.func47, Tryd.ntmps47
  go_wp2
  go_loopw [5, 6, 7] (fun o p i wr => ∃ (k : Nat) (P : ByteArray) (D : List ByteArray) (A' : Option Addr) (c' : Nat), k ≤ s.size ∧ i = .int .i64 k ∧ p = .string P ∧ o = .slice A' D.length c' ∧ P.size ≤ k ∧ D.length ≤ k ∧ Hid (D.map (·.data.toList) ++ cutA 44 P.data.toList (s.data.toList.drop k) = cutA 44 [] s.data.toList) ∧ Hid (Own wr w.heap.size wr.heap.size 9 1 A' D.length c' (stL D)) ∧ Hid (Below w.heap.size w wr)) (fun _ _ i _ => s.size - (intOf i).toNat)
  case atStart => exact ⟨0, _, [], _, 0, Nat.zero_le _, rfl, rfl, rfl, Nat.le_refl _, Nat.le_refl _, rfl, stL_own0 w, (Below.refl _ _).alloc (Nat.le_refl _) _⟩
  case round =>
    obtain ⟨k, P, D, A', c', hk, rfl, rfl, rfl, hP, hDk, HC, HO, HB⟩ := hrel
    by_cases hlt : k < s.size
    · have i1 : (k : Int) < (s.size : Int) := by omega
      have Hdrop : Hid (s.data.toList.drop k = s[k] :: s.data.toList.drop (k + 1)) := List.drop_eq_getElem_cons (by simpa using hlt)
      by_cases hb : s[k] = 44
      · have hbx : ((s[k].toNat : Int) == 44) = true := by rw [hb]; rfl
        have HC2 : Hid ((D ++ [P]).map (·.data.toList) ++ cutA 44 [] (s.data.toList.drop (k + 1)) = cutA 44 [] s.data.toList) := by
          show _ = _
          rw [← HC.out, Hdrop.out, List.map_append, List.append_assoc]
          congr 1
          conv => rhs; unfold cutA
          rw [if_pos hb]
          rfl
        have HP : Hid (Own (wr.alloc (Obj.cells #[.string P] 9)) w.heap.size wr.heap.size 9 1 A' D.length c' (stL (D ++ [P]))) := (HO.out.alloc _).congr (fun j hj => (stL_left (by omega)).symm)
        have hzr := HB.out.size
        clear HC HO hb
        go_wp2_with (first | (at_builtin; (refine wpList_push (wr.alloc (Obj.cells #[.string P] 9)) rfl _ _ _ rfl 9 _ 1 16 Tryd.underlying55 info_string rfl (by omega) w.heap.size _ A' D.length c' (stL (D ++ [P])) rfl HP.out (by simp; omega) wr.heap.size #[.string P] 9 (0, 0) 1 (heap_alloc_new wr _) rfl rfl stL_news (by simp [Value.oneCell']) (by omega) (by omega) ?_; intro g3 c3 w3 hp)))
        have HO3 : Hid (Own w3 w.heap.size w3.heap.size 9 1 (some ⟨g3, 0, none⟩) (D ++ [P]).length c3 (stL (D ++ [P]))) := by show Own _ _ _ _ _ _ _ _ _; rw [List.length_append]; exact hp.own
        have HB3 : Hid (Below w.heap.size w w3) := (HB.out.alloc hzr _).trans hp.below
        clear hp HP
        go_roundw
        case rel => exact ⟨k + 1, _, D ++ [P], _, c3, by omega, by go_num, rfl, by rw [List.length_append]; rfl, Nat.zero_le _, by rw [List.length_append, List.length_singleton]; omega, HC2, HO3, HB3⟩
        case measure => (simp [intOf] <;> omega)
      · have hbx : ((s[k].toNat : Int) == 44) = false := by
          rw [beq_eq_false_iff_ne]
          intro h
          refine hb (UInt8.toNat_inj.1 ?_)
          show _ = 44
          omega
        have he : (s.extract k (k + 1)).size = 1 := by simp [ByteArray.size_extract]; omega
        have HC2 : Hid (D.map (·.data.toList) ++ cutA 44 (P ++ s.extract k (k + 1)).data.toList (s.data.toList.drop (k + 1)) = cutA 44 [] s.data.toList) := by
          show _ = _
          rw [← HC.out, Hdrop.out]
          congr 1
          conv => rhs; unfold cutA
          rw [if_neg hb, dataApp]
          rw [ext_one hlt]
        have hsz : ¬ 9223372036854775807 < P.size + (s.extract k (k + 1)).size := by omega
        have Hsz : Hid ((P ++ s.extract k (k + 1)).size ≤ k + 1) := by show _ ≤ _; rw [ByteArray.size_append]; omega
        clear HC hb
        go_wp2
        go_roundw
        case rel => exact ⟨k + 1, _, D, A', c', by omega, by go_num, rfl, rfl, Hsz.out, by omega, HC2, HO, HB⟩
        case measure => (simp [intOf] <;> omega)
    · obtain rfl : k = s.size := by omega
      have HC2 : Hid ((D ++ [P]).map (·.data.toList) = cutA 44 [] s.data.toList) := by
        show _ = _
        rw [← HC.out, List.map_append, List.drop_eq_nil_of_le (by simp)]
        rfl
      have HP : Hid (Own (wr.alloc (Obj.cells #[.string P] 9)) w.heap.size wr.heap.size 9 1 A' D.length c' (stL (D ++ [P]))) := (HO.out.alloc _).congr (fun j hj => (stL_left (by omega)).symm)
      have hzr := HB.out.size
      clear HC HO
      go_wp2_with (first | (at_builtin; (refine wpList_push (wr.alloc (Obj.cells #[.string P] 9)) rfl _ _ _ rfl 9 _ 1 16 Tryd.underlying55 info_string rfl (by omega) w.heap.size _ A' D.length c' (stL (D ++ [P])) rfl HP.out (by simp; omega) wr.heap.size #[.string P] 9 (0, 0) 1 (heap_alloc_new wr _) rfl rfl stL_news (by simp [Value.oneCell']) (by omega) (by omega) ?_; intro g3 c3 w3 hp)))
      have HO3 : Hid (Own w3 w.heap.size w3.heap.size 9 1 (some ⟨g3, 0, none⟩) (D ++ [P]).length c3 (stL (D ++ [P]))) := by show Own _ _ _ _ _ _ _ _ _; rw [List.length_append]; exact hp.own
      have HB3 : Hid (Below w.heap.size w w3) := (HB.out.alloc hzr _).trans hp.below
      clear hp HP
      go_ret
      exact ⟨D ++ [P], _, c3, HC2.out, by rw [List.length_append]; rfl, HO3.out, HB3.out⟩
end Go.Proofs.YtncjfgebolikoaaDoor
