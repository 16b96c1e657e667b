/-
  Contracts: a set's list, of both programs.
-/
import Derived.Test.YtnnlmdenffnjbaaSetP
import Derived.Test.YtnnlmdenffnjbaaAppI
import Derived.Test.YtnnlmdenffnjbaaBase
import Derived.Test.YtnnlmdenffnjbaaBits
namespace Go.Proofs.Ytnnlmdenffnjbaa
open Go.RowKit

/-- The cells of a list of vertices. -/
def ni (l : List Nat) : Nat → Value := fun i => .int .i64 ((l.getD i 0 : Nat) : Int)
theorem ni_left {l : List Nat} {k j : Nat} (h : j < l.length * 1) : ni (l ++ [k]) j = ni l j := by
  unfold ni; simp [List.getD, List.getElem?_append_left (by omega : j < l.length)]
theorem ni_news {l : List Nat} {k : Nat} : ∀ i, i < 1 → (#[Value.int .i64 (k : Int)] : Array Value)[i]? = some (ni (l ++ [k]) (l.length * 1 + i)) := by
  intro i hi
  obtain rfl : i = 0 := by omega
  unfold ni; simp [List.getD]
theorem ni_at {l : List Nat} {j : Nat} (h : j < l.length) : ni l j = .int .i64 (l[j] : Int) := by unfold ni; simp [List.getD, h]

/-- append of one vertex. -/
theorem wpList_pushN (W : World) {ops : Array Oper} {rest : List Oper} {o : Oper} {a : Act} {Q : Exit → Act → World → Prop} (hgd : o.guard = none) (s y : Operand)
    (ho : o.op = .call { callee := .builtin .append, args := #[s, y], argTypes := #[22, 22] })
    (lo hi : Nat) (A : Option Addr) (c : Nat) (T : List Nat) (h : Own W lo hi 3 1 A T.length c (ni T)) (hlo : lo ≤ W.heap.size) (k : Nat) (hs : a.eval s = .slice A T.length c) (cx H : Nat) (hH : W.heap.size = H) (hy : a.eval y = .slice (some ⟨H, 0, none⟩) 1 cx)
    (hn : T.length ≤ 1073741824)
    (hK : ∀ g cap w', Own w' lo w'.heap.size 3 1 (some ⟨g, 0, none⟩) (T.length + 1) cap (ni (T ++ [k])) → Below lo W w' → wpList Try.prog ops Q rest (a.put o.dst (.slice (some ⟨g, 0, none⟩) (T.length + 1) cap)) w') :
    wpList Try.prog ops Q (o :: rest) a (W.alloc (Obj.cells #[.int .i64 (k : Int)] 3)) := by
  subst hH
  have ha := h.alloc (Obj.cells #[.int .i64 (k : Int)] 3)
  refine wpList_push (W.alloc (Obj.cells #[.int .i64 (k : Int)] 3)) hgd s y 22 ho 3 _ 1 8 Try.underlying22 info_int rfl (by omega) lo hi A T.length c (ni (T ++ [k])) hs
    (ha.congr (fun j hj => (ni_left hj).symm)) (by simp; omega) W.heap.size #[.int .i64 (k : Int)] 3 (0, 0) cx (heap_alloc_new W _) hy rfl ni_news (by simp [Value.oneCell']) hn (by omega) ?_
  intro g cap w' hp
  exact hK g cap w' hp.own (((Below.refl _ _).alloc hlo _).trans hp.below)

set_option maxHeartbeats 1000000 in
theorem ListOf_i (s : Nat) (hs : s < 128) (w : World) :
    Calls Try.prog 157 #[.int .i64 s] w fun e w' => ∃ A c, e = .returned (.slice A (listN s).length c) ∧ Own w' w.heap.size w'.heap.size 3 1 A (listN s).length c (ni (listN s)) ∧ Below w.heap.size w w' := by
  obtain ⟨W, hW⟩ : ∃ W : World, W = w.alloc (Obj.cells #[] 3) := ⟨_, rfl⟩
  have HB : Hid (Below w.heap.size w W) := by rw [hW]; exact (Below.refl _ _).alloc (Nat.le_refl _) _
  have hz1 : w.heap.size < W.heap.size := by rw [hW]; simp
  have HO : Hid (Own W w.heap.size W.heap.size 3 1 (some ⟨w.heap.size, 0, none⟩) 0 0 (ni [])) := by
    refine .inr ⟨w.heap.size, #[], rfl, Nat.le_refl _, hz1, ?_, Nat.le_refl _, by unfold maxLen; omega, rfl, fun j hj => absurd hj (by omega)⟩
    rw [hW]
    exact heap_alloc_new w _
  have HW := Lib.hid hW
  clear hW
  go_enter Try.func157, Try.ntmps157
  go_wp2_with (first | (go_at_call 135; refine (within_yes _ _ _ _ (by omega) (by omega)).mono ?_; rintro e w' ⟨rfl, rfl⟩))
  rw [← HW.out]
  clear HW
  go_loopw [3, 10] (fun l i wr => ∃ (k : Nat) (A' : Option Addr) (c' : Nat), k ≤ 7 ∧ i = .int .i64 k ∧ l = .slice A' (listK s k).length c' ∧ Hid (Own wr w.heap.size wr.heap.size 3 1 A' (listK s k).length c' (ni (listK s k))) ∧ Hid (Below w.heap.size w wr)) (fun _ i _ => 7 - (intOf i).toNat)
  case atStart => exact ⟨0, _, 0, Nat.zero_le _, rfl, rfl, HO, HB⟩
  case round =>
    obtain ⟨k, A', c', hk, rfl, rfl, hO, hbr⟩ := hrel
    have zr := hbr.out.size
    have hlen := listK_len s k
    by_cases hlt : k < 7
    · have K1 : Hid (∀ w, Calls Try.prog 136 #[.int .i64 s, .int .i64 k] w fun e w' => e = .returned (.bool (s.testBit k)) ∧ w = w') := fun w => (has_any s k w (by omega) (by omega) (by omega) (by omega)).mono fun _ _ ⟨h1, h2⟩ => ⟨by rw [h1, Int.toNat_natCast, Int.toNat_natCast], h2⟩
      cases ht : s.testBit k
      · have HL := Lib.hid (listK_no ht)
        rw [ht] at K1
        clear ht
        go_wp2_with (first | (go_at_call 136; with_reducible refine (K1.out _).mono ?_; rintro e w' ⟨rfl, rfl⟩))
        go_roundw
        case rel => exact ⟨k + 1, A', c', by omega, by go_num, by rw [HL.out], by rw [HL.out]; exact hO, hbr⟩
        case measure => simp [intOf]; omega
      · have HL := Lib.hid (listK_yes ht)
        rw [ht] at K1
        clear ht
        go_wp2_with (first | (go_at_call 136; with_reducible refine (K1.out _).mono ?_; rintro e w' ⟨rfl, rfl⟩) | (at_builtin; (refine wpList_pushN wr rfl _ _ rfl w.heap.size wr.heap.size A' c' (listK s k) hO.out zr k rfl 1 wr.heap.size rfl rfl (by omega) ?_; intro g cap w3 hO2 hb2)))
        have H4 := Lib.hid hO2
        have H5 : Hid (Below w.heap.size w w3) := hbr.out.trans hb2
        clear hO2 hb2 hbr hO
        go_roundw
        case rel => exact ⟨k + 1, _, _, by omega, by go_num, by rw [HL.out, List.length_append]; rfl, by rw [HL.out, List.length_append]; exact H4.out, H5⟩
        case measure => simp [intOf]; omega
    · have hk7 : k = 7 := by omega
      have HN : Hid (listK s k = listN s) := by show _ = _; rw [hk7]; rfl
      have i1 : (7 : Int) ≤ (k : Int) := by omega
      clear hk7
      go_wp2
      go_ret
      exact ⟨A', c', by rw [← HN.out]; rfl, by rw [← HN.out]; exact hO.out, hbr.out⟩

theorem l3Fine_yes (s : Int) (w : World) (h0 : 0 ≤ s) (h1 : s ≤ 127) : Calls Try.prog 218 #[.int .i64 s] w fun e w' => e = .returned (.bool true) ∧ w = w' := by
  go_enter Try.func218, Try.ntmps218
  go_wp2_with (first | (go_at_call 132; refine (l1In_yes _ _ _ _ (by omega) (by omega)).mono ?_; rintro e w' ⟨rfl, rfl⟩))
  go_ret
  exact ⟨rfl, rfl⟩

set_option maxHeartbeats 1000000 in
theorem ListOf_s (s : Nat) (hs : s < 128) (w : World) :
    Calls Try.prog 175 #[.int .i64 s] w fun e w' => ∃ A c, e = .returned (.slice A (listN s).length c) ∧ Own w' w.heap.size w'.heap.size 3 1 A (listN s).length c (ni (listN s)) ∧ Below w.heap.size w w' := by
  obtain ⟨W, hW⟩ : ∃ W : World, W = w.alloc (Obj.cells #[] 3) := ⟨_, rfl⟩
  have HB : Hid (Below w.heap.size w W) := by rw [hW]; exact (Below.refl _ _).alloc (Nat.le_refl _) _
  have hz1 : w.heap.size < W.heap.size := by rw [hW]; simp
  have HO : Hid (Own W w.heap.size W.heap.size 3 1 (some ⟨w.heap.size, 0, none⟩) 0 0 (ni [])) := by
    refine .inr ⟨w.heap.size, #[], rfl, Nat.le_refl _, hz1, ?_, Nat.le_refl _, by unfold maxLen; omega, rfl, fun j hj => absurd hj (by omega)⟩
    rw [hW]
    exact heap_alloc_new w _
  have HW := Lib.hid hW
  clear hW
  go_enter Try.func175, Try.ntmps175
  go_wp2
  rw [← HW.out]
  clear HW
  go_loopw [3, 4] (fun l i wr => ∃ (k : Nat) (A' : Option Addr) (c' : Nat), k ≤ 7 ∧ i = .int .i64 k ∧ l = .slice A' (listK s k).length c' ∧ Hid (Own wr w.heap.size wr.heap.size 3 1 A' (listK s k).length c' (ni (listK s k))) ∧ Hid (Below w.heap.size w wr)) (fun _ i _ => 7 - (intOf i).toNat)
  case atStart => exact ⟨0, _, 0, Nat.zero_le _, rfl, rfl, HO, HB⟩
  case round =>
    obtain ⟨k, A', c', hk, rfl, rfl, hO, hbr⟩ := hrel
    have zr := hbr.out.size
    have hlen := listK_len s k
    by_cases hlt : k < 7
    · have E := and_one_i64 (s : Int) k (by omega) (by omega)
      rw [Int.toNat_natCast] at E
      cases ht : s.testBit k
      · have HL := Lib.hid (listK_no ht)
        rw [ht] at E
        clear ht
        go_wp2_with (first | (go_at_call 218; refine (l3Fine_yes _ _ (by omega) (by omega)).mono ?_; rintro e w' ⟨rfl, rfl⟩))
        go_roundw
        case rel => exact ⟨k + 1, A', c', by omega, by go_num, by rw [HL.out], by rw [HL.out]; exact hO, hbr⟩
        case measure => simp [intOf]; omega
      · have HL := Lib.hid (listK_yes ht)
        rw [ht] at E
        clear ht
        go_wp2_with (first | (go_at_call 218; refine (l3Fine_yes _ _ (by omega) (by omega)).mono ?_; rintro e w' ⟨rfl, rfl⟩) | (at_builtin; (refine wpList_pushN wr rfl _ _ rfl w.heap.size wr.heap.size A' c' (listK s k) hO.out zr k rfl 1 wr.heap.size rfl rfl (by omega) ?_; intro g cap w3 hO2 hb2)))
        have H4 := Lib.hid hO2
        have H5 : Hid (Below w.heap.size w w3) := hbr.out.trans hb2
        clear hO2 hb2 hbr hO
        go_roundw
        case rel => exact ⟨k + 1, _, _, by omega, by go_num, by rw [HL.out, List.length_append]; rfl, by rw [HL.out, List.length_append]; exact H4.out, H5⟩
        case measure => simp [intOf]; omega
    · have hk7 : k = 7 := by omega
      have HN : Hid (listK s k = listN s) := by show _ = _; rw [hk7]; rfl
      have i1 : (7 : Int) ≤ (k : Int) := by omega
      clear hk7
      go_wp2
      go_ret
      exact ⟨A', c', by rw [← HN.out]; rfl, by rw [← HN.out]; exact hO.out, hbr.out⟩
end Go.Proofs.Ytnnlmdenffnjbaa
