/-
  Contracts: lists of sets as text (setsText, l34Sets).
-/
import Derived.Test.YtppkokgiojcgbaaDoorQzFsT
import Derived.Test.YtppkokgiojcgbaaDoorQzPushS
namespace Go.Proofs.YtppkokgiojcgbaaDoor
open Go.RowKit

set_option maxRecDepth 100000 in
set_option maxHeartbeats 3200000 in
theorem setsText_i (A : Option Addr) (n c : Nat) (S : Nat → Nat) (w : World) (h : Rd w w.heap.size A n c (fun j => ((S j : Nat) : Int))) (hI : ∀ j, j < n → S j < 128) (hn : n ≤ 1048576) (ht : Tb w) :
    Calls Tryd.prog 24 #[.slice A n c] w fun e w' => e = .returned (.string (cmJ (fun j => fsT (S j)) n)) ∧ Below w.heap.size w w' := by
  have HL : Hid (∀ z : World, Below w.heap.size w z → Rd z z.heap.size A n c (fun j => ((S j : Nat) : Int))) := fun z hz => h.keep hz hz.size
  have HI := Lib.hid hI
  have HT := Lib.hid ht
  clear h hI ht
  go_enter Tryd.func24, Tryd.ntmps24
  go_wp2
  go_loopw [3, 9] (fun l i wr => ∃ (k g c' : Nat), k ≤ n ∧ i = .int .i64 k ∧ l = .slice (some ⟨g, 0, none⟩) k c' ∧ Hid (Own wr w.heap.size wr.heap.size 9 1 (some ⟨g, 0, none⟩) k c' (stL (cmL (fun j => fsT (S j)) k))) ∧ Hid (Below w.heap.size w wr)) (fun _ i _ => n - (intOf i).toNat)
  case atStart => exact ⟨0, w.heap.size, 0, Nat.zero_le _, rfl, rfl, stL_own0 w, (Below.refl _ _).alloc (Nat.le_refl _) _⟩
  case round =>
    obtain ⟨k, g, c', hk, rfl, rfl, HO, HB⟩ := hrel
    by_cases hlt : k < n
    · have i1 : (k : Int) < (n : Int) := by omega
      obtain ⟨b, o, rfl, hb, hc⟩ := (HL.out wr HB.out).2 (by omega)
      have q0 := hc k hlt
      dsimp only at q0
      have KF := Lib.hid (FormatSet_i (S k) (HI.out k hlt) wr (HT.out.keep HB.out))
      clear hc
      obtain ⟨y, hy⟩ : ∃ y, y = S k := ⟨_, rfl⟩
      obtain ⟨T, hT⟩ : ∃ T, T = cmL (fun j => fsT (S j)) k := ⟨_, rfl⟩
      have HTT : Hid (cmL (fun j => fsT (S j)) (k + 1) = T ++ [fsT y]) := by rw [hT, hy]; exact cmL_succ _ _
      have HTl : Hid (T.length = k) := by show _ = _; rw [hT]; exact cmL_len _ _
      rw [← hT] at HO
      rw [← hy] at q0 KF
      obtain ⟨P, hP⟩ : ∃ P, P = fsT y := ⟨_, rfl⟩
      rw [← hP] at KF HTT
      clear hy hT hP
      go_wp2_with fail
      refine KF.out.mono ?_
      rintro e w1 ⟨rfl, hb1⟩
      have HB1 : Hid (Below w.heap.size w w1) := HB.out.trans (hb1.mono HB.out.size)
      have hz1 := HB1.out.size
      have HX : Hid (Own (w1.alloc (Obj.cells #[.string P] 9)) w.heap.size w1.heap.size 9 1 (some ⟨g, 0, none⟩) k c' (stL (T ++ [P]))) := ((((HO.out.keepB hb1 (Nat.le_refl _)).mono (Nat.le_refl _) hb1.size)).alloc _).congr (fun j hj => (stL_left (by rw [HTl.out]; omega)).symm)
      have HXn : Hid (∀ i, i < 1 → (#[Value.string P] : Array Value)[i]? = some (stL (T ++ [P]) (k * 1 + i))) := by rw [← HTl.out]; exact stL_news
      clear hb1 HO HB KF q0
      go_wp2_with (first | (at_builtin; (refine wpList_push (w1.alloc (Obj.cells #[.string P] 9)) rfl _ _ _ rfl 9 _ 1 16 Tryd.underlying49 info_string rfl (by omega) w.heap.size _ (some ⟨g, 0, none⟩) k c' (stL (T ++ [P])) rfl HX.out (by simp; omega) w1.heap.size #[.string P] 9 (0, 0) 1 (heap_alloc_new w1 _) rfl rfl HXn.out (by simp [Value.oneCell']) (by omega) (by omega) ?_; intro g3 c3 w3 hp)))
      have HO3 : Hid (Own w3 w.heap.size w3.heap.size 9 1 (some ⟨g3, 0, none⟩) (k + 1) c3 (stL (cmL (fun j => fsT (S j)) (k + 1)))) := by rw [HTT.out]; exact hp.own
      have HB3 : Hid (Below w.heap.size w w3) := (HB1.out.alloc hz1 _).trans hp.below
      clear hp HX HXn
      go_roundw
      case rel => exact ⟨k + 1, g3, c3, by omega, by go_num, rfl, HO3, HB3⟩
      case measure => (simp [intOf] <;> omega)
    · have i1 : (n : Int) ≤ (k : Int) := by omega
      obtain rfl : k = n := by omega
      have hl := cmL_len (fun j => fsT (S j)) k
      have KL : Hid (Calls Tryd.prog 50 #[.slice (some ⟨g, 0, none⟩) k c', .string ⟨#[44]⟩] wr fun e w' => e = .returned (.string (cmJ (fun j => fsT (S j)) k)) ∧ Below wr.heap.size wr w') := by
        have hs := cmJ_size (T := fun j => fsT (S j)) (M := 147) k (fun j hj => fsT_size _)
        exact join_own g k c' (cmL (fun j => fsT (S j)) k) (cmJ (fun j => fsT (S j)) k) ⟨#[44]⟩ wr w.heap.size hl HO.out (cmJ_join _ k) (by omega) (by omega)
      clear hl HO
      go_wp2_with fail
      refine KL.out.mono ?_
      rintro e w2 ⟨rfl, hb2⟩
      have HB2 : Hid (Below w.heap.size w w2) := HB.out.trans (hb2.mono HB.out.size)
      clear hb2
      go_wp2
      go_ret
      exact ⟨rfl, HB2.out⟩

set_option maxRecDepth 100000 in
set_option maxHeartbeats 3200000 in
theorem l34Sets_s (A : Option Addr) (n c : Nat) (S : Nat → Nat) (w : World) (h : Rd w w.heap.size A n c (fun j => ((S j : Nat) : Int))) (hI : ∀ j, j < n → S j < 128) (hn : n ≤ 1048576) (h0 : n ≠ 0) :
    Calls Tryd.prog 14 #[.slice A n c] w fun e w' => e = .returned (.string (cmJ (fun j => fsT (S j)) n)) ∧ Below w.heap.size w w' := by
  have HL : Hid (∀ z : World, Below w.heap.size w z → Rd z z.heap.size A n c (fun j => ((S j : Nat) : Int))) := fun z hz => h.keep hz hz.size
  have HI := Lib.hid hI
  clear h hI
  go_enter Tryd.func14, Tryd.ntmps14
  go_wp2
  go_loopw [3, 4] (fun s i wr => ∃ (k : Nat) (U : ByteArray), k ≤ n ∧ i = .int .i64 k ∧ s = .string U ∧ U.size ≤ 148 * k ∧ Hid (U = cmJ (fun j => fsT (S j)) k) ∧ Hid (Below w.heap.size w wr)) (fun _ i _ => n - (intOf i).toNat)
  case atStart => exact ⟨0, _, Nat.zero_le _, rfl, rfl, Nat.zero_le _, rfl, Below.refl _ _⟩
  case round =>
    obtain ⟨k, U, hk, rfl, rfl, hS, HS, HB⟩ := hrel
    by_cases hlt : k < n
    · have i1 : (k : Int) < (n : Int) := by omega
      obtain ⟨b, o, rfl, hb, hc⟩ := (HL.out wr HB.out).2 (by omega)
      have q0 := hc k hlt
      dsimp only at q0
      have KF := Lib.hid (FormatSet_s (S k) (HI.out k hlt) wr)
      have hP := fsT_size (S k)
      have H1 : Hid (k = 0 → cmJ (fun j => fsT (S j)) (k + 1) = U ++ fsT (S k)) := fun h => by rw [cmJ_one _ h, HS.out]
      have H2 : Hid (k ≠ 0 → cmJ (fun j => fsT (S j)) (k + 1) = U ++ ⟨#[44]⟩ ++ fsT (S k)) := fun h => by rw [cmJ_more _ h, HS.out]
      clear hc HS
      obtain ⟨y, hy⟩ : ∃ y, y = S k := ⟨_, rfl⟩
      rw [← hy] at q0 KF hP H1 H2
      obtain ⟨P, hPP⟩ : ∃ P, P = fsT y := ⟨_, rfl⟩
      rw [← hPP] at KF hP H1 H2
      clear hy hPP
      have hs : U.size ≤ 155189248 := by omega
      by_cases h0 : k = 0
      · have i3 : (k : Int) ≤ (0 : Int) := by omega
        have HJ := Lib.hid (H1.out h0)
        have h7 : ¬ 9223372036854775807 < U.size + P.size := by omega
        have Hsz : Hid ((U ++ P).size ≤ 148 * (k + 1)) := by show _ ≤ _; rw [ByteArray.size_append]; omega
        clear H1 H2 h0
        go_wp2_with fail
        refine KF.out.mono ?_
        rintro e w1 ⟨rfl, hb1⟩
        have HB1 : Hid (Below w.heap.size w w1) := HB.out.trans (hb1.mono HB.out.size)
        clear hb1 HB KF q0
        go_wp2
        go_roundw
        case rel => exact ⟨k + 1, _, by omega, by go_num, rfl, Hsz.out, HJ.out.symm, HB1⟩
        case measure => (simp [intOf] <;> omega)
      · have i3 : (0 : Int) < (k : Int) := by omega
        have HJ := Lib.hid (H2.out h0)
        have h7 : ¬ 9223372036854775807 < (U ++ ⟨#[44]⟩).size + P.size := by rw [ByteArray.size_append]; show ¬ _ < U.size + 1 + _; omega
        have Hsz : Hid ((U ++ ⟨#[44]⟩ ++ P).size ≤ 148 * (k + 1)) := by show _ ≤ _; rw [ByteArray.size_append, ByteArray.size_append]; show U.size + 1 + _ ≤ _; omega
        clear H1 H2 h0
        go_wp2_with fail
        refine KF.out.mono ?_
        rintro e w1 ⟨rfl, hb1⟩
        have HB1 : Hid (Below w.heap.size w w1) := HB.out.trans (hb1.mono HB.out.size)
        clear hb1 HB KF q0
        go_wp2
        go_roundw
        case rel => exact ⟨k + 1, _, by omega, by go_num, rfl, Hsz.out, HJ.out.symm, HB1⟩
        case measure => (simp [intOf] <;> omega)
    · have i1 : (n : Int) ≤ (k : Int) := by omega
      obtain rfl : k = n := by omega
      have hne : U.toList.isEmpty = false := by
        have hU : 0 < U.size := by
          rw [HS.out]
          obtain ⟨j, rfl⟩ : ∃ j, k = j + 1 := ⟨k - 1, by omega⟩
          have hf : 0 < (fsT (S j)).size := by
            by_cases hz : S j = 0
            · rw [hz, fsT_zero]; decide
            · have := dgJ_pos (X := fun i => (((listN (S j)).getD i 0 : Nat) : Int)) (listN_some hz (HI.out j (by omega)))
              rw [fsT_pos hz]
              rcases Nat.eq_zero_or_pos (dgJ (fun i => (((listN (S j)).getD i 0 : Nat) : Int)) (listN (S j)).length).size with h | h
              · exfalso
                rw [List.isEmpty_eq_false_iff] at this
                refine this ?_
                rw [ByteArray.toList_eq]
                exact List.length_eq_zero_iff.1 (by simpa using h)
              · exact h
          by_cases hj : j = 0
          · rw [cmJ_one _ hj, ByteArray.size_append]; omega
          · rw [cmJ_more _ hj, ByteArray.size_append]; omega
        rw [List.isEmpty_eq_false_iff]
        intro h2
        have := congrArg List.length h2
        rw [ByteArray.toList_eq] at this
        have : U.size = 0 := by simpa using this
        omega
      go_wp2
      go_ret
      exact ⟨by rw [← HS.out]; rfl, HB.out⟩
end Go.Proofs.YtppkokgiojcgbaaDoor
