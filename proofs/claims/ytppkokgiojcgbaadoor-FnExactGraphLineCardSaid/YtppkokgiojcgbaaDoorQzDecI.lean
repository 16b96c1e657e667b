/-
  Contracts: lists of numbers and of edges as text, the program's way.
-/
import Derived.Test.YtppkokgiojcgbaaDoorQzShlI
import Derived.Test.YtppkokgiojcgbaaDoorQzFmU
import Derived.Test.YtppkokgiojcgbaaDoorQzGB
namespace Go.Proofs.YtppkokgiojcgbaaDoor
open Go.RowKit

set_option maxRecDepth 100000 in
set_option maxHeartbeats 2000000 in
theorem listed_i (g c : Nat) (L : List ByteArray) (J : ByteArray) (w : World) (lo : Nat) (h : Own w lo w.heap.size 9 1 (some ⟨g, 0, none⟩) L.length c (stL L)) (hJ : Lib.join (L.map (·.data.toList)) [44] = J.data.toList) (hl : L.length ≤ 1048576) (hs : J.size ≤ 140737488355328) :
    Calls Tryd.prog 45 #[.slice (some ⟨g, 0, none⟩) L.length c] w fun e w' => e = .returned (.string (noB J)) ∧ Below w.heap.size w w' := by
  have KJ : Hid (Calls Tryd.prog 50 #[.slice (some ⟨g, 0, none⟩) L.length c, .string ⟨#[44]⟩] w fun e w' => e = .returned (.string J) ∧ Below w.heap.size w w') := by
    have hg : g < w.heap.size := by
      rcases h.at_block with h2 | ⟨g2, h2, _, h3⟩
      · cases h2
      · cases h2; exact h3
    have K := join_any g 0 c L ⟨#[44]⟩ w (fun j x hx => by
      obtain ⟨hj, hx2⟩ := List.getElem?_eq_some_iff.1 hx
      obtain ⟨g2, e2, _, _, _, hc, _⟩ := h.at_ (by omega)
      cases e2
      rw [Nat.zero_add, hc j (by omega)]
      unfold stL
      simp [List.getD, hx]) hg (by omega) h.le (by
        show (Lib.join (L.map (·.data.toList)) [44]).length ≤ _
        rw [hJ]
        have : J.data.toList.length = J.size := by simp
        omega)
    refine K.mono fun e w' ⟨he, hb⟩ => ⟨?_, hb⟩
    rw [he]
    show Ending.returned (.string ⟨(Lib.join (L.map (·.data.toList)) [44]).toArray⟩) = _
    rw [hJ]
  clear h hJ hs
  have hl0 : (0 : Int) ≤ (L.length : Int) := by omega
  by_cases hn : J.toList = []
  · have HJ := Lib.hid (noB_yes hn)
    have hb : J.toList.isEmpty = true := by rw [hn]; rfl
    clear hn
    go_enter Tryd.func45, Tryd.ntmps45
    go_wp2_with fail
    refine KJ.out.mono ?_
    rintro e w1 ⟨rfl, hb1⟩
    have HB1 := Lib.hid hb1
    clear hb1
    go_wp2
    go_ret
    exact ⟨by rw [HJ.out]; rfl, HB1.out⟩
  · have HJ := Lib.hid (noB_no hn)
    have hb : J.toList.isEmpty = false := by rw [List.isEmpty_eq_false_iff]; exact hn
    clear hn
    go_enter Tryd.func45, Tryd.ntmps45
    go_wp2_with fail
    refine KJ.out.mono ?_
    rintro e w1 ⟨rfl, hb1⟩
    have HB1 := Lib.hid hb1
    clear hb1
    go_wp2
    go_ret
    exact ⟨by rw [HJ.out]; rfl, HB1.out⟩

set_option maxRecDepth 100000 in
set_option maxHeartbeats 3200000 in
theorem numbersText_i (A : Option Addr) (n c : Nat) (X : Nat → Int) (w : World) (h : Rd w w.heap.size A n c X) (hI : ∀ j, j < n → I64 (X j)) (hn : n ≤ 1048576) (ht : Tb w) :
    Calls Tryd.prog 22 #[.slice A n c] w fun e w' => e = .returned (.string (nuB X n)) ∧ Below w.heap.size w w' := by
  have HL : Hid (∀ z : World, Below w.heap.size w z → Rd z z.heap.size A n c X) := fun z hz => h.keep hz hz.size
  have HI := Lib.hid hI
  have HT := Lib.hid ht
  clear h hI ht
  go_enter Tryd.func22, Tryd.ntmps22
  go_wp2
  go_loopw [3, 9] (fun l i wr => ∃ (k g c' : Nat), k ≤ n ∧ i = .int .i64 k ∧ l = .slice (some ⟨g, 0, none⟩) k c' ∧ Hid (Own wr w.heap.size wr.heap.size 9 1 (some ⟨g, 0, none⟩) k c' (stL (cmL (fun j => itB (X j)) k))) ∧ Hid (Below w.heap.size w wr)) (fun _ i _ => n - (intOf i).toNat)
  case atStart => exact ⟨0, w.heap.size, 0, Nat.zero_le _, rfl, rfl, stL_own0 w, (Below.refl _ _).alloc (Nat.le_refl _) _⟩
  case round =>
    obtain ⟨k, g, c', hk, rfl, rfl, HO, HB⟩ := hrel
    by_cases hlt : k < n
    · have i1 : (k : Int) < (n : Int) := by omega
      obtain ⟨b, o, rfl, hb, hc⟩ := (HL.out wr HB.out).2 (by omega)
      have q0 := hc k hlt
      have KF := Lib.hid (FormatInt_ia (X k) (HI.out k hlt) wr (HT.out.keep HB.out))
      clear hc
      obtain ⟨y, hy⟩ : ∃ y, y = X k := ⟨_, rfl⟩
      obtain ⟨T, hT⟩ : ∃ T, T = cmL (fun j => itB (X j)) k := ⟨_, rfl⟩
      have HTT : Hid (cmL (fun j => itB (X j)) (k + 1) = T ++ [itB y]) := by rw [hT, hy]; exact cmL_succ _ _
      have HTl : Hid (T.length = k) := by show _ = _; rw [hT]; exact cmL_len _ _
      rw [← hT] at HO
      rw [← hy] at q0 KF
      obtain ⟨P, hP⟩ : ∃ P, P = itB y := ⟨_, rfl⟩
      rw [← hP] at KF HTT
      clear hy hT hP
      go_wp2_with fail
      refine KF.out.mono ?_
      rintro e w1 ⟨rfl, hb1⟩
      have HB1 : Hid (Below w.heap.size w w1) := HB.out.trans (hb1.mono HB.out.size)
      have hz1 := HB1.out.size
      have HX : Hid (Own (w1.alloc (Obj.cells #[.string P] 9)) w.heap.size w1.heap.size 9 1 (some ⟨g, 0, none⟩) k c' (stL (T ++ [P]))) := ((((HO.out.keepB hb1 (Nat.le_refl _)).mono (Nat.le_refl _) hb1.size)).alloc _).congr (fun j hj => (stL_left (by rw [HTl.out]; omega)).symm)
      have HXn : Hid (∀ i, i < 1 → (#[Value.string P] : Array Value)[i]? = some (stL (T ++ [P]) (k * 1 + i))) := by rw [← HTl.out]; exact stL_news
      clear hb1 HO HB KF q0
      go_wp2_with (first | (at_builtin; (refine wpList_push (w1.alloc (Obj.cells #[.string P] 9)) rfl _ _ _ rfl 9 _ 1 16 Tryd.underlying49 info_string rfl (by omega) w.heap.size _ (some ⟨g, 0, none⟩) k c' (stL (T ++ [P])) rfl HX.out (by simp; omega) w1.heap.size #[.string P] 9 (0, 0) 1 (heap_alloc_new w1 _) rfl rfl HXn.out (by simp [Value.oneCell']) (by omega) (by omega) ?_; intro g3 c3 w3 hp)))
      have HO3 : Hid (Own w3 w.heap.size w3.heap.size 9 1 (some ⟨g3, 0, none⟩) (k + 1) c3 (stL (cmL (fun j => itB (X j)) (k + 1)))) := by rw [HTT.out]; exact hp.own
      have HB3 : Hid (Below w.heap.size w w3) := (HB1.out.alloc hz1 _).trans hp.below
      clear hp HX HXn
      go_roundw
      case rel => exact ⟨k + 1, g3, c3, by omega, by go_num, rfl, HO3, HB3⟩
      case measure => (simp [intOf] <;> omega)
    · have i1 : (n : Int) ≤ (k : Int) := by omega
      obtain rfl : k = n := by omega
      have hl := cmL_len (fun j => itB (X j)) k
      have KL : Hid (Calls Tryd.prog 45 #[.slice (some ⟨g, 0, none⟩) k c'] wr fun e w' => e = .returned (.string (nuB X k)) ∧ Below wr.heap.size wr w') := by
        have hs := cmJ_size (T := fun j => itB (X j)) (M := 21) k (fun j hj => itB_size (HI.out j hj))
        have K := listed_i g c' (cmL (fun j => itB (X j)) k) (cmJ (fun j => itB (X j)) k) wr w.heap.size (by rw [hl]; exact HO.out) (cmJ_join _ k) (by rw [hl]; omega) (by omega)
        rw [hl] at K
        exact K
      clear hl HO
      go_wp2_with fail
      refine KL.out.mono ?_
      rintro e w2 ⟨rfl, hb2⟩
      have HB2 : Hid (Below w.heap.size w w2) := HB.out.trans (hb2.mono HB.out.size)
      clear hb2
      go_wp2
      go_ret
      exact ⟨rfl, HB2.out⟩

set_option maxRecDepth 100000 in
set_option maxHeartbeats 3200000 in
theorem digits_i (A : Option Addr) (n c : Nat) (X : Nat → Int) (w : World) (h : Rd w w.heap.size A n c X) (hI : ∀ j, j < n → I64 (X j)) (hn : n ≤ 1048576) (ht : Tb w) :
    Calls Tryd.prog 61 #[.slice A n c] w fun e w' => e = .returned (.string (dgJ X n)) ∧ Below w.heap.size w w' := by
  have HL : Hid (∀ z : World, Below w.heap.size w z → Rd z z.heap.size A n c X) := fun z hz => h.keep hz hz.size
  have HI := Lib.hid hI
  have HT := Lib.hid ht
  clear h hI ht
  go_enter Tryd.func61, Tryd.ntmps61
  go_wp2
  go_loopw [3, 8] (fun s i wr => ∃ (k : Nat) (S : ByteArray), k ≤ n ∧ i = .int .i64 k ∧ s = .string S ∧ S.size ≤ 21 * k ∧ Hid (S = dgJ X k) ∧ Hid (Below w.heap.size w wr)) (fun _ i _ => n - (intOf i).toNat)
  case atStart => exact ⟨0, _, Nat.zero_le _, rfl, rfl, Nat.zero_le _, rfl, Below.refl _ _⟩
  case round =>
    obtain ⟨k, S, hk, rfl, rfl, hS, HS, HB⟩ := hrel
    by_cases hlt : k < n
    · have i1 : (k : Int) < (n : Int) := by omega
      obtain ⟨b, o, rfl, hb, hc⟩ := (HL.out wr HB.out).2 (by omega)
      have q0 := hc k hlt
      have KF := Lib.hid (FormatInt_ia (X k) (HI.out k hlt) wr (HT.out.keep HB.out))
      have hP := itB_size (HI.out k hlt)
      have HJ : Hid (dgJ X (k + 1) = S ++ itB (X k)) := by show _ = _; rw [HS.out]; rfl
      clear hc HS
      obtain ⟨y, hy⟩ : ∃ y, y = X k := ⟨_, rfl⟩
      rw [← hy] at q0 KF hP HJ
      obtain ⟨P, hPP⟩ : ∃ P, P = itB y := ⟨_, rfl⟩
      rw [← hPP] at KF hP HJ
      clear hy hPP
      have h7 : ¬ 9223372036854775807 < S.size + P.size := by omega
      have Hsz : Hid ((S ++ P).size ≤ 21 * (k + 1)) := by show _ ≤ _; rw [ByteArray.size_append]; omega
      go_wp2_with fail
      refine KF.out.mono ?_
      rintro e w1 ⟨rfl, hb1⟩
      have HB1 : Hid (Below w.heap.size w w1) := HB.out.trans (hb1.mono HB.out.size)
      clear hb1 HB KF q0
      go_wp2
      go_roundw
      case rel => exact ⟨k + 1, _, by omega, by go_num, rfl, Hsz.out, HJ.out.symm, HB1⟩
      case measure => (simp [intOf] <;> omega)
    · have i1 : (n : Int) ≤ (k : Int) := by omega
      obtain rfl : k = n := by omega
      go_wp2
      go_ret
      exact ⟨by rw [← HS.out]; rfl, HB.out⟩

end Go.Proofs.YtppkokgiojcgbaaDoor
