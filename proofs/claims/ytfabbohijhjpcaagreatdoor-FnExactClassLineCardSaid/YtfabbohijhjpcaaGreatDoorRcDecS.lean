/-
  Several texts in one.
-/
import Derived.Test.YtfabbohijhjpcaaGreatDoorRcFmU
import Derived.Test.YtfabbohijhjpcaaGreatDoorRcGB
import Derived.Test.YtfabbohijhjpcaaGreatDoorRcListZ
/-
-/
namespace Go.Proofs.YtfabbohijhjpcaaGreatDoor
open Go.RowKit
set_option maxRecDepth 100000 in
set_option maxHeartbeats 2000000 in
theorem listed_i (g c : Nat) (L : List ByteArray) (J : ByteArray) (w : World) (lo : Nat) (h : Own w lo w.heap.size 9 1 (some ⟨g, 0, none⟩) L.length c (stL L)) (hJ : Lib.join (L.map (·.data.toList)) [44] = J.data.toList) (hl : L.length ≤ 1048576) (hs : J.size ≤ 140737488355328) :
 Calls Tryz.prog 144 #[.slice (some ⟨g, 0, none⟩) L.length c] w fun e w' => e = .returned (.string (noB J)) ∧ Below w.heap.size w w' := by
 have KJ : Hid (Calls Tryz.prog 62 #[.slice (some ⟨g, 0, none⟩) L.length c, .string ⟨#[44]⟩] w fun e w' => e = .returned (.string J) ∧ Below w.heap.size w w') := by
  have hg : g < w.heap.size := by
   rcases h.at_block with h2 | ⟨g2, h2, _, h3⟩
   ·cases h2
   ·cases h2; exact h3
  have K := join_any g 0 c L ⟨#[44]⟩ w (fun j x hx => by
   obtain ⟨hj, hx2⟩ := List.getElem?_eq_some_iff.1 hx
   obtain ⟨g2, e2, _, _, _, hc, _⟩ := h.at_ (by omega)
   cases e2
   rw [Nat.zero_add, hc j (by omega)]
   unfold stL
   simp [List.getD, hx]) hg (by omega) h.le (by
    show (Lib.join (L.map (·.data.toList)) [44]).length ≤ _
    rw [hJ]
    have : J.data.toList.length = J.size := by simp
    omega)
  refine K.mono fun e w' ⟨he, hb⟩ => ⟨?_, hb⟩
  rw [he]
  show Ending.returned (.string ⟨(Lib.join (L.map (·.data.toList)) [44]).toArray⟩) = _
  rw [hJ]
 clear h hJ hs
 have hl0 : (0 : Int) ≤ (L.length : Int) := by omega
 by_cases hn : J.toList = []
 ·have HJ := Lib.hid (noB_yes hn)
  have hb : J.toList.isEmpty = true := by rw [hn]; rfl
  clear hn
  go_enter Tryz.func144, Tryz.ntmps144
  go_wp2_with fail
  refine KJ.out.mono ?_
  rintro e w1 ⟨rfl, hb1⟩
  have HB1 := Lib.hid hb1
  clear hb1
  go_wp2
  go_ret
  exact ⟨by rw [HJ.out]; rfl, HB1.out⟩
 ·have HJ := Lib.hid (noB_no hn)
  have hb : J.toList.isEmpty = false := by rw [List.isEmpty_eq_false_iff]; exact hn
  clear hn
  go_enter Tryz.func144, Tryz.ntmps144
  go_wp2_with fail
  refine KJ.out.mono ?_
  rintro e w1 ⟨rfl, hb1⟩
  have HB1 := Lib.hid hb1
  clear hb1
  go_wp2
  go_ret
  exact ⟨by rw [HJ.out]; rfl, HB1.out⟩
set_option maxRecDepth 100000 in
set_option maxHeartbeats 3200000 in
theorem numbersText_i (A : Option Addr) (n c : Nat) (X : Nat → Int) (w : World) (h : Rd w w.heap.size A n c X) (hI : ∀ j, j < n → I64 (X j)) (hn : n ≤ 1048576) (ht : Tb w) :
 Calls Tryz.prog 81 #[.slice A n c] w fun e w' => e = .returned (.string (nuB X n)) ∧ Below w.heap.size w w' := by
 have HL : Hid (∀ z : World, Below w.heap.size w z → Rd z z.heap.size A n c X) := fun z hz => h.keep hz hz.size
 have HI := Lib.hid hI
 have HT := Lib.hid ht
 clear h hI ht
 go_enter Tryz.func81, Tryz.ntmps81
 go_wp2
 go_loopw [3, 9] (fun l i wr => ∃ (k g c' : Nat), k ≤ n ∧ i = .int .i64 k ∧ l = .slice (some ⟨g, 0, none⟩) k c' ∧ Hid (Own wr w.heap.size wr.heap.size 9 1 (some ⟨g, 0, none⟩) k c' (stL (cmL (fun j => itB (X j)) k))) ∧ Hid (Below w.heap.size w wr)) (fun _ i _ => n - (intOf i).toNat)
 case atStart => exact ⟨0, w.heap.size, 0, Nat.zero_le _, rfl, rfl, stL_own0 w, (Below.refl _ _).alloc (Nat.le_refl _) _⟩
 case round =>
  obtain ⟨k, g, c', hk, rfl, rfl, HO, HB⟩ := hrel
  by_cases hlt : k < n
  ·have i1 : (k : Int) < (n : Int) := by omega
   obtain ⟨b, o, rfl, hb, hc⟩ := (HL.out wr HB.out).2 (by omega)
   have q0 := hc k hlt
   have KF := Lib.hid (FormatInt_ia (X k) (HI.out k hlt) wr (HT.out.keep HB.out))
   clear hc
   obtain ⟨y, hy⟩ : ∃ y, y = X k := ⟨_, rfl⟩
   obtain ⟨T, hT⟩ : ∃ T, T = cmL (fun j => itB (X j)) k := ⟨_, rfl⟩
   have HTT : Hid (cmL (fun j => itB (X j)) (k + 1) = T ++ [itB y]) := by rw [hT, hy]; exact cmL_succ _ _
   have HTl : Hid (T.length = k) := by show _ = _; rw [hT]; exact cmL_len _ _
   rw [← hT] at HO
   rw [← hy] at q0 KF
   obtain ⟨P, hP⟩ : ∃ P, P = itB y := ⟨_, rfl⟩
   rw [← hP] at KF HTT
   clear hy hT hP
   go_wp2_with fail
   refine KF.out.mono ?_
   rintro e w1 ⟨rfl, hb1⟩
   have HB1 : Hid (Below w.heap.size w w1) := HB.out.trans (hb1.mono HB.out.size)
   have hz1 := HB1.out.size
   have HX : Hid (Own (w1.alloc (Obj.cells #[.string P] 9)) w.heap.size w1.heap.size 9 1 (some ⟨g, 0, none⟩) k c' (stL (T ++ [P]))) := ((((HO.out.keepB hb1 (Nat.le_refl _)).mono (Nat.le_refl _) hb1.size)).alloc _).congr (fun j hj => (stL_left (by rw [HTl.out]; omega)).symm)
   have HXn : Hid (∀ i, i < 1 → (#[Value.string P] : Array Value)[i]? = some (stL (T ++ [P]) (k * 1 + i))) := by rw [← HTl.out]; exact stL_news
   clear hb1 HO HB KF q0
   go_wp2_with (first | (at_builtin; (refine wpList_push (w1.alloc (Obj.cells #[.string P] 9)) rfl _ _ _ rfl 9 _ 1 16 Tryz.underlying72 info_string rfl (by omega) w.heap.size _ (some ⟨g, 0, none⟩) k c' (stL (T ++ [P])) rfl HX.out (by simp; omega) w1.heap.size #[.string P] 9 (0, 0) 1 (heap_alloc_new w1 _) rfl rfl HXn.out (by simp [Value.oneCell']) (by omega) (by omega) ?_; intro g3 c3 w3 hp)))
   have HO3 : Hid (Own w3 w.heap.size w3.heap.size 9 1 (some ⟨g3, 0, none⟩) (k + 1) c3 (stL (cmL (fun j => itB (X j)) (k + 1)))) := by rw [HTT.out]; exact hp.own
   have HB3 : Hid (Below w.heap.size w w3) := (HB1.out.alloc hz1 _).trans hp.below
   clear hp HX HXn
   go_roundw
   case rel => exact ⟨k + 1, g3, c3, by omega, by go_num, rfl, HO3, HB3⟩
   case measure => (simp [intOf] <;> omega)
  ·have i1 : (n : Int) ≤ (k : Int) := by omega
   obtain rfl : k = n := by omega
   have hl := cmL_len (fun j => itB (X j)) k
   have KL : Hid (Calls Tryz.prog 144 #[.slice (some ⟨g, 0, none⟩) k c'] wr fun e w' => e = .returned (.string (nuB X k)) ∧ Below wr.heap.size wr w') := by
    have hs := cmJ_size (T := fun j => itB (X j)) (M := 21) k (fun j hj => itB_size (HI.out j hj))
    have K := listed_i g c' (cmL (fun j => itB (X j)) k) (cmJ (fun j => itB (X j)) k) wr w.heap.size (by rw [hl]; exact HO.out) (cmJ_join _ k) (by rw [hl]; omega) (by omega)
    rw [hl] at K
    exact K
   clear hl HO
   go_wp2_with fail
   refine KL.out.mono ?_
   rintro e w2 ⟨rfl, hb2⟩
   have HB2 : Hid (Below w.heap.size w w2) := HB.out.trans (hb2.mono HB.out.size)
   clear hb2
   go_wp2
   go_ret
   exact ⟨rfl, HB2.out⟩
end Go.Proofs.YtfabbohijhjpcaaGreatDoor

/-
-/
namespace Go.Proofs.YtfabbohijhjpcaaGreatDoor
open Go.RowKit
theorem own_texts (w : World) (L : List ByteArray) (n : Nat) (hL : L.length = n) (hn : n ≤ 1048576) : Own (w.alloc (Obj.cells (L.map Value.string).toArray 9)) w.heap.size (w.alloc (Obj.cells (L.map Value.string).toArray 9)).heap.size 9 1 (some ⟨w.heap.size, 0, none⟩) n n (stL L) :=
 .inr ⟨w.heap.size, _, rfl, Nat.le_refl _, by simp, heap_alloc_new w _, Nat.le_refl _, by unfold maxLen; omega, by simp [hL], fun j hj => by
  have : j < L.length := by omega
  unfold stL
  simp [List.getD, this]⟩
theorem join_own (g n c : Nat) (L : List ByteArray) (J sep : ByteArray) (w : World) (lo : Nat) (hL : L.length = n) (h : Own w lo w.heap.size 9 1 (some ⟨g, 0, none⟩) n c (stL L)) (hJ : Lib.join (L.map (·.data.toList)) sep.data.toList = J.data.toList) (hl : n ≤ 1048576) (hs : J.size ≤ 140737488355328) :
 Calls Tryz.prog 62 #[.slice (some ⟨g, 0, none⟩) n c, .string sep] w fun e w' => e = .returned (.string J) ∧ Below w.heap.size w w' := by
 subst hL
 have hg : g < w.heap.size := by
  rcases h.at_block with h2 | ⟨g2, h2, _, h3⟩
  ·cases h2
  ·cases h2; exact h3
 have K := join_any g 0 c L sep w (fun j x hx => by
  obtain ⟨hj, hx2⟩ := List.getElem?_eq_some_iff.1 hx
  obtain ⟨g2, e2, _, _, _, hc, _⟩ := h.at_ (by omega)
  cases e2
  rw [Nat.zero_add, hc j (by omega)]
  unfold stL
  simp [List.getD, hx]) hg (by omega) h.le (by
   show (Lib.join (L.map (·.data.toList)) sep.data.toList).length ≤ _
   rw [hJ]
   have : J.data.toList.length = J.size := by simp
   omega)
 refine K.mono fun e w' ⟨he, hb⟩ => ⟨?_, hb⟩
 rw [he]
 show Ending.returned (.string ⟨(Lib.join (L.map (·.data.toList)) sep.data.toList).toArray⟩) = _
 rw [hJ]
end Go.Proofs.YtfabbohijhjpcaaGreatDoor

/-
-/
namespace Go.Proofs.YtfabbohijhjpcaaGreatDoor
open Go.RowKit
def spJ (L : List ByteArray) : ByteArray := ⟨(Lib.join (L.map (·.data.toList)) [32]).toArray⟩
theorem spJ_join (L : List ByteArray) : Lib.join (L.map (·.data.toList)) [32] = (spJ L).data.toList := by unfold spJ; simp
theorem spJ_one (x : ByteArray) : spJ [x] = x := Go.WideShapes.bytes_inj (by rw [← spJ_join]; exact Lib.join_one _ _)
theorem spJ_snoc {L : List ByteArray} (h : L ≠ []) (x : ByteArray) : spJ (L ++ [x]) = spJ L ++ ⟨#[32]⟩ ++ x :=
 Go.WideShapes.bytes_inj (by
  rw [← spJ_join, List.map_append]
  show Lib.join (_ ++ [x.data.toList]) [32] = _
  rw [join_snoc _ _ _ (fun e => h (List.map_eq_nil_iff.1 e)), dataApp, dataApp, ← spJ_join, List.append_assoc])
section
variable {lo g c : Nat} {w w' : World} {L : List ByteArray}
end
end Go.Proofs.YtfabbohijhjpcaaGreatDoor

/-
-/
namespace Go.Proofs.YtfabbohijhjpcaaGreatDoor
open Go.RowKit
def dgs (u : Nat) : List UInt8 := if u = 0 then [] else Lib.decDigits u
theorem dgs_zero : dgs 0 = [] := if_pos rfl
theorem dgs_step {u : Nat} (h : u ≠ 0) : dgs u = dgs (u / 10) ++ [UInt8.ofNat (48 + u % 10)] := by
 unfold dgs
 rw [if_neg h]
 by_cases h1 : u < 10
 ·rw [if_pos (by omega), Lib.decDigits_one h1, Nat.mod_eq_of_lt h1]; rfl
 ·rw [if_neg (by omega), Lib.decDigits, dif_neg h1]
theorem dgs_len {u : Nat} (h : u ≤ 9223372036854775808) : (dgs u).length ≤ 20 := by
 unfold dgs
 split
 ·exact Nat.zero_le _
 ·rw [Lib.decDigits_length]; exact Lib.nDigits_le20 u (by omega)
set_option maxRecDepth 100000 in
set_option maxHeartbeats 2000000 in
theorem FormatInt_sa (n : Int) (hn : I64 n) (w : World) : Calls Tryz.prog 69 #[.int .i64 n] w fun e w' => e = .returned (.string (itB n)) ∧ Below w.heap.size w w' := by
 have cv := conv1
 by_cases h0 : n = 0
 ·subst h0
  have HE : Hid (itB 0 = ⟨#[48]⟩) := by show _ = _; exact (itB_dg (d := 0) (by omega)).trans rfl
  go_enter Tryz.func69, Tryz.ntmps69
  go_wp2
  go_ret
  exact ⟨by rw [HE.out]; rfl, Below.refl _ _⟩
 obtain ⟨N, hN⟩ : ∃ N, N = dgs n.natAbs := ⟨_, rfl⟩
 have HN := Lib.hid hN
 have hNl : N.length ≤ 20 := by rw [hN]; exact dgs_len (by have := hn.1; have := hn.2; omega)
 clear hN
 obtain ⟨n1, n2⟩ := hn
 by_cases hs : n < 0
 ·have HE : Hid (itB n = ⟨#[45]⟩ ++ ⟨N.toArray⟩) := by
   show _ = _
   unfold itB Lib.itoa
   rw [if_pos hs, HN.out, dgs, if_neg (by omega)]
   rfl
  go_enter Tryz.func69, Tryz.ntmps69
  go_wp2
  go_loopw [0, 3] (fun i s wr => ∃ (m : Nat) (T : ByteArray), i = .int .i64 (-(m : Int)) ∧ s = .string T ∧ m ≤ 9223372036854775808 ∧ T.size ≤ 20 ∧ Hid (dgs m ++ T.data.toList = N) ∧ Hid (From w wr)) (fun i _ _ => (intOf i).natAbs)
  case atStart => exact ⟨n.natAbs, _, by rw [show -((n.natAbs : Nat) : Int) = n by omega], rfl, by omega, Nat.zero_le _, by show _ = _; rw [HN.out]; exact List.append_nil _, From.refl _⟩
  case round =>
   obtain ⟨m, T, rfl, rfl, hm, hT, HD, HB⟩ := hrel
   by_cases hz : m = 0
   ·subst hz
    have HT : Hid (T.data.toList = N) := by show _ = _; rw [← HD.out, dgs_zero]; rfl
    clear HD hm
    have hTT : Hid (T = ⟨N.toArray⟩) := by show _ = _; rw [← HT.out]
    clear HT
    go_wp2
    go_ret
    exact ⟨by rw [HE.out, ← hTT.out]; rfl, HB.out.below⟩
   ·have HS : Hid (dgs (m / 10) ++ (UInt8.ofNat (48 + m % 10) :: T.data.toList) = N) := by show _ = _; rw [← HD.out, dgs_step hz]; simp
    have hl : T.size + 1 ≤ 20 := by
     have := congrArg List.length HS.out
     have h2 : T.data.toList.length = T.size := by simp
     rw [List.length_append, List.length_cons] at this
     omega
    clear HD
    go_wp2
    all_goals
     refine ⟨⟨m / 10, _, congrArg (fun z => Value.int .i64 z) (by omega), rfl, by omega, by rw [ByteArray.size_append]; show 1 + T.size ≤ _; omega, ?_, HB.out.alloc_ _⟩, ?_⟩
     ·show _ = N
      rw [← HS.out, dataApp]
      refine congrArg (dgs (m / 10) ++ ·) ?_
      first
       | (show [UInt8.ofNat ((48 + -((m : Int) % 10)).toNat)] ++ T.data.toList = _
          rw [show (48 + -((m : Int) % 10)).toNat = 48 + m % 10 by omega]; rfl)
       | (show [UInt8.ofNat ((48 + (m : Int) % 10).toNat)] ++ T.data.toList = _
          rw [show (48 + (m : Int) % 10).toNat = 48 + m % 10 by omega]; rfl)
       | (rw [UInt8.ofNat_add]; rfl)
     ·show (-((m : Int) / 10)).natAbs < (-(m : Int)).natAbs
      omega
 ·have HE : Hid (itB n = ⟨N.toArray⟩) := by
   show _ = _
   unfold itB Lib.itoa
   rw [if_neg hs, HN.out, dgs, if_neg (by omega)]
   rw [show n.natAbs = n.toNat by omega]
  go_enter Tryz.func69, Tryz.ntmps69
  go_wp2
  go_loopw [0, 3] (fun i s wr => ∃ (m : Nat) (T : ByteArray), i = .int .i64 ((m : Int)) ∧ s = .string T ∧ m ≤ 9223372036854775807 ∧ T.size ≤ 20 ∧ Hid (dgs m ++ T.data.toList = N) ∧ Hid (From w wr)) (fun i _ _ => (intOf i).natAbs)
  case atStart => exact ⟨n.natAbs, _, by rw [show ((n.natAbs : Nat) : Int) = n by omega], rfl, by omega, Nat.zero_le _, by show _ = _; rw [HN.out]; exact List.append_nil _, From.refl _⟩
  case round =>
   obtain ⟨m, T, rfl, rfl, hm, hT, HD, HB⟩ := hrel
   by_cases hz : m = 0
   ·subst hz
    have HT : Hid (T.data.toList = N) := by show _ = _; rw [← HD.out, dgs_zero]; rfl
    clear HD hm
    have hTT : Hid (T = ⟨N.toArray⟩) := by show _ = _; rw [← HT.out]
    clear HT
    go_wp2
    go_ret
    exact ⟨by rw [HE.out, ← hTT.out]; rfl, HB.out.below⟩
   ·have HS : Hid (dgs (m / 10) ++ (UInt8.ofNat (48 + m % 10) :: T.data.toList) = N) := by show _ = _; rw [← HD.out, dgs_step hz]; simp
    have hl : T.size + 1 ≤ 20 := by
     have := congrArg List.length HS.out
     have h2 : T.data.toList.length = T.size := by simp
     rw [List.length_append, List.length_cons] at this
     omega
    clear HD
    go_wp2
    all_goals
     refine ⟨⟨m / 10, _, congrArg (fun z => Value.int .i64 z) (by omega), rfl, by omega, by rw [ByteArray.size_append]; show 1 + T.size ≤ _; omega, ?_, HB.out.alloc_ _⟩, ?_⟩
     ·show _ = N
      rw [← HS.out, dataApp]
      refine congrArg (dgs (m / 10) ++ ·) ?_
      first
       | (show [UInt8.ofNat ((48 + -((m : Int) % 10)).toNat)] ++ T.data.toList = _
          rw [show (48 + -((m : Int) % 10)).toNat = 48 + m % 10 by omega]; rfl)
       | (show [UInt8.ofNat ((48 + (m : Int) % 10).toNat)] ++ T.data.toList = _
          rw [show (48 + (m : Int) % 10).toNat = 48 + m % 10 by omega]; rfl)
       | (rw [UInt8.ofNat_add]; rfl)
     ·show (((m : Int) / 10)).natAbs < ((m : Int)).natAbs
      omega
end Go.Proofs.YtfabbohijhjpcaaGreatDoor
