/-
  Several texts in one.
-/
import Derived.Test.YtfabbohijhjpcaaGreatDoorRcDecS
import Derived.Laws.Closers25b
import Derived.Test.YtfabbohijhjpcaaGreatDoorRcPrnM
import Derived.Test.YtfabbohijhjpcaaGreatDoorRcFmU
import Derived.Test.YtfabbohijhjpcaaGreatDoorRcGC
import Derived.Test.YtfabbohijhjpcaaGreatDoorRcGA
/-
-/
namespace Go.Proofs.YtfabbohijhjpcaaGreatDoor
open Go.RowKit
theorem app_nil (b : ByteArray) : b ++ (⟨#[]⟩ : ByteArray) = b := Go.WideShapes.bytes_inj (by rw [dataApp]; simp)
set_option maxRecDepth 100000 in
set_option maxHeartbeats 3200000 in
theorem l33Numbers_s (A : Option Addr) (n c : Nat) (X : Nat → Int) (w : World) (h : Rd w w.heap.size A n c X) (hI : ∀ j, j < n → I64 (X j)) (hn : n ≤ 1048576) :
 Calls Tryz.prog 73 #[.slice A n c] w fun e w' => e = .returned (.string (nuB X n)) ∧ Below w.heap.size w w' := by
 have HL : Hid (∀ z : World, Below w.heap.size w z → Rd z z.heap.size A n c X) := fun z hz => h.keep hz hz.size
 have HI := Lib.hid hI
 clear h hI
 go_enter Tryz.func73, Tryz.ntmps73
 go_wp2
 go_loopw [3, 4] (fun s i wr => ∃ (k : Nat) (S : ByteArray), k ≤ n ∧ i = .int .i64 k ∧ s = .string S ∧ S.size ≤ 22 * k ∧ Hid (S = cmJ (fun j => itB (X j)) k) ∧ Hid (Below w.heap.size w wr)) (fun _ i _ => n - (intOf i).toNat)
 case atStart => exact ⟨0, _, Nat.zero_le _, rfl, rfl, Nat.zero_le _, rfl, Below.refl _ _⟩
 case round =>
  obtain ⟨k, S, hk, rfl, rfl, hS, HS, HB⟩ := hrel
  by_cases hlt : k < n
  ·have i1 : (k : Int) < (n : Int) := by omega
   obtain ⟨b, o, rfl, hb, hc⟩ := (HL.out wr HB.out).2 (by omega)
   have q0 := hc k hlt
   have KF := Lib.hid (FormatInt_sa (X k) (HI.out k hlt) wr)
   have hP := itB_size (HI.out k hlt)
   have H1 : Hid (k = 0 → cmJ (fun j => itB (X j)) (k + 1) = S ++ itB (X k)) := fun h => by rw [cmJ_one _ h, HS.out]
   have H2 : Hid (k ≠ 0 → cmJ (fun j => itB (X j)) (k + 1) = S ++ ⟨#[44]⟩ ++ itB (X k)) := fun h => by rw [cmJ_more _ h, HS.out]
   clear hc HS
   obtain ⟨y, hy⟩ : ∃ y, y = X k := ⟨_, rfl⟩
   rw [← hy] at q0 KF hP H1 H2
   obtain ⟨P, hPP⟩ : ∃ P, P = itB y := ⟨_, rfl⟩
   rw [← hPP] at KF hP H1 H2
   clear hy hPP
   have hs : S.size ≤ 23068672 := by omega
   by_cases h0 : k = 0
   ·have i3 : (k : Int) ≤ (0 : Int) := by omega
    have HJ := Lib.hid (H1.out h0)
    have h7 : ¬ 9223372036854775807 < S.size + P.size := by omega
    have Hsz : Hid ((S ++ P).size ≤ 22 * (k + 1)) := by show _ ≤ _; rw [ByteArray.size_append]; omega
    clear H1 H2 h0
    go_wp2_with fail
    refine KF.out.mono ?_
    rintro e w1 ⟨rfl, hb1⟩
    have HB1 : Hid (Below w.heap.size w w1) := HB.out.trans (hb1.mono HB.out.size)
    clear hb1 HB KF q0
    go_wp2
    go_roundw
    case rel => exact ⟨k + 1, _, by omega, by go_num, rfl, Hsz.out, HJ.out.symm, HB1⟩
    case measure => (simp [intOf] <;> omega)
   ·have i3 : (0 : Int) < (k : Int) := by omega
    have HJ := Lib.hid (H2.out h0)
    have h7 : ¬ 9223372036854775807 < (S ++ ⟨#[44]⟩).size + P.size := by rw [ByteArray.size_append]; show ¬ _ < S.size + 1 + _; omega
    have Hsz : Hid ((S ++ ⟨#[44]⟩ ++ P).size ≤ 22 * (k + 1)) := by show _ ≤ _; rw [ByteArray.size_append, ByteArray.size_append]; show S.size + 1 + _ ≤ _; omega
    clear H1 H2 h0
    go_wp2_with fail
    refine KF.out.mono ?_
    rintro e w1 ⟨rfl, hb1⟩
    have HB1 : Hid (Below w.heap.size w w1) := HB.out.trans (hb1.mono HB.out.size)
    clear hb1 HB KF q0
    go_wp2
    go_roundw
    case rel => exact ⟨k + 1, _, by omega, by go_num, rfl, Hsz.out, HJ.out.symm, HB1⟩
    case measure => (simp [intOf] <;> omega)
  ·have i1 : (n : Int) ≤ (k : Int) := by omega
   obtain rfl : k = n := by omega
   by_cases he : S.toList = []
   ·have HO : Hid (nuB X k = ⟨#[110, 111, 110, 101]⟩) := by show noB _ = _; rw [← HS.out]; exact noB_yes he
    have hbe : S.toList.isEmpty = true := by rw [he]; rfl
    clear he
    go_wp2
    go_ret
    exact ⟨by rw [HO.out]; rfl, HB.out⟩
   ·have HO : Hid (nuB X k = S) := by show noB _ = _; rw [← HS.out]; exact noB_no he
    have hbe : S.toList.isEmpty = false := by rw [List.isEmpty_eq_false_iff]; exact he
    clear he
    go_wp2
    go_ret
    exact ⟨by rw [HO.out]; rfl, HB.out⟩
end Go.Proofs.YtfabbohijhjpcaaGreatDoor

/-
-/
namespace Go.Proofs.YtfabbohijhjpcaaGreatDoor
open Go.RowKit
def clsB : ByteArray := ⟨#[99, 108, 97, 115, 115, 101, 115]⟩
def clC : ByteArray := ⟨#[43, 99, 111, 109, 112, 97, 114, 97, 98, 105, 108, 105, 116, 121]⟩
def clP : ByteArray := ⟨#[43, 112, 101, 114, 109, 117, 116, 97, 116, 105, 111, 110]⟩
def clH : ByteArray := ⟨#[43, 104, 101, 114, 101, 100, 105, 116, 97, 114, 121]⟩
noncomputable def clW (m : Nat) (x : Nat → Int) (j : Nat) : ByteArray := match obO (m : Int) m x (nm j).toList with
 | some l => ⟨#[45]⟩ ++ nm j ++ ⟨#[40]⟩ ++ nuB (fun i => ((l.getD i 0 : Nat) : Int)) l.length ++ ⟨#[41]⟩
 | none => ⟨#[43]⟩ ++ nm j
noncomputable def clL (m : Nat) (x : Nat → Int) : Nat → List ByteArray
 | 0 => [clsB]
 | k + 1 => clL m x k ++ [clW m x k]
def opW (b : Bool) (t : ByteArray) (L : List ByteArray) : List ByteArray := if b = true then L ++ [t] else L
noncomputable def clF (m : Nat) (x : Nat → Int) : List ByteArray := opW (plO (rw_ x) m).isSome clH (opW (pmO (rw_ x) m).isSome clP (opW (otO (rw_ x) m).isSome clC (clL m x 9)))
noncomputable def cllB (s : Int) (m : Nat) (x : Nat → Int) : ByteArray := if okB s m x = true then spJ (clF m x) else ⟨#[]⟩
section
variable {m k j : Nat} {x : Nat → Int} {l : List Nat} {b : Bool} {t : ByteArray} {L : List ByteArray}
theorem clW_yes (h : obO (m : Int) m x (nm j).toList = some l) : clW m x j = ⟨#[45]⟩ ++ nm j ++ ⟨#[40]⟩ ++ nuB (fun i => ((l.getD i 0 : Nat) : Int)) l.length ++ ⟨#[41]⟩ := by unfold clW; rw [h]
theorem clW_no (h : obO (m : Int) m x (nm j).toList = none) : clW m x j = ⟨#[43]⟩ ++ nm j := by unfold clW; rw [h]
theorem clL_succ : clL m x (k + 1) = clL m x k ++ [clW m x k] := rfl
theorem clL_len : ∀ k, (clL m x k).length = k + 1
 | 0 => rfl
 | k + 1 => by rw [clL_succ, List.length_append, clL_len k]; rfl
theorem clL_ne : clL m x k ≠ [] := by
 intro h
 have := clL_len (m := m) (x := x) k
 rw [h] at this
 simp at this
theorem clJ_succ : spJ (clL m x (k + 1)) = spJ (clL m x k) ++ ⟨#[32]⟩ ++ clW m x k := by rw [clL_succ, spJ_snoc clL_ne]
theorem opW_ne (h : L ≠ []) : opW b t L ≠ [] := by
 unfold opW
 split
 ·simp
 ·exact h
theorem opW_yes : opW true t L = L ++ [t] := rfl
theorem opW_no : opW false t L = L := rfl
theorem opJ (h : L ≠ []) : spJ (opW b t L) = spJ L ++ (if b = true then ⟨#[32]⟩ ++ t else ⟨#[]⟩) := by
 cases b
 ·rw [opW_no, if_neg (by simp)]; exact (app_nil _).symm
 ·rw [opW_yes, spJ_snoc h, if_pos rfl, ByteArray.append_assoc]
theorem nm_size (j : Nat) : (nm j).size ≤ 9 := by
 by_cases h : j < 9
 ·have hc : j = 0 ∨ j = 1 ∨ j = 2 ∨ j = 3 ∨ j = 4 ∨ j = 5 ∨ j = 6 ∨ j = 7 ∨ j = 8 := by omega
  rcases hc with rfl | rfl | rfl | rfl | rfl | rfl | rfl | rfl | rfl <;> decide
 ·unfold nm
  simp only [List.getD, List.getElem?_eq_none (show nmL.length ≤ j by rw [nmL_len]; omega), Option.getD_none]
  decide
theorem ob_I64 (hm : m ≤ 7) (h : obO (m : Int) m x (nm j).toList = some l) : l.length ≤ 7 ∧ ∀ i, i < l.length → I64 ((l.getD i 0 : Nat) : Int) := by
 have h1 := obO_len (m : Int) m x (nm j).toList
 rw [h] at h1
 refine ⟨h1, fun i hi => ?_⟩
 have h2 := obO_mem l h (l.getD i 0) (by
  have : l.getD i 0 = l[i] := by simp [List.getD, hi]
  rw [this]; exact List.getElem_mem hi)
 constructor <;> omega
theorem clW_size (hm : m ≤ 7) : (clW m x j).size ≤ 170 := by
 have h1 := nm_size j
 cases h : obO (m : Int) m x (nm j).toList with
 | none =>
   rw [clW_no h, ByteArray.size_append]
   show 1 + _ ≤ _
   omega
 | some l =>
   obtain ⟨h2, h3⟩ := ob_I64 hm h
   have h4 := nuB_size (X := fun i => ((l.getD i 0 : Nat) : Int)) (n := l.length) h3
   rw [clW_yes h, ByteArray.size_append, ByteArray.size_append, ByteArray.size_append, ByteArray.size_append]
   show 1 + _ + 1 + _ + 1 ≤ _
   omega
theorem clJ_size (hm : m ≤ 7) : ∀ k, (spJ (clL m x k)).size ≤ 7 + 171 * k
 | 0 => by show (spJ [clsB]).size ≤ _; rw [spJ_one]; decide
 | k + 1 => by
   have ih := clJ_size hm k
   have h1 := clW_size (x := x) (j := k) hm
   rw [clJ_succ, ByteArray.size_append, ByteArray.size_append]
   show _ + 1 + _ ≤ _
   omega
theorem clF_join : spJ (clF m x) = spJ (clL m x 9) ++ (if (otO (rw_ x) m).isSome = true then ⟨#[32]⟩ ++ clC else ⟨#[]⟩) ++ (if (pmO (rw_ x) m).isSome = true then ⟨#[32]⟩ ++ clP else ⟨#[]⟩) ++ (if (plO (rw_ x) m).isSome = true then ⟨#[32]⟩ ++ clH else ⟨#[]⟩) := by
 unfold clF
 rw [opJ (opW_ne (opW_ne clL_ne)), opJ (opW_ne clL_ne), opJ clL_ne]
theorem clF_size (hm : m ≤ 7) : (spJ (clF m x)).size ≤ 1600 := by
 have h1 := clJ_size (x := x) hm 9
 have hs : ∀ (b : Bool) (t : ByteArray), t.size ≤ 14 → (if b = true then (⟨#[32]⟩ : ByteArray) ++ t else ⟨#[]⟩).size ≤ 15 := by
  intro b t ht
  cases b
  ·rw [if_neg (by simp)]; exact Nat.zero_le _
  ·rw [if_pos rfl, ByteArray.size_append]; show 1 + _ ≤ _; omega
 have h2 := hs (otO (rw_ x) m).isSome clC (by decide)
 have h3 := hs (pmO (rw_ x) m).isSome clP (by decide)
 have h4 := hs (plO (rw_ x) m).isSome clH (by decide)
 rw [clF_join, ByteArray.size_append, ByteArray.size_append, ByteArray.size_append]
 omega
theorem cllB_no {s : Int} (h : okB s m x = false) : cllB s m x = ⟨#[]⟩ := by unfold cllB; rw [h]; rfl
theorem cllB_yes {s : Int} (h : okB s m x = true) : cllB s m x = spJ (clF m x) := by unfold cllB; rw [if_pos h]
end
structure WB (w : World) (g c : Nat) (L : List ByteArray) : Prop where
 own : Own w g (g + 1) 9 1 (some ⟨g, 0, none⟩) L.length c (stL L)
structure NB (w : World) (g c : Nat) : Prop where
 own : Own w g (g + 1) 9 1 (some ⟨g, 0, none⟩) 9 c (strs nm)
section
variable {w w' : World} {g k c : Nat} {L : List ByteArray}
theorem WB.lt (h : WB w g c L) : g < w.heap.size := by
 rcases h.own with ⟨e, _⟩ | ⟨g2, cur, e, _, _, k4, _⟩
 ·cases e
 ·cases e
  exact (Array.getElem?_eq_some_iff.1 k4).1
theorem WB.keep (h : WB w g c L) (hb : Below w.heap.size w w') : WB w' g c L := ⟨h.own.keepB hb h.lt⟩
theorem NB.lt (h : NB w g c) : g < w.heap.size := by
 obtain ⟨g2, e, _, _, h2, _⟩ := h.own.at_ (by omega)
 cases e
 exact h2
theorem NB.keep (h : NB w g c) (hb : Below w.heap.size w w') : NB w' g c := ⟨h.own.keepB hb h.lt⟩
theorem NB.keepF (h : NB w g c) (hf : Fr k (k + 1) w w') (hk : g ≠ k) : NB w' g c := ⟨h.own.keep hf (by omega)⟩
theorem NB.cell (h : NB w g c) {j : Nat} (hj : j < 9) : w.cell? ⟨g, j, none⟩ = some (.string (nm j)) := by
 obtain ⟨g2, e, _, _, _, h2, _⟩ := h.own.at_ (by omega)
 cases e
 exact h2 j (by omega)
theorem WB.join (h : WB w g c L) (hl : L.length ≤ 1048576) (hs : (spJ L).size ≤ 140737488355328) :
 Calls Tryz.prog 62 #[.slice (some ⟨g, 0, none⟩) L.length c, .string ⟨#[32]⟩] w fun e w' => e = .returned (.string (spJ L)) ∧ Below w.heap.size w w' :=
 join_own g L.length c L (spJ L) ⟨#[32]⟩ w 0 rfl (h.own.mono (Nat.zero_le _) h.lt) (spJ_join L) hl hs
end
end Go.Proofs.YtfabbohijhjpcaaGreatDoor

/-
-/
namespace Go.Proofs.YtfabbohijhjpcaaGreatDoor
theorem sub_pow_bit {a u : Nat} (h : a.testBit u = true) : a - 2 ^ u = a ^^^ 2 ^ u ∧ 2 ^ u ≤ a := by
 have h1 : (a ^^^ 2 ^ u).testBit u = false := by rw [Nat.testBit_xor, h, Nat.testBit_two_pow_self]; rfl
 have h2 := add_pow_bit h1
 have h3 : (a ^^^ 2 ^ u) ^^^ 2 ^ u = a := by rw [Nat.xor_assoc, Nat.xor_self, Nat.xor_zero]
 rw [h3] at h2
 generalize 2 ^ u = p at *
 omega
noncomputable def reB (sz : Int) (m : Nat) (x : Nat → Int) (v u : Int) : Bool := okB sz m x && decide (0 ≤ v ∧ v < sz ∧ 0 ≤ u ∧ u < sz ∧ v ≠ u) && ((x v.toNat).toNat.testBit u.toNat)
noncomputable def reX (sz : Int) (m : Nat) (x : Nat → Int) (v u : Int) : Nat → Int := if reB sz m x v u = true then fun j => ((addN (fun i => (x i).toNat) v.toNat u.toNat j : Nat) : Int) else x
theorem reX_no {sz : Int} {m : Nat} {x : Nat → Int} {v u : Int} (h : reB sz m x v u = false) : reX sz m x v u = x := by unfold reX; rw [h]; rfl
theorem reB_parts {sz : Int} {m : Nat} {x : Nat → Int} {v u : Int} (h : reB sz m x v u = true) : okB sz m x = true ∧ (0 ≤ v ∧ v < sz ∧ 0 ≤ u ∧ u < sz ∧ v ≠ u) ∧ (x v.toNat).toNat.testBit u.toNat = true := by
 unfold reB at h
 simp only [Bool.and_eq_true, decide_eq_true_eq] at h
 exact ⟨h.1.1, h.1.2, h.2⟩
theorem reB_val {m : Nat} {x : Nat → Int} {n k : Nat} (h : okB m m x = true) (hn : n < m) (hk : k < m) : reB m m x n k = (x n).toNat.testBit k := by
 obtain ⟨r, _, vg, hx⟩ := okB_ok' h
 unfold reB
 rw [h, Int.toNat_natCast, Int.toNat_natCast]
 by_cases hne : n = k
 ·subst hne
  rw [hx n hn, Int.toNat_natCast, vg.irr n hn]; simp
 ·rw [decide_eq_true (⟨by omega, by omega, by omega, by omega, by omega⟩ : 0 ≤ (n : Int) ∧ (n : Int) < m ∧ 0 ≤ (k : Int) ∧ (k : Int) < m ∧ (n : Int) ≠ k)]
  simp
section
variable {sz : Int} {m : Nat} {x y : Nat → Int} {n k r : Nat} {a : Nat → Bool} {v u : Nat → Int}
end
end Go.Proofs.YtfabbohijhjpcaaGreatDoor

/-
-/
namespace Go.Proofs.YtfabbohijhjpcaaGreatDoor
open Go.RowKit
structure QB (w : World) (q : Nat) (v : Value) : Prop where
 c : w.cell? ⟨q, 0, none⟩ = some v
 f : w.frozen? ⟨q, 0, none⟩ = false
section
variable {w w' : World} {q k : Nat} {v u : Value}
theorem QB.lt (h : QB w q v) : q < w.heap.size := World.block_lt_of_cell? _ _ h.c
theorem QB.keep (h : QB w q v) (hb : Below w.heap.size w w') : QB w' q v := ⟨up hb h.c h.lt, upf hb h.f h.lt⟩
theorem QB.keepF (h : QB w q v) (hf : Fr k (k + 1) w w') (hq : q ≠ k) : QB w' q v := ⟨frC_ hf h.c h.lt (by omega), frZ_ hf h.f h.lt (by omega)⟩
theorem QB.drew (h : QB w q v) : QB w.drew q v := ⟨h.c, h.f⟩
end
structure OSt (w0 w : World) (m go gl cl q4 q5 qz : Nat) (rr tt : Nat → Nat) : Prop where
 B : From w0 w
 L : GC w q5 m (some ⟨gl, 0, none⟩) m cl
 R : RW w gl m cl rr
 T : RW w go m m tt
 O : QB w q4 (.slice (some ⟨go, 0, none⟩) m m)
 Z : QB w qz (.slice none 0 0)
 d : w0.heap.size ≤ go ∧ w0.heap.size ≤ gl ∧ w0.heap.size ≤ q4 ∧ w0.heap.size ≤ q5 ∧ w0.heap.size ≤ qz ∧ gl ≠ go ∧ gl ≠ q4 ∧ gl ≠ q5 ∧ gl ≠ qz ∧ go ≠ q4 ∧ go ≠ q5 ∧ go ≠ qz ∧ q4 ≠ q5 ∧ q4 ≠ qz ∧ q5 ≠ qz
def rowN (w : World) (q j : Nat) : Nat :=
 match w.cell? ⟨q, 1, none⟩ with
 | some (.slice (some a) _ _) => (match w.cell? ⟨a.block, a.off + j, none⟩ with | some (.int _ n) => n.toNat | _ => 0)
 | _ => 0
def mE (m q : Nat) (w : World) : Nat := (edN (rowN w q) m).length
section
variable {w0 w w' : World} {m go gl cl q4 q5 qz : Nat} {rr tt y : Nat → Nat}
theorem OSt.keep (h : OSt w0 w m go gl cl q4 q5 qz rr tt) (hb : Below w.heap.size w w') : OSt w0 w' m go gl cl q4 q5 qz rr tt :=
 ⟨h.B.keep hb, h.L.keep hb, h.R.keep hb, h.T.keep hb, h.O.keep hb, h.Z.keep hb, h.d⟩
theorem OSt.drew (h : OSt w0 w m go gl cl q4 q5 qz rr tt) : OSt w0 w.drew m go gl cl q4 q5 qz rr tt :=
 ⟨h.B.drew, h.L.drew, h.R.drew, h.T.drew, h.O.drew, h.Z.drew, h.d⟩
theorem OSt.setT {j v : Nat} (h : OSt w0 w m go gl cl q4 q5 qz rr tt) (hx : ∀ i, y i = if i = j then v else tt i) : OSt w0 (w.setCell ⟨go, j, none⟩ (.int .i64 (v : Nat))) m go gl cl q4 q5 qz rr y := by
 have hd := h.d
 have F : Fr go (go + 1) w (w.setCell ⟨go, j, none⟩ (.int .i64 (v : Nat))) := fr_set w
 exact ⟨⟨bl_set h.B.below (by omega)⟩, h.L.keepF F (by omega), h.R.keepF F (by omega), h.T.set hx, h.O.keepF F (by omega), h.Z.keepF F (by omega), hd⟩
theorem OSt.flip (h : OSt w0 w m go gl cl q4 q5 qz rr tt) (hR : RW w' gl m cl y) (F : Fr gl (gl + 1) w w') : OSt w0 w' m go gl cl q4 q5 qz y tt := by
 have hd := h.d
 exact ⟨⟨h.B.below.trans (F.below (by omega) h.B.below.size)⟩, h.L.keepF F (by omega), hR, h.T.keepF F (by omega), h.O.keepF F (by omega), h.Z.keepF F (by omega), hd⟩
theorem OSt.left {gn cn : Nat} (h : OSt w0 w m go gl cl q4 q5 qz rr tt) (hR : RW w gn m cn y) (hn : w0.heap.size ≤ gn ∧ gn ≠ go ∧ gn ≠ q4 ∧ gn ≠ q5 ∧ gn ≠ qz) :
 OSt w0 ((w.setCell ⟨q5, 0, none⟩ (.int .i64 (m : Nat))).setCell ⟨q5, 1, none⟩ (.slice (some ⟨gn, 0, none⟩) m cn)) m go gn cn q4 q5 qz y tt := by
 have hd := h.d
 have F := fr2 w q5 (.int .i64 (m : Nat)) (.slice (some ⟨gn, 0, none⟩) m cn)
 exact ⟨h.B.set (by omega) _ _, h.L.set, hR.keepF F (by omega), h.T.keepF F (by omega), h.O.keepF F (by omega), h.Z.keepF F (by omega), by omega⟩
theorem OSt.rows (h : OSt w0 w m go gl cl q4 q5 qz rr tt) {j : Nat} (hj : j < m) : rowN w q5 j = rr j := by
 have hc := h.R.cell hj
 unfold rowN
 rw [h.L.c1]
 simp only [Nat.zero_add]
 rw [hc]
 simp
theorem OSt.edges (h : OSt w0 w m go gl cl q4 q5 qz rr tt) : mE m q5 w = (edN rr m).length := by
 unfold mE edN
 congr 1
 apply List.filter_congr
 intro p hp
 have := mem_pr.1 hp
 rw [h.rows (by omega)]
theorem OSt.blocks (h : OSt w0 w m go gl cl q4 q5 qz rr tt) : go < w.heap.size ∧ gl < w.heap.size ∧ q4 < w.heap.size ∧ q5 < w.heap.size ∧ qz < w.heap.size := ⟨h.T.lt, h.R.lt, h.O.lt, h.L.lt, h.Z.lt⟩
theorem OSt.done (h : OSt w0 w m go gl cl q4 q5 qz rr tt) : orQ w0 m (some tt) (.returned (.tuple #[.agg #[.slice (some ⟨go, 0, none⟩) m m], .bool true])) (w.setCell ⟨qz, 0, none⟩ (.slice (some ⟨go, 0, none⟩) m m)) := by
 have hd := h.d
 have F : Fr qz (qz + 1) w (w.setCell ⟨qz, 0, none⟩ (.slice (some ⟨go, 0, none⟩) m m)) := fr_set w
 have hT := h.T.keepF F (by omega)
 exact ⟨some ⟨go, 0, none⟩, m, rfl, hT.own.mono (by omega) hT.lt, bl_set h.B.below (by omega)⟩
theorem OSt.stop (h : OSt w0 w m go gl cl q4 q5 qz rr tt) : orQ w0 m none (.returned (.tuple #[.agg #[.slice none 0 0], .bool false])) (w.setCell ⟨qz, 0, none⟩ (.slice none 0 0)) := by
 have hd := h.d
 exact ⟨rfl, bl_set h.B.below (by omega)⟩
end
theorem reX_rmP {r : Nat → Nat} {m : Nat} {p : Nat × Nat} (vg : VG m r) (h1 : p.1 < m) (h2 : p.2 < m) (_ : p.1 ≠ p.2) : reX (m : Int) m (fun v => (r v : Int)) (p.1 : Int) (p.2 : Int) = fun j => ((rmP r p j : Nat) : Int) := by
 have hok : okB (m : Int) m (fun v => (r v : Int)) = true := okB_yes ⟨r, rfl, vg, fun _ _ => rfl⟩
 have hb : reB (m : Int) m (fun v => (r v : Int)) (p.1 : Int) (p.2 : Int) = (r p.1).testBit p.2 := by rw [reB_val hok h1 h2]; simp
 funext j
 unfold reX rmP
 rw [hb]
 cases (r p.1).testBit p.2 <;> simp
theorem orL_take {t : Nat → Nat} {L : List (Nat × Nat)} {k : Nat} (h : k < L.length) : orL t (L.take (k + 1)) = oaP (orL t (L.take k)) L[k] := by rw [List.take_succ_eq_append_getElem h, orL_snoc]
theorem rmL_take {t : Nat → Nat} {L : List (Nat × Nat)} {k : Nat} (h : k < L.length) : rmL t (L.take (k + 1)) = rmP (rmL t (L.take k)) L[k] := by rw [List.take_succ_eq_append_getElem h, rmL_snoc]
end Go.Proofs.YtfabbohijhjpcaaGreatDoor
