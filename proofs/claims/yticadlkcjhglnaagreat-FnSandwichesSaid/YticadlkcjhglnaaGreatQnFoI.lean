/-
-/
import Derived.Test.YticadlkcjhglnaaGreatQnFsI
namespace Go.Proofs.YticadlkcjhglnaaGreat
open Go.RowKit
def foI (cm k : Nat) : List Nat := (List.range k).filter fun i => cm.testBit i
def foD (D : List Dsc) (cm k : Nat) : List Dsc := (foI cm k).map fun i => D.getD i (none, 0, [])
def foE (E : List (Nat × Nat)) (cm k : Nat) : List (Nat × Nat) := (foI cm k).map fun i => E.getD i (0, 0)
theorem foI_yes {cm k : Nat} (h : cm.testBit k = true) : foI cm (k + 1) = foI cm k ++ [k] := by
 unfold foI; rw [List.range_succ, List.filter_append]; simp [h]
theorem foI_no {cm k : Nat} (h : cm.testBit k = false) : foI cm (k + 1) = foI cm k := by
 unfold foI; rw [List.range_succ, List.filter_append]; simp [h]
theorem foI_len (cm k : Nat) : (foI cm k).length ≤ k := by
 unfold foI
 exact Nat.le_trans (List.length_filter_le _ _) (by simp)
theorem foD_yes {D : List Dsc} {cm k : Nat} {d : Dsc} (h : cm.testBit k = true) (hd : D[k]? = some d) : foD D cm (k + 1) = foD D cm k ++ [d] := by
 unfold foD; rw [foI_yes h, List.map_append]; simp [List.getD, hd]
theorem foD_no {D : List Dsc} {cm k : Nat} (h : cm.testBit k = false) : foD D cm (k + 1) = foD D cm k := by
 unfold foD; rw [foI_no h]
theorem foD_len (D : List Dsc) (cm k : Nat) : (foD D cm k).length ≤ k := by unfold foD; rw [List.length_map]; exact foI_len cm k
theorem foD_sub (D : List Dsc) (cm : Nat) : (foD D cm D.length).Sublist D := by
 have h1 : (List.range D.length).map (fun i => D.getD i (none, 0, [])) = D := by
  apply List.ext_getElem
  ·simp
  ·intro i h2 h3
   simp [List.getD, h3]
 have h2 : (foD D cm D.length).Sublist ((List.range D.length).map (fun i => D.getD i (none, 0, []))) := List.filter_sublist.map _
 rwa [h1] at h2
theorem foD_lists {D : List Dsc} {E : List (Nat × Nat)} (h : lists D = PrE E) (cm : Nat) : lists (foD D cm E.length) = PrE (foE E cm E.length) := by
 unfold foD foE
 unfold lists PrE at h ⊢
 rw [List.map_map, List.map_map]
 apply List.map_congr_left
 intro i hi
 have hl := congrArg List.length h
 simp only [List.length_map] at hl
 have hi2 : i < E.length := by
  unfold foI at hi
  exact List.mem_range.1 (List.mem_filter.1 hi).1
 have := congrArg (fun l => l[i]?) h
 simp only [List.getElem?_map, List.getElem?_eq_getElem (show i < D.length by omega), List.getElem?_eq_getElem hi2, Option.map_some, Option.some.injEq] at this
 simp [List.getD, hi2, show i < D.length by omega, this]
theorem OwnD.subL {w : World} {lo hi lo2 hi2 c g c2 : Nat} {A : Option Addr} {D D2 : List Dsc} (h : OwnD w lo hi A c D) (hs : D2.Sublist D) (ho : Own w g (g + 1) 24 1 (some ⟨g, 0, none⟩) D2.length c2 (dvs D2)) (h1 : lo2 ≤ lo) (h2 : hi ≤ hi2) (h3 : lo2 ≤ g) (h4 : g < hi2) :
 OwnD w lo2 hi2 (some ⟨g, 0, none⟩) c2 D2 :=
 ⟨ho.mono h3 (by omega), fun d hd => (h.2.1 d (hs.subset hd)).mono h1 h2, h.2.2.sublist hs⟩
def foC (n : Nat) (L : List Nat) : Nat := L.foldl (fun a b => a &&& b) (2 ^ n - 1)
theorem and_fold_le : ∀ (L : List Nat) (a : Nat), L.foldl (fun a b => a &&& b) a ≤ a := by
 intro L
 induction L with
 | nil => intro a; exact Nat.le_refl _
 | cons b L ih => intro a; exact Nat.le_trans (ih _) Nat.and_le_left
theorem foC_start {n b : Nat} {t : List Nat} (hb : b < 2 ^ n) : (b :: t).foldl (fun a b => a &&& b) b = foC n (b :: t) := by
 unfold foC
 rw [List.foldl_cons, List.foldl_cons, Nat.and_self, Nat.and_comm, Nat.and_two_pow_sub_one_eq_mod, Nat.mod_eq_of_lt hb]
theorem fold_take {L : List Nat} {a k : Nat} (hk : k < L.length) : (L.take (k + 1)).foldl (fun a b => a &&& b) a = (L.take k).foldl (fun a b => a &&& b) a &&& L[k] := by
 rw [List.take_succ_eq_append_getElem hk, List.foldl_append]; rfl
section
variable (s1 : Int) (m1 : Nat) (x1 : Nat → Int) (s2 : Int) (m2 : Nat) (x2 : Nat → Int) (s : List UInt8)
noncomputable def foL : List (List Int) :=
 if (fsO s1 m1 x1 s2 m2 x2 s).isSome = true then PrE (foE (swE (rw_ x1) (rw_ x2) m2) (foC (swE (rw_ x1) (rw_ x2) m2).length (sdwL (rw_ x1) m2 (swE (rw_ x1) (rw_ x2) m2) s)) (swE (rw_ x1) (rw_ x2) m2).length) else []
end
def foQ (s1 : Int) (m1 : Nat) (x1 : Nat → Int) (s2 : Int) (m2 : Nat) (x2 : Nat → Int) (s : List UInt8) (w : World) (e : Ending) (w' : World) : Prop :=
 ∃ A' c' D, e = .returned (.tuple #[.slice A' D.length c', .bool (fsO s1 m1 x1 s2 m2 x2 s).isSome]) ∧ lists D = foL s1 m1 x1 s2 m2 x2 s ∧ OwnD w' w.heap.size w'.heap.size A' c' D ∧ Below w.heap.size w w'
theorem foQ_no {s1 : Int} {m1 : Nat} {x1 : Nat → Int} {s2 : Int} {m2 : Nat} {x2 : Nat → Int} {s : List UInt8} {w w' : World} {e : Ending} {A : Option Addr} {c : Nat} (h : fsO s1 m1 x1 s2 m2 x2 s = none) (he : e = .returned (.tuple #[.slice A 0 c, .bool false])) (ho : OwnD w' w.heap.size w'.heap.size A c []) (hb : Below w.heap.size w w') : foQ s1 m1 x1 s2 m2 x2 s w e w' := by
 unfold foQ foL
 rw [h]
 exact ⟨A, c, [], he, rfl, ho, hb⟩
theorem foQ_yes {s1 : Int} {m1 : Nat} {x1 : Nat → Int} {s2 : Int} {m2 : Nat} {x2 : Nat → Int} {s : List UInt8} {w w' : World} {e : Ending} {A : Option Addr} {c b : Nat} {D : List Dsc} (h : fsO s1 m1 x1 s2 m2 x2 s = some b) (he : e = .returned (.tuple #[.slice A D.length c, .bool true])) (hl : lists D = PrE (foE (swE (rw_ x1) (rw_ x2) m2) (foC (swE (rw_ x1) (rw_ x2) m2).length (sdwL (rw_ x1) m2 (swE (rw_ x1) (rw_ x2) m2) s)) (swE (rw_ x1) (rw_ x2) m2).length)) (ho : OwnD w' w.heap.size w'.heap.size A c D) (hb : Below w.heap.size w w') : foQ s1 m1 x1 s2 m2 x2 s w e w' := by
 unfold foQ foL
 rw [h]
 exact ⟨A, c, D, he, hl, ho, hb⟩
section
variable (s1 : Int) (A1 : Option Addr) (m1 c1 : Nat) (x1 : Nat → Int) (s2 : Int) (A2 : Option Addr) (m2 c2 : Nat) (x2 : Nat → Int) (str : ByteArray) (w : World)
set_option maxRecDepth 100000 in
set_option maxHeartbeats 6400000 in
theorem ForcedEdges_i (h1 : GA w A1 m1 c1 x1) (h2 : GA w A2 m2 c2 x2) (hm1 : m1 ≤ 1048576) (hm2 : m2 ≤ 1048576) :
 Calls Tryz.prog 10 #[.agg #[.int .i64 s1, .slice A1 m1 c1], .agg #[.int .i64 s2, .slice A2 m2 c2], .string str] w (foQ s1 m1 x1 s2 m2 x2 str.toList w) := by
 obtain ⟨W, hW⟩ : ∃ W : World, W = ((w.alloc (Obj.cells #[Value.int IntKind.i64 s1, Value.slice A1 m1 c1] 26)).alloc (Obj.cells #[Value.int IntKind.i64 s2, Value.slice A2 m2 c2] 26)) := ⟨_, rfl⟩
 have HB : Hid (From w W) := by rw [hW]; exact (From.alloc _ _).alloc_ _
 have HC : Hid (TwoG W w.heap.size s1 A1 m1 c1 s2 A2 m2 c2) := by rw [hW]; exact TwoG.new _ _ _ _ _ _ _ _ _
 have HK1 := Lib.hid (h1.keep HB.out.below)
 have HK2 := Lib.hid (h2.keep HB.out.below)
 have HW := Lib.hid hW
 have KS := sandwiches_i s1 A1 m1 c1 x1 s2 A2 m2 c2 x2 str W HK1.out HK2.out hm1 hm2
 unfold swQ at KS
 have Hd : Hid (fsO s1 m1 x1 s2 m2 x2 str.toList = if wiB s1 m1 x1 s2 m2 x2 = true ∧ (swE (rw_ x1) (rw_ x2) m2).length ≤ 6 then (sdwL (rw_ x1) m2 (swE (rw_ x1) (rw_ x2) m2) str.toList).head? else none) := rfl
 have hzW := HB.out.below.size
 clear hW h1 h2
 by_cases hc : wiB s1 m1 x1 s2 m2 x2 = true ∧ (swE (rw_ x1) (rw_ x2) m2).length ≤ 6
 ·have Hn : Hid (fsO s1 m1 x1 s2 m2 x2 str.toList = (sdwL (rw_ x1) m2 (swE (rw_ x1) (rw_ x2) m2) str.toList).head?) := by show _ = _; rw [Hd.out, if_pos hc]
  simp only [if_pos hc] at KS
  have hl6 := hc.2
  have Hlt : Hid (∀ b ∈ sdwL (rw_ x1) m2 (swE (rw_ x1) (rw_ x2) m2) str.toList, b < 2 ^ (swE (rw_ x1) (rw_ x2) m2).length) := fun b hb => sdwK_lt hb
  have hL64 : (sdwL (rw_ x1) m2 (swE (rw_ x1) (rw_ x2) m2) str.toList).length ≤ 64 := by
   have h1 : (sdwL (rw_ x1) m2 (swE (rw_ x1) (rw_ x2) m2) str.toList).length ≤ 2 ^ (swE (rw_ x1) (rw_ x2) m2).length := sdwK_len _
   have h2 := Nat.pow_le_pow_right (n := 2) (by omega) hl6
   omega
  have Hno : Hid (fsO s1 m1 x1 s2 m2 x2 str.toList = none → ∀ e w', e = .returned (.tuple #[.slice none 0 0, .bool false]) → Below w.heap.size w w' → foQ s1 m1 x1 s2 m2 x2 str.toList w e w') := fun h e w' h2 h3 => foQ_no h h2 (OwnD.nil_ _ _ _) h3
  have Hyes : Hid (∀ b, fsO s1 m1 x1 s2 m2 x2 str.toList = some b → ∀ e w' A c D, e = .returned (.tuple #[.slice A D.length c, .bool true]) → lists D = PrE (foE (swE (rw_ x1) (rw_ x2) m2) (foC (swE (rw_ x1) (rw_ x2) m2).length (sdwL (rw_ x1) m2 (swE (rw_ x1) (rw_ x2) m2) str.toList)) (swE (rw_ x1) (rw_ x2) m2).length) → OwnD w' w.heap.size w'.heap.size A c D → Below w.heap.size w w' → foQ s1 m1 x1 s2 m2 x2 str.toList w e w') := fun b h e w' A c D h2 h3 h4 h5 => foQ_yes h h2 h3 h4 h5
  replace KS := Lib.hid KS
  obtain ⟨E, hE⟩ : ∃ E, E = swE (rw_ x1) (rw_ x2) m2 := ⟨_, rfl⟩
  rw [← hE] at KS Hn Hlt Hyes hl6 hL64
  obtain ⟨L, hL⟩ : ∃ L, L = sdwL (rw_ x1) m2 E str.toList := ⟨_, rfl⟩
  rw [← hL] at KS Hn Hlt Hyes hL64
  clear hc Hd hE hL HK1 HK2
  go_enter Tryz.func10, Tryz.ntmps10
  have b0 := HC.out.g1.c0
  have b1 := HC.out.g1.c1
  have b2 := HC.out.g2.c0
  have b3 := HC.out.g2.c1
  go_wp2_with fail
  rw [← HW.out]
  clear HW b0 b1 b2 b3
  refine KS.out.mono ?_
  rintro e w1 ⟨A', c', D, A3, c3, rfl, hld, hod, hon, hb1⟩
  have HL := Lib.hid hld
  have hlen := Lib.hid (lists_lenE hld)
  have HD := Lib.hid hod
  have HO := Lib.hid hon
  have HB1 := Lib.hid (HB.out.keep hb1)
  have hz1 := hb1.size
  clear hb1 KS hld hod hon HC HB
  cases L with
  | nil =>
    have Hf : Hid (fsO s1 m1 x1 s2 m2 x2 str.toList = none) := Hn.out
    have Hx := Lib.hid (Hno.out Hf.out)
    rw [show ([] : List Nat).length = 0 from rfl]
    go_wp2
    go_ret2
    exact Hx.out _ _ rfl HB1.out.below
  | cons b t =>
    have Hf : Hid (fsO s1 m1 x1 s2 m2 x2 str.toList = some b) := Hn.out
    have Hx := Lib.hid (Hyes.out b Hf.out)
    have hb64 : b < 64 := by
     have h1 := Hlt.out b List.mem_cons_self
     have h2 := Nat.pow_le_pow_right (n := 2) (by omega) hl6
     omega
    have Hst : Hid ((b :: t).foldl (fun a b => a &&& b) b = foC E.length (b :: t)) := foC_start (Hlt.out b List.mem_cons_self)
    obtain ⟨g3, rfl, hg3, hg3', _, hc3, _⟩ := HO.out.own.at_ (by simp)
    have Hcs : Hid (∀ j (hj : j < (b :: t).length), w1.cell? ⟨g3, j, none⟩ = some (.int .i64 ((b :: t)[j] : Nat)) ∧ (b :: t)[j] < 64) := fun j hj => by
     refine ⟨?_, ?_⟩
     ·have := hc3 j (by simpa using hj)
      rw [this]
      unfold ni
      simp only [List.getD, List.getElem?_eq_getElem hj]; rfl
     ·have h1 := Hlt.out _ (List.getElem_mem hj)
      have h2 := Nat.pow_le_pow_right (n := 2) (by omega) hl6
      omega
    have p0 : w1.cell? ⟨g3, 0, none⟩ = some (.int .i64 (b : Int)) := hc3 0 (by simp)
    have hlp : (0 : Int) < ((b :: t).length : Int) := by simp
    have hlp3 : 0 < (b :: t).length := by simp
    have hln : (((b :: t).length : Int) == 0) = false := by simp; omega
    have Hft : Hid (∀ k (hk : k < (b :: t).length), ((b :: t).take (k + 1)).foldl (fun a b => a &&& b) b = ((b :: t).take k).foldl (fun a b => a &&& b) b &&& (b :: t)[k]) := fun k hk => fold_take hk
    have Hfl : Hid (∀ k, ((b :: t).take k).foldl (fun a b => a &&& b) b ≤ b) := fun k => and_fold_le _ _
    have Hf0 : Hid (((b :: t).take 0).foldl (fun a b => a &&& b) b = b) := rfl
    obtain ⟨L, hL⟩ : ∃ L, L = b :: t := ⟨_, rfl⟩
    have HfL : Hid ((L.take L.length).foldl (fun a b => a &&& b) b = foC E.length L) := by show _ = _; rw [List.take_length, hL]; exact Hst.out
    rw [← hL] at Hx HO Hcs hlp hlp3 hln Hft Hfl Hf0 hL64 ⊢
    have hln2 : (L.length = 0) = False := by simp only [eq_iff_iff, iff_false]; omega
    obtain ⟨W2, hW2⟩ : ∃ W2 : World, W2 = w1.alloc (Obj.cells #[] 24) := ⟨_, rfl⟩
    have hb2 : Below w1.heap.size w1 W2 := by rw [hW2]; exact (Below.refl _ _).alloc (Nat.le_refl _) _
    have HG2 : Hid (Own W2 w1.heap.size (w1.heap.size + 1) 24 1 (some ⟨w1.heap.size, 0, none⟩) 0 0 (dvs [])) := by
     rw [hW2]
     exact .inr ⟨w1.heap.size, #[], rfl, Nat.le_refl _, Nat.lt_succ_self _, heap_alloc_new w1 _, Nat.le_refl _, by unfold maxLen; omega, rfl, fun j hj => absurd hj (by simp)⟩
    have HB2 := Lib.hid (HB1.out.keep hb2)
    have HD2 : Hid (OwnD W2 W.heap.size w1.heap.size A' c' D) := HD.out.keepB hb2 (Nat.le_refl _)
    have hz2 : w1.heap.size < W2.heap.size := by rw [hW2]; simp
    have Hcs2 : Hid (∀ j (hj : j < L.length), W2.cell? ⟨g3, j, none⟩ = some (.int .i64 (L[j] : Nat)) ∧ L[j] < 64) := fun j hj => ⟨up hb2 (Hcs.out j hj).1 hg3', (Hcs.out j hj).2⟩
    have HW2 := Lib.hid hW2
    clear hW2 hb2 hc3 Hcs Hn Hno Hyes Hlt Hst HO HD HB1 hL
    go_wp2
    rw [← HW2.out]
    clear HW2 p0
    go_loopw [11, 38] (fun cm i wr => ∃ k : Nat, k ≤ L.length ∧ i = .int .i64 k ∧ cm = .int .i64 ((L.take k).foldl (fun a b => a &&& b) b : Nat) ∧ wr = W2) (fun _ i _ => L.length - (intOf i).toNat)
    case atStart => exact ⟨0, Nat.zero_le _, rfl, by rw [Hf0.out], rfl⟩
    case round =>
     obtain ⟨k, hk, rfl, rfl, rfl⟩ := hrel
     by_cases hkl : k < L.length
     ·have i1 : (k : Int) < (L.length : Int) := by omega
      obtain ⟨p1, hp64⟩ := Hcs2.out k hkl
      have hs := Lib.hid (Hft.out k hkl)
      have hle := Hfl.out k
      obtain ⟨q, hq⟩ : ∃ q, q = L[k] := ⟨_, rfl⟩
      rw [← hq] at p1 hs hp64
      obtain ⟨cm, hcm⟩ : ∃ cm, cm = (L.take k).foldl (fun a b => a &&& b) b := ⟨_, rfl⟩
      rw [← hcm] at hs hle ⊢
      have E2 := i64_and_nat cm q (by omega) (by omega)
      clear hq hcm
      go_wp2
      go_roundw
      case rel => exact ⟨k + 1, by omega, by go_num, by rw [hs.out], by first | rfl | trivial⟩
      case measure => (simp [intOf] <;> omega)
     ·obtain rfl : k = L.length := by omega
      have hle := Hfl.out L.length
      rw [HfL.out] at hle ⊢
      obtain ⟨cm, hcm⟩ : ∃ cm, cm = foC E.length L := ⟨_, rfl⟩
      rw [← hcm] at hle Hx ⊢
      have hE6 : E.length ≤ 6 := hl6
      have hDl := hlen.out
      have Hsub := Lib.hid (foD_sub D cm)
      rw [hDl] at Hsub
      have Hlis := Lib.hid (foD_lists HL.out cm)
      have Hat : Hid (∀ k, k < E.length → ∃ Ad cd v u, D[k]? = some (Ad, cd, [(v : Int), (u : Int)])) := fun k hk => by
       obtain ⟨_, Ad, cd, h⟩ := pairE_at HL.out hk
       exact ⟨Ad, cd, _, _, h⟩
      have HB3 : Hid (From w wr) := HB2.out
      have HD3 : Hid (OwnD wr W.heap.size w1.heap.size A' c' D) := HD2.out
      have Hl0 : Hid ((foD D cm 0).length = 0) := rfl
      clear hcm hkl hk Hcs2 Hft Hfl Hf0 HfL HB2 HD2
      go_wp2
      go_loopw [12, 48] (fun o i wz => ∃ (k g cg : Nat), k ≤ E.length ∧ i = .int .i64 k ∧ o = .slice (some ⟨g, 0, none⟩) (foD D cm k).length cg ∧ w1.heap.size ≤ g ∧ g < wz.heap.size ∧ Hid (Own wz g (g + 1) 24 1 (some ⟨g, 0, none⟩) (foD D cm k).length cg (dvs (foD D cm k))) ∧ Hid (OwnD wz W.heap.size w1.heap.size A' c' D) ∧ Hid (From w wz)) (fun _ i _ => E.length - (intOf i).toNat)
      case atStart => exact ⟨0, w1.heap.size, 0, Nat.zero_le _, rfl, by rw [Hl0.out], Nat.le_refl _, hz2, HG2, HD3, HB3⟩
      case round =>
       clear HG2 HD3 HB3 Hl0
       obtain ⟨k, g, cg, hk, rfl, rfl, hg1, hg2, HG, HD, HB⟩ := hrel
       by_cases hkl : k < E.length
       ·have i1 : (k : Int) < (E.length : Int) := by omega
        obtain ⟨Ad, cd, v, u, hdk⟩ := Hat.out k hkl
        obtain ⟨gD, gd, rfl, rfl, d0, _, _⟩ := HD.out.pair hdk
        have hml := foD_len D cm k
        have Hd := Lib.hid hdk
        have KH0 : Calls Tryz.prog 49 #[.int .i64 (cm : Int), .int .i64 (k : Int)] wr fun e w' => e = .returned (.bool (cm.testBit k)) ∧ wr = w' := by
         have := has_any cm k wr (by omega) (by omega) (by omega) (by omega)
         simpa using this
        have KH := Lib.hid KH0
        clear hdk KH0
        cases hb : cm.testBit k
        ·rw [hb] at KH
         have Hs := Lib.hid (foD_no (D := D) hb)
         clear hb
         go_wp2_with fail
         refine KH.out.mono ?_
         rintro e w' ⟨rfl, rfl⟩
         go_wp2
         go_roundw
         case rel => exact ⟨k + 1, g, cg, by omega, by go_num, by rw [Hs.out], hg1, hg2, by rw [Hs.out]; exact HG, HD, HB⟩
         case measure => (simp [intOf] <;> omega)
        ·rw [hb] at KH
         have Hs := Lib.hid (foD_yes hb Hd.out)
         obtain ⟨T, hT⟩ : ∃ T, T = foD D cm k := ⟨_, rfl⟩
         rw [← hT] at Hs HG hml ⊢
         clear hb hT
         go_wp2_with fail
         refine KH.out.mono ?_
         rintro e w' ⟨rfl, rfl⟩
         clear KH
         go_wp2_with (first | (at_builtin; (refine wpList_pushC wr rfl _ _ rfl T g cg HG.out hg2 (some ⟨gd, 0, none⟩, cd, [(v : Int), (u : Int)]) rfl 1 wr.heap.size rfl rfl (by omega) ?_; intro g' cap w3 hO2 hg' hl3 hf)))
         have H1 : Hid (Own w3 g' (g' + 1) 24 1 (some ⟨g', 0, none⟩) (T ++ [((some ⟨gd, 0, none⟩, cd, [(v : Int), (u : Int)]) : Dsc)]).length cap (dvs (T ++ [((some ⟨gd, 0, none⟩, cd, [(v : Int), (u : Int)]) : Dsc)]))) := by show Own _ _ _ _ _ _ _ _ _; rw [List.length_append]; exact hO2
         have H2 := Lib.hid (HD.out.keep hf (.inl hg1))
         have H3 : Hid (From w w3) := ⟨HB.out.below.trans (hf.below (by omega) HB.out.below.size)⟩
         clear hO2 hf
         go_roundw
         case rel => exact ⟨k + 1, g', cap, by omega, by go_num, by rw [Hs.out, List.length_append]; rfl, by omega, hl3, by rw [Hs.out]; exact H1, H2, H3⟩
         case measure => (simp [intOf] <;> omega)
       ·obtain rfl : k = E.length := by omega
        have HE := Lib.hid (HD.out.subL Hsub.out HG.out hzW (by omega : w1.heap.size ≤ wr.heap.size) (by omega : w.heap.size ≤ g) hg2)
        go_wp2
        go_ret2
        exact Hx.out _ _ _ _ (foD D cm E.length) rfl Hlis.out HE.out HB.out.below
 ·have Hn : Hid (fsO s1 m1 x1 s2 m2 x2 str.toList = none) := by show _ = _; rw [Hd.out, if_neg hc]
  have Hx : Hid (∀ e w', e = .returned (.tuple #[.slice none 0 0, .bool false]) → Below w.heap.size w w' → foQ s1 m1 x1 s2 m2 x2 str.toList w e w') := fun e w' h2 h3 => foQ_no Hn.out h2 (OwnD.nil_ _ _ _) h3
  simp only [if_neg hc] at KS
  replace KS := Lib.hid KS
  clear hc Hd
  go_enter Tryz.func10, Tryz.ntmps10
  have b0 := HC.out.g1.c0
  have b1 := HC.out.g1.c1
  have b2 := HC.out.g2.c0
  have b3 := HC.out.g2.c1
  go_wp2_with fail
  rw [← HW.out]
  clear HW b0 b1 b2 b3
  refine KS.out.mono ?_
  rintro e w1 ⟨rfl, hb1⟩
  have HB1 := Lib.hid (HB.out.keep hb1)
  clear hb1 KS HB
  go_wp2
  go_ret2
  exact Hx.out _ _ rfl HB1.out.below
end
end Go.Proofs.YticadlkcjhglnaaGreat
