/-
  Contracts: JournalLine of both programs.
-/
import Derived.Test.YtppkokgiojcgbaaGreatDoorQyFgI
import Derived.Test.YtppkokgiojcgbaaGreatDoorQyFmU
import Derived.Test.YtppkokgiojcgbaaGreatDoorQyJnlL
namespace Go.Proofs.YtppkokgiojcgbaaGreatDoor
open Go.RowKit

/-- What a list of bools reads as, behind a word. -/
def btJ (L : List Bool) : Nat → ByteArray
  | 0 => ⟨#[109, 101, 109, 98, 101, 114, 32]⟩
  | k + 1 => btJ L k ++ (if L.getD k false = true then ⟨#[49]⟩ else ⟨#[48]⟩)
theorem btJ_size (L : List Bool) : ∀ k, (btJ L k).size = 7 + k
  | 0 => rfl
  | k + 1 => by
    show (btJ L k ++ (if L.getD k false = true then (⟨#[49]⟩ : ByteArray) else ⟨#[48]⟩)).size = _
    rw [ByteArray.size_append, btJ_size L k]
    split <;> rfl
theorem btJ_yes {L : List Bool} {k : Nat} (h : L.getD k false = true) : btJ L (k + 1) = btJ L k ++ ⟨#[49]⟩ := by
  show btJ L k ++ (if L.getD k false = true then _ else _) = _
  rw [if_pos h]
theorem btJ_no {L : List Bool} {k : Nat} (h : L.getD k false = false) : btJ L (k + 1) = btJ L k ++ ⟨#[48]⟩ := by
  show btJ L k ++ (if L.getD k false = true then _ else _) = _
  rw [h]; rfl
/-- The one edit that is a loss. -/
def jlF (a : Nat → Bool) (v u : Nat → Int) (k : Nat) : ByteArray := fmO 1 (fun j => a (k + j)) (fun j => v (k + j)) (fun j => u (k + j))
def jlT (L : List Bool) (a : Nat → Bool) (v u : Nat → Int) : ByteArray := match flO L with | none => btJ L L.length | some k => btJ L L.length ++ ⟨#[32, 108, 111, 115, 116, 32]⟩ ++ jlF a v u k
/-- What JournalLine answers. -/
noncomputable def jlB (s : Int) (m : Nat) (x : Nat → Int) (n : Nat) (a : Nat → Bool) (v u : Nat → Int) (t : List UInt8) : ByteArray :=
  if apD s m x n a v u = true then jlT (meL s m x n a v u t) a v u ++ ⟨#[32, 101, 110, 100, 32]⟩ ++ fgB (apZ s m x n a v u) (apN s m x n a v u) (apY s m x n a v u) else ⟨#[]⟩
theorem jlB_no {s : Int} {m : Nat} {x : Nat → Int} {n : Nat} {a : Nat → Bool} {v u : Nat → Int} {t : List UInt8} (h : apD s m x n a v u = false) : jlB s m x n a v u t = ⟨#[]⟩ := by unfold jlB; rw [h]; rfl
theorem jlB_yes {s : Int} {m : Nat} {x : Nat → Int} {n : Nat} {a : Nat → Bool} {v u : Nat → Int} {t : List UInt8} (h : apD s m x n a v u = true) : jlB s m x n a v u t = jlT (meL s m x n a v u t) a v u ++ ⟨#[32, 101, 110, 100, 32]⟩ ++ fgB (apZ s m x n a v u) (apN s m x n a v u) (apY s m x n a v u) := by unfold jlB; rw [if_pos h]
theorem jlT_none {L : List Bool} {a : Nat → Bool} {v u : Nat → Int} (h : flO L = none) : jlT L a v u = btJ L L.length := by unfold jlT; rw [h]
theorem jlT_some {L : List Bool} {a : Nat → Bool} {v u : Nat → Int} {k : Nat} (h : flO L = some k) : jlT L a v u = btJ L L.length ++ ⟨#[32, 108, 111, 115, 116, 32]⟩ ++ jlF a v u k := by unfold jlT; rw [h]
theorem flO_lt {L : List Bool} {k : Nat} (h : flO L = some k) : k + 1 < L.length := by
  unfold flO lsK at h
  rw [List.find?_range_eq_some] at h
  have := List.mem_range.1 h.2.1
  omega
theorem meL_n {s : Int} {m : Nat} {x : Nat → Int} {n : Nat} {a : Nat → Bool} {v u : Nat → Int} {t : List UInt8} : (meL s m x n a v u t).length ≤ n + 1 := by
  cases h : apR s m x n a v u
  · rw [meL_no h]; exact Nat.zero_le _
  · rw [meL_yes h, meV_len]; exact Nat.le_refl _
/-- One edit out of a list that is read. -/
theorem RE.one {w : World} {b o n c k : Nat} {a : Nat → Bool} {v u : Nat → Int} (h : RE w (some ⟨b, o, none⟩) n c a v u) (hk : k < n) (c' : Nat) (hc : 1 ≤ c') : RE w (some ⟨b, o + k * 3, none⟩) 1 c' (fun j => a (k + j)) (fun j => v (k + j)) (fun j => u (k + j)) := by
  obtain ⟨b2, o2, e, hb, hcell⟩ := h.rd.2 (by omega)
  cases e
  refine ⟨hc, fun _ => ⟨b, o + k * 3, rfl, hb, fun j hj => ?_⟩⟩
  obtain rfl : j = 0 := by omega
  have := hcell k hk
  simpa using this
/-- The bools of a journal, and the graph at its end. -/
structure JB (w : World) (lo : Nat) (A : Option Addr) (c : Nat) (L : List Bool) : Prop where
  own : Own w lo w.heap.size 4 1 A L.length c (blL L)
theorem JB.keep {w w' : World} {lo : Nat} {A : Option Addr} {c : Nat} {L : List Bool} (h : JB w lo A c L) (hb : Below w.heap.size w w') : JB w' lo A c L := ⟨(h.own.keepB hb (Nat.le_refl _)).mono (Nat.le_refl _) hb.size⟩
structure GO (w : World) (lo : Nat) (A : Option Addr) (n c : Nat) (y : Nat → Int) : Prop where
  own : Own w lo w.heap.size 3 1 A n c (fun j => .int .i64 (y j))
theorem GO.keep {w w' : World} {lo : Nat} {A : Option Addr} {n c : Nat} {y : Nat → Int} (h : GO w lo A n c y) (hb : Below w.heap.size w w') : GO w' lo A n c y := ⟨(h.own.keepB hb (Nat.le_refl _)).mono (Nat.le_refl _) hb.size⟩

set_option maxRecDepth 100000 in
set_option maxHeartbeats 3200000 in
theorem JournalLine_i (s : Int) (A : Option Addr) (m c : Nat) (x : Nat → Int) (Al : Option Addr) (n cl : Nat) (a : Nat → Bool) (v u : Nat → Int) (t : ByteArray) (w : World) (h : Rd w w.heap.size A m c x) (hl : RdE w w.heap.size Al n cl a v u) (hm : m ≤ 1048576) (hn : n ≤ 1048576) (ht : t.size ≤ 1048576) :
    Calls Tryz.prog 11 #[.agg #[.int .i64 s, .slice A m c], .slice Al n cl, .string t] w fun e w' => e = .returned (.string (jlB s m x n a v u t.toList)) ∧ Below w.heap.size w w' := by
  obtain ⟨W, hW⟩ : ∃ W : World, W = (w.alloc (Obj.cells #[Value.int IntKind.i64 s, Value.slice A m c] 29)) := ⟨_, rfl⟩
  have HB : Hid (From w W) := by rw [hW]; exact From.alloc _ _
  have HC : Hid (GC W w.heap.size s A m c) := by rw [hW]; exact GC.new _ _ _ _ _
  have HR : Hid (∀ z, Below w.heap.size w z → Rd z z.heap.size A m c x) := fun z hz => h.keep hz hz.size
  have HL : Hid (∀ z, Below w.heap.size w z → RE z Al n cl a v u) := fun z hz => ⟨hl.keep hz hz.size⟩
  have HW := Lib.hid hW
  clear hW h hl
  have KA : Hid (∀ z, Below w.heap.size w z → _) := fun z hz => ApplyEdits_i s A m c x Al n cl a v u z z.heap.size (HR.out z hz) (HL.out z hz).rd (Nat.le_refl _) hm hn
  cases ho : apD s m x n a v u
  · have HO := Lib.hid (jlB_no (t := t.toList) ho)
    have hN : apN s m x n a v u = 0 := by unfold apN; rw [ho]; rfl
    have hZ : apZ s m x n a v u = 0 := by unfold apZ; rw [ho]; rfl
    rw [ho, hN, hZ] at KA
    clear ho HR HL hN hZ
    go_enter Tryz.func11, Tryz.ntmps11
    have e0 := HC.out.c0
    have e1 := HC.out.c1
    go_wp2_with fail
    rw [← HW.out]
    clear HW
    refine (KA.out W HB.out.below).mono ?_
    rintro e w1 ⟨A1, c1, rfl, hO1, hb1⟩
    clear e0 e1
    replace HB := Lib.hid (HB.out.keep hb1)
    replace HC := Lib.hid (HC.out.keep hb1)
    clear hb1 hO1
    have e0 := HC.out.c0
    have e1 := HC.out.c1
    go_wp2
    go_ret
    exact ⟨by rw [HO.out]; rfl, HB.out.below.alloc HB.out.below.size _⟩
  have HY := Lib.hid (jlB_yes (t := t.toList) ho)
  have hN : apN s m x n a v u = m := by unfold apN; rw [ho]; rfl
  have h13 := meL_len (sz := s) (m := m) (x := x) (n := n) (a := a) (v := v) (u := u) (s := t.toList)
  have hln := meL_n (s := s) (m := m) (x := x) (n := n) (a := a) (v := v) (u := u) (t := t.toList)
  have KM : Hid (∀ z, Below w.heap.size w z → _) := fun z hz => MembershipOf_iL s A m c x Al n cl a v u t z z.heap.size (HR.out z hz) (HL.out z hz).rd (Nat.le_refl _) hm hn ht
  have KF : Hid (∀ z, Below w.heap.size w z → _) := fun z hz => FirstLoss_iL s A m c x Al n cl a v u t z z.heap.size (HR.out z hz) (HL.out z hz).rd (Nat.le_refl _) hm hn ht
  have hgs := fgB_size (s := apZ s m x n a v u) (m := apN s m x n a v u) (x := apY s m x n a v u)
  rw [ho] at KA
  obtain ⟨Z, hZ⟩ : ∃ Z, Z = apZ s m x n a v u := ⟨_, rfl⟩
  obtain ⟨N, hNN⟩ : ∃ Z, Z = apN s m x n a v u := ⟨_, rfl⟩
  obtain ⟨Y, hY⟩ : ∃ Z, Z = apY s m x n a v u := ⟨_, rfl⟩
  obtain ⟨L, hL⟩ : ∃ L, L = meL s m x n a v u t.toList := ⟨_, rfl⟩
  have hNm : N ≤ 1048576 := by rw [hNN, hN]; exact hm
  rw [← hZ, ← hNN, ← hY] at KA HY hgs
  rw [← hL] at HY KM KF h13 hln
  obtain ⟨G, hG⟩ : ∃ G, G = fgB Z N Y := ⟨_, rfl⟩
  rw [← hG] at HY hgs
  have HGG := Lib.hid hG
  obtain ⟨B, hBt⟩ : ∃ B, B = btJ L L.length := ⟨_, rfl⟩
  have HBt := Lib.hid hBt
  have HTn : Hid (flO L = none → jlT L a v u = B) := fun h => by rw [hBt]; exact jlT_none h
  have HTs : Hid (∀ k, flO L = some k → jlT L a v u = B ++ ⟨#[32, 108, 111, 115, 116, 32]⟩ ++ jlF a v u k) := fun k h => by rw [hBt]; exact jlT_some h
  have HFl : Hid (∀ k, flO L = some k → k + 1 < L.length) := fun k h => flO_lt h
  obtain ⟨Tt, hTt⟩ : ∃ T, T = jlT L a v u := ⟨_, rfl⟩
  rw [← hTt] at HY HTn HTs
  obtain ⟨nL, hnL⟩ : ∃ n, n = L.length := ⟨_, rfl⟩
  have HnL := Lib.hid hnL
  have hBs : B.size = 7 + nL := by rw [hBt, hnL]; exact btJ_size L _
  rw [← hnL] at KM h13 hln HFl
  clear ho hN hZ hNN hY hL hG hBt hTt hnL HR
  go_enter Tryz.func11, Tryz.ntmps11
  have e0 := HC.out.c0
  have e1 := HC.out.c1
  go_wp2_with fail
  rw [← HW.out]
  clear HW
  refine (KA.out W HB.out.below).mono ?_
  rintro e w3 ⟨A1, c1, rfl, hO1, hb1⟩
  clear e0 e1
  replace HB := Lib.hid (HB.out.keep hb1)
  replace HC := Lib.hid (HC.out.keep hb1)
  have e0 := HC.out.c0
  have e1 := HC.out.c1
  have HGo : Hid (GO w3 W.heap.size A1 N c1 Y) := ⟨hO1⟩
  obtain ⟨W2, hW2⟩ : ∃ z : World, z = w3.alloc (Obj.cells #[Value.int IntKind.i64 Z, Value.slice A1 N c1] 29) := ⟨_, rfl⟩
  have hb2 : Below w3.heap.size w3 W2 := by rw [hW2]; exact (Below.refl _ _).alloc (Nat.le_refl _) _
  have HD : Hid (GC W2 w3.heap.size Z A1 N c1) := by rw [hW2]; exact GC.new _ _ _ _ _
  obtain ⟨qh, hqh⟩ : ∃ q, q = w3.heap.size := ⟨_, rfl⟩
  rw [← hqh] at HD
  have HW2 := Lib.hid hW2
  have Hqh := Lib.hid hqh
  have hCl := HC.out.lt
  clear hb1 hO1 hW2 hqh
  go_wp2_with fail
  rw [← HW2.out]
  try rw [← Hqh.out]
  clear HW2 Hqh hCl e0 e1
  replace HB := Lib.hid (HB.out.keep hb2)
  replace HC := Lib.hid (HC.out.keep hb2)
  replace HGo := Lib.hid (HGo.out.keep hb2)
  clear hb2
  have e0 := HC.out.c0
  have e1 := HC.out.c1
  have d0 := HD.out.c0
  have d1 := HD.out.c1
  refine (KM.out W2 HB.out.below).mono ?_
  rintro e w4 ⟨A4, c4, rfl, hO4, hb4⟩
  clear e0 e1 d0 d1
  replace HB := Lib.hid (HB.out.keep hb4)
  replace HC := Lib.hid (HC.out.keep hb4)
  replace HD := Lib.hid (HD.out.keep hb4)
  replace HGo := Lib.hid (HGo.out.keep hb4)
  have e0 := HC.out.c0
  have e1 := HC.out.c1
  have d0 := HD.out.c0
  have d1 := HD.out.c1
  have HJ : Hid (JB w4 W2.heap.size A4 c4 L) := ⟨by rw [← HnL.out]; exact hO4⟩
  clear hO4 hb4 e0 e1 d0 d1
  go_wp2
  go_loopw [9, 26] (fun sl i wr => ∃ (k : Nat) (S : ByteArray), k ≤ nL ∧ i = .int .i64 k ∧ sl = .string S ∧ S.size = 7 + k ∧ Hid (S = btJ L k) ∧ Hid (JB wr W2.heap.size A4 c4 L) ∧ Hid (GC wr w.heap.size s A m c) ∧ Hid (GC wr qh Z A1 N c1) ∧ Hid (GO wr W.heap.size A1 N c1 Y) ∧ Hid (From w wr)) (fun _ i _ => nL - (intOf i).toNat)
  case atStart => exact ⟨0, _, Nat.zero_le _, rfl, rfl, rfl, rfl, HJ, HC, HD, HGo, HB⟩
  case round =>
    clear HJ HC HD HGo HB
    obtain ⟨k, S, hk, rfl, rfl, hS, HS, HJ, HC, HD, HGo, HB⟩ := hrel
    by_cases hlt : k < nL
    · have i1 : (k : Int) < (nL : Int) := by omega
      obtain ⟨g4, rfl, _, _, _, hc4, _⟩ := HJ.out.own.at_ (by rw [← HnL.out]; omega)
      have q0 := hc4 k (by rw [← HnL.out]; omega)
      have H1 : Hid (L.getD k false = true → S ++ ⟨#[49]⟩ = btJ L (k + 1)) := fun h => by rw [HS.out, btJ_yes h]
      have H0 : Hid (L.getD k false = false → S ++ ⟨#[48]⟩ = btJ L (k + 1)) := fun h => by rw [HS.out, btJ_no h]
      have hs2 : S.size ≤ 20 := by omega
      unfold blL at q0
      clear hc4 HS
      cases hb : L.getD k false
      · rw [hb] at q0
        have HX := Lib.hid (H0.out hb)
        have Hsz : Hid ((S ++ (⟨#[48]⟩ : ByteArray)).size = 7 + (k + 1)) := by show _ = _; rw [ByteArray.size_append]; show S.size + 1 = _; omega
        clear hb H1 H0
        go_wp2
        go_roundw
        case rel => exact ⟨k + 1, _, by omega, by go_num, rfl, Hsz.out, HX.out, HJ, HC, HD, HGo, HB⟩
        case measure => (simp [intOf] <;> omega)
      · rw [hb] at q0
        have HX := Lib.hid (H1.out hb)
        have Hsz : Hid ((S ++ (⟨#[49]⟩ : ByteArray)).size = 7 + (k + 1)) := by show _ = _; rw [ByteArray.size_append]; show S.size + 1 = _; omega
        clear hb H1 H0
        go_wp2
        go_roundw
        case rel => exact ⟨k + 1, _, by omega, by go_num, rfl, Hsz.out, HX.out, HJ, HC, HD, HGo, HB⟩
        case measure => (simp [intOf] <;> omega)
    · have i1 : (nL : Int) ≤ (k : Int) := by omega
      obtain rfl : k = nL := by omega
      obtain rfl : S = B := by rw [HS.out, HBt.out, ← HnL.out]
      have KG : Hid (∀ z : World, GO z W.heap.size A1 N c1 Y → Calls Tryz.prog 43 #[.agg #[.int .i64 Z, .slice A1 N c1]] z fun e w' => e = .returned (.string G) ∧ Below z.heap.size z w') := fun z hz => by
        rw [HGG.out]
        exact FormatGraph_i Z A1 N c1 Y z hz.own.rd hNm
      cases hf : flO L with
      | none =>
        have hfl := flI_none hf
        rw [hfl] at KF
        have HT := Lib.hid (HTn.out hf)
        have gd1 : ¬ 9223372036854775807 < S.size + 5 := by omega
        have gd2 : ¬ 9223372036854775807 < S.size + 5 + G.size := by omega
        clear hf hfl HTn HTs HFl HJ
        have e0 := HC.out.c0
        have e1 := HC.out.c1
        have d0 := HD.out.c0
        have d1 := HD.out.c1
        go_wp2_with fail
        refine (KF.out wr HB.out.below).mono ?_
        rintro e w8 ⟨rfl, hb8⟩
        clear e0 e1 d0 d1
        replace HB := Lib.hid (HB.out.keep hb8)
        replace HC := Lib.hid (HC.out.keep hb8)
        replace HD := Lib.hid (HD.out.keep hb8)
        replace HGo := Lib.hid (HGo.out.keep hb8)
        clear hb8
        have e0 := HC.out.c0
        have e1 := HC.out.c1
        have d0 := HD.out.c0
        have d1 := HD.out.c1
        go_wp2_with fail
        refine (KG.out w8 HGo.out).mono ?_
        rintro e w9 ⟨rfl, hb9⟩
        clear e0 e1 d0 d1
        replace HB := Lib.hid (HB.out.keep hb9)
        replace HC := Lib.hid (HC.out.keep hb9)
        replace HD := Lib.hid (HD.out.keep hb9)
        replace HGo := Lib.hid (HGo.out.keep hb9)
        clear hb9
        have e0 := HC.out.c0
        have e1 := HC.out.c1
        have d0 := HD.out.c0
        have d1 := HD.out.c1
        go_wp2
        go_ret
        exact ⟨by rw [HY.out, HT.out]; rfl, HB.out.below⟩
      | some j =>
        have hfl := flI_some hf
        rw [hfl] at KF
        have hjL := HFl.out j hf
        have HT := Lib.hid (HTs.out j hf)
        have hj0 : (0 : Int) ≤ (j : Int) := by omega
        have hjn : j < n := by omega
        obtain ⟨bl, ol, rfl, hbl, _⟩ := (HL.out wr HB.out.below).rd.2 (by omega)
        have hcl := (HL.out wr HB.out.below).rd.1
        have KE : Hid (∀ z : World, Below w.heap.size w z → Calls Tryz.prog 34 #[.slice (some ⟨bl, ol + j * 3, none⟩) 1 (cl - j)] z fun e w' => e = .returned (.string (jlF a v u j)) ∧ Below z.heap.size z w') := fun z hz => FormatEdits_i _ 1 (cl - j) _ _ _ z ((HL.out z hz).one hjn (cl - j) (by omega)) (by omega)
        have hjs : (jlF a v u j).size ≤ 48 := fmO_size
        obtain ⟨F, hF⟩ : ∃ F, F = jlF a v u j := ⟨_, rfl⟩
        rw [← hF] at KE HT hjs
        have gd0 : ¬ 9223372036854775807 < S.size + 6 := by omega
        have gd1 : ¬ 9223372036854775807 < S.size + 6 + F.size := by omega
        have gd2 : ¬ 9223372036854775807 < S.size + 6 + F.size + 5 := by omega
        have gd3 : ¬ 9223372036854775807 < S.size + 6 + F.size + 5 + G.size := by omega
        have gd4 : ¬ 9223372036854775807 < 6 + F.size := by omega
        have gd5 : ¬ 9223372036854775807 < S.size + (6 + F.size) := by omega
        have gd6 : ¬ 9223372036854775807 < S.size + (6 + F.size) + 5 := by omega
        have gd7 : ¬ 9223372036854775807 < S.size + (6 + F.size) + 5 + G.size := by omega
        clear hf hfl HTn HTs HFl HJ hF
        have e0 := HC.out.c0
        have e1 := HC.out.c1
        have d0 := HD.out.c0
        have d1 := HD.out.c1
        go_wp2_with fail
        refine (KF.out wr HB.out.below).mono ?_
        rintro e w8 ⟨rfl, hb8⟩
        clear e0 e1 d0 d1
        replace HB := Lib.hid (HB.out.keep hb8)
        replace HC := Lib.hid (HC.out.keep hb8)
        replace HD := Lib.hid (HD.out.keep hb8)
        replace HGo := Lib.hid (HGo.out.keep hb8)
        clear hb8
        have e0 := HC.out.c0
        have e1 := HC.out.c1
        have d0 := HD.out.c0
        have d1 := HD.out.c1
        go_wp2_with fail
        refine (KE.out w8 HB.out.below).mono ?_
        rintro e w9 ⟨rfl, hb9⟩
        clear e0 e1 d0 d1
        replace HB := Lib.hid (HB.out.keep hb9)
        replace HC := Lib.hid (HC.out.keep hb9)
        replace HD := Lib.hid (HD.out.keep hb9)
        replace HGo := Lib.hid (HGo.out.keep hb9)
        clear hb9
        have e0 := HC.out.c0
        have e1 := HC.out.c1
        have d0 := HD.out.c0
        have d1 := HD.out.c1
        go_wp2_with fail
        refine (KG.out w9 HGo.out).mono ?_
        rintro e w10 ⟨rfl, hb10⟩
        clear e0 e1 d0 d1
        replace HB := Lib.hid (HB.out.keep hb10)
        replace HC := Lib.hid (HC.out.keep hb10)
        replace HD := Lib.hid (HD.out.keep hb10)
        replace HGo := Lib.hid (HGo.out.keep hb10)
        clear hb10
        have e0 := HC.out.c0
        have e1 := HC.out.c1
        have d0 := HD.out.c0
        have d1 := HD.out.c1
        go_wp2
        go_ret
        exact ⟨by rw [HY.out, HT.out]; simp only [ByteArray.append_assoc]; rfl, HB.out.below⟩

set_option maxRecDepth 100000 in
set_option maxHeartbeats 3200000 in
theorem JournalLine_s (s : Int) (A : Option Addr) (m c : Nat) (x : Nat → Int) (Al : Option Addr) (n cl : Nat) (a : Nat → Bool) (v u : Nat → Int) (t : ByteArray) (w : World) (h : Rd w w.heap.size A m c x) (hl : RdE w w.heap.size Al n cl a v u) (hm : m ≤ 1048576) (hn : n ≤ 1048576) (ht : t.size ≤ 1048576) :
    Calls Tryz.prog 8 #[.agg #[.int .i64 s, .slice A m c], .slice Al n cl, .string t] w fun e w' => e = .returned (.string (jlB s m x n a v u t.toList)) ∧ Below w.heap.size w w' := by
  obtain ⟨W, hW⟩ : ∃ W : World, W = (w.alloc (Obj.cells #[Value.int IntKind.i64 s, Value.slice A m c] 29)) := ⟨_, rfl⟩
  have HB : Hid (From w W) := by rw [hW]; exact From.alloc _ _
  have HC : Hid (GC W w.heap.size s A m c) := by rw [hW]; exact GC.new _ _ _ _ _
  have HR : Hid (∀ z, Below w.heap.size w z → Rd z z.heap.size A m c x) := fun z hz => h.keep hz hz.size
  have HL : Hid (∀ z, Below w.heap.size w z → RE z Al n cl a v u) := fun z hz => ⟨hl.keep hz hz.size⟩
  have HW := Lib.hid hW
  clear hW h hl
  have KA : Hid (∀ z, Below w.heap.size w z → _) := fun z hz => ApplyEdits_s s A m c x Al n cl a v u z z.heap.size (HR.out z hz) (HL.out z hz).rd (Nat.le_refl _) hm hn
  cases ho : apD s m x n a v u
  · have HO := Lib.hid (jlB_no (t := t.toList) ho)
    have hN : apN s m x n a v u = 0 := by unfold apN; rw [ho]; rfl
    have hZ : apZ s m x n a v u = 0 := by unfold apZ; rw [ho]; rfl
    rw [ho, hN, hZ] at KA
    clear ho HR HL hN hZ
    go_enter Tryz.func8, Tryz.ntmps8
    have e0 := HC.out.c0
    have e1 := HC.out.c1
    go_wp2_with fail
    rw [← HW.out]
    clear HW
    refine (KA.out W HB.out.below).mono ?_
    rintro e w1 ⟨A1, c1, rfl, hO1, hb1⟩
    clear e0 e1
    replace HB := Lib.hid (HB.out.keep hb1)
    replace HC := Lib.hid (HC.out.keep hb1)
    clear hb1 hO1
    have e0 := HC.out.c0
    have e1 := HC.out.c1
    go_wp2
    go_ret
    exact ⟨by rw [HO.out]; rfl, HB.out.below.alloc HB.out.below.size _⟩
  have HY := Lib.hid (jlB_yes (t := t.toList) ho)
  have hN : apN s m x n a v u = m := by unfold apN; rw [ho]; rfl
  have h13 := meL_len (sz := s) (m := m) (x := x) (n := n) (a := a) (v := v) (u := u) (s := t.toList)
  have hln := meL_n (s := s) (m := m) (x := x) (n := n) (a := a) (v := v) (u := u) (t := t.toList)
  have KM : Hid (∀ z, Below w.heap.size w z → _) := fun z hz => MembershipOf_sL s A m c x Al n cl a v u t z z.heap.size (HR.out z hz) (HL.out z hz).rd (Nat.le_refl _) hm hn ht
  have KF : Hid (∀ z, Below w.heap.size w z → _) := fun z hz => FirstLoss_sL s A m c x Al n cl a v u t z z.heap.size (HR.out z hz) (HL.out z hz).rd (Nat.le_refl _) hm hn ht
  have hgs := fgB_size (s := apZ s m x n a v u) (m := apN s m x n a v u) (x := apY s m x n a v u)
  rw [ho] at KA
  obtain ⟨Z, hZ⟩ : ∃ Z, Z = apZ s m x n a v u := ⟨_, rfl⟩
  obtain ⟨N, hNN⟩ : ∃ Z, Z = apN s m x n a v u := ⟨_, rfl⟩
  obtain ⟨Y, hY⟩ : ∃ Z, Z = apY s m x n a v u := ⟨_, rfl⟩
  obtain ⟨L, hL⟩ : ∃ L, L = meL s m x n a v u t.toList := ⟨_, rfl⟩
  have hNm : N ≤ 1048576 := by rw [hNN, hN]; exact hm
  rw [← hZ, ← hNN, ← hY] at KA HY hgs
  rw [← hL] at HY KM KF h13 hln
  obtain ⟨G, hG⟩ : ∃ G, G = fgB Z N Y := ⟨_, rfl⟩
  rw [← hG] at HY hgs
  have HGG := Lib.hid hG
  obtain ⟨B, hBt⟩ : ∃ B, B = btJ L L.length := ⟨_, rfl⟩
  have HBt := Lib.hid hBt
  have HTn : Hid (flO L = none → jlT L a v u = B) := fun h => by rw [hBt]; exact jlT_none h
  have HTs : Hid (∀ k, flO L = some k → jlT L a v u = B ++ ⟨#[32, 108, 111, 115, 116, 32]⟩ ++ jlF a v u k) := fun k h => by rw [hBt]; exact jlT_some h
  have HFl : Hid (∀ k, flO L = some k → k + 1 < L.length) := fun k h => flO_lt h
  obtain ⟨Tt, hTt⟩ : ∃ T, T = jlT L a v u := ⟨_, rfl⟩
  rw [← hTt] at HY HTn HTs
  obtain ⟨nL, hnL⟩ : ∃ n, n = L.length := ⟨_, rfl⟩
  have HnL := Lib.hid hnL
  have hBs : B.size = 7 + nL := by rw [hBt, hnL]; exact btJ_size L _
  rw [← hnL] at KM h13 hln HFl
  clear ho hN hZ hNN hY hL hG hBt hTt hnL HR
  go_enter Tryz.func8, Tryz.ntmps8
  have e0 := HC.out.c0
  have e1 := HC.out.c1
  go_wp2_with fail
  rw [← HW.out]
  clear HW
  refine (KA.out W HB.out.below).mono ?_
  rintro e w3 ⟨A1, c1, rfl, hO1, hb1⟩
  clear e0 e1
  replace HB := Lib.hid (HB.out.keep hb1)
  replace HC := Lib.hid (HC.out.keep hb1)
  have e0 := HC.out.c0
  have e1 := HC.out.c1
  have HGo : Hid (GO w3 W.heap.size A1 N c1 Y) := ⟨hO1⟩
  obtain ⟨W2, hW2⟩ : ∃ z : World, z = w3.alloc (Obj.cells #[Value.int IntKind.i64 Z, Value.slice A1 N c1] 29) := ⟨_, rfl⟩
  have hb2 : Below w3.heap.size w3 W2 := by rw [hW2]; exact (Below.refl _ _).alloc (Nat.le_refl _) _
  have HD : Hid (GC W2 w3.heap.size Z A1 N c1) := by rw [hW2]; exact GC.new _ _ _ _ _
  obtain ⟨qh, hqh⟩ : ∃ q, q = w3.heap.size := ⟨_, rfl⟩
  rw [← hqh] at HD
  have HW2 := Lib.hid hW2
  have Hqh := Lib.hid hqh
  have hCl := HC.out.lt
  clear hb1 hO1 hW2 hqh
  go_wp2_with fail
  rw [← HW2.out]
  try rw [← Hqh.out]
  clear HW2 Hqh hCl e0 e1
  replace HB := Lib.hid (HB.out.keep hb2)
  replace HC := Lib.hid (HC.out.keep hb2)
  replace HGo := Lib.hid (HGo.out.keep hb2)
  clear hb2
  have e0 := HC.out.c0
  have e1 := HC.out.c1
  have d0 := HD.out.c0
  have d1 := HD.out.c1
  refine (KM.out W2 HB.out.below).mono ?_
  rintro e w4 ⟨A4, c4, rfl, hO4, hb4⟩
  clear e0 e1 d0 d1
  replace HB := Lib.hid (HB.out.keep hb4)
  replace HC := Lib.hid (HC.out.keep hb4)
  replace HD := Lib.hid (HD.out.keep hb4)
  replace HGo := Lib.hid (HGo.out.keep hb4)
  have e0 := HC.out.c0
  have e1 := HC.out.c1
  have d0 := HD.out.c0
  have d1 := HD.out.c1
  have HJ : Hid (JB w4 W2.heap.size A4 c4 L) := ⟨by rw [← HnL.out]; exact hO4⟩
  clear hO4 hb4 e0 e1 d0 d1
  go_wp2
  go_loopw [10, 11] (fun sl i wr => ∃ (k : Nat) (S : ByteArray), k ≤ nL ∧ i = .int .i64 k ∧ sl = .string S ∧ S.size = 7 + k ∧ Hid (S = btJ L k) ∧ Hid (JB wr W2.heap.size A4 c4 L) ∧ Hid (GC wr w.heap.size s A m c) ∧ Hid (GC wr qh Z A1 N c1) ∧ Hid (GO wr W.heap.size A1 N c1 Y) ∧ Hid (From w wr)) (fun _ i _ => nL - (intOf i).toNat)
  case atStart => exact ⟨0, _, Nat.zero_le _, rfl, rfl, rfl, rfl, HJ, HC, HD, HGo, HB⟩
  case round =>
    clear HJ HC HD HGo HB
    obtain ⟨k, S, hk, rfl, rfl, hS, HS, HJ, HC, HD, HGo, HB⟩ := hrel
    by_cases hlt : k < nL
    · have i1 : (k : Int) < (nL : Int) := by omega
      obtain ⟨g4, rfl, _, _, _, hc4, _⟩ := HJ.out.own.at_ (by rw [← HnL.out]; omega)
      have q0 := hc4 k (by rw [← HnL.out]; omega)
      have H1 : Hid (L.getD k false = true → S ++ ⟨#[49]⟩ = btJ L (k + 1)) := fun h => by rw [HS.out, btJ_yes h]
      have H0 : Hid (L.getD k false = false → S ++ ⟨#[48]⟩ = btJ L (k + 1)) := fun h => by rw [HS.out, btJ_no h]
      have hs2 : S.size ≤ 20 := by omega
      unfold blL at q0
      clear hc4 HS
      cases hb : L.getD k false
      · rw [hb] at q0
        have HX := Lib.hid (H0.out hb)
        have Hsz : Hid ((S ++ (⟨#[48]⟩ : ByteArray)).size = 7 + (k + 1)) := by show _ = _; rw [ByteArray.size_append]; show S.size + 1 = _; omega
        clear hb H1 H0
        go_wp2
        go_roundw
        case rel => exact ⟨k + 1, _, by omega, by go_num, rfl, Hsz.out, HX.out, HJ, HC, HD, HGo, HB⟩
        case measure => (simp [intOf] <;> omega)
      · rw [hb] at q0
        have HX := Lib.hid (H1.out hb)
        have Hsz : Hid ((S ++ (⟨#[49]⟩ : ByteArray)).size = 7 + (k + 1)) := by show _ = _; rw [ByteArray.size_append]; show S.size + 1 = _; omega
        clear hb H1 H0
        go_wp2
        go_roundw
        case rel => exact ⟨k + 1, _, by omega, by go_num, rfl, Hsz.out, HX.out, HJ, HC, HD, HGo, HB⟩
        case measure => (simp [intOf] <;> omega)
    · have i1 : (nL : Int) ≤ (k : Int) := by omega
      obtain rfl : k = nL := by omega
      obtain rfl : S = B := by rw [HS.out, HBt.out, ← HnL.out]
      have KG : Hid (∀ z : World, GO z W.heap.size A1 N c1 Y → Calls Tryz.prog 40 #[.agg #[.int .i64 Z, .slice A1 N c1]] z fun e w' => e = .returned (.string G) ∧ Below z.heap.size z w') := fun z hz => by
        rw [HGG.out]
        exact FormatGraph_s Z A1 N c1 Y z hz.own.rd hNm
      cases hf : flO L with
      | none =>
        have hfl := flI_none hf
        rw [hfl] at KF
        have HT := Lib.hid (HTn.out hf)
        have gd1 : ¬ 9223372036854775807 < S.size + 5 := by omega
        have gd2 : ¬ 9223372036854775807 < S.size + 5 + G.size := by omega
        clear hf hfl HTn HTs HFl HJ
        have e0 := HC.out.c0
        have e1 := HC.out.c1
        have d0 := HD.out.c0
        have d1 := HD.out.c1
        go_wp2_with fail
        refine (KF.out wr HB.out.below).mono ?_
        rintro e w8 ⟨rfl, hb8⟩
        clear e0 e1 d0 d1
        replace HB := Lib.hid (HB.out.keep hb8)
        replace HC := Lib.hid (HC.out.keep hb8)
        replace HD := Lib.hid (HD.out.keep hb8)
        replace HGo := Lib.hid (HGo.out.keep hb8)
        clear hb8
        have e0 := HC.out.c0
        have e1 := HC.out.c1
        have d0 := HD.out.c0
        have d1 := HD.out.c1
        go_wp2_with fail
        refine (KG.out w8 HGo.out).mono ?_
        rintro e w9 ⟨rfl, hb9⟩
        clear e0 e1 d0 d1
        replace HB := Lib.hid (HB.out.keep hb9)
        replace HC := Lib.hid (HC.out.keep hb9)
        replace HD := Lib.hid (HD.out.keep hb9)
        replace HGo := Lib.hid (HGo.out.keep hb9)
        clear hb9
        have e0 := HC.out.c0
        have e1 := HC.out.c1
        have d0 := HD.out.c0
        have d1 := HD.out.c1
        go_wp2
        go_ret
        exact ⟨by rw [HY.out, HT.out]; rfl, HB.out.below⟩
      | some j =>
        have hfl := flI_some hf
        rw [hfl] at KF
        have hjL := HFl.out j hf
        have HT := Lib.hid (HTs.out j hf)
        have hj0 : (0 : Int) ≤ (j : Int) := by omega
        have hjn : j < n := by omega
        obtain ⟨bl, ol, rfl, hbl, _⟩ := (HL.out wr HB.out.below).rd.2 (by omega)
        have hcl := (HL.out wr HB.out.below).rd.1
        have KE : Hid (∀ z : World, Below w.heap.size w z → Calls Tryz.prog 38 #[.slice (some ⟨bl, ol + j * 3, none⟩) 1 (cl - j)] z fun e w' => e = .returned (.string (jlF a v u j)) ∧ Below z.heap.size z w') := fun z hz => FormatEdits_s _ 1 (cl - j) _ _ _ z ((HL.out z hz).one hjn (cl - j) (by omega)) (by omega)
        have hjs : (jlF a v u j).size ≤ 48 := fmO_size
        obtain ⟨F, hF⟩ : ∃ F, F = jlF a v u j := ⟨_, rfl⟩
        rw [← hF] at KE HT hjs
        have gd0 : ¬ 9223372036854775807 < S.size + 6 := by omega
        have gd1 : ¬ 9223372036854775807 < S.size + 6 + F.size := by omega
        have gd2 : ¬ 9223372036854775807 < S.size + 6 + F.size + 5 := by omega
        have gd3 : ¬ 9223372036854775807 < S.size + 6 + F.size + 5 + G.size := by omega
        have gd4 : ¬ 9223372036854775807 < 6 + F.size := by omega
        have gd5 : ¬ 9223372036854775807 < S.size + (6 + F.size) := by omega
        have gd6 : ¬ 9223372036854775807 < S.size + (6 + F.size) + 5 := by omega
        have gd7 : ¬ 9223372036854775807 < S.size + (6 + F.size) + 5 + G.size := by omega
        clear hf hfl HTn HTs HFl HJ hF
        have e0 := HC.out.c0
        have e1 := HC.out.c1
        have d0 := HD.out.c0
        have d1 := HD.out.c1
        go_wp2_with fail
        refine (KF.out wr HB.out.below).mono ?_
        rintro e w8 ⟨rfl, hb8⟩
        clear e0 e1 d0 d1
        replace HB := Lib.hid (HB.out.keep hb8)
        replace HC := Lib.hid (HC.out.keep hb8)
        replace HD := Lib.hid (HD.out.keep hb8)
        replace HGo := Lib.hid (HGo.out.keep hb8)
        clear hb8
        have e0 := HC.out.c0
        have e1 := HC.out.c1
        have d0 := HD.out.c0
        have d1 := HD.out.c1
        go_wp2_with fail
        refine (KE.out w8 HB.out.below).mono ?_
        rintro e w9 ⟨rfl, hb9⟩
        clear e0 e1 d0 d1
        replace HB := Lib.hid (HB.out.keep hb9)
        replace HC := Lib.hid (HC.out.keep hb9)
        replace HD := Lib.hid (HD.out.keep hb9)
        replace HGo := Lib.hid (HGo.out.keep hb9)
        clear hb9
        have e0 := HC.out.c0
        have e1 := HC.out.c1
        have d0 := HD.out.c0
        have d1 := HD.out.c1
        go_wp2_with fail
        refine (KG.out w9 HGo.out).mono ?_
        rintro e w10 ⟨rfl, hb10⟩
        clear e0 e1 d0 d1
        replace HB := Lib.hid (HB.out.keep hb10)
        replace HC := Lib.hid (HC.out.keep hb10)
        replace HD := Lib.hid (HD.out.keep hb10)
        replace HGo := Lib.hid (HGo.out.keep hb10)
        clear hb10
        have e0 := HC.out.c0
        have e1 := HC.out.c1
        have d0 := HD.out.c0
        have d1 := HD.out.c1
        go_wp2
        go_ret
        exact ⟨by rw [HY.out, HT.out]; simp only [ByteArray.append_assoc]; rfl, HB.out.below⟩
section
variable (s1 : Int) (A1 : Option Addr) (m1 c1 : Nat) (x1 : Nat → Int) (A2 : Option Addr) (m2 c2 : Nat) (a2 : Nat → Bool) (v2 u2 : Nat → Int) (t3 : ByteArray) (w : World) (B : Nat)
theorem JournalLine_iL (h1 : Rd w B A1 m1 c1 x1) (h2 : RdE w B A2 m2 c2 a2 v2 u2) (hB : B ≤ w.heap.size) (hm1 : m1 ≤ 1048576) (hm2 : m2 ≤ 1048576) (ht : t3.size ≤ 1048576) (_ : Tb w) :
    Calls Tryz.prog 11 #[.agg #[.int .i64 s1, .slice A1 m1 c1], .slice A2 m2 c2, .string t3] w fun e w' => e = .returned (.string (jlB s1 m1 x1 m2 a2 v2 u2 t3.toList)) ∧ Below w.heap.size w w' :=
  JournalLine_i s1 A1 m1 c1 x1 A2 m2 c2 a2 v2 u2 t3 w (h1.keep (Below.refl _ _) hB) (h2.keep (Below.refl _ _) hB) hm1 hm2 ht
theorem JournalLine_sL (h1 : Rd w B A1 m1 c1 x1) (h2 : RdE w B A2 m2 c2 a2 v2 u2) (hB : B ≤ w.heap.size) (hm1 : m1 ≤ 1048576) (hm2 : m2 ≤ 1048576) (ht : t3.size ≤ 1048576) :
    Calls Tryz.prog 8 #[.agg #[.int .i64 s1, .slice A1 m1 c1], .slice A2 m2 c2, .string t3] w fun e w' => e = .returned (.string (jlB s1 m1 x1 m2 a2 v2 u2 t3.toList)) ∧ Below w.heap.size w w' :=
  JournalLine_s s1 A1 m1 c1 x1 A2 m2 c2 a2 v2 u2 t3 w (h1.keep (Below.refl _ _) hB) (h2.keep (Below.refl _ _) hB) hm1 hm2 ht
end
end Go.Proofs.YtppkokgiojcgbaaGreatDoor
