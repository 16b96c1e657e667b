/-
  Several texts in one.
-/
import Derived.Test.YticadlkcjhglnaaGreatQnOptS
import Derived.Test.YticadlkcjhglnaaGreatQnListS
import Derived.Test.YticadlkcjhglnaaGreatQnDrwJ
import Derived.Test.YticadlkcjhglnaaGreatQnSwP
import Derived.Test.YticadlkcjhglnaaGreatQnWbI
import Derived.Test.YticadlkcjhglnaaGreatQnCls
/-
-/
namespace Go.Proofs.YticadlkcjhglnaaGreat
open Go.ChangeShapes Go.WideShapes Go.ChangeAt Go.RowKit Go.Deep
structure BX (w : World) (A : Option Addr) (n c : Nat) : Prop where
 b : By w w.heap.size A n c
theorem BX.keep {w w' : World} {A : Option Addr} {n c : Nat} (h : BX w A n c) (hb : Below w.heap.size w w') : BX w' A n c := ⟨h.b.keep hb hb.size⟩
section
variable {H : Type} {enc : TypeId × Value → H} {w : World} {base : Nat} {spare : Nat → Bool} {held : Bool}
set_option maxRecDepth 100000 in
theorem open_bytes_arg {r : Reach} {b0 : Nat} {vv : Value} {d : DataW H} {p : List MemPlace} (_hv : Value.okWide Tryz.prog w r b0 22 vv)
 (h : DataW.Trod enc Tryz.prog w base spare held 22 vv d p) : ∃ A n c, vv = .slice A n c ∧ BX w A n c ∧ n ≤ maxLen := by
 obtain ⟨A0, n0, c0, rfl⟩ := okWide_slice Tryz.underlying22 _hv
 obtain ⟨fuel, hf⟩ := h
 rcases open_ints Tryz.underlying22 Tryz.underlying5 (by kernel_rfl) hf with ⟨hcs, _⟩ | ⟨a, l, c, zs, hcs, _, hl, hm, hz, _, hcell, hwz⟩
 ·simp [Value.cells] at hcs
  obtain ⟨rfl, rfl, rfl⟩ := hcs
  exact ⟨none, 0, 0, rfl, ⟨⟨Nat.le_refl _, fun h => absurd h (by omega)⟩⟩, Nat.zero_le _⟩
 ·simp [Value.cells] at hcs
  obtain ⟨rfl, rfl, rfl⟩ := hcs
  refine ⟨some a, n0, c0, rfl, ⟨⟨hl, fun hn => ?_⟩⟩, by omega⟩
  have hzl : n0 ≤ zs.length := by rw [hz]; split <;> omega
  obtain ⟨b, o, s⟩ := a
  have h0 := hcell 0 (by omega)
  have hs : s = none := by simpa [Addr.add] using World.cell?_spot h0
  subst hs
  have hadd : ∀ k, (⟨b, o, none⟩ : Addr).add k = ⟨b, o + k, none⟩ := fun k => by unfold Addr.add; split <;> simp_all
  simp only [hadd] at hcell h0
  refine ⟨b, o, rfl, World.block_lt_of_cell? w _ h0, fun j hj => ?_⟩
  have hj2 : j < zs.length := by omega
  have hb := bounds_u8 (hwz (zs.getD j 0) (by simp [List.getD, hj2]))
  refine ⟨(zs.getD j 0).toNat, by omega, ?_⟩
  rw [hcell j hj2, Int.toNat_of_nonneg hb.1]
end
theorem big_s (A : Option Addr) (n c : Nat) (w : World) (hn : n ≤ maxLen) :
 Calls Tryz.prog 5 #[.slice A n c] w fun e w' => e = .returned (.bool (decide (1048576 < n))) ∧ w' = w := by
 unfold maxLen at hn
 go_enter Tryz.func5, Tryz.ntmps5
 go_wp2
 go_ret
 exact ⟨ret_bool (decide_eq_decide.2 (by omega)), rfl⟩
end Go.Proofs.YticadlkcjhglnaaGreat

/-
-/
namespace Go.Proofs.YticadlkcjhglnaaGreat
open Go.RowKit
structure GX (W : World) (q : Nat) (s : Int) (A : Option Addr) (m c : Nat) (x : Nat → Int) : Prop where
 c0 : W.cell? ⟨q, 0, none⟩ = some (.int .i64 s)
 c1 : W.cell? ⟨q, 1, none⟩ = some (.slice A m c)
 a : GA W A m c x
section
variable {w w' : World} {q m1 c1 m2 c2 m3 c3 : Nat} {s1 s2 s3 : Int} {A1 A2 A3 : Option Addr} {x1 x2 x3 : Nat → Int}
theorem GX.keep (h : GX w q s1 A1 m1 c1 x1) (hb : Below w.heap.size w w') : GX w' q s1 A1 m1 c1 x1 := ⟨up hb h.c0 (World.block_lt_of_cell? _ _ h.c0), up hb h.c1 (World.block_lt_of_cell? _ _ h.c1), h.a.keep hb⟩
theorem GX.new (h : GA w A1 m1 c1 x1) : GX (w.alloc (Obj.cells #[Value.int .i64 s1, .slice A1 m1 c1] 26)) w.heap.size s1 A1 m1 c1 x1 :=
 ⟨by simp [go_sem], by simp [go_sem], h.keep ((Below.refl _ _).alloc (Nat.le_refl _) _)⟩
theorem GX.two (h1 : GA w A1 m1 c1 x1) (h2 : GA w A2 m2 c2 x2) :
 GX ((w.alloc (Obj.cells #[Value.int .i64 s1, .slice A1 m1 c1] 26)).alloc (Obj.cells #[Value.int .i64 s2, .slice A2 m2 c2] 26)) w.heap.size s1 A1 m1 c1 x1 ∧ GX ((w.alloc (Obj.cells #[Value.int .i64 s1, .slice A1 m1 c1] 26)).alloc (Obj.cells #[Value.int .i64 s2, .slice A2 m2 c2] 26)) (w.heap.size + 1) s2 A2 m2 c2 x2 ∧ Below w.heap.size w ((w.alloc (Obj.cells #[Value.int .i64 s1, .slice A1 m1 c1] 26)).alloc (Obj.cells #[Value.int .i64 s2, .slice A2 m2 c2] 26)) := by
 have hb : Below w.heap.size w ((w.alloc (Obj.cells #[Value.int .i64 s1, .slice A1 m1 c1] 26)).alloc (Obj.cells #[Value.int .i64 s2, .slice A2 m2 c2] 26)) := ((Below.refl _ _).alloc (Nat.le_refl _) _).alloc (by simp) _
 exact ⟨⟨by simp [go_sem], by simp [go_sem], h1.keep hb⟩, ⟨by simp [go_sem], by simp [go_sem], h2.keep hb⟩, hb⟩
theorem GX.three (h1 : GA w A1 m1 c1 x1) (h2 : GA w A2 m2 c2 x2) (h3 : GA w A3 m3 c3 x3) {W : World} (hW : W = (((w.alloc (Obj.cells #[Value.int .i64 s1, .slice A1 m1 c1] 26)).alloc (Obj.cells #[Value.int .i64 s2, .slice A2 m2 c2] 26)).alloc (Obj.cells #[Value.int .i64 s3, .slice A3 m3 c3] 26))) :
 GX W w.heap.size s1 A1 m1 c1 x1 ∧ GX W (w.heap.size + 1) s2 A2 m2 c2 x2 ∧ GX W (w.heap.size + 2) s3 A3 m3 c3 x3 ∧ Below w.heap.size w W := by
 have hb : Below w.heap.size w W := by rw [hW]; exact (((Below.refl _ _).alloc (Nat.le_refl _) _).alloc (by simp) _).alloc (by simp; omega) _
 refine ⟨⟨?_, ?_, h1.keep hb⟩, ⟨?_, ?_, h2.keep hb⟩, ⟨?_, ?_, h3.keep hb⟩, hb⟩ <;> (rw [hW]; simp [go_sem])
end
end Go.Proofs.YticadlkcjhglnaaGreat

/-
-/
namespace Go.Proofs.YticadlkcjhglnaaGreat
open Go.RowKit
def swQ (s1 : Int) (m1 : Nat) (x1 : Nat → Int) (s2 : Int) (m2 : Nat) (x2 : Nat → Int) (s : List UInt8) (w : World) (e : Ending) (w' : World) : Prop :=
 if wiB s1 m1 x1 s2 m2 x2 = true ∧ (swE (rw_ x1) (rw_ x2) m2).length ≤ 6 then
  ∃ A' c' D A2 c2, e = .returned (.tuple #[.slice A' (swE (rw_ x1) (rw_ x2) m2).length c', .slice A2 (sdwL (rw_ x1) m2 (swE (rw_ x1) (rw_ x2) m2) s).length c2, .bool true]) ∧ lists D = PrE (swE (rw_ x1) (rw_ x2) m2) ∧ OwnD w' w.heap.size w'.heap.size A' c' D ∧ ON w.heap.size w' A2 c2 (sdwL (rw_ x1) m2 (swE (rw_ x1) (rw_ x2) m2) s) ∧ Below w.heap.size w w'
 else e = .returned (.tuple #[.slice none 0 0, .slice none 0 0, .bool false]) ∧ Below w.heap.size w w'
section
variable (s1 : Int) (A1 : Option Addr) (m1 c1 : Nat) (x1 : Nat → Int) (s2 : Int) (A2 : Option Addr) (m2 c2 : Nat) (x2 : Nat → Int) (str : ByteArray) (w : World)
set_option maxRecDepth 100000 in
set_option maxHeartbeats 6400000 in
theorem sandwiches_i (h1 : GA w A1 m1 c1 x1) (h2 : GA w A2 m2 c2 x2) (hm1 : m1 ≤ 1048576) (hm2 : m2 ≤ 1048576) :
 Calls Tryz.prog 46 #[.agg #[.int .i64 s1, .slice A1 m1 c1], .agg #[.int .i64 s2, .slice A2 m2 c2], .string str] w (swQ s1 m1 x1 s2 m2 x2 str.toList w) := by
 obtain ⟨W, hW⟩ : ∃ W : World, W = ((w.alloc (Obj.cells #[Value.int IntKind.i64 s1, Value.slice A1 m1 c1] 26)).alloc (Obj.cells #[Value.int IntKind.i64 s2, Value.slice A2 m2 c2] 26)) := ⟨_, rfl⟩
 have HB : Hid (From w W) := by rw [hW]; exact (From.alloc _ _).alloc_ _
 have HK1 := Lib.hid (h1.keep HB.out.below)
 have HK2 := Lib.hid (h2.keep HB.out.below)
 have HC1 : Hid (GC W w.heap.size s1 A1 m1 c1) := by rw [hW]; exact (GC.new _ _ _ _ _).keep ((Below.refl _ _).alloc (Nat.le_refl _) _)
 have HC2 : Hid (GC W (w.heap.size + 1) s2 A2 m2 c2) := by
  rw [hW]
  have := GC.new (w.alloc (Obj.cells #[Value.int IntKind.i64 s1, Value.slice A1 m1 c1] 26)) s2 A2 m2 c2
  show GC _ _ _ _ _ _
  simpa using this
 have HW := Lib.hid hW
 have KO := Lib.hid (OptionalEdges_i s1 A1 m1 c1 x1 s2 A2 m2 c2 x2 W W.heap.size HK1.out.rd HK2.out.rd (Nat.le_refl _) hm1 hm2)
 obtain ⟨wi, hwi⟩ : ∃ wi, wi = wiB s1 m1 x1 s2 m2 x2 := ⟨_, rfl⟩
 rw [← hwi] at KO
 have Hwi : Hid (wi = wiB s1 m1 x1 s2 m2 x2) := hwi
 clear hW h1 h2 hwi
 cases wi
 ·have Hq : Hid (∀ e w', e = .returned (.tuple #[.slice none 0 0, .slice none 0 0, .bool false]) → Below w.heap.size w w' → swQ s1 m1 x1 s2 m2 x2 str.toList w e w') := fun e w' h1 h2 => by
   unfold swQ
   rw [if_neg (fun h => by rw [← Hwi.out] at h; exact absurd h.1 (by simp))]
   exact ⟨h1, h2⟩
  go_enter Tryz.func46, Tryz.ntmps46
  have e0 := HC1.out.c0
  have e1 := HC1.out.c1
  have e2 := HC2.out.c0
  have e3 := HC2.out.c1
  go_wp2_with fail
  rw [← HW.out]
  clear HW
  refine KO.out.mono ?_
  rintro e w1 ⟨A', c', D, rfl, _, _, hb1⟩
  clear e0 e1 e2 e3
  replace HB := Lib.hid (HB.out.keep hb1)
  replace HC1 := Lib.hid (HC1.out.keep hb1)
  replace HC2 := Lib.hid (HC2.out.keep hb1)
  clear hb1 KO
  have e0 := HC1.out.c0
  have e1 := HC1.out.c1
  have e2 := HC2.out.c0
  have e3 := HC2.out.c1
  go_wp2
  go_ret3
  exact Hq.out _ _ rfl HB.out.below
 ·obtain ⟨ho1, ho2, hmm, es1, es2, hopt⟩ := sw_within Hwi.out.symm
  subst hmm
  subst es1
  subst es2
  rw [hopt] at KO
  have hg1 := HK1.out.gv ho1
  have hn7 := hg1.vg.n7
  have HEN := Lib.hid (swE_new (rw_ x1) (rw_ x2) m1)
  have hl21 := swE_len (r := rw_ x1) (s := rw_ x2) hn7
  have Hqy : Hid ((swE (rw_ x1) (rw_ x2) m1).length ≤ 6 → ∀ e w', (∃ A' c' D A2 c2, e = .returned (.tuple #[.slice A' (swE (rw_ x1) (rw_ x2) m1).length c', .slice A2 (sdwL (rw_ x1) m1 (swE (rw_ x1) (rw_ x2) m1) str.toList).length c2, .bool true]) ∧ lists D = PrE (swE (rw_ x1) (rw_ x2) m1) ∧ OwnD w' w.heap.size w'.heap.size A' c' D ∧ ON w.heap.size w' A2 c2 (sdwL (rw_ x1) m1 (swE (rw_ x1) (rw_ x2) m1) str.toList) ∧ Below w.heap.size w w') → swQ (m1 : Int) m1 x1 (m1 : Int) m1 x2 str.toList w e w') := fun h6 e w' h => by
   unfold swQ
   rw [if_pos ⟨Hwi.out.symm, h6⟩]
   exact h
  have Hqn : Hid (¬ (swE (rw_ x1) (rw_ x2) m1).length ≤ 6 → ∀ e w', e = .returned (.tuple #[.slice none 0 0, .slice none 0 0, .bool false]) → Below w.heap.size w w' → swQ (m1 : Int) m1 x1 (m1 : Int) m1 x2 str.toList w e w') := fun h6 e w' h1 h2 => by
   unfold swQ
   rw [if_neg (fun h => h6 h.2)]
   exact ⟨h1, h2⟩
  have HG : Hid (GV W A1 m1 c1 (rw_ x1)) := hg1
  obtain ⟨r, hr⟩ : ∃ r, r = rw_ x1 := ⟨_, rfl⟩
  rw [← hr] at KO HEN hl21 Hqy Hqn HG
  obtain ⟨E, hE⟩ : ∃ E, E = swE r (rw_ x2) m1 := ⟨_, rfl⟩
  rw [← hE] at KO HEN hl21 Hqy Hqn
  have HfinL : Hid (sdwL r m1 E str.toList = sdwK r m1 E str.toList (2 ^ E.length)) := rfl
  clear hopt hg1 hr hE HK1 HK2 ho1 ho2
  go_enter Tryz.func46, Tryz.ntmps46
  have e0 := HC1.out.c0
  have e1 := HC1.out.c1
  have e2 := HC2.out.c0
  have e3 := HC2.out.c1
  go_wp2_with fail
  rw [← HW.out]
  clear HW
  refine KO.out.mono ?_
  rintro e w1 ⟨A', c', D, rfl, hld, hod, hb1⟩
  have hlen := lists_lenE hld
  rw [hlen]
  have HL := Lib.hid hld
  have hWz := HB.out.below.size
  have hz1 := hb1.size
  have HD1 := Lib.hid hod
  clear e0 e1 e2 e3
  replace HB := Lib.hid (HB.out.keep hb1)
  replace HG := Lib.hid (HG.out.keep hb1)
  replace HC1 := Lib.hid (HC1.out.keep hb1)
  replace HC2 := Lib.hid (HC2.out.keep hb1)
  clear hb1 KO hod hld hlen
  have e0 := HC1.out.c0
  have e1 := HC1.out.c1
  have e2 := HC2.out.c0
  have e3 := HC2.out.c1
  by_cases h6 : E.length ≤ 6
  ·have i6 : (E.length : Int) ≤ 6 := by omega
   have Hy := Lib.hid (Hqy.out h6)
   have h2l := Nat.pow_le_pow_right (n := 2) (by omega) h6
   have h2p := Nat.two_pow_pos E.length
   have ps := pow_shl E.length (by omega)
   obtain ⟨F, hF⟩ : ∃ F, F = 2 ^ E.length := ⟨_, rfl⟩
   have pF : IntKind.i64.wrap ((2 : Int) ^ E.length) = (F : Int) := by rw [ps, hF]; simp
   rw [← hF] at HfinL h2l h2p
   have hF64 : F ≤ 64 := h2l
   obtain ⟨W2, hW2⟩ : ∃ W2 : World, W2 = w1.alloc (Obj.cells #[] 3) := ⟨_, rfl⟩
   have hb2 : Below w1.heap.size w1 W2 := by rw [hW2]; exact (Below.refl _ _).alloc (Nat.le_refl _) _
   have HO2 : Hid (ON w1.heap.size W2 (some ⟨w1.heap.size, 0, none⟩) 0 (sdwK r m1 E str.toList 0)) := by rw [hW2]; exact ON.nil w1
   have Hl0 : Hid ((sdwK r m1 E str.toList 0).length = 0) := rfl
   have HW2 := Lib.hid hW2
   have hz2 := hb2.size
   have HR2 : Hid (From w1 W2) := ⟨hb2⟩
   have HBq := HB
   have HGq := HG
   have HC1q := HC1
   clear hW2 hF ps Hqn Hqy hb2
   go_wp2
   rw [← HW2.out]
   clear HW2 e0 e1 e2 e3
   go_loopw [11, 30] (fun o i wr => ∃ (k : Nat) (A3 : Option Addr) (c3 : Nat), k ≤ F ∧ i = .int .i64 k ∧ o = .slice A3 (sdwK r m1 E str.toList k).length c3 ∧ Hid (ON w1.heap.size wr A3 c3 (sdwK r m1 E str.toList k)) ∧ Hid (From w1 wr)) (fun _ i _ => F - (intOf i).toNat)
   case atStart => exact ⟨0, _, 0, Nat.zero_le _, rfl, by rw [Hl0.out], HO2, HR2⟩
   case round =>
    clear HO2 HR2 Hl0 HB HG HC1 HC2
    obtain ⟨k, A3, c3, hk, rfl, rfl, HO, HR⟩ := hrel
    have HB := Lib.hid (HBq.out.up HR.out)
    have HG := Lib.hid (HGq.out.keep HR.out.below)
    have HC1 := Lib.hid (HC1q.out.keep HR.out.below)
    have hml := sdwK_len (r := r) (m := m1) (E := E) (s := str.toList) k
    have hzr := HR.out.below.size
    have HDr : Hid (OwnD wr W.heap.size w1.heap.size A' c' D) := HD1.out.keepB HR.out.below (Nat.le_refl _)
    by_cases hkf : k < F
    ·have i1 : (k : Int) < (F : Int) := by omega
     have KW := Lib.hid (withBits_v HG.out HEN.out (show k < 16777216 by omega) hl21 HDr.out hzr HL.out)
     have Hno : Hid (sdwB r m1 E str.toList k = false → sdwK r m1 E str.toList (k + 1) = sdwK r m1 E str.toList k) := fun h => sdwK_no h
     have Hyes : Hid (sdwB r m1 E str.toList k = true → sdwK r m1 E str.toList (k + 1) = sdwK r m1 E str.toList k ++ [k]) := fun h => sdwK_yes h
     have KI : Hid (∀ {z : World} {A' : Option Addr} {c' : Nat}, GV z A' m1 c' (wbR r E k E.length) → Calls Tryz.prog 91 #[.agg #[.int .i64 m1, .slice A' m1 c'], .string str] z fun e w' => e = .returned (.bool (sdwB r m1 E str.toList k)) ∧ Below z.heap.size z w') := fun h => IsIn_v h str
     obtain ⟨b, hb⟩ : ∃ b, b = sdwB r m1 E str.toList k := ⟨_, rfl⟩
     rw [← hb] at Hno Hyes KI
     obtain ⟨R, hR⟩ : ∃ R, R = wbR r E k E.length := ⟨_, rfl⟩
     rw [← hR] at KW KI
     obtain ⟨T, hT⟩ : ∃ T, T = sdwK r m1 E str.toList k := ⟨_, rfl⟩
     rw [← hT] at Hno Hyes HO hml ⊢
     clear hb hR hT HDr
     have e0 := HC1.out.c0
     have e1 := HC1.out.c1
     go_wp2_with fail
     refine KW.out.mono ?_
     rintro e w2 ⟨A5, c5, rfl, hg5, _, hb2⟩
     have KJ := Lib.hid (KI.out hg5)
     clear e0 e1
     replace HR := Lib.hid (HR.out.keep hb2)
     replace HB := Lib.hid (HB.out.keep hb2)
     replace HO := Lib.hid (HO.out.keep hb2)
     replace HC1 := Lib.hid (HC1.out.keep hb2)
     clear hb2 hg5 KW KI
     have e0 := HC1.out.c0
     have e1 := HC1.out.c1
     go_wp2_with fail
     refine KJ.out.mono ?_
     rintro e w3 ⟨rfl, hb3⟩
     clear e0 e1
     replace HR := Lib.hid (HR.out.keep hb3)
     replace HB := Lib.hid (HB.out.keep hb3)
     replace HO := Lib.hid (HO.out.keep hb3)
     replace HC1 := Lib.hid (HC1.out.keep hb3)
     clear hb3 KJ
     have e0 := HC1.out.c0
     have e1 := HC1.out.c1
     have hz3 := HR.out.below.size
     cases b
     ·have Hn := Lib.hid (Hno.out rfl)
      go_wp2
      go_roundw
      case rel => exact ⟨k + 1, A3, c3, by omega, by go_num, by rw [Hn.out], by rw [Hn.out]; exact HO, HR⟩
      case measure => (simp [intOf] <;> omega)
     ·have Hn := Lib.hid (Hyes.out rfl)
      go_wp2_with (first | (at_builtin; (refine wpList_pushN w3 rfl _ _ rfl w1.heap.size w3.heap.size A3 c3 T HO.out.own hz3 k rfl 1 w3.heap.size rfl rfl (by omega) ?_; intro g4 c4 w4 hO4 hb4)))
      have HOn : Hid (ON w1.heap.size w4 (some ⟨g4, 0, none⟩) c4 (T ++ [k])) := ⟨by rw [List.length_append]; exact hO4⟩
      have HRn : Hid (From w1 w4) := ⟨HR.out.below.trans hb4⟩
      clear hO4 hb4
      go_roundw
      case rel => exact ⟨k + 1, _, _, by omega, by go_num, by rw [Hn.out, List.length_append]; rfl, by rw [Hn.out]; exact HOn, HRn⟩
      case measure => (simp [intOf] <;> omega)
    ·obtain rfl : k = F := by omega
     rw [← HfinL.out] at HO ⊢
     clear hml
     go_wp2
     go_ret3
     exact Hy.out _ _ ⟨_, _, D, _, _, rfl, HL.out, HDr.out.mono hWz hzr, HO.out.mono (by omega), HB.out.below⟩
  ·have i6 : (6 : Int) < (E.length : Int) := by omega
   have Hn := Lib.hid (Hqn.out h6)
   go_wp2
   go_ret3
   exact Hn.out _ _ rfl HB.out.below
noncomputable def csI (s1 : Int) (m1 : Nat) (x1 : Nat → Int) (s2 : Int) (m2 : Nat) (x2 : Nat → Int) (s : List UInt8) : Int :=
 if wiB s1 m1 x1 s2 m2 x2 = true ∧ (swE (rw_ x1) (rw_ x2) m2).length ≤ 6 then ((sdwL (rw_ x1) m2 (swE (rw_ x1) (rw_ x2) m2) s).length : Int) else -1
structure TwoG (z : World) (q : Nat) (s1 : Int) (A1 : Option Addr) (m1 c1 : Nat) (s2 : Int) (A2 : Option Addr) (m2 c2 : Nat) : Prop where
 g1 : GC z q s1 A1 m1 c1
 g2 : GC z (q + 1) s2 A2 m2 c2
theorem TwoG.keep {z z' : World} {q : Nat} {s1 : Int} {A1 : Option Addr} {m1 c1 : Nat} {s2 : Int} {A2 : Option Addr} {m2 c2 : Nat} (h : TwoG z q s1 A1 m1 c1 s2 A2 m2 c2) (hb : Below z.heap.size z z') : TwoG z' q s1 A1 m1 c1 s2 A2 m2 c2 := ⟨h.g1.keep hb, h.g2.keep hb⟩
theorem TwoG.new (w : World) (s1 : Int) (A1 : Option Addr) (m1 c1 : Nat) (s2 : Int) (A2 : Option Addr) (m2 c2 : Nat) : TwoG ((w.alloc (Obj.cells #[Value.int IntKind.i64 s1, Value.slice A1 m1 c1] 26)).alloc (Obj.cells #[Value.int IntKind.i64 s2, Value.slice A2 m2 c2] 26)) w.heap.size s1 A1 m1 c1 s2 A2 m2 c2 := by
 refine ⟨(GC.new _ _ _ _ _).keep ((Below.refl _ _).alloc (Nat.le_refl _) _), ?_⟩
 have := GC.new (w.alloc (Obj.cells #[Value.int IntKind.i64 s1, Value.slice A1 m1 c1] 26)) s2 A2 m2 c2
 simpa using this
set_option maxRecDepth 100000 in
set_option maxHeartbeats 3200000 in
theorem CountSandwiches_i (h1 : GA w A1 m1 c1 x1) (h2 : GA w A2 m2 c2 x2) (hm1 : m1 ≤ 1048576) (hm2 : m2 ≤ 1048576) :
 Calls Tryz.prog 9 #[.agg #[.int .i64 s1, .slice A1 m1 c1], .agg #[.int .i64 s2, .slice A2 m2 c2], .string str] w fun e w' => e = .returned (.int .i64 (csI s1 m1 x1 s2 m2 x2 str.toList)) ∧ Below w.heap.size w w' := by
 obtain ⟨W, hW⟩ : ∃ W : World, W = ((w.alloc (Obj.cells #[Value.int IntKind.i64 s1, Value.slice A1 m1 c1] 26)).alloc (Obj.cells #[Value.int IntKind.i64 s2, Value.slice A2 m2 c2] 26)) := ⟨_, rfl⟩
 have HB : Hid (From w W) := by rw [hW]; exact (From.alloc _ _).alloc_ _
 have HK1 := Lib.hid (h1.keep HB.out.below)
 have HK2 := Lib.hid (h2.keep HB.out.below)
 have HC : Hid (TwoG W w.heap.size s1 A1 m1 c1 s2 A2 m2 c2) := by rw [hW]; exact TwoG.new _ _ _ _ _ _ _ _ _
 have HW := Lib.hid hW
 have KS := sandwiches_i s1 A1 m1 c1 x1 s2 A2 m2 c2 x2 str W HK1.out HK2.out hm1 hm2
 unfold swQ at KS
 have Hd : Hid (csI s1 m1 x1 s2 m2 x2 str.toList = if wiB s1 m1 x1 s2 m2 x2 = true ∧ (swE (rw_ x1) (rw_ x2) m2).length ≤ 6 then ((sdwL (rw_ x1) m2 (swE (rw_ x1) (rw_ x2) m2) str.toList).length : Int) else -1) := rfl
 clear hW h1 h2
 have b0 := HC.out.g1.c0
 have b1 := HC.out.g1.c1
 have b2 := HC.out.g2.c0
 have b3 := HC.out.g2.c1
 by_cases hc : wiB s1 m1 x1 s2 m2 x2 = true ∧ (swE (rw_ x1) (rw_ x2) m2).length ≤ 6
 ·have Hn : Hid (csI s1 m1 x1 s2 m2 x2 str.toList = ((sdwL (rw_ x1) m2 (swE (rw_ x1) (rw_ x2) m2) str.toList).length : Int)) := by show _ = _; rw [Hd.out, if_pos hc]
  simp only [if_pos hc] at KS
  replace KS := Lib.hid KS
  obtain ⟨L, hL⟩ : ∃ L, L = sdwL (rw_ x1) m2 (swE (rw_ x1) (rw_ x2) m2) str.toList := ⟨_, rfl⟩
  rw [← hL] at KS Hn
  clear hc Hd hL
  go_enter Tryz.func9, Tryz.ntmps9
  go_wp2_with fail
  rw [← HW.out]
  clear HW
  refine KS.out.mono ?_
  rintro e w1 ⟨A', c', D, A3, c3, rfl, _, _, _, hb1⟩
  replace HB := Lib.hid (HB.out.keep hb1)
  clear hb1 KS
  go_wp2
  go_ret
  exact ⟨ret_int Hn.out.symm, HB.out.below⟩
 ·have Hn : Hid (csI s1 m1 x1 s2 m2 x2 str.toList = -1) := by show _ = _; rw [Hd.out, if_neg hc]
  simp only [if_neg hc] at KS
  replace KS := Lib.hid KS
  clear hc Hd
  go_enter Tryz.func9, Tryz.ntmps9
  go_wp2_with fail
  rw [← HW.out]
  clear HW
  refine KS.out.mono ?_
  rintro e w1 ⟨rfl, hb1⟩
  replace HB := Lib.hid (HB.out.keep hb1)
  clear hb1 KS
  go_wp2
  go_ret
  exact ⟨ret_int Hn.out.symm, HB.out.below⟩
end
end Go.Proofs.YticadlkcjhglnaaGreat

/-
-/
namespace Go.Proofs.YticadlkcjhglnaaGreat
open Go.RowKit
section
variable (s1 : Int) (A1 : Option Addr) (m1 c1 : Nat) (x1 : Nat → Int) (s2 : Int) (A2 : Option Addr) (m2 c2 : Nat) (x2 : Nat → Int) (str : ByteArray) (w : World)
set_option maxRecDepth 100000 in
set_option maxHeartbeats 6400000 in
theorem CountSandwiches_s (h1 : GA w A1 m1 c1 x1) (h2 : GA w A2 m2 c2 x2) (hm1 : m1 ≤ 1048576) (hm2 : m2 ≤ 1048576) :
 Calls Tryz.prog 13 #[.agg #[.int .i64 s1, .slice A1 m1 c1], .agg #[.int .i64 s2, .slice A2 m2 c2], .string str] w fun e w' => e = .returned (.int .i64 (csI s1 m1 x1 s2 m2 x2 str.toList)) ∧ Below w.heap.size w w' := by
 obtain ⟨W, hW⟩ : ∃ W : World, W = ((w.alloc (Obj.cells #[Value.int IntKind.i64 s1, Value.slice A1 m1 c1] 26)).alloc (Obj.cells #[Value.int IntKind.i64 s2, Value.slice A2 m2 c2] 26)) := ⟨_, rfl⟩
 have HB : Hid (From w W) := by rw [hW]; exact (From.alloc _ _).alloc_ _
 have HK1 := Lib.hid (h1.keep HB.out.below)
 have HK2 := Lib.hid (h2.keep HB.out.below)
 have HC : Hid (TwoG W w.heap.size s1 A1 m1 c1 s2 A2 m2 c2) := by rw [hW]; exact TwoG.new _ _ _ _ _ _ _ _ _
 have HW := Lib.hid hW
 have KO := Lib.hid (OptionalEdges_s s1 A1 m1 c1 x1 s2 A2 m2 c2 x2 W W.heap.size HK1.out.rd HK2.out.rd (Nat.le_refl _) hm1 hm2)
 have Hd : Hid (csI s1 m1 x1 s2 m2 x2 str.toList = if wiB s1 m1 x1 s2 m2 x2 = true ∧ (swE (rw_ x1) (rw_ x2) m2).length ≤ 6 then ((sdwL (rw_ x1) m2 (swE (rw_ x1) (rw_ x2) m2) str.toList).length : Int) else -1) := rfl
 obtain ⟨wi, hwi⟩ : ∃ wi, wi = wiB s1 m1 x1 s2 m2 x2 := ⟨_, rfl⟩
 rw [← hwi] at KO
 have Hwi : Hid (wi = wiB s1 m1 x1 s2 m2 x2) := hwi
 clear hW h1 h2 hwi
 have b0 := HC.out.g1.c0
 have b1 := HC.out.g1.c1
 have b2 := HC.out.g2.c0
 have b3 := HC.out.g2.c1
 cases wi
 ·have Hn : Hid (csI s1 m1 x1 s2 m2 x2 str.toList = -1) := by show _ = _; rw [Hd.out, if_neg (fun h => by rw [← Hwi.out] at h; exact absurd h.1 (by simp))]
  clear Hd
  go_enter Tryz.func13, Tryz.ntmps13
  go_wp2_with fail
  rw [← HW.out]
  clear HW
  refine KO.out.mono ?_
  rintro e w1 ⟨A', c', D, rfl, _, _, hb1⟩
  replace HB := Lib.hid (HB.out.keep hb1)
  clear hb1 KO
  go_wp2
  go_ret
  exact ⟨ret_int Hn.out.symm, HB.out.below⟩
 ·obtain ⟨ho1, ho2, hmm, es1, es2, hopt⟩ := sw_within Hwi.out.symm
  subst hmm
  subst es1
  subst es2
  rw [hopt] at KO
  have hg1 := HK1.out.gv ho1
  have hn7 := hg1.vg.n7
  have HEN := Lib.hid (swE_new (rw_ x1) (rw_ x2) m1)
  have hl21 := swE_len (r := rw_ x1) (s := rw_ x2) hn7
  have Hy0 : Hid ((swE (rw_ x1) (rw_ x2) m1).length ≤ 6 → csI (m1 : Int) m1 x1 (m1 : Int) m1 x2 str.toList = ((sdwL (rw_ x1) m1 (swE (rw_ x1) (rw_ x2) m1) str.toList).length : Int)) := fun h6 => by rw [Hd.out, if_pos ⟨Hwi.out.symm, h6⟩]
  have Hn0 : Hid (¬ (swE (rw_ x1) (rw_ x2) m1).length ≤ 6 → csI (m1 : Int) m1 x1 (m1 : Int) m1 x2 str.toList = -1) := fun h6 => by rw [Hd.out, if_neg (fun h => h6 h.2)]
  have HG : Hid (GV W A1 m1 c1 (rw_ x1)) := hg1
  obtain ⟨r, hr⟩ : ∃ r, r = rw_ x1 := ⟨_, rfl⟩
  rw [← hr] at KO HEN hl21 Hy0 Hn0 HG
  obtain ⟨E, hE⟩ : ∃ E, E = swE r (rw_ x2) m1 := ⟨_, rfl⟩
  rw [← hE] at KO HEN hl21 Hy0 Hn0
  have HfinL : Hid (sdwL r m1 E str.toList = sdwK r m1 E str.toList (2 ^ E.length)) := rfl
  clear hopt hg1 hr hE HK1 HK2 ho1 ho2 Hd
  go_enter Tryz.func13, Tryz.ntmps13
  go_wp2_with fail
  rw [← HW.out]
  clear HW b0 b1 b2 b3
  refine KO.out.mono ?_
  rintro e w1 ⟨A', c', D, rfl, hld, hod, hb1⟩
  have hlen := lists_lenE hld
  rw [hlen]
  have HL := Lib.hid hld
  have HD1 := Lib.hid hod
  have HC1 := Lib.hid (HC.out.g1.keep hb1)
  have HB1 := Lib.hid (HB.out.keep hb1)
  have HG1 := Lib.hid (HG.out.keep hb1)
  clear hb1 KO hod hld hlen HC HB HG
  by_cases h6 : E.length ≤ 6
  ·have i6 : (E.length : Int) ≤ 6 := by omega
   have Hy := Lib.hid (Hy0.out h6)
   have h2l := Nat.pow_le_pow_right (n := 2) (by omega) h6
   have ps := pow_shl E.length (by omega)
   obtain ⟨F, hF⟩ : ∃ F, F = 2 ^ E.length := ⟨_, rfl⟩
   have pF : IntKind.i64.wrap ((2 : Int) ^ E.length) = (F : Int) := by rw [ps, hF]; simp
   rw [← hF] at HfinL h2l
   have hF64 : F ≤ 64 := h2l
   have Hl0 : Hid ((sdwK r m1 E str.toList 0).length = 0) := rfl
   clear hF ps Hn0 Hy0
   go_wp2
   go_loopw [9, 10] (fun n i wr => ∃ k : Nat, k ≤ F ∧ i = .int .i64 k ∧ n = .int .i64 ((sdwK r m1 E str.toList k).length : Nat) ∧ Hid (From w1 wr)) (fun _ i _ => F - (intOf i).toNat)
   case atStart => exact ⟨0, Nat.zero_le _, rfl, by rw [Hl0.out]; rfl, From.refl _⟩
   case round =>
    obtain ⟨k, hk, rfl, rfl, HR⟩ := hrel
    have HB := Lib.hid (HB1.out.up HR.out)
    have HG := Lib.hid (HG1.out.keep HR.out.below)
    have HC := Lib.hid (HC1.out.keep HR.out.below)
    have hml := sdwK_len (r := r) (m := m1) (E := E) (s := str.toList) k
    have hzr := HR.out.below.size
    have HDr : Hid (OwnD wr W.heap.size w1.heap.size A' c' D) := HD1.out.keepB HR.out.below (Nat.le_refl _)
    by_cases hkf : k < F
    ·have i1 : (k : Int) < (F : Int) := by omega
     have KW := Lib.hid (l31With_sv HG.out HEN.out (show k < 16777216 by omega) hl21 HDr.out hzr HL.out)
     have Hno : Hid (sdwB r m1 E str.toList k = false → (sdwK r m1 E str.toList (k + 1)).length = (sdwK r m1 E str.toList k).length) := fun h => by rw [sdwK_no h]
     have Hyes : Hid (sdwB r m1 E str.toList k = true → (sdwK r m1 E str.toList (k + 1)).length = (sdwK r m1 E str.toList k).length + 1) := fun h => by rw [sdwK_yes h, List.length_append]; rfl
     have KI : Hid (∀ {z : World} {A' : Option Addr} {c' : Nat}, GV z A' m1 c' (wbR r E k E.length) → Calls Tryz.prog 16 #[.agg #[.int .i64 m1, .slice A' m1 c'], .string str] z fun e w' => e = .returned (.bool (sdwB r m1 E str.toList k)) ∧ Below z.heap.size z w') := fun h => IsIn_sv h str
     obtain ⟨b, hb⟩ : ∃ b, b = sdwB r m1 E str.toList k := ⟨_, rfl⟩
     rw [← hb] at Hno Hyes KI
     obtain ⟨R, hR⟩ : ∃ R, R = wbR r E k E.length := ⟨_, rfl⟩
     rw [← hR] at KW KI
     obtain ⟨T, hT⟩ : ∃ T, T = (sdwK r m1 E str.toList k).length := ⟨_, rfl⟩
     rw [← hT] at Hno Hyes hml ⊢
     clear hb hR hT HDr
     have e0 := HC.out.c0
     have e1 := HC.out.c1
     go_wp2_with fail
     refine KW.out.mono ?_
     rintro e w2 ⟨A5, c5, rfl, hg5, _, hb2⟩
     have KJ := Lib.hid (KI.out hg5)
     clear e0 e1
     replace HR := Lib.hid (HR.out.keep hb2)
     replace HB := Lib.hid (HB.out.keep hb2)
     replace HC := Lib.hid (HC.out.keep hb2)
     clear hb2 hg5 KW KI
     have e0 := HC.out.c0
     have e1 := HC.out.c1
     go_wp2_with fail
     refine KJ.out.mono ?_
     rintro e w3 ⟨rfl, hb3⟩
     clear e0 e1
     replace HR := Lib.hid (HR.out.keep hb3)
     replace HB := Lib.hid (HB.out.keep hb3)
     replace HC := Lib.hid (HC.out.keep hb3)
     clear hb3 KJ
     have e0 := HC.out.c0
     have e1 := HC.out.c1
     cases b
     ·have Hn := Lib.hid (Hno.out rfl)
      go_wp2
      go_roundw
      case rel => exact ⟨k + 1, by omega, by go_num, by rw [Hn.out], HR⟩
      case measure => (simp [intOf] <;> omega)
     ·have Hn := Lib.hid (Hyes.out rfl)
      go_wp2
      go_roundw
      case rel => exact ⟨k + 1, by omega, by go_num, by rw [Hn.out]; go_num, HR⟩
      case measure => (simp [intOf] <;> omega)
    ·obtain rfl : k = F := by omega
     have i1 : (k : Int) ≤ (k : Int) := Int.le_refl _
     rw [HfinL.out] at Hy
     go_wp2
     go_ret
     exact ⟨ret_int Hy.out.symm, HB.out.below⟩
  ·have i6 : (6 : Int) < (E.length : Int) := by omega
   have Hn := Lib.hid (Hn0.out h6)
   go_wp2
   go_ret
   exact ⟨ret_int Hn.out.symm, HB1.out.below⟩
end
end Go.Proofs.YticadlkcjhglnaaGreat
