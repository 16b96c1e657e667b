/-
  Several texts in one: words for memory, plain laws and contracts that the later texts lean on.
-/
import Derived.Test.YtmkahbephidmbaaGreatQfSwI
import Derived.Test.YtmkahbephidmbaaGreatQfNms
import Derived.Test.YtmkahbephidmbaaGreatQfSplS
import Derived.ChangeMaps5
/-
  Contracts: how many graphs between two graphs are in a class. The reference's.
-/
namespace Go.Proofs.YtmkahbephidmbaaGreat
open Go.RowKit

section
variable (s1 : Int) (A1 : Option Addr) (m1 c1 : Nat) (x1 : Nat → Int) (s2 : Int) (A2 : Option Addr) (m2 c2 : Nat) (x2 : Nat → Int) (str : ByteArray) (w : World)
set_option maxRecDepth 100000 in
set_option maxHeartbeats 6400000 in
theorem CountSandwiches_s (h1 : GA w A1 m1 c1 x1) (h2 : GA w A2 m2 c2 x2) (hm1 : m1 ≤ 1048576) (hm2 : m2 ≤ 1048576) :
    Calls Tryz.prog 39 #[.agg #[.int .i64 s1, .slice A1 m1 c1], .agg #[.int .i64 s2, .slice A2 m2 c2], .string str] w fun e w' => e = .returned (.int .i64 (csI s1 m1 x1 s2 m2 x2 str.toList)) ∧ Below w.heap.size w w' := by
  obtain ⟨W, hW⟩ : ∃ W : World, W = ((w.alloc (Obj.cells #[Value.int IntKind.i64 s1, Value.slice A1 m1 c1] 30)).alloc (Obj.cells #[Value.int IntKind.i64 s2, Value.slice A2 m2 c2] 30)) := ⟨_, rfl⟩
  have HB : Hid (From w W) := by rw [hW]; exact (From.alloc _ _).alloc_ _
  have HK1 := Lib.hid (h1.keep HB.out.below)
  have HK2 := Lib.hid (h2.keep HB.out.below)
  have HC : Hid (TwoG W w.heap.size s1 A1 m1 c1 s2 A2 m2 c2) := by rw [hW]; exact TwoG.new _ _ _ _ _ _ _ _ _
  have HW := Lib.hid hW
  have KO := Lib.hid (OptionalEdges_s s1 A1 m1 c1 x1 s2 A2 m2 c2 x2 W W.heap.size HK1.out.rd HK2.out.rd (Nat.le_refl _) hm1 hm2)
  have Hd : Hid (csI s1 m1 x1 s2 m2 x2 str.toList = if wiB s1 m1 x1 s2 m2 x2 = true ∧ (swE (rw_ x1) (rw_ x2) m2).length ≤ 6 then ((sdwL (rw_ x1) m2 (swE (rw_ x1) (rw_ x2) m2) str.toList).length : Int) else -1) := rfl
  obtain ⟨wi, hwi⟩ : ∃ wi, wi = wiB s1 m1 x1 s2 m2 x2 := ⟨_, rfl⟩
  rw [← hwi] at KO
  have Hwi : Hid (wi = wiB s1 m1 x1 s2 m2 x2) := hwi
  clear hW h1 h2 hwi
  have b0 := HC.out.g1.c0
  have b1 := HC.out.g1.c1
  have b2 := HC.out.g2.c0
  have b3 := HC.out.g2.c1
  cases wi
  · have Hn : Hid (csI s1 m1 x1 s2 m2 x2 str.toList = -1) := by show _ = _; rw [Hd.out, if_neg (fun h => by rw [← Hwi.out] at h; exact absurd h.1 (by simp))]
    clear Hd
    go_enter Tryz.func39, Tryz.ntmps39
    go_wp2_with fail
    rw [← HW.out]
    clear HW
    refine KO.out.mono ?_
    rintro e w1 ⟨A', c', D, rfl, _, _, hb1⟩
    replace HB := Lib.hid (HB.out.keep hb1)
    clear hb1 KO
    go_wp2
    go_ret
    exact ⟨ret_int Hn.out.symm, HB.out.below⟩
  · obtain ⟨ho1, ho2, hmm, es1, es2, hopt⟩ := sw_within Hwi.out.symm
    subst hmm
    subst es1
    subst es2
    rw [hopt] at KO
    have hg1 := HK1.out.gv ho1
    have hn7 := hg1.vg.n7
    have HEN := Lib.hid (swE_new (rw_ x1) (rw_ x2) m1)
    have hl21 := swE_len (r := rw_ x1) (s := rw_ x2) hn7
    have Hy0 : Hid ((swE (rw_ x1) (rw_ x2) m1).length ≤ 6 → csI (m1 : Int) m1 x1 (m1 : Int) m1 x2 str.toList = ((sdwL (rw_ x1) m1 (swE (rw_ x1) (rw_ x2) m1) str.toList).length : Int)) := fun h6 => by rw [Hd.out, if_pos ⟨Hwi.out.symm, h6⟩]
    have Hn0 : Hid (¬ (swE (rw_ x1) (rw_ x2) m1).length ≤ 6 → csI (m1 : Int) m1 x1 (m1 : Int) m1 x2 str.toList = -1) := fun h6 => by rw [Hd.out, if_neg (fun h => h6 h.2)]
    have HG : Hid (GV W A1 m1 c1 (rw_ x1)) := hg1
    obtain ⟨r, hr⟩ : ∃ r, r = rw_ x1 := ⟨_, rfl⟩
    rw [← hr] at KO HEN hl21 Hy0 Hn0 HG
    obtain ⟨E, hE⟩ : ∃ E, E = swE r (rw_ x2) m1 := ⟨_, rfl⟩
    rw [← hE] at KO HEN hl21 Hy0 Hn0
    have HfinL : Hid (sdwL r m1 E str.toList = sdwK r m1 E str.toList (2 ^ E.length)) := rfl
    clear hopt hg1 hr hE HK1 HK2 ho1 ho2 Hd
    go_enter Tryz.func39, Tryz.ntmps39
    go_wp2_with fail
    rw [← HW.out]
    clear HW b0 b1 b2 b3
    refine KO.out.mono ?_
    rintro e w1 ⟨A', c', D, rfl, hld, hod, hb1⟩
    have hlen := lists_lenE hld
    rw [hlen]
    have HL := Lib.hid hld
    have HD1 := Lib.hid hod
    have HC1 := Lib.hid (HC.out.g1.keep hb1)
    have HB1 := Lib.hid (HB.out.keep hb1)
    have HG1 := Lib.hid (HG.out.keep hb1)
    clear hb1 KO hod hld hlen HC HB HG
    by_cases h6 : E.length ≤ 6
    · have i6 : (E.length : Int) ≤ 6 := by omega
      have Hy := Lib.hid (Hy0.out h6)
      have h2l := Nat.pow_le_pow_right (n := 2) (by omega) h6
      have ps := pow_shl E.length (by omega)
      obtain ⟨F, hF⟩ : ∃ F, F = 2 ^ E.length := ⟨_, rfl⟩
      have pF : IntKind.i64.wrap ((2 : Int) ^ E.length) = (F : Int) := by rw [ps, hF]; simp
      rw [← hF] at HfinL h2l
      have hF64 : F ≤ 64 := h2l
      have Hl0 : Hid ((sdwK r m1 E str.toList 0).length = 0) := rfl
      clear hF ps Hn0 Hy0
      go_wp2
      go_loopw [9, 10] (fun n i wr => ∃ k : Nat, k ≤ F ∧ i = .int .i64 k ∧ n = .int .i64 ((sdwK r m1 E str.toList k).length : Nat) ∧ Hid (From w1 wr)) (fun _ i _ => F - (intOf i).toNat)
      case atStart => exact ⟨0, Nat.zero_le _, rfl, by rw [Hl0.out]; rfl, From.refl _⟩
      case round =>
        obtain ⟨k, hk, rfl, rfl, HR⟩ := hrel
        have HB := Lib.hid (HB1.out.up HR.out)
        have HG := Lib.hid (HG1.out.keep HR.out.below)
        have HC := Lib.hid (HC1.out.keep HR.out.below)
        have hml := sdwK_len (r := r) (m := m1) (E := E) (s := str.toList) k
        have hzr := HR.out.below.size
        have HDr : Hid (OwnD wr W.heap.size w1.heap.size A' c' D) := HD1.out.keepB HR.out.below (Nat.le_refl _)
        by_cases hkf : k < F
        · have i1 : (k : Int) < (F : Int) := by omega
          have KW := Lib.hid (l31With_sv HG.out HEN.out (show k < 16777216 by omega) hl21 HDr.out hzr HL.out)
          have Hno : Hid (sdwB r m1 E str.toList k = false → (sdwK r m1 E str.toList (k + 1)).length = (sdwK r m1 E str.toList k).length) := fun h => by rw [sdwK_no h]
          have Hyes : Hid (sdwB r m1 E str.toList k = true → (sdwK r m1 E str.toList (k + 1)).length = (sdwK r m1 E str.toList k).length + 1) := fun h => by rw [sdwK_yes h, List.length_append]; rfl
          have KI : Hid (∀ {z : World} {A' : Option Addr} {c' : Nat}, GV z A' m1 c' (wbR r E k E.length) → Calls Tryz.prog 20 #[.agg #[.int .i64 m1, .slice A' m1 c'], .string str] z fun e w' => e = .returned (.bool (sdwB r m1 E str.toList k)) ∧ Below z.heap.size z w') := fun h => IsIn_sv h str
          obtain ⟨b, hb⟩ : ∃ b, b = sdwB r m1 E str.toList k := ⟨_, rfl⟩
          rw [← hb] at Hno Hyes KI
          obtain ⟨R, hR⟩ : ∃ R, R = wbR r E k E.length := ⟨_, rfl⟩
          rw [← hR] at KW KI
          obtain ⟨T, hT⟩ : ∃ T, T = (sdwK r m1 E str.toList k).length := ⟨_, rfl⟩
          rw [← hT] at Hno Hyes hml ⊢
          clear hb hR hT HDr
          have e0 := HC.out.c0
          have e1 := HC.out.c1
          go_wp2_with fail
          refine KW.out.mono ?_
          rintro e w2 ⟨A5, c5, rfl, hg5, _, hb2⟩
          have KJ := Lib.hid (KI.out hg5)
          clear e0 e1
          replace HR := Lib.hid (HR.out.keep hb2)
          replace HB := Lib.hid (HB.out.keep hb2)
          replace HC := Lib.hid (HC.out.keep hb2)
          clear hb2 hg5 KW KI
          have e0 := HC.out.c0
          have e1 := HC.out.c1
          go_wp2_with fail
          refine KJ.out.mono ?_
          rintro e w3 ⟨rfl, hb3⟩
          clear e0 e1
          replace HR := Lib.hid (HR.out.keep hb3)
          replace HB := Lib.hid (HB.out.keep hb3)
          replace HC := Lib.hid (HC.out.keep hb3)
          clear hb3 KJ
          have e0 := HC.out.c0
          have e1 := HC.out.c1
          cases b
          · have Hn := Lib.hid (Hno.out rfl)
            go_wp2
            go_roundw
            case rel => exact ⟨k + 1, by omega, by go_num, by rw [Hn.out], HR⟩
            case measure => (simp [intOf] <;> omega)
          · have Hn := Lib.hid (Hyes.out rfl)
            go_wp2
            go_roundw
            case rel => exact ⟨k + 1, by omega, by go_num, by rw [Hn.out]; go_num, HR⟩
            case measure => (simp [intOf] <;> omega)
        · obtain rfl : k = F := by omega
          have i1 : (k : Int) ≤ (k : Int) := Int.le_refl _
          rw [HfinL.out] at Hy
          go_wp2
          go_ret
          exact ⟨ret_int Hy.out.symm, HB.out.below⟩
    · have i6 : (6 : Int) < (E.length : Int) := by omega
      have Hn := Lib.hid (Hn0.out h6)
      go_wp2
      go_ret
      exact ⟨ret_int Hn.out.symm, HB1.out.below⟩
end
end Go.Proofs.YtmkahbephidmbaaGreat

/-
  The contracts of CountSandwiches in the words of the law.
-/
namespace Go.Proofs.YtmkahbephidmbaaGreat
open Go.RowKit

section
variable (s1 : Int) (A1 : Option Addr) (m1 c1 : Nat) (x1 : Nat → Int) (s2 : Int) (A2 : Option Addr) (m2 c2 : Nat) (x2 : Nat → Int) (t3 : ByteArray) (w : World) (B : Nat)
theorem CountSandwiches_sL (h1 : Rd w B A1 m1 c1 x1) (h2 : Rd w B A2 m2 c2 x2) (hB : B ≤ w.heap.size) (hm1 : m1 ≤ 1048576) (hm2 : m2 ≤ 1048576) (_ : t3.size ≤ 1048576) :
    Calls Tryz.prog 39 #[.agg #[.int .i64 s1, .slice A1 m1 c1], .agg #[.int .i64 s2, .slice A2 m2 c2], .string t3] w fun e w' => e = .returned (.int .i64 (csI s1 m1 x1 s2 m2 x2 t3.toList)) ∧ Below w.heap.size w w' :=
  CountSandwiches_s s1 A1 m1 c1 x1 s2 A2 m2 c2 x2 t3 w ⟨h1.keep (Below.refl _ _) hB⟩ ⟨h2.keep (Below.refl _ _) hB⟩ hm1 hm2
theorem CountSandwiches_iL (h1 : Rd w B A1 m1 c1 x1) (h2 : Rd w B A2 m2 c2 x2) (hB : B ≤ w.heap.size) (hm1 : m1 ≤ 1048576) (hm2 : m2 ≤ 1048576) (_ : t3.size ≤ 1048576) :
    Calls Tryz.prog 40 #[.agg #[.int .i64 s1, .slice A1 m1 c1], .agg #[.int .i64 s2, .slice A2 m2 c2], .string t3] w fun e w' => e = .returned (.int .i64 (csI s1 m1 x1 s2 m2 x2 t3.toList)) ∧ Below w.heap.size w w' :=
  CountSandwiches_i s1 A1 m1 c1 x1 s2 A2 m2 c2 x2 t3 w ⟨h1.keep (Below.refl _ _) hB⟩ ⟨h2.keep (Below.refl _ _) hB⟩ hm1 hm2
end
end Go.Proofs.YtmkahbephidmbaaGreat

/-
  How arguments read: claims; strings.
-/
namespace Go.Proofs.YtmkahbephidmbaaGreat
open Go.ChangeShapes Go.WideShapes Go.ChangeAt Go.RowKit Go.Deep

section
variable {H : Type} {enc : TypeId × Value → H} {P : Program} {w : World} {base : Nat} {spare : Nat → Bool} {held : Bool}
end

section
variable {H : Type} {enc : TypeId × Value → H} {w : World} {base : Nat} {spare : Nat → Bool} {held : Bool}
set_option maxRecDepth 100000 in
theorem open_string_arg {r : Reach} {b0 : Nat} {vv : Value} {d : DataW H} {p : List MemPlace} (hv : Value.okWide Tryz.prog w r b0 9 vv)
    (h : DataW.Trod enc Tryz.prog w base spare held 9 vv d p) : ∃ t : ByteArray, vv = .string t ∧ t.size ≤ maxLen := by
  obtain ⟨t, e, _, _, hl⟩ := Go.ChangeMaps.open_string Tryz.underlying9 hv h
  exact ⟨t, e, hl⟩
end
end Go.Proofs.YtmkahbephidmbaaGreat
