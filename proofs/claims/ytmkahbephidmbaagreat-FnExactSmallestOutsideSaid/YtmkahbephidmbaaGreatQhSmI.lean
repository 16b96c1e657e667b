/-
  Contracts: the first graph of a number of vertices that is outside a class. The program's.
-/
import Derived.Test.YtmkahbephidmbaaGreatQhNms
import Derived.Test.YtmkahbephidmbaaGreatQhWbI
import Derived.Test.YtmkahbephidmbaaGreatQhCage
import Derived.Test.YtmkahbephidmbaaGreatQhInP
namespace Go.Proofs.YtmkahbephidmbaaGreat
open Go.RowKit

/-- Is it a class's name? -/
def nmB (s : List UInt8) : Bool := (List.range 9).any fun k => (nm k).toList == s
theorem nmB_yes {s : List UInt8} {k : Nat} (hk : k < 9) (h : ((nm k).toList == s) = true) : nmB s = true := by
  unfold nmB
  rw [List.any_eq_true]
  exact ⟨k, List.mem_range.2 hk, h⟩
theorem nmB_no {s : List UInt8} (h : ∀ k, k < 9 → ((nm k).toList == s) = false) : nmB s = false := by
  unfold nmB
  rw [List.any_eq_false]
  intro k hk
  rw [h k (List.mem_range.1 hk)]
  simp
set_option maxRecDepth 100000 in
set_option maxHeartbeats 1600000 in
theorem isClass_v (str : ByteArray) (w : World) : Calls Tryz.prog 110 #[.string str] w fun e w' => e = .returned (.bool (nmB str.toList)) ∧ Below w.heap.size w w' := by
  go_enter Tryz.func110, Tryz.ntmps110
  go_wp2_with fail
  refine (ClassNames_iv w).mono ?_
  rintro e w1 ⟨An, c1, rfl, hon, hb1⟩
  obtain ⟨gn, rfl, _, _, _, hcs, _⟩ := hon.at_ (by omega)
  have HC : Hid (∀ k, k < 9 → w1.cell? ⟨gn, k, none⟩ = some (.string (nm k))) := fun k hk => hcs k (by omega)
  have HB := Lib.hid hb1
  clear hcs hon hb1
  go_wp2
  go_loopw [7] (fun i wr => ∃ k : Nat, k ≤ 9 ∧ i = .int .i64 k ∧ Hid (∀ j, j < k → ((nm j).toList == str.toList) = false) ∧ wr = w1) (fun i _ => 9 - (intOf i).toNat)
  case atStart => exact ⟨0, by omega, rfl, (fun j hj => absurd hj (by omega)), rfl⟩
  case round =>
    obtain ⟨k, hk, rfl, hall, rfl⟩ := hrel
    by_cases hkl : k < 9
    · have i1 : (k : Int) < 9 := by omega
      have q0 := HC.out k hkl
      have Hy : Hid (((nm k).toList == str.toList) = true → nmB str.toList = true) := fun h => nmB_yes hkl h
      have Hn : Hid (((nm k).toList == str.toList) = false → ∀ j, j < k + 1 → ((nm j).toList == str.toList) = false) := fun h j hj => by
        by_cases hjk : j < k
        · exact hall.out j hjk
        · obtain rfl : j = k := by omega
          exact h
      obtain ⟨s, hs⟩ : ∃ s, s = nm k := ⟨_, rfl⟩
      rw [← hs] at q0 Hy
      have Hs := Lib.hid hs
      clear hs
      cases hb : (s.toList == str.toList)
      · have Hq := Lib.hid (Hn.out (by rw [← Hs.out]; exact hb))
        have f0 : (s.toList == str.toList) = false := hb
        clear hb
        go_wp2
        go_roundw
        case rel => exact ⟨k + 1, by omega, by go_num, Hq, by first | rfl | trivial⟩
        case measure => (simp [intOf] <;> omega)
      · have Hq := Lib.hid (Hy.out hb)
        have f0 : (s.toList == str.toList) = true := hb
        clear hb
        go_wp2
        go_ret
        exact ⟨ret_bool Hq.out.symm, HB.out⟩
    · have i1 : (9 : Int) ≤ (k : Int) := by omega
      have Hq : Hid (nmB str.toList = false) := nmB_no fun j hj => hall.out j (by omega)
      go_wp2
      go_ret
      exact ⟨ret_bool Hq.out.symm, HB.out⟩
set_option maxRecDepth 100000 in
set_option maxHeartbeats 1600000 in
theorem l8Text_v (A : Option Addr) (c : Nat) (str : ByteArray) (w : World) (h : RdV w w.heap.size A 9 c (strs nm)) : Calls Tryz.prog 107 #[.slice A 9 c, .string str] w fun e w' => e = .returned (.bool (nmB str.toList)) ∧ w = w' := by
  obtain ⟨gn, on, rfl, _, hcs⟩ := h.2 (by omega)
  have HC : Hid (∀ k, k < 9 → w.cell? ⟨gn, on + k, none⟩ = some (.string (nm k))) := fun k hk => hcs k hk
  clear h hcs
  go_enter Tryz.func107, Tryz.ntmps107
  go_wp2
  go_loopw [5] (fun i wr => ∃ k : Nat, k ≤ 9 ∧ i = .int .i64 k ∧ Hid (∀ j, j < k → ((nm j).toList == str.toList) = false) ∧ wr = w) (fun i _ => 9 - (intOf i).toNat)
  case atStart => exact ⟨0, by omega, rfl, (fun j hj => absurd hj (by omega)), rfl⟩
  case round =>
    obtain ⟨k, hk, rfl, hall, rfl⟩ := hrel
    by_cases hkl : k < 9
    · have i1 : (k : Int) < 9 := by omega
      have q0 := HC.out k hkl
      have Hy : Hid (((nm k).toList == str.toList) = true → nmB str.toList = true) := fun h => nmB_yes hkl h
      have Hn : Hid (((nm k).toList == str.toList) = false → ∀ j, j < k + 1 → ((nm j).toList == str.toList) = false) := fun h j hj => by
        by_cases hjk : j < k
        · exact hall.out j hjk
        · obtain rfl : j = k := by omega
          exact h
      obtain ⟨s, hs⟩ : ∃ s, s = nm k := ⟨_, rfl⟩
      rw [← hs] at q0 Hy
      have Hs := Lib.hid hs
      clear hs
      cases hb : (s.toList == str.toList)
      · have Hq := Lib.hid (Hn.out (by rw [← Hs.out]; exact hb))
        have f0 : (s.toList == str.toList) = false := hb
        clear hb
        go_wp2
        go_roundw
        case rel => exact ⟨k + 1, by omega, by go_num, Hq, by first | rfl | trivial⟩
        case measure => (simp [intOf] <;> omega)
      · have Hq := Lib.hid (Hy.out hb)
        have f0 : (s.toList == str.toList) = true := hb
        clear hb
        go_wp2
        go_ret
        exact ⟨ret_bool Hq.out.symm, rfl⟩
    · have i1 : (9 : Int) ≤ (k : Int) := by omega
      have Hq : Hid (nmB str.toList = false) := nmB_no fun j hj => hall.out j (by omega)
      go_wp2
      go_ret
      exact ⟨ret_bool Hq.out.symm, rfl⟩
theorem rd_zero {w : World} {lo hi n c : Nat} {A : Option Addr} (h : Own w lo hi 3 1 A n c (fun _ => .int .i64 0)) : Rd w hi A n c (fun v => (((fun _ => 0 : Nat → Nat) v : Nat) : Int)) := Own.rd (h.congr fun _ _ => rfl)
theorem pow_shl10 (n : Nat) (h : n ≤ 10) : IntKind.i64.wrap ((2 : Int) ^ n) = 2 ^ n := by
  have h1 : (2 : Nat) ^ n ≤ 2 ^ 10 := Nat.pow_le_pow_right (by omega) h
  have h2 : ((2 ^ n : Nat) : Int) = 2 ^ n := by simp
  rw [← h2]
  obtain ⟨z, hz⟩ : ∃ z, z = 2 ^ n := ⟨_, rfl⟩
  rw [← hz] at h1 ⊢
  exact Go.IntWalk.i64_in _ (by omega)
theorem pr_len_t : ∀ n, n < 6 → (pr n).length = n * (n - 1) / 2 ∧ (pr n).length ≤ 10 := by decide
theorem pr_new (n : Nat) : EdN (fun _ => 0) n (pr n) := ⟨fun _ h => mem_pr.1 h, fun _ _ => Nat.zero_testBit _, nodup_pr n⟩
theorem zero_vg {n : Nat} (h1 : 1 ≤ n) (h7 : n ≤ 7) : VG n (fun _ => 0) := ⟨h1, h7, fun _ _ => Nat.two_pow_pos n, fun _ _ => Nat.zero_testBit _, fun _ _ _ _ => by rw [Nat.zero_testBit, Nat.zero_testBit]⟩
/-- Is the graph of a number outside? -/
noncomputable def smB (n : Nat) (s : List UInt8) (b : Nat) : Bool := !isV (wbR (fun _ => 0) (pr n) b (pr n).length) n s
noncomputable def smO (s : List UInt8) (i : Int) : Option Nat := if nmB s = true ∧ 1 ≤ i ∧ i ≤ 5 then lsK (smB i.toNat s) (2 ^ (pr i.toNat).length) else none
theorem smO_yes {s : List UInt8} {n : Nat} (h : nmB s = true) (h1 : 1 ≤ n) (h5 : n ≤ 5) : smO s (n : Int) = lsK (smB n s) (2 ^ (pr n).length) := by
  unfold smO
  rw [if_pos ⟨h, by omega, by omega⟩, Int.toNat_natCast]
theorem smO_no {s : List UInt8} {i : Int} (h : nmB s = false ∨ i < 1 ∨ 5 < i) : smO s i = none := by
  unfold smO
  rw [if_neg]
  rintro ⟨h1, h2, h3⟩
  rcases h with h | h | h
  · rw [h1] at h; cases h
  · omega
  · omega
noncomputable def smN (s : List UInt8) (i : Int) : Nat := match smO s i with | none => 0 | some _ => i.toNat
noncomputable def smX (s : List UInt8) (i : Int) (j : Nat) : Int := match smO s i with | none => 0 | some b => ((wbR (fun _ => 0) (pr i.toNat) b (pr i.toNat).length j : Nat) : Int)
def smQ (s : List UInt8) (i : Int) (w : World) (e : Ending) (w' : World) : Prop :=
  ∃ A' c', e = .returned (.tuple #[.agg #[.int .i64 (smN s i : Nat), .slice A' (smN s i) c'], .bool (smO s i).isSome]) ∧ Own w' w.heap.size w'.heap.size 3 1 A' (smN s i) c' (fun j => .int .i64 (smX s i j)) ∧ Below w.heap.size w w'
theorem smQ_no {s : List UInt8} {i : Int} {w w' : World} {e : Ending} (h : smO s i = none) (he : e = .returned (.tuple #[.agg #[.int .i64 0, .slice none 0 0], .bool false])) (hb : Below w.heap.size w w') : smQ s i w e w' := by
  have hn : smN s i = 0 := by unfold smN; rw [h]
  unfold smQ
  rw [h, hn]
  exact ⟨none, 0, he, Own.nil _ _ _ _ _ _, hb⟩
theorem smQ_yes {s : List UInt8} {n b c : Nat} {w w' : World} {e : Ending} {A : Option Addr} (h : smO s (n : Int) = some b) (he : e = .returned (.tuple #[.agg #[.int .i64 (n : Int), .slice A n c], .bool true])) (ho : Own w' w.heap.size w'.heap.size 3 1 A n c (fun j => .int .i64 (wbR (fun _ => 0) (pr n) b (pr n).length j : Nat))) (hb : Below w.heap.size w w') : smQ s (n : Int) w e w' := by
  have hn : smN s (n : Int) = n := by unfold smN; rw [h]; rfl
  unfold smQ
  rw [h, hn]
  exact ⟨A, c, he, ho.congr fun j _ => by unfold smX; rw [h, Int.toNat_natCast], hb⟩
set_option maxRecDepth 100000 in
set_option maxHeartbeats 6400000 in
theorem SmallestOutside_i (str : ByteArray) (i : Int) (w : World) : Calls Tryz.prog 37 #[.string str, .int .i64 i] w (smQ str.toList i w) := by
  obtain ⟨W, hW⟩ : ∃ W : World, W = w.alloc (Obj.cells #[Value.int IntKind.i64 0, Value.slice none 0 0] 30) := ⟨_, rfl⟩
  have HB : Hid (From w W) := by rw [hW]; exact From.alloc _ _
  have HQ : Hid (GC W w.heap.size 0 none 0 0) := by rw [hW]; exact GC.new _ _ _ _ _
  have HW := Lib.hid hW
  have KC := Lib.hid (isClass_v str W)
  obtain ⟨b, hb⟩ : ∃ b, b = nmB str.toList := ⟨_, rfl⟩
  rw [← hb] at KC
  clear hW
  by_cases hc : b = true ∧ 1 ≤ i ∧ i ≤ 5
  · obtain ⟨hbt, hi1, hi5⟩ := hc
    obtain ⟨n, rfl⟩ := Int.eq_ofNat_of_zero_le (show 0 ≤ i by omega)
    have h1 : 1 ≤ n := by omega
    have h5 : n ≤ 5 := by omega
    have Hy : Hid (smO str.toList (n : Int) = lsK (smB n str.toList) (2 ^ (pr n).length)) := smO_yes (by rw [← hb]; exact hbt) h1 h5
    have hpl := (pr_len_t n (by omega)).2
    have HE := Lib.hid (pr_new n)
    have HZ := Lib.hid (zero_vg h1 (show n ≤ 7 by omega))
    have Hno : Hid (smO str.toList (n : Int) = none → ∀ e w', e = .returned (.tuple #[.agg #[.int .i64 0, .slice none 0 0], .bool false]) → Below w.heap.size w w' → smQ str.toList (n : Int) w e w') := fun h e w' h2 h3 => smQ_no h h2 h3
    have Hyes : Hid (∀ b, smO str.toList (n : Int) = some b → ∀ e w' A c, e = .returned (.tuple #[.agg #[.int .i64 (n : Int), .slice A n c], .bool true]) → Own w' w.heap.size w'.heap.size 3 1 A n c (fun j => .int .i64 (wbR (fun _ => 0) (pr n) b (pr n).length j : Nat)) → Below w.heap.size w w' → smQ str.toList (n : Int) w e w') := fun b h e w' A c h2 h3 h4 => smQ_yes h h2 h3 h4
    have KP : Hid (∀ z : World, Calls Tryz.prog 112 #[.int .i64 n] z fun e w' => ∃ A' c' D, e = .returned (.slice A' (pr n).length c') ∧ lists D = PrE (pr n) ∧ OwnD w' z.heap.size w'.heap.size A' c' D ∧ Below z.heap.size z w') := fun z => (pairsOf_any n (by omega) z).mono fun e w' ⟨A', c', D, h1, h2, h3, h4⟩ => ⟨A', c', D, by rw [h1, lists_lenE h2], h2, h3, h4⟩
    have KB : Hid (∀ k, smB n str.toList k = !isV (wbR (fun _ => 0) (pr n) k (pr n).length) n str.toList) := fun _ => rfl
    subst hbt
    obtain ⟨E, hE⟩ : ∃ E, E = pr n := ⟨_, rfl⟩
    rw [← hE] at Hy hpl HE Hyes KP KB
    have ps := pow_shl10 E.length hpl
    have h2l := Nat.pow_le_pow_right (n := 2) (by omega) hpl
    obtain ⟨F, hF⟩ : ∃ F, F = 2 ^ E.length := ⟨_, rfl⟩
    have pF : IntKind.i64.wrap ((2 : Int) ^ E.length) = (F : Int) := by rw [ps, hF]; simp
    rw [← hF] at Hy h2l
    have hF10 : F ≤ 1024 := h2l
    clear hb hE hF ps
    go_enter Tryz.func37, Tryz.ntmps37
    go_wp2_with fail
    rw [← HW.out]
    clear HW
    refine KC.out.mono ?_
    rintro e w1 ⟨rfl, hb1⟩
    have HB1 := Lib.hid (HB.out.keep hb1)
    have HQ1 := Lib.hid (HQ.out.keep hb1)
    clear hb1 KC HB HQ
    go_wp2_with fail
    refine (within_yes (n : Int) 1 5 w1 hi1 hi5).mono ?_
    rintro e w' ⟨rfl, rfl⟩
    go_wp2_with fail
    refine (KP.out w1).mono ?_
    rintro e w2 ⟨A', c', D, rfl, hld, hod, hb2⟩
    have HL := Lib.hid hld
    have HD2 := Lib.hid hod
    have HB2 := Lib.hid (HB1.out.keep hb2)
    have HQ2 := Lib.hid (HQ1.out.keep hb2)
    have hz1 := HB1.out.below.size
    clear hb2 hld hod HB1 HQ1 KP
    go_wp2
    go_loopw [23] (fun i wr => ∃ k : Nat, k ≤ F ∧ i = .int .i64 k ∧ Hid (∀ j, j < k → smB n str.toList j = false) ∧ Hid (From w2 wr)) (fun i _ => F - (intOf i).toNat)
    case atStart => exact ⟨0, Nat.zero_le _, rfl, (fun j hj => absurd hj (by omega)), From.refl _⟩
    case round =>
      obtain ⟨k, hk, rfl, hall, HR⟩ := hrel
      have HB := Lib.hid (HB2.out.up HR.out)
      have HQ := Lib.hid (HQ2.out.keep HR.out.below)
      have hzr := HR.out.below.size
      by_cases hkf : k < F
      · have i1 : (k : Int) < (F : Int) := by omega
        have HDr : Hid (OwnD wr w1.heap.size w2.heap.size A' c' D) := HD2.out.keepB HR.out.below (Nat.le_refl _)
        have Hout : Hid (smB n str.toList k = true → smO str.toList (n : Int) = some k) := fun h => Hy.out.trans (lsK_yes hkf h hall.out)
        have Hnx : Hid (smB n str.toList k = false → ∀ j, j < k + 1 → smB n str.toList j = false) := fun h j hj => by
          by_cases hjk : j < k
          · exact hall.out j hjk
          · obtain rfl : j = k := by omega
            exact h
        have Hyk := Lib.hid (Hyes.out k)
        obtain ⟨W3, hmk, hO3, hb3⟩ := made_own wr n (by omega)
        have HG3 : Hid (GV W3 (some ⟨wr.heap.size, 0, none⟩) n n (fun _ => 0)) := ⟨HZ.out, (rd_zero hO3).keep (Below.refl _ _) (by have := hO3.at_ (by omega); obtain ⟨g, e, _, _, h, _⟩ := this; injection e with e; injection e with e; omega)⟩
        have KW := Lib.hid (withBits_v HG3.out HE.out (show k < 16777216 by omega) (by omega) (HDr.out.keepB hb3 hzr) (Nat.le_trans hzr hb3.size) HL.out)
        have KI : Hid (∀ {z : World} {A' : Option Addr} {c' : Nat}, GV z A' n c' (wbR (fun _ => 0) E k E.length) → Calls Tryz.prog 22 #[.agg #[.int .i64 n, .slice A' n c'], .string str] z fun e w' => e = .returned (.bool (!smB n str.toList k)) ∧ Below z.heap.size z w') := by rw [KB.out, Bool.not_not]; exact fun h => IsIn_v h str
        obtain ⟨t, ht⟩ : ∃ t, t = smB n str.toList k := ⟨_, rfl⟩
        rw [← ht] at Hout Hnx KI
        obtain ⟨R, hR⟩ : ∃ R, R = wbR (fun _ => 0) E k E.length := ⟨_, rfl⟩
        rw [← hR] at KW KI Hyk
        have HR3 := Lib.hid (HR.out.keep hb3)
        have HB3 := Lib.hid (HB.out.keep hb3)
        have HQ3 := Lib.hid (HQ.out.keep hb3)
        have hz3 := hb3.size
        clear ht hR HDr HG3 HB HQ HR hO3 hb3
        go_wp2_with fail
        refine KW.out.mono ?_
        rintro e w4 ⟨A5, c5, rfl, hg5, ho5, hb4⟩
        have HR4 := Lib.hid (HR3.out.keep hb4)
        have HB4 := Lib.hid (HB3.out.keep hb4)
        have HQ4 := Lib.hid (HQ3.out.keep hb4)
        have hz4 := hb4.size
        clear hb4 HR3 HB3 HQ3 KW hmk
        obtain ⟨W5, hW5⟩ : ∃ W5 : World, W5 = w4.alloc (Obj.cells #[Value.int IntKind.i64 n, Value.slice A5 n c5] 30) := ⟨_, rfl⟩
        have hb5 : Below w4.heap.size w4 W5 := by rw [hW5]; exact (Below.refl _ _).alloc (Nat.le_refl _) _
        have HU : Hid (GC W5 w4.heap.size n A5 n c5) := by rw [hW5]; exact GC.new _ _ _ _ _
        have HG5 : Hid (GV W5 A5 n c5 R) := hg5.keep hb5
        have HO5 : Hid (Own W5 W3.heap.size w4.heap.size 3 1 A5 n c5 (fun j => .int .i64 (R j : Nat))) := ho5.keepB hb5 (Nat.le_refl _)
        have HW5 := Lib.hid hW5
        have KJ := Lib.hid (KI.out HG5.out)
        have HR5 := Lib.hid (HR4.out.keep hb5)
        have HB5 := Lib.hid (HB4.out.keep hb5)
        have HQ5 := Lib.hid (HQ4.out.keep hb5)
        clear hg5 ho5 KI hW5 hb5 HR4 HB4 HQ4 HG5
        go_wp2_with fail
        rw [← HW5.out]
        clear HW5
        refine KJ.out.mono ?_
        rintro e w6 ⟨rfl, hb6⟩
        have HU6 := Lib.hid (HU.out.keep hb6)
        have HO6 : Hid (Own w6 W3.heap.size w4.heap.size 3 1 A5 n c5 (fun j => .int .i64 (R j : Nat))) := HO5.out.keepB hb6 (Nat.le_of_lt HU.out.lt)
        have hz6 := Nat.le_trans (Nat.le_of_lt HU.out.lt) hb6.size
        have HR6 := Lib.hid (HR5.out.keep hb6)
        have HB6 := Lib.hid (HB5.out.keep hb6)
        have HQ6 := Lib.hid (HQ5.out.keep hb6)
        have hqw := HQ2.out.lt
        clear hb6 KJ HU HO5 HR5 HB5 HQ5
        cases t
        · have Hn := Lib.hid (Hnx.out rfl)
          rw [show (!false) = true from rfl]
          clear HU6 HO6 HQ6
          go_wp2
          go_roundw
          case rel => exact ⟨k + 1, by omega, by go_num, Hn, HR6⟩
          case measure => (simp [intOf] <;> omega)
        · have Hx := Lib.hid (Hyk.out (Hout.out rfl))
          rw [show (!true) = false from rfl]
          have d0 := HQ6.out.c0
          have d1 := HQ6.out.c1
          have d2 := HQ6.out.f0
          have d3 := HQ6.out.f1
          have u0 := HU6.out.c0
          have u1 := HU6.out.c1
          have hw1 := HB6.out.below.size
          have F5 := fr2 w6 w.heap.size (.int .i64 (n : Int)) (.slice A5 n c5)
          have HOE := (HO6.out.keep F5 (.inr (by omega))).mono (by omega : w.heap.size ≤ W3.heap.size) (Nat.le_trans hz6 F5.size)
          have HBE := (HB6.out.set (q := w.heap.size) (Nat.le_refl _) (.int .i64 (n : Int)) (.slice A5 n c5)).below
          go_wp2
          exact bodyPost_ret (v := .tuple #[.agg #[.int .i64 (n : Int), .slice A5 n c5], .bool true]) (by simp [results, Tryz.results37, go_sem, *]) rfl (Hx.out _ _ A5 c5 rfl HOE HBE)
      · have Hf : Hid (smO str.toList (n : Int) = none) := Hy.out.trans (lsK_no fun j hj => hall.out j (by omega))
        have Hx := Lib.hid (Hno.out Hf.out)
        have i1 : (F : Int) ≤ (k : Int) := by omega
        have d0 := HQ.out.c0
        have d1 := HQ.out.c1
        have d2 := HQ.out.f0
        have d3 := HQ.out.f1
        have HE2 := (HB.out.set (q := w.heap.size) (Nat.le_refl _) (.int .i64 0) (.slice none 0 0)).below
        go_wp2
        exact bodyPost_ret (v := .tuple #[.agg #[.int .i64 0, .slice none 0 0], .bool false]) (by simp [results, Tryz.results37, go_sem, *]) rfl (Hx.out _ _ rfl HE2)
  · have Hx : Hid (∀ e w', e = .returned (.tuple #[.agg #[.int .i64 0, .slice none 0 0], .bool false]) → Below w.heap.size w w' → smQ str.toList i w e w') := fun e w' h2 h3 => smQ_no (smO_no (by
      rw [← hb]
      cases b
      · exact .inl rfl
      · refine .inr ?_
        have : ¬ (1 ≤ i ∧ i ≤ 5) := fun h => hc ⟨rfl, h⟩
        omega)) h2 h3
    cases b
    · clear hc hb
      go_enter Tryz.func37, Tryz.ntmps37
      go_wp2_with fail
      rw [← HW.out]
      clear HW
      refine KC.out.mono ?_
      rintro e w1 ⟨rfl, hb1⟩
      have HB1 := Lib.hid (HB.out.keep hb1)
      have HQ1 := Lib.hid (HQ.out.keep hb1)
      clear hb1 KC HB HQ
      have d0 := HQ1.out.c0
      have d1 := HQ1.out.c1
      have d2 := HQ1.out.f0
      have d3 := HQ1.out.f1
      have HE2 := (HB1.out.set (q := w.heap.size) (Nat.le_refl _) (.int .i64 0) (.slice none 0 0)).below
      go_wp2
      exact bodyPost_ret (v := .tuple #[.agg #[.int .i64 0, .slice none 0 0], .bool false]) (by simp [results, Tryz.results37, go_sem, *]) rfl (Hx.out _ _ rfl HE2)
    · have hi : i < 1 ∨ 5 < i := by
        have : ¬ (1 ≤ i ∧ i ≤ 5) := fun h => hc ⟨rfl, h⟩
        omega
      clear hc hb
      go_enter Tryz.func37, Tryz.ntmps37
      go_wp2_with fail
      rw [← HW.out]
      clear HW
      refine KC.out.mono ?_
      rintro e w1 ⟨rfl, hb1⟩
      have HB1 := Lib.hid (HB.out.keep hb1)
      have HQ1 := Lib.hid (HQ.out.keep hb1)
      clear hb1 KC HB HQ
      go_wp2_with fail
      refine (within_no i 1 5 w1 hi).mono ?_
      rintro e w' ⟨rfl, rfl⟩
      have d0 := HQ1.out.c0
      have d1 := HQ1.out.c1
      have d2 := HQ1.out.f0
      have d3 := HQ1.out.f1
      have HE2 := (HB1.out.set (q := w.heap.size) (Nat.le_refl _) (.int .i64 0) (.slice none 0 0)).below
      go_wp2
      exact bodyPost_ret (v := .tuple #[.agg #[.int .i64 0, .slice none 0 0], .bool false]) (by simp [results, Tryz.results37, go_sem, *]) rfl (Hx.out _ _ rfl HE2)
end Go.Proofs.YtmkahbephidmbaaGreat
