/-
-/
import Derived.Test.YticadlkcjhglnaaGreatQnSwS
namespace Go.Proofs.YticadlkcjhglnaaGreat
open Go.RowKit
section
variable (s1 : Int) (m1 : Nat) (x1 : Nat → Int) (s2 : Int) (m2 : Nat) (x2 : Nat → Int) (s : List UInt8)
noncomputable def fsO : Option Nat := if wiB s1 m1 x1 s2 m2 x2 = true ∧ (swE (rw_ x1) (rw_ x2) m2).length ≤ 6 then (sdwL (rw_ x1) m2 (swE (rw_ x1) (rw_ x2) m2) s).head? else none
noncomputable def fsN : Nat := match fsO s1 m1 x1 s2 m2 x2 s with | none => 0 | some _ => m2
noncomputable def fsX (j : Nat) : Int := match fsO s1 m1 x1 s2 m2 x2 s with | none => 0 | some b => ((wbR (rw_ x1) (swE (rw_ x1) (rw_ x2) m2) b (swE (rw_ x1) (rw_ x2) m2).length j : Nat) : Int)
end
def fsQ (s1 : Int) (m1 : Nat) (x1 : Nat → Int) (s2 : Int) (m2 : Nat) (x2 : Nat → Int) (s : List UInt8) (w : World) (e : Ending) (w' : World) : Prop :=
 ∃ A' c', e = .returned (.tuple #[.agg #[.int .i64 (fsN s1 m1 x1 s2 m2 x2 s : Nat), .slice A' (fsN s1 m1 x1 s2 m2 x2 s) c'], .bool (fsO s1 m1 x1 s2 m2 x2 s).isSome]) ∧ Own w' w.heap.size w'.heap.size 3 1 A' (fsN s1 m1 x1 s2 m2 x2 s) c' (fun j => .int .i64 (fsX s1 m1 x1 s2 m2 x2 s j)) ∧ Below w.heap.size w w'
theorem fsQ_no {s1 : Int} {m1 : Nat} {x1 : Nat → Int} {s2 : Int} {m2 : Nat} {x2 : Nat → Int} {s : List UInt8} {w w' : World} {e : Ending} (h : fsO s1 m1 x1 s2 m2 x2 s = none) (he : e = .returned (.tuple #[.agg #[.int .i64 0, .slice none 0 0], .bool false])) (hb : Below w.heap.size w w') : fsQ s1 m1 x1 s2 m2 x2 s w e w' := by
 have hn : fsN s1 m1 x1 s2 m2 x2 s = 0 := by unfold fsN; rw [h]
 unfold fsQ
 rw [h, hn]
 exact ⟨none, 0, he, Own.nil _ _ _ _ _ _, hb⟩
theorem fsQ_yes {s1 : Int} {m1 : Nat} {x1 : Nat → Int} {s2 : Int} {m2 : Nat} {x2 : Nat → Int} {s : List UInt8} {w w' : World} {e : Ending} {b c : Nat} {A : Option Addr} (h : fsO s1 m1 x1 s2 m2 x2 s = some b) (he : e = .returned (.tuple #[.agg #[.int .i64 (m2 : Int), .slice A m2 c], .bool true])) (ho : Own w' w.heap.size w'.heap.size 3 1 A m2 c (fun j => .int .i64 (wbR (rw_ x1) (swE (rw_ x1) (rw_ x2) m2) b (swE (rw_ x1) (rw_ x2) m2).length j : Nat))) (hb : Below w.heap.size w w') : fsQ s1 m1 x1 s2 m2 x2 s w e w' := by
 have hn : fsN s1 m1 x1 s2 m2 x2 s = m2 := by unfold fsN; rw [h]
 unfold fsQ
 rw [h, hn]
 exact ⟨A, c, he, ho.congr fun j _ => by unfold fsX; rw [h], hb⟩
section
variable (s1 : Int) (A1 : Option Addr) (m1 c1 : Nat) (x1 : Nat → Int) (s2 : Int) (A2 : Option Addr) (m2 c2 : Nat) (x2 : Nat → Int) (str : ByteArray) (w : World)
set_option maxRecDepth 100000 in
set_option maxHeartbeats 6400000 in
theorem FindSandwich_i (h1 : GA w A1 m1 c1 x1) (h2 : GA w A2 m2 c2 x2) (hm1 : m1 ≤ 1048576) (hm2 : m2 ≤ 1048576) :
 Calls Tryz.prog 7 #[.agg #[.int .i64 s1, .slice A1 m1 c1], .agg #[.int .i64 s2, .slice A2 m2 c2], .string str] w (fsQ s1 m1 x1 s2 m2 x2 str.toList w) := by
 obtain ⟨W0, hW0⟩ : ∃ W : World, W = ((w.alloc (Obj.cells #[Value.int IntKind.i64 s1, Value.slice A1 m1 c1] 26)).alloc (Obj.cells #[Value.int IntKind.i64 s2, Value.slice A2 m2 c2] 26)) := ⟨_, rfl⟩
 have HB0 : Hid (From w W0) := by rw [hW0]; exact (From.alloc _ _).alloc_ _
 have HC0 : Hid (TwoG W0 w.heap.size s1 A1 m1 c1 s2 A2 m2 c2) := by rw [hW0]; exact TwoG.new _ _ _ _ _ _ _ _ _
 have hz0 : W0.heap.size = w.heap.size + 2 := by rw [hW0]; simp
 obtain ⟨W, hW⟩ : ∃ W : World, W = W0.alloc (Obj.cells #[Value.int IntKind.i64 0, Value.slice none 0 0] 26) := ⟨_, rfl⟩
 have hbW : Below W0.heap.size W0 W := by rw [hW]; exact (Below.refl _ _).alloc (Nat.le_refl _) _
 have HB : Hid (From w W) := HB0.out.keep hbW
 have HC := Lib.hid (HC0.out.keep hbW)
 have HQ : Hid (GC W (w.heap.size + 2) 0 none 0 0) := by rw [hW, ← hz0]; exact GC.new _ _ _ _ _
 have HK1 := Lib.hid (h1.keep HB.out.below)
 have HK2 := Lib.hid (h2.keep HB.out.below)
 have HW0 := Lib.hid hW0
 have HW := Lib.hid hW
 have KS := sandwiches_i s1 A1 m1 c1 x1 s2 A2 m2 c2 x2 str W HK1.out HK2.out hm1 hm2
 unfold swQ at KS
 have Hd : Hid (fsO s1 m1 x1 s2 m2 x2 str.toList = if wiB s1 m1 x1 s2 m2 x2 = true ∧ (swE (rw_ x1) (rw_ x2) m2).length ≤ 6 then (sdwL (rw_ x1) m2 (swE (rw_ x1) (rw_ x2) m2) str.toList).head? else none) := rfl
 have hqW := HQ.out.lt
 clear hW0 hW h1 h2 hbW HB0 HC0
 by_cases hc : wiB s1 m1 x1 s2 m2 x2 = true ∧ (swE (rw_ x1) (rw_ x2) m2).length ≤ 6
 ·have Hn : Hid (fsO s1 m1 x1 s2 m2 x2 str.toList = (sdwL (rw_ x1) m2 (swE (rw_ x1) (rw_ x2) m2) str.toList).head?) := by show _ = _; rw [Hd.out, if_pos hc]
  simp only [if_pos hc] at KS
  obtain ⟨ho1, ho2, hmm, es1, es2, _⟩ := sw_within hc.1
  subst hmm
  subst es1
  subst es2
  have HG : Hid (GV W A1 m1 c1 (rw_ x1)) := HK1.out.gv ho1
  have hn7 := HG.out.vg.n7
  have HEN := Lib.hid (swE_new (rw_ x1) (rw_ x2) m1)
  have hl21 := swE_len (r := rw_ x1) (s := rw_ x2) hn7
  have hl6 := hc.2
  have Hlt : Hid (∀ b ∈ sdwL (rw_ x1) m1 (swE (rw_ x1) (rw_ x2) m1) str.toList, b < 64) := fun b hb => by
   have h1 := sdwK_lt hb
   have h2 := Nat.pow_le_pow_right (n := 2) (by omega) hl6
   omega
  have Hno : Hid (fsO (m1 : Int) m1 x1 (m1 : Int) m1 x2 str.toList = none → ∀ e w', e = .returned (.tuple #[.agg #[.int .i64 0, .slice none 0 0], .bool false]) → Below w.heap.size w w' → fsQ (m1 : Int) m1 x1 (m1 : Int) m1 x2 str.toList w e w') := fun h e w' h2 h3 => fsQ_no h h2 h3
  have Hyes : Hid (∀ b, fsO (m1 : Int) m1 x1 (m1 : Int) m1 x2 str.toList = some b → ∀ e w' A c, e = .returned (.tuple #[.agg #[.int .i64 (m1 : Int), .slice A m1 c], .bool true]) → Own w' w.heap.size w'.heap.size 3 1 A m1 c (fun j => .int .i64 (wbR (rw_ x1) (swE (rw_ x1) (rw_ x2) m1) b (swE (rw_ x1) (rw_ x2) m1).length j : Nat)) → Below w.heap.size w w' → fsQ (m1 : Int) m1 x1 (m1 : Int) m1 x2 str.toList w e w') := fun b h e w' A c h2 h3 h4 => fsQ_yes h h2 h3 h4
  replace KS := Lib.hid KS
  obtain ⟨r, hr⟩ : ∃ r, r = rw_ x1 := ⟨_, rfl⟩
  rw [← hr] at KS Hn HG HEN hl21 Hlt Hyes hl6
  obtain ⟨E, hE⟩ : ∃ E, E = swE r (rw_ x2) m1 := ⟨_, rfl⟩
  rw [← hE] at KS Hn HEN hl21 Hlt Hyes hl6
  obtain ⟨L, hL⟩ : ∃ L, L = sdwL r m1 E str.toList := ⟨_, rfl⟩
  rw [← hL] at KS Hn Hlt
  clear hc Hd hr hE hL ho1 ho2 HK1 HK2
  go_enter Tryz.func7, Tryz.ntmps7
  have b0 := HC.out.g1.c0
  have b1 := HC.out.g1.c1
  have b2 := HC.out.g2.c0
  have b3 := HC.out.g2.c1
  go_wp2_with fail
  rw [← HW0.out, ← HW.out]
  clear HW HW0 b0 b1 b2 b3
  refine KS.out.mono ?_
  rintro e w1 ⟨A', c', D, A3, c3, rfl, hld, hod, hon, hb1⟩
  have HL := Lib.hid hld
  have HD := Lib.hid hod
  have HO := Lib.hid hon
  have HQ1 := Lib.hid (HQ.out.keep hb1)
  have HC1 := Lib.hid (HC.out.keep hb1)
  have HB1 := Lib.hid (HB.out.keep hb1)
  have HG1 := Lib.hid (HG.out.keep hb1)
  have hz1 := hb1.size
  clear hb1 KS hld hod hon HQ HC HB HG
  have d0 := HQ1.out.c0
  have d1 := HQ1.out.c1
  have d2 := HQ1.out.f0
  have d3 := HQ1.out.f1
  cases L with
  | nil =>
    have Hf : Hid (fsO (m1 : Int) m1 x1 (m1 : Int) m1 x2 str.toList = none) := Hn.out
    have Hx := Lib.hid (Hno.out Hf.out)
    have HE := (HB1.out.set (q := w.heap.size + 2) (by omega) (.int .i64 0) (.slice none 0 0)).below
    rw [show ([] : List Nat).length = 0 from rfl]
    go_wp2
    exact bodyPost_ret (v := .tuple #[.agg #[.int .i64 0, .slice none 0 0], .bool false]) (by simp [results, Tryz.results7, go_sem, *]) rfl (Hx.out _ _ rfl HE)
  | cons b t =>
    have Hf : Hid (fsO (m1 : Int) m1 x1 (m1 : Int) m1 x2 str.toList = some b) := Hn.out
    have Hx := Lib.hid (Hyes.out b Hf.out)
    have hb64 := Hlt.out b List.mem_cons_self
    obtain ⟨g3, rfl, hg3, _, _, hc3, _⟩ := HO.out.own.at_ (by simp)
    have p0 : w1.cell? ⟨g3, 0, none⟩ = some (.int .i64 (b : Int)) := hc3 0 (by simp)
    clear hc3
    have hln : (((b :: t).length : Int) == 0) = false := by simp; omega
    have hln2 : ((b :: t).length = 0) = False := by simp
    have hlp2 : (0 : Int) < ((b :: t).length : Int) := by simp
    have hlp3 : 0 < (b :: t).length := by simp
    obtain ⟨n, hn⟩ : ∃ n, n = (b :: t).length := ⟨_, rfl⟩
    rw [← hn] at hln hln2 hlp2 hlp3 ⊢
    have e0 := HC1.out.g1.c0
    have e1 := HC1.out.g1.c1
    have KW := Lib.hid (withBits_v HG1.out.drew HEN.out (show b < 16777216 by omega) hl21 HD.out.drew (Nat.le_refl _) HL.out)
    have hpl := World.block_lt_of_cell? _ _ p0
    have hql := HC1.out.g1.lt
    have hdl := HQ1.out.lt
    have hgq : g3 < w.heap.size + 2 ∨ w.heap.size + 2 + 1 ≤ g3 := .inr (by omega)
    clear hn
    go_wp2
    refine wp_region_held_drew (S := fun z => z.cell? ⟨w.heap.size, 0, none⟩ = some (.int .i64 m1) ∧ z.cell? ⟨w.heap.size, 1, none⟩ = some (.slice A1 m1 c1) ∧ z.cell? ⟨g3, 0, none⟩ = some (.int .i64 b)) (by kernel_rfl) ⟨e0, e1, p0⟩ (fun hHeld => ?_)
    refine pcY 0 rfl rfl (by kernel_rfl) (by rfl) (by intro w u; (try dsimp only at u); go_simp <;> with_reducible rfl) ‹_› (fun _ _ _ h => h) ?_; simp only [Act.put, sl0, sl1, sl2]
    iterate 4 (refine ptY rfl rfl (by kernel_rfl) (by rfl) (by intro w u; (try dsimp only at u); go_simp <;> with_reducible rfl) ‹_› (fun _ _ _ h => h) ?_; simp only [Act.put, sl0, sl1, sl2])
    refine wpAnyH_ready (rs := [5]) (by kernel_rfl) (by simp) ?_
    refine AllReadyH.cons rfl (fun K hK => ?_) AllReadyH.nil
    go_simp
    go_at_call 47; refine (KW.out).mono ?_
    rintro e w5 ⟨A5, c5, rfl, hg5, ho5, hb5⟩
    have HQ5 := Lib.hid (HQ1.out.drew.keep hb5)
    have q0 := HQ5.out.c0
    have q1 := HQ5.out.c1
    have q2 := HQ5.out.f0
    have q3 := HQ5.out.f1
    have F5 := fr2 w5 (w.heap.size + 2) (.int .i64 (m1 : Int)) (.slice A5 m1 c5)
    have hz5 : w1.heap.size ≤ w5.heap.size := hb5.size
    have S5 : w5.cell? ⟨w.heap.size, 0, none⟩ = some (.int .i64 m1) ∧ w5.cell? ⟨w.heap.size, 1, none⟩ = some (.slice A1 m1 c1) ∧ w5.cell? ⟨g3, 0, none⟩ = some (.int .i64 b) := ⟨up hb5 e0 hql, up hb5 e1 hql, up hb5 p0 hpl⟩
    refine hK.out _ _ S5 (fun hHeld => ?_)
    clear hK K
    try simp only [Act.put, sl0, sl1, sl2]
    refine wpAnyH_ready (rs := [6]) (by kernel_rfl) (by simp) ?_
    refine AllReadyH.cons rfl (fun K hK => ?_) AllReadyH.nil
    go_simp
    refine hK.out _ _ ⟨frC_ F5 S5.1 (by omega) (.inl (by omega)), frC_ F5 S5.2.1 (by omega) (.inl (by omega)), frC_ F5 S5.2.2 (by omega) hgq⟩ (fun hHeld => ?_)
    clear hK K
    try simp only [Act.put, sl0, sl1, sl2]
    refine ptY rfl rfl (by kernel_rfl) (by rfl) (by intro w u; (try dsimp only at u); go_simp <;> with_reducible rfl) ‹_› (fun _ _ _ h => h) ?_; simp only [Act.put, sl0, sl1, sl2]
    refine wpAnyH_done (by kernel_rfl) ?_ _
    have HOE := (ho5.keep F5 (.inr (by show w.heap.size + 2 + 1 ≤ w1.heap.size; omega))).mono (by show w.heap.size ≤ w1.heap.size; omega : w.heap.size ≤ w1.drew.heap.size) F5.size
    have HBE := ((HB1.out.drew.keep hb5).set (q := w.heap.size + 2) (by omega) (.int .i64 (m1 : Int)) (.slice A5 m1 c5)).below
    clear d0 d1 d2 d3 e0 e1 p0
    have d0 := HQ5.out.set (sz' := (m1 : Int)) (A' := A5) (m' := m1) (c' := c5) |>.c0
    have d1 := HQ5.out.set (sz' := (m1 : Int)) (A' := A5) (m' := m1) (c' := c5) |>.c1
    go_wp2
    exact bodyPost_ret (v := .tuple #[.agg #[.int .i64 (m1 : Int), .slice A5 m1 c5], .bool true]) (by simp [results, Tryz.results7, go_sem, *]) rfl (Hx.out _ _ A5 c5 rfl HOE HBE)
 ·have Hn : Hid (fsO s1 m1 x1 s2 m2 x2 str.toList = none) := by show _ = _; rw [Hd.out, if_neg hc]
  have Hx : Hid (∀ e w', e = .returned (.tuple #[.agg #[.int .i64 0, .slice none 0 0], .bool false]) → Below w.heap.size w w' → fsQ s1 m1 x1 s2 m2 x2 str.toList w e w') := fun e w' h2 h3 => fsQ_no Hn.out h2 h3
  simp only [if_neg hc] at KS
  replace KS := Lib.hid KS
  clear hc Hd
  go_enter Tryz.func7, Tryz.ntmps7
  have b0 := HC.out.g1.c0
  have b1 := HC.out.g1.c1
  have b2 := HC.out.g2.c0
  have b3 := HC.out.g2.c1
  go_wp2_with fail
  rw [← HW0.out, ← HW.out]
  clear HW HW0 b0 b1 b2 b3
  refine KS.out.mono ?_
  rintro e w1 ⟨rfl, hb1⟩
  have HQ1 := Lib.hid (HQ.out.keep hb1)
  have HB1 := Lib.hid (HB.out.keep hb1)
  clear hb1 KS HQ HB
  have d0 := HQ1.out.c0
  have d1 := HQ1.out.c1
  have d2 := HQ1.out.f0
  have d3 := HQ1.out.f1
  have HE := (HB1.out.set (q := w.heap.size + 2) (by omega) (.int .i64 0) (.slice none 0 0)).below
  go_wp2
  exact bodyPost_ret (v := .tuple #[.agg #[.int .i64 0, .slice none 0 0], .bool false]) (by simp [results, Tryz.results7, go_sem, *]) rfl (Hx.out _ _ rfl HE)
set_option maxRecDepth 100000 in
set_option maxHeartbeats 6400000 in
theorem FindSandwich_s (h1 : GA w A1 m1 c1 x1) (h2 : GA w A2 m2 c2 x2) (hm1 : m1 ≤ 1048576) (hm2 : m2 ≤ 1048576) :
 Calls Tryz.prog 8 #[.agg #[.int .i64 s1, .slice A1 m1 c1], .agg #[.int .i64 s2, .slice A2 m2 c2], .string str] w (fsQ s1 m1 x1 s2 m2 x2 str.toList w) := by
 obtain ⟨W0, hW0⟩ : ∃ W : World, W = ((w.alloc (Obj.cells #[Value.int IntKind.i64 s1, Value.slice A1 m1 c1] 26)).alloc (Obj.cells #[Value.int IntKind.i64 s2, Value.slice A2 m2 c2] 26)) := ⟨_, rfl⟩
 have HB0 : Hid (From w W0) := by rw [hW0]; exact (From.alloc _ _).alloc_ _
 have HC0 : Hid (TwoG W0 w.heap.size s1 A1 m1 c1 s2 A2 m2 c2) := by rw [hW0]; exact TwoG.new _ _ _ _ _ _ _ _ _
 have hz0 : W0.heap.size = w.heap.size + 2 := by rw [hW0]; simp
 obtain ⟨W, hW⟩ : ∃ W : World, W = W0.alloc (Obj.cells #[Value.int IntKind.i64 0, Value.slice none 0 0] 26) := ⟨_, rfl⟩
 have hbW : Below W0.heap.size W0 W := by rw [hW]; exact (Below.refl _ _).alloc (Nat.le_refl _) _
 have HB : Hid (From w W) := HB0.out.keep hbW
 have HC := Lib.hid (HC0.out.keep hbW)
 have HQ : Hid (GC W (w.heap.size + 2) 0 none 0 0) := by rw [hW, ← hz0]; exact GC.new _ _ _ _ _
 have HK1 := Lib.hid (h1.keep HB.out.below)
 have HK2 := Lib.hid (h2.keep HB.out.below)
 have HW0 := Lib.hid hW0
 have HW := Lib.hid hW
 have KO := Lib.hid (OptionalEdges_s s1 A1 m1 c1 x1 s2 A2 m2 c2 x2 W W.heap.size HK1.out.rd HK2.out.rd (Nat.le_refl _) hm1 hm2)
 have Hd : Hid (fsO s1 m1 x1 s2 m2 x2 str.toList = if wiB s1 m1 x1 s2 m2 x2 = true ∧ (swE (rw_ x1) (rw_ x2) m2).length ≤ 6 then (sdwL (rw_ x1) m2 (swE (rw_ x1) (rw_ x2) m2) str.toList).head? else none) := rfl
 have Hno : Hid (fsO s1 m1 x1 s2 m2 x2 str.toList = none → ∀ e w', e = .returned (.tuple #[.agg #[.int .i64 0, .slice none 0 0], .bool false]) → Below w.heap.size w w' → fsQ s1 m1 x1 s2 m2 x2 str.toList w e w') := fun h e w' h2 h3 => fsQ_no h h2 h3
 have hqW := HQ.out.lt
 obtain ⟨wi, hwi⟩ : ∃ wi, wi = wiB s1 m1 x1 s2 m2 x2 := ⟨_, rfl⟩
 rw [← hwi] at KO
 have Hwi : Hid (wi = wiB s1 m1 x1 s2 m2 x2) := hwi
 clear hW0 hW h1 h2 hwi hbW HB0 HC0
 have b0 := HC.out.g1.c0
 have b1 := HC.out.g1.c1
 have b2 := HC.out.g2.c0
 have b3 := HC.out.g2.c1
 cases wi
 ·have Hn : Hid (fsO s1 m1 x1 s2 m2 x2 str.toList = none) := by show _ = _; rw [Hd.out, if_neg (fun h => by rw [← Hwi.out] at h; exact absurd h.1 (by simp))]
  have Hx := Lib.hid (Hno.out Hn.out)
  clear Hd Hno
  go_enter Tryz.func8, Tryz.ntmps8
  go_wp2_with fail
  rw [← HW0.out, ← HW.out]
  clear HW HW0 b0 b1 b2 b3
  refine KO.out.mono ?_
  rintro e w1 ⟨A', c', D, rfl, _, _, hb1⟩
  have HQ1 := Lib.hid (HQ.out.keep hb1)
  have HB1 := Lib.hid (HB.out.keep hb1)
  clear hb1 KO HQ HB
  go_wp2
  go_loopw [10] (fun i wr => i = .int .i64 0 ∧ Hid (From w1 wr)) (fun _ _ => 1)
  case atStart => exact ⟨rfl, From.refl _⟩
  case round =>
   obtain ⟨rfl, HR⟩ := hrel
   have HQr := Lib.hid (HQ1.out.keep HR.out.below)
   have HBr := Lib.hid (HB1.out.up HR.out)
   have d0 := HQr.out.c0
   have d1 := HQr.out.c1
   have d2 := HQr.out.f0
   have d3 := HQr.out.f1
   have HE := (HBr.out.set (q := w.heap.size + 2) (by omega) (.int .i64 0) (.slice none 0 0)).below
   go_wp2
   exact bodyPost_ret (v := .tuple #[.agg #[.int .i64 0, .slice none 0 0], .bool false]) (by simp [results, Tryz.results8, go_sem, *]) rfl (Hx.out _ _ rfl HE)
 ·obtain ⟨ho1, ho2, hmm, es1, es2, hopt⟩ := sw_within Hwi.out.symm
  subst hmm
  subst es1
  subst es2
  rw [hopt] at KO
  have HG : Hid (GV W A1 m1 c1 (rw_ x1)) := HK1.out.gv ho1
  have hn7 := HG.out.vg.n7
  have HEN := Lib.hid (swE_new (rw_ x1) (rw_ x2) m1)
  have hl21 := swE_len (r := rw_ x1) (s := rw_ x2) hn7
  have Hy0 : Hid ((swE (rw_ x1) (rw_ x2) m1).length ≤ 6 → fsO (m1 : Int) m1 x1 (m1 : Int) m1 x2 str.toList = (sdwL (rw_ x1) m1 (swE (rw_ x1) (rw_ x2) m1) str.toList).head?) := fun h6 => by rw [Hd.out, if_pos ⟨Hwi.out.symm, h6⟩]
  have Hn0 : Hid (¬ (swE (rw_ x1) (rw_ x2) m1).length ≤ 6 → fsO (m1 : Int) m1 x1 (m1 : Int) m1 x2 str.toList = none) := fun h6 => by rw [Hd.out, if_neg (fun h => h6 h.2)]
  have Hyes : Hid (∀ b, fsO (m1 : Int) m1 x1 (m1 : Int) m1 x2 str.toList = some b → ∀ e w' A c, e = .returned (.tuple #[.agg #[.int .i64 (m1 : Int), .slice A m1 c], .bool true]) → Own w' w.heap.size w'.heap.size 3 1 A m1 c (fun j => .int .i64 (wbR (rw_ x1) (swE (rw_ x1) (rw_ x2) m1) b (swE (rw_ x1) (rw_ x2) m1).length j : Nat)) → Below w.heap.size w w' → fsQ (m1 : Int) m1 x1 (m1 : Int) m1 x2 str.toList w e w') := fun b h e w' A c h2 h3 h4 => fsQ_yes h h2 h3 h4
  obtain ⟨r, hr⟩ : ∃ r, r = rw_ x1 := ⟨_, rfl⟩
  rw [← hr] at KO HEN hl21 Hy0 Hn0 HG Hyes
  obtain ⟨E, hE⟩ : ∃ E, E = swE r (rw_ x2) m1 := ⟨_, rfl⟩
  rw [← hE] at KO HEN hl21 Hy0 Hn0 Hyes
  have HfinL : Hid (sdwL r m1 E str.toList = sdwK r m1 E str.toList (2 ^ E.length)) := rfl
  clear hopt hr hE HK1 HK2 ho1 ho2 Hd
  go_enter Tryz.func8, Tryz.ntmps8
  go_wp2_with fail
  rw [← HW0.out, ← HW.out]
  clear HW HW0 b0 b1 b2 b3
  refine KO.out.mono ?_
  rintro e w1 ⟨A', c', D, rfl, hld, hod, hb1⟩
  have hlen := lists_lenE hld
  rw [hlen]
  have HL := Lib.hid hld
  have HD1 := Lib.hid hod
  have HC1 := Lib.hid (HC.out.g1.keep hb1)
  have HQ1 := Lib.hid (HQ.out.keep hb1)
  have HB1 := Lib.hid (HB.out.keep hb1)
  have HG1 := Lib.hid (HG.out.keep hb1)
  have hz1 := hb1.size
  clear hb1 KO hod hld hlen HC HB HG HQ
  by_cases h6 : E.length ≤ 6
  ·have i6 : (E.length : Int) ≤ 6 := by omega
   have Hy := Lib.hid (Hy0.out h6)
   have h2l := Nat.pow_le_pow_right (n := 2) (by omega) h6
   have ps := pow_shl E.length (by omega)
   have Hfst : Hid (∀ k, k < 2 ^ E.length → sdwB r m1 E str.toList k = true → sdwK r m1 E str.toList k = [] → (sdwL r m1 E str.toList).head? = some k) := fun k h1 h2 h3 => by
    obtain ⟨t, ht⟩ := sdwL_first h1 h2 h3
    rw [ht]; rfl
   obtain ⟨F, hF⟩ : ∃ F, F = 2 ^ E.length := ⟨_, rfl⟩
   have pF : IntKind.i64.wrap ((2 : Int) ^ E.length) = (F : Int) := by rw [ps, hF]; simp
   rw [← hF] at HfinL h2l Hfst
   have hF64 : F ≤ 64 := h2l
   clear hF ps Hn0 Hy0
   go_wp2
   go_loopw [10] (fun i wr => ∃ k : Nat, k ≤ F ∧ i = .int .i64 k ∧ Hid (sdwK r m1 E str.toList k = []) ∧ Hid (From w1 wr)) (fun i _ => F - (intOf i).toNat)
   case atStart => exact ⟨0, Nat.zero_le _, rfl, rfl, From.refl _⟩
   case round =>
    obtain ⟨k, hk, rfl, hnil, HR⟩ := hrel
    have HB := Lib.hid (HB1.out.up HR.out)
    have HG := Lib.hid (HG1.out.keep HR.out.below)
    have HC := Lib.hid (HC1.out.keep HR.out.below)
    have HQ := Lib.hid (HQ1.out.keep HR.out.below)
    have hzr := HR.out.below.size
    have HDr : Hid (OwnD wr W.heap.size w1.heap.size A' c' D) := HD1.out.keepB HR.out.below (Nat.le_refl _)
    by_cases hkf : k < F
    ·have i1 : (k : Int) < (F : Int) := by omega
     have KW := Lib.hid (l31With_sv HG.out HEN.out (show k < 16777216 by omega) hl21 HDr.out hzr HL.out)
     have Hno1 : Hid (sdwB r m1 E str.toList k = false → sdwK r m1 E str.toList (k + 1) = []) := fun h => by rw [sdwK_no h]; exact hnil.out
     have Hyes1 : Hid (sdwB r m1 E str.toList k = true → fsO (m1 : Int) m1 x1 (m1 : Int) m1 x2 str.toList = some k) := fun h => Hy.out.trans (Hfst.out k hkf h hnil.out)
     have KI : Hid (∀ {z : World} {A' : Option Addr} {c' : Nat}, GV z A' m1 c' (wbR r E k E.length) → Calls Tryz.prog 16 #[.agg #[.int .i64 m1, .slice A' m1 c'], .string str] z fun e w' => e = .returned (.bool (sdwB r m1 E str.toList k)) ∧ Below z.heap.size z w') := fun h => IsIn_sv h str
     have Hyk := Lib.hid (Hyes.out k)
     obtain ⟨b, hb⟩ : ∃ b, b = sdwB r m1 E str.toList k := ⟨_, rfl⟩
     rw [← hb] at Hno1 Hyes1 KI
     obtain ⟨R, hR⟩ : ∃ R, R = wbR r E k E.length := ⟨_, rfl⟩
     rw [← hR] at KW KI Hyk
     clear hb hR HDr
     have e0 := HC.out.c0
     have e1 := HC.out.c1
     go_wp2_with fail
     refine KW.out.mono ?_
     rintro e w2 ⟨A5, c5, rfl, hg5, ho5, hb2⟩
     have hz2 := hb2.size
     clear e0 e1
     replace HR := Lib.hid (HR.out.keep hb2)
     replace HB := Lib.hid (HB.out.keep hb2)
     replace HQ := Lib.hid (HQ.out.keep hb2)
     replace HC := Lib.hid (HC.out.keep hb2)
     clear hb2 KW
     have e0 := HC.out.c0
     have e1 := HC.out.c1
     obtain ⟨W3, hW3⟩ : ∃ W3 : World, W3 = w2.alloc (Obj.cells #[Value.int IntKind.i64 m1, Value.slice A5 m1 c5] 26) := ⟨_, rfl⟩
     have hb3 : Below w2.heap.size w2 W3 := by rw [hW3]; exact (Below.refl _ _).alloc (Nat.le_refl _) _
     have HU : Hid (GC W3 w2.heap.size m1 A5 m1 c5) := by rw [hW3]; exact GC.new _ _ _ _ _
     have HG5 : Hid (GV W3 A5 m1 c5 R) := hg5.keep hb3
     have HO5 : Hid (Own W3 wr.heap.size w2.heap.size 3 1 A5 m1 c5 (fun j => .int .i64 (R j : Nat))) := ho5.keepB hb3 (Nat.le_refl _)
     have HW3 := Lib.hid hW3
     have KJ := Lib.hid (KI.out HG5.out)
     clear hg5 ho5 KI hW3
     go_wp2_with fail
     rw [← HW3.out]
     clear e0 e1
     replace HR := Lib.hid (HR.out.keep hb3)
     replace HB := Lib.hid (HB.out.keep hb3)
     replace HQ := Lib.hid (HQ.out.keep hb3)
     replace HC := Lib.hid (HC.out.keep hb3)
     clear hb3 HW3
     have e0 := HC.out.c0
     have e1 := HC.out.c1
     refine KJ.out.mono ?_
     rintro e w4 ⟨rfl, hb4⟩
     have HU4 := Lib.hid (HU.out.keep hb4)
     have HO4 : Hid (Own w4 wr.heap.size w2.heap.size 3 1 A5 m1 c5 (fun j => .int .i64 (R j : Nat))) := HO5.out.keepB hb4 (Nat.le_of_lt HU.out.lt)
     have hz4 := Nat.le_trans (Nat.le_of_lt HU.out.lt) hb4.size
     clear e0 e1
     replace HR := Lib.hid (HR.out.keep hb4)
     replace HB := Lib.hid (HB.out.keep hb4)
     replace HQ := Lib.hid (HQ.out.keep hb4)
     replace HC := Lib.hid (HC.out.keep hb4)
     clear hb4 KJ HU HO5
     have e0 := HC.out.c0
     have e1 := HC.out.c1
     cases b
     ·have Hn := Lib.hid (Hno1.out rfl)
      clear HU4 HO4
      go_wp2
      go_roundw
      case rel => exact ⟨k + 1, by omega, by go_num, Hn, HR⟩
      case measure => (simp [intOf] <;> omega)
     ·have Hx := Lib.hid (Hyk.out (Hyes1.out rfl))
      have d0 := HQ.out.c0
      have d1 := HQ.out.c1
      have d2 := HQ.out.f0
      have d3 := HQ.out.f1
      have u0 := HU4.out.c0
      have u1 := HU4.out.c1
      have F5 := fr2 w4 (w.heap.size + 2) (.int .i64 (m1 : Int)) (.slice A5 m1 c5)
      have HOE := (HO4.out.keep F5 (.inr (by omega))).mono (by omega : w.heap.size ≤ wr.heap.size) (Nat.le_trans hz4 F5.size)
      have HBE := (HB.out.set (q := w.heap.size + 2) (by omega) (.int .i64 (m1 : Int)) (.slice A5 m1 c5)).below
      clear e0 e1
      go_wp2
      exact bodyPost_ret (v := .tuple #[.agg #[.int .i64 (m1 : Int), .slice A5 m1 c5], .bool true]) (by simp [results, Tryz.results8, go_sem, *]) rfl (Hx.out _ _ A5 c5 rfl HOE HBE)
    ·obtain rfl : k = F := by omega
     have Hf : Hid (fsO (m1 : Int) m1 x1 (m1 : Int) m1 x2 str.toList = none) := by show _ = _; rw [Hy.out, HfinL.out, hnil.out]; rfl
     have Hx := Lib.hid (Hno.out Hf.out)
     have d0 := HQ.out.c0
     have d1 := HQ.out.c1
     have d2 := HQ.out.f0
     have d3 := HQ.out.f1
     have HE := (HB.out.set (q := w.heap.size + 2) (by omega) (.int .i64 0) (.slice none 0 0)).below
     go_wp2
     exact bodyPost_ret (v := .tuple #[.agg #[.int .i64 0, .slice none 0 0], .bool false]) (by simp [results, Tryz.results8, go_sem, *]) rfl (Hx.out _ _ rfl HE)
  ·have i6 : (6 : Int) < (E.length : Int) := by omega
   have Hx := Lib.hid (Hno.out (Hn0.out h6))
   go_wp2
   go_loopw [10] (fun i wr => i = .int .i64 0 ∧ Hid (From w1 wr)) (fun _ _ => 1)
   case atStart => exact ⟨rfl, From.refl _⟩
   case round =>
    obtain ⟨rfl, HR⟩ := hrel
    have HQr := Lib.hid (HQ1.out.keep HR.out.below)
    have HBr := Lib.hid (HB1.out.up HR.out)
    have d0 := HQr.out.c0
    have d1 := HQr.out.c1
    have d2 := HQr.out.f0
    have d3 := HQr.out.f1
    have HE := (HBr.out.set (q := w.heap.size + 2) (by omega) (.int .i64 0) (.slice none 0 0)).below
    go_wp2
    exact bodyPost_ret (v := .tuple #[.agg #[.int .i64 0, .slice none 0 0], .bool false]) (by simp [results, Tryz.results8, go_sem, *]) rfl (Hx.out _ _ rfl HE)
end
end Go.Proofs.YticadlkcjhglnaaGreat
