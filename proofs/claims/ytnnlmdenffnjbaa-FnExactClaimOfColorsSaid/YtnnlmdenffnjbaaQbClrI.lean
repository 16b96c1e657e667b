/-
  Contract: the claim of colors: the program's.
-/
import Derived.Test.YtnnlmdenffnjbaaQbClrP
import Derived.Test.YtnnlmdenffnjbaaQbCovI
import Derived.Test.YtnnlmdenffnjbaaQbStore7
namespace Go.Proofs.Ytnnlmdenffnjbaa
open Go.RowKit

theorem CliqueCover_lo {A : Option Addr} {m c : Nat} {r : Nat → Nat} {w : World} (h : GV w A m c r) {lo : Nat} (hlo : lo ≤ w.heap.size) :
    Calls Try.prog 103 #[.agg #[.int .i64 m, .slice A m c]] w fun e w' => ∃ A' c', e = .returned (.slice A' (cvL r m).length c') ∧ ON lo w' A' c' (cvL r m) ∧ Below w.heap.size w w' :=
  (CliqueCoverOf_v h).mono fun _ _ ⟨A', c', h1, h2, h3⟩ => ⟨A', c', h1, h2.mono hlo, h3⟩

set_option maxRecDepth 100000 in
set_option maxHeartbeats 3200000 in
theorem ClaimOfColors_i (sz : Int) (A : Option Addr) (m c : Nat) (x : Nat → Int) (w : World) (B : Nat) (h : Rd w B A m c x) (hB : B ≤ w.heap.size) (hm : m ≤ 1048576) :
    Calls Try.prog 40 #[.agg #[.int .i64 sz, .slice A m c]] w fun e w' => ∃ k : Clm, e = .returned (.tuple #[.agg #[.int .i64 k.K, .int .i64 k.s, .slice k.A0 k.n0 k.c0, .string k.t, .slice k.A1 k.n1 k.c1, .slice k.A2 k.n2 k.c2, .slice k.A3 k.D.length k.c3], .bool (coB sz m x)]) ∧ SameK k (coK sz m x) ∧ ApK k ∧ OwnK w' w.heap.size w'.heap.size k ∧ Below w.heap.size w w' := by
  obtain ⟨W, hW⟩ : ∃ W : World, W = ((w.alloc (Obj.cells #[Value.int IntKind.i64 sz, Value.slice A m c] 28)).alloc (Obj.cells #[.int .i64 0, .int .i64 0, .slice none 0 0, .string ⟨#[]⟩, .slice none 0 0, .slice none 0 0, .slice none 0 0] 46)) := ⟨_, rfl⟩
  have HB : Hid (From w W) := by rw [hW]; exact (From.alloc _ _).alloc_ _
  have HK : Hid (GA W A m c x) := ⟨h.keep (HB.out.below.mono hB) (Nat.le_trans hB HB.out.below.size)⟩
  have HC : Hid (GC W w.heap.size sz A m c) := by rw [hW]; exact (GC.new _ _ _ _ _).keep ((Below.refl _ _).alloc (Nat.le_refl _) _)
  have HQ : Hid (KB W (w.heap.size + 1) zeroK) := by
    rw [hW]
    have := KB.new (w.alloc (Obj.cells #[Value.int IntKind.i64 sz, Value.slice A m c] 28))
    have e : (w.alloc (Obj.cells #[Value.int IntKind.i64 sz, Value.slice A m c] 28)).heap.size = w.heap.size + 1 := by simp
    rw [e] at this
    exact this
  have HW := Lib.hid hW
  clear hW h
  go_enter Try.func40, Try.ntmps40
  have e0 := HC.out.c0
  have e1 := HC.out.c1
  go_wp2_with fail
  rw [← HW.out]
  refine (IsGraph_any sz A m c x W W.heap.size HK.out.rd (Nat.le_refl _) hm).mono ?_
  rintro e w1 ⟨rfl, hb1⟩
  clear HW
  clear e0 e1
  replace HB := Lib.hid (HB.out.keep hb1)
  replace HK := Lib.hid (HK.out.keep hb1)
  replace HC := Lib.hid (HC.out.keep hb1)
  replace HQ := Lib.hid (HQ.out.keep hb1)
  clear hb1
  have e0 := HC.out.c0
  have e1 := HC.out.c1
  cases ho : okB sz m x
  · obtain ⟨z1, z2⟩ := co_bad ho
    have Z1 := Lib.hid z1
    have Z2 := Lib.hid z2
    clear z1 z2 ho
    have q0 := HQ.out.c0
    have g0 := HQ.out.f0
    have q1 := HQ.out.c1
    have g1 := HQ.out.f1
    have q2 := HQ.out.c2
    have g2 := HQ.out.f2
    have q3 := HQ.out.c3
    have g3 := HQ.out.f3
    have q4 := HQ.out.c4
    have g4 := HQ.out.f4
    have q5 := HQ.out.c5
    have g5 := HQ.out.f5
    have q6 := HQ.out.c6
    have g6 := HQ.out.f6
    go_wp2
    have HB2 := HB.out.set7 (q := w.heap.size + 1) (by omega) zeroK
    exact bodyPost_ret (v := .tuple #[.agg #[.int .i64 0, .int .i64 0, .slice none 0 0, .string ⟨#[]⟩, .slice none 0 0, .slice none 0 0, .slice none 0 0], .bool false]) (by simp [results, Try.results40, go_sem, *]) rfl ⟨zeroK, by rw [Z1.out]; rfl, by rw [Z2.out]; exact ⟨rfl, rfl, rfl, rfl, rfl, rfl, rfl, rfl, rfl, rfl⟩, ApK.zero, OwnK.zero _ _ _, HB2.below⟩
  obtain ⟨_, es, vg0, _⟩ := okB_ok' ho
  subst es
  have HV : Hid (GV w1 A m c (rw_ x)) := HK.out.gv ho
  have hn7 := vg0.n7
  have hn1 := vg0.n1
  have Ho := Lib.hid ho
  have hlq : lqN (rw_ x) m < 128 := Nat.lt_of_lt_of_le (lq_lt _ _) (two_pow_le hn7)
  have hli : liN (rw_ x) m < 128 := Nat.lt_of_lt_of_le (li_lt _ _) (two_pow_le hn7)
  obtain ⟨hch, _, _⟩ := chN_spec (r := rw_ x) hn1
  obtain ⟨hcb, _, _⟩ := chN_spec (r := coR (rw_ x) m) hn1
  have hcvl := cvL_len (r := rw_ x) (m := m)
  rw [← hcvl] at hcb
  have hpos := chN_pos (r := rw_ x) (m := m)
  have hco := coL_some (r := rw_ x) hn1
  have HCO := Lib.hid hco
  have Hcl : Hid ((coL (rw_ x) m).length = m) := coL_len hn1
  obtain ⟨lq, elq⟩ : ∃ lq, lq = lqN (rw_ x) m := ⟨_, rfl⟩
  obtain ⟨li, eli⟩ : ∃ li, li = liN (rw_ x) m := ⟨_, rfl⟩
  obtain ⟨ch, ech⟩ : ∃ ch, ch = chN (rw_ x) m := ⟨_, rfl⟩
  have Elq := Lib.hid elq
  have Eli := Lib.hid eli
  have Ech := Lib.hid ech
  rw [← elq] at hlq
  rw [← eli] at hli
  rw [← ech] at hch hpos
  clear ho vg0 hcvl hco elq eli ech
  go_wp2
  have HSC : Hid (∀ z : World, Below w1.heap.size w1 z → (Below w1.heap.size w1 z ∧ z.cell? ⟨w.heap.size, 0, none⟩ = some (.int .i64 m) ∧ z.cell? ⟨w.heap.size, 1, none⟩ = some (.slice A m c))) := fun z hz => ⟨hz, up_ hz e0, up_ hz e1⟩
  have HZ0 : Hid (Below w1.heap.size w1 w1.drew) := (Below.refl _ _).drew
  have HS1 := Lib.hid (HSC.out _ HZ0.out)
  have KR1 : Hid (∀ z : World, Below w1.heap.size w1 z → _) := fun z hz => (show _ from by have := ChromaticNumber_v (HV.out.keep hz); rw [← Ech.out] at this; exact this)
  have KR2 : Hid (∀ z : World, Below w1.heap.size w1 z → _) := fun z hz => (show _ from by have := LargestClique_v (HV.out.keep hz); rw [← Elq.out] at this; exact this)
  go_region_held3 (fun z => Below w1.heap.size w1 z ∧ z.cell? ⟨w.heap.size, 0, none⟩ = some (.int .i64 m) ∧ z.cell? ⟨w.heap.size, 1, none⟩ = some (.slice A m c))
    (first | exact HS1.out | assumption | exact HSC.out _ hz3 | exact HSC.out _ hz2 | fail)
    (first | (go_at_call 101; ((with_reducible refine (KR1.out _ HZ0.out).mono ?_); rintro e w2 ⟨rfl, hb2⟩; have hz2 := bl_trans HZ0.out hb2)) | (go_at_call 102; ((with_reducible refine (KR2.out _ hz2).mono ?_); rintro e w3 ⟨rfl, hb3⟩; have hz3 := bl_trans hz2 hb3)))
  clear e0 e1
  replace HB := Lib.hid (HB.out.keep hz3)
  replace HK := Lib.hid (HK.out.keep hz3)
  replace HC := Lib.hid (HC.out.keep hz3)
  replace HQ := Lib.hid (HQ.out.keep hz3)
  replace HV := Lib.hid (HV.out.keep hz3)
  clear hb2 hz2 hb3 hz3 HSC HZ0 HS1 KR1 KR2
  have e0 := HC.out.c0
  have e1 := HC.out.c1
  have hlo3 := HQ.out.lt
  have HR3 : Hid (From w3 w3) := From.refl w3
  go_wp2
  have HSC : Hid (∀ z : World, Below w3.heap.size w3 z → (Below w3.heap.size w3 z ∧ z.cell? ⟨w.heap.size, 0, none⟩ = some (.int .i64 m) ∧ z.cell? ⟨w.heap.size, 1, none⟩ = some (.slice A m c))) := fun z hz => ⟨hz, up_ hz e0, up_ hz e1⟩
  have HZ0 : Hid (Below w3.heap.size w3 w3.drew) := (Below.refl _ _).drew
  have HS1 := Lib.hid (HSC.out _ HZ0.out)
  have KR1 : Hid (∀ z : World, Below w3.heap.size w3 z → _) := fun z hz => CliqueCover_lo (HV.out.keep hz) (lo := w3.heap.size) hz.size
  have KR2 : Hid (∀ z : World, Below w3.heap.size w3 z → _) := fun z hz => (show _ from by have := LargestIndependent_v (HV.out.keep hz); rw [← Eli.out] at this; exact this)
  go_region_held3 (fun z => Below w3.heap.size w3 z ∧ z.cell? ⟨w.heap.size, 0, none⟩ = some (.int .i64 m) ∧ z.cell? ⟨w.heap.size, 1, none⟩ = some (.slice A m c))
    (first | exact HS1.out | assumption | exact HSC.out _ hz5 | exact HSC.out _ hz4 | fail)
    (first | (go_at_call 103; ((with_reducible refine (KR1.out _ HZ0.out).mono ?_); rintro e w4 ⟨A4, c4, rfl, hO4, hb4⟩; have hz4 := bl_trans HZ0.out hb4)) | (go_at_call 104; ((with_reducible refine (KR2.out _ hz4).mono ?_); rintro e w5 ⟨rfl, hb5⟩; have hz5 := bl_trans hz4 hb5)))
  clear e0 e1
  replace HB := Lib.hid (HB.out.keep hz5)
  replace HK := Lib.hid (HK.out.keep hz5)
  replace HC := Lib.hid (HC.out.keep hz5)
  replace HQ := Lib.hid (HQ.out.keep hz5)
  replace HV := Lib.hid (HV.out.keep hz5)
  replace HR3 := Lib.hid (HR3.out.keep hz5)
  clear hz4 hz5 HSC HZ0 HS1 KR1 KR2
  have e0 := HC.out.c0
  have e1 := HC.out.c1
  have HO5 : Hid (ON w3.heap.size w5 A4 c4 (cvL (rw_ x) m)) := hO4.keep hb5
  have hz45 := hb4.size
  have hz55 := hb5.size
  clear hO4 hb4 hb5
  have hq5 := HQ.out.lt
  by_cases h1 : cn lq = ch
  · have d1 : ((cn lq : Int) == (ch : Int)) = true := by simp; omega
    obtain ⟨z1, z2⟩ := co_one Ho.out (by rw [← Elq.out, ← Ech.out]; exact h1)
    rw [← Elq.out] at z2
    have Z1 := Lib.hid z1
    have Z2 := Lib.hid z2
    clear z1 z2 h1
    go_wp2_with fail
    refine (CountSet_v lq hlq _).mono ?_
    rintro e w6 ⟨rfl, hb6⟩
    clear e0 e1
    replace HB := Lib.hid (HB.out.keep hb6)
    replace HK := Lib.hid (HK.out.keep hb6)
    replace HC := Lib.hid (HC.out.keep hb6)
    replace HQ := Lib.hid (HQ.out.keep hb6)
    replace HV := Lib.hid (HV.out.keep hb6)
    replace HR3 := Lib.hid (HR3.out.keep hb6)
    clear hb6
    have e0 := HC.out.c0
    have e1 := HC.out.c1
    have hq6 := HQ.out.lt
    go_wp2_with fail
    refine (ColoringWith_v HV.out hpos (by omega)).mono ?_
    rintro e w7 ⟨A7, n7, c7, rfl, hx7, hb7⟩
    clear e0 e1
    replace HB := Lib.hid (HB.out.keep hb7)
    replace HK := Lib.hid (HK.out.keep hb7)
    replace HC := Lib.hid (HC.out.keep hb7)
    replace HQ := Lib.hid (HQ.out.keep hb7)
    replace HV := Lib.hid (HV.out.keep hb7)
    replace HR3 := Lib.hid (HR3.out.keep hb7)
    clear hb7
    have e0 := HC.out.c0
    have e1 := HC.out.c1
    obtain ⟨rfl, hO7⟩ := hx7 (coL (rw_ x) m) (by rw [Ech.out]; exact HCO.out)
    have HO7 : Hid (ON w6.heap.size w7 A7 c7 (coL (rw_ x) m)) := hO7
    have hz67 := (show w6.heap.size ≤ w7.heap.size from by
      rcases hO7.own with ⟨e, _⟩ | ⟨g, _, _, k2, k3, _⟩
      · have := Hcl.out
        rcases hO7.own with ⟨_, e2, _⟩ | ⟨g, _, _, k2, k3, _⟩ <;> omega
      · omega)
    clear hx7 hO7
    go_wp2_with fail
    refine (copyGraph_any (m : Int) A m c x w7 w7.heap.size HK.out.rd (Nat.le_refl _) hm).mono ?_
    rintro e w8 ⟨A8, c8, rfl, hO8, hb8⟩
    clear e0 e1
    replace HB := Lib.hid (HB.out.keep hb8)
    replace HK := Lib.hid (HK.out.keep hb8)
    replace HC := Lib.hid (HC.out.keep hb8)
    replace HQ := Lib.hid (HQ.out.keep hb8)
    replace HV := Lib.hid (HV.out.keep hb8)
    replace HR3 := Lib.hid (HR3.out.keep hb8)
    have e0 := HC.out.c0
    have e1 := HC.out.c1
    have hO8 := hO8.mono (show w7.heap.size ≤ w7.heap.size + 2 by omega) (Nat.le_refl _)
    obtain ⟨p1, p2, p3, p4, p5⟩ := clr_end (K := 3) (sv := lq) (q := w.heap.size + 1) (w8 := w8) (x := x) HQ.out HB.out (Nat.le_succ _) (HO7.out.own.keepB hb8 (Nat.le_refl _)) (by omega) (by omega) hb8.size hO8
    have hZu : clrW w8 (w.heap.size + 1) 3 A8 m c8 A7 (coL (rw_ x) m).length c7 lq = (st7 w8 (w.heap.size + 1) (.int .i64 3) (.int .i64 m) (.slice A8 m c8) (.string ⟨#[]⟩) (.slice A7 (coL (rw_ x) m).length c7) (.slice (some ⟨w8.heap.size, 0, none⟩) 1 1) (.slice none 0 0)).alloc (Obj.cells #[.int .i64 (lq : Int)] 3) := rfl
    unfold st7 at hZu
    obtain ⟨Z, hZ⟩ : ∃ Z : World, Z = clrW w8 (w.heap.size + 1) 3 A8 m c8 A7 (coL (rw_ x) m).length c7 lq := ⟨_, rfl⟩
    rw [← hZ] at p1 p3 p4 hZu
    have P := Lib.hid (And.intro p2 (And.intro p3 (And.intro p4 p5)))
    have k0 : Z.cell? ⟨w.heap.size + 1, 0, none⟩ = some (.int .i64 3) := p1.c0
    have k1 : Z.cell? ⟨w.heap.size + 1, 1, none⟩ = some (.int .i64 m) := p1.c1
    have k2 : Z.cell? ⟨w.heap.size + 1, 2, none⟩ = some (.slice A8 m c8) := p1.c2
    have k3 : Z.cell? ⟨w.heap.size + 1, 3, none⟩ = some (.string ⟨#[]⟩) := p1.c3
    have k4 : Z.cell? ⟨w.heap.size + 1, 4, none⟩ = some (.slice A7 (coL (rw_ x) m).length c7) := p1.c4
    have k5 : Z.cell? ⟨w.heap.size + 1, 5, none⟩ = some (.slice (some ⟨w8.heap.size, 0, none⟩) 1 1) := p1.c5
    have k6 : Z.cell? ⟨w.heap.size + 1, 6, none⟩ = some (.slice none 0 0) := p1.c6
    have HZ := Lib.hid hZu
    clear p1 p2 p3 p4 p5 hZ hZu hO8 hb8
    have hlt := HC.out.lt
    have hlt2 := HQ.out.lt
    have q0 := HQ.out.c0
    have g0 := HQ.out.f0
    have q1 := HQ.out.c1
    have g1 := HQ.out.f1
    have q2 := HQ.out.c2
    have g2 := HQ.out.f2
    have q3 := HQ.out.c3
    have g3 := HQ.out.f3
    have q4 := HQ.out.c4
    have g4 := HQ.out.f4
    have q5 := HQ.out.c5
    have g5 := HQ.out.f5
    have q6 := HQ.out.c6
    have g6 := HQ.out.f6
    go_wp2
    rw [← HZ.out]
    clear q0 q1 q2 q3 q4 q5 q6 g0 g1 g2 g3 g4 g5 g6 HZ
    exact bodyPost_ret (v := .tuple #[.agg #[.int .i64 3, .int .i64 m, .slice A8 m c8, .string ⟨#[]⟩, .slice A7 (coL (rw_ x) m).length c7, .slice (some ⟨w8.heap.size, 0, none⟩) 1 1, .slice none 0 0], .bool true]) (by simp [results, Try.results40, go_sem, *]) rfl ⟨clrM w8 3 A8 m c8 x A7 (coL (rw_ x) m) c7 lq, by rw [Z1.out]; rfl, by rw [Z2.out]; exact P.out.2.2.2, P.out.1, P.out.2.1, P.out.2.2.1⟩
  · have d1 : ((cn lq : Int) == (ch : Int)) = false := by simp; omega
    go_wp2_with fail
    refine (CountSet_v lq hlq _).mono ?_
    rintro e w8 ⟨rfl, hb8⟩
    clear e0 e1
    replace HB := Lib.hid (HB.out.keep hb8)
    replace HK := Lib.hid (HK.out.keep hb8)
    replace HC := Lib.hid (HC.out.keep hb8)
    replace HQ := Lib.hid (HQ.out.keep hb8)
    replace HO5 := Lib.hid (HO5.out.keep hb8)
    replace HR3 := Lib.hid (HR3.out.keep hb8)
    clear hb8
    have e0 := HC.out.c0
    have e1 := HC.out.c1
    by_cases h2 : cn li = (cvL (rw_ x) m).length
    · have d2 : ((cn li : Int) == ((cvL (rw_ x) m).length : Int)) = true := by simp; omega
      obtain ⟨z1, z2⟩ := co_two Ho.out (by rw [← Elq.out, ← Ech.out]; exact h1) (by rw [← Eli.out]; exact h2)
      rw [← Eli.out] at z2
      have Z1 := Lib.hid z1
      have Z2 := Lib.hid z2
      clear z1 z2 h1 h2
      go_wp2_with fail
      refine (CountSet_v li hli _).mono ?_
      rintro e w9 ⟨rfl, hb9⟩
      clear e0 e1
      replace HB := Lib.hid (HB.out.keep hb9)
      replace HK := Lib.hid (HK.out.keep hb9)
      replace HC := Lib.hid (HC.out.keep hb9)
      replace HQ := Lib.hid (HQ.out.keep hb9)
      replace HO5 := Lib.hid (HO5.out.keep hb9)
      replace HR3 := Lib.hid (HR3.out.keep hb9)
      clear hb9
      have e0 := HC.out.c0
      have e1 := HC.out.c1
      have hz9 := HB.out.below.size
      have hq9 := HQ.out.lt
      have HO9 := HO5
      have hz39 := HR3.out.below.size
      go_wp2_with fail
      refine (copyGraph_any (m : Int) A m c x w9 w9.heap.size HK.out.rd (Nat.le_refl _) hm).mono ?_
      rintro e w10 ⟨A8, c8, rfl, hO8, hb8⟩
      clear e0 e1
      replace HB := Lib.hid (HB.out.keep hb8)
      replace HK := Lib.hid (HK.out.keep hb8)
      replace HC := Lib.hid (HC.out.keep hb8)
      replace HQ := Lib.hid (HQ.out.keep hb8)
      replace HO5 := Lib.hid (HO5.out.keep hb8)
      replace HR3 := Lib.hid (HR3.out.keep hb8)
      have e0 := HC.out.c0
      have e1 := HC.out.c1
      have hO8 := hO8.mono (show w9.heap.size ≤ w9.heap.size + 2 by omega) (Nat.le_refl _)
      obtain ⟨p1, p2, p3, p4, p5⟩ := clr_end (K := 4) (sv := li) (q := w.heap.size + 1) (w8 := w10) (x := x) HQ.out HB.out (Nat.le_succ _) (HO9.out.own.keepB hb8 (Nat.le_refl _)) (by omega) (by omega) hb8.size hO8
      have hZu : clrW w10 (w.heap.size + 1) 4 A8 m c8 A4 (cvL (rw_ x) m).length c4 li = (st7 w10 (w.heap.size + 1) (.int .i64 4) (.int .i64 m) (.slice A8 m c8) (.string ⟨#[]⟩) (.slice A4 (cvL (rw_ x) m).length c4) (.slice (some ⟨w10.heap.size, 0, none⟩) 1 1) (.slice none 0 0)).alloc (Obj.cells #[.int .i64 (li : Int)] 3) := rfl
      unfold st7 at hZu
      obtain ⟨Z, hZ⟩ : ∃ Z : World, Z = clrW w10 (w.heap.size + 1) 4 A8 m c8 A4 (cvL (rw_ x) m).length c4 li := ⟨_, rfl⟩
      rw [← hZ] at p1 p3 p4 hZu
      have P := Lib.hid (And.intro p2 (And.intro p3 (And.intro p4 p5)))
      have k0 : Z.cell? ⟨w.heap.size + 1, 0, none⟩ = some (.int .i64 4) := p1.c0
      have k1 : Z.cell? ⟨w.heap.size + 1, 1, none⟩ = some (.int .i64 m) := p1.c1
      have k2 : Z.cell? ⟨w.heap.size + 1, 2, none⟩ = some (.slice A8 m c8) := p1.c2
      have k3 : Z.cell? ⟨w.heap.size + 1, 3, none⟩ = some (.string ⟨#[]⟩) := p1.c3
      have k4 : Z.cell? ⟨w.heap.size + 1, 4, none⟩ = some (.slice A4 (cvL (rw_ x) m).length c4) := p1.c4
      have k5 : Z.cell? ⟨w.heap.size + 1, 5, none⟩ = some (.slice (some ⟨w10.heap.size, 0, none⟩) 1 1) := p1.c5
      have k6 : Z.cell? ⟨w.heap.size + 1, 6, none⟩ = some (.slice none 0 0) := p1.c6
      have HZ := Lib.hid hZu
      clear p1 p2 p3 p4 p5 hZ hZu hO8 hb8
      have hlt := HC.out.lt
      have hlt2 := HQ.out.lt
      have q0 := HQ.out.c0
      have g0 := HQ.out.f0
      have q1 := HQ.out.c1
      have g1 := HQ.out.f1
      have q2 := HQ.out.c2
      have g2 := HQ.out.f2
      have q3 := HQ.out.c3
      have g3 := HQ.out.f3
      have q4 := HQ.out.c4
      have g4 := HQ.out.f4
      have q5 := HQ.out.c5
      have g5 := HQ.out.f5
      have q6 := HQ.out.c6
      have g6 := HQ.out.f6
      go_wp2
      rw [← HZ.out]
      clear q0 q1 q2 q3 q4 q5 q6 g0 g1 g2 g3 g4 g5 g6 HZ
      exact bodyPost_ret (v := .tuple #[.agg #[.int .i64 4, .int .i64 m, .slice A8 m c8, .string ⟨#[]⟩, .slice A4 (cvL (rw_ x) m).length c4, .slice (some ⟨w10.heap.size, 0, none⟩) 1 1, .slice none 0 0], .bool true]) (by simp [results, Try.results40, go_sem, *]) rfl ⟨clrM w10 4 A8 m c8 x A4 (cvL (rw_ x) m) c4 li, by rw [Z1.out]; rfl, by rw [Z2.out]; exact P.out.2.2.2, P.out.1, P.out.2.1, P.out.2.2.1⟩
    · have d2 : ((cn li : Int) == ((cvL (rw_ x) m).length : Int)) = false := by simp; omega
      obtain ⟨z1, z2⟩ := co_no Ho.out (by rw [← Elq.out, ← Ech.out]; exact h1) (by rw [← Eli.out]; exact h2)
      have Z1 := Lib.hid z1
      have Z2 := Lib.hid z2
      clear z1 z2 h1 h2
      go_wp2_with fail
      refine (CountSet_v li hli _).mono ?_
      rintro e w10 ⟨rfl, hb10⟩
      clear e0 e1
      replace HB := Lib.hid (HB.out.keep hb10)
      replace HK := Lib.hid (HK.out.keep hb10)
      replace HC := Lib.hid (HC.out.keep hb10)
      replace HQ := Lib.hid (HQ.out.keep hb10)
      replace HO5 := Lib.hid (HO5.out.keep hb10)
      replace HR3 := Lib.hid (HR3.out.keep hb10)
      clear hb10
      have e0 := HC.out.c0
      have e1 := HC.out.c1
      have q0 := HQ.out.c0
      have g0 := HQ.out.f0
      have q1 := HQ.out.c1
      have g1 := HQ.out.f1
      have q2 := HQ.out.c2
      have g2 := HQ.out.f2
      have q3 := HQ.out.c3
      have g3 := HQ.out.f3
      have q4 := HQ.out.c4
      have g4 := HQ.out.f4
      have q5 := HQ.out.c5
      have g5 := HQ.out.f5
      have q6 := HQ.out.c6
      have g6 := HQ.out.f6
      go_wp2
      have HB2 := HB.out.set7 (q := w.heap.size + 1) (by omega) zeroK
      exact bodyPost_ret (v := .tuple #[.agg #[.int .i64 0, .int .i64 0, .slice none 0 0, .string ⟨#[]⟩, .slice none 0 0, .slice none 0 0, .slice none 0 0], .bool false]) (by simp [results, Try.results40, go_sem, *]) rfl ⟨zeroK, by rw [Z1.out]; rfl, by rw [Z2.out]; exact ⟨rfl, rfl, rfl, rfl, rfl, rfl, rfl, rfl, rfl, rfl⟩, ApK.zero, OwnK.zero _ _ _, HB2.below⟩
end Go.Proofs.Ytnnlmdenffnjbaa
