/-
  Contracts: the graphs and the list that the law FnHamilton draws (the reference's DrawHamiltonPath, DrawCutVertices, DrawCountHamiltonPaths, DrawIsWay).
-/
import Derived.Test.YtncjfgebolikoaaQsDrwO
import Derived.Test.YtncjfgebolikoaaQsSgQ
import Derived.Test.YtncjfgebolikoaaQsHamU
namespace Go.Proofs.Ytncjfgebolikoaa
open Go.RowKit
section
variable {w : World} {n c : Nat} {A : Option Addr}
set_option maxRecDepth 100000 in
set_option maxHeartbeats 6400000 in
theorem DrawHamiltonPath_s (hb : By w w.heap.size A n c) (hn : n ≤ 1048576) :
    Calls Try.prog 5 #[.slice A n c] w fun e w' => ∃ (s1 : Int) (B1 : Option Addr) (m1 d1 : Nat) (x1 : Nat → Int), e = .returned (.agg #[.int .i64 s1, .slice B1 m1 d1]) ∧ SG w w' B1 m1 d1 x1 := by
  obtain ⟨W, hW⟩ : ∃ W : World, W = (w.alloc (Obj.cells #[Value.int IntKind.i64 0, Value.slice none 0 0] 26)) := ⟨_, rfl⟩
  have HB : Hid (Below w.heap.size w W) := by rw [hW]; exact (Below.refl _ _).alloc (Nat.le_refl _) _
  have hlW : W.heap.size = w.heap.size + 1 := by rw [hW]; simp
  have HR0 : Hid (GC W (w.heap.size) 0 none 0 0) := by rw [hW]; constructor <;> simp [go_sem]
  have HW := Lib.hid hW
  have KB := Lib.hid (l1New_s (hb.keep HB.out (by omega)) hn : Calls Try.prog 26 #[.slice A n c] W _)
  clear hW hb
  go_enter Try.func5, Try.ntmps5
  go_wp2_with fail
  rw [← HW.out]
  clear HW
  refine KB.out.mono ?_
  rintro e w1 ⟨q, rfl, hq, hc, hb⟩
  replace HR0 := Lib.hid (HR0.out.keep hb)
  have hl1 := hb.size
  replace HB := Lib.hid (HB.out.trans (hb.mono (by omega)))
  have HC := Lib.hid hc
  clear hb KB hc
  have hql := HC.out.lt
  have KB := Lib.hid (l12Graph_s HC.out)
  go_wp2_with fail
  refine KB.out.mono ?_
  rintro e w2 ⟨s1, B1, m1, d1, x1, rfl, h7m1, ho, hd⟩
  replace HR0 := Lib.hid (HR0.out.keepF hd.fr (.inl (by omega)))
  have hlw2 := hd.fr.size
  replace HB := Lib.hid (HB.out.trans (hd.fr.below (by omega) (by omega)))
  have HO1 := Lib.hid ho
  clear hd KB ho HC
  have r0c0 := HR0.out.c0
  have r0c1 := HR0.out.c1
  have r0f0 := HR0.out.f0
  have r0f1 := HR0.out.f1
  go_wp2
  exact bodyPost_ret (v := .agg #[.int .i64 s1, .slice B1 m1 d1]) (by simp [results, Try.results5, go_sem, *]) rfl ⟨s1, B1, m1, d1, x1, rfl, SG.fin HB.out (fr2 w2 w.heap.size _ _) h7m1 HO1.out (by omega) (Nat.le_refl _)⟩
set_option maxRecDepth 100000 in
set_option maxHeartbeats 6400000 in
theorem DrawCutVertices_s (hb : By w w.heap.size A n c) (hn : n ≤ 1048576) :
    Calls Try.prog 22 #[.slice A n c] w fun e w' => ∃ (s1 : Int) (B1 : Option Addr) (m1 d1 : Nat) (x1 : Nat → Int), e = .returned (.agg #[.int .i64 s1, .slice B1 m1 d1]) ∧ SG w w' B1 m1 d1 x1 := by
  obtain ⟨W, hW⟩ : ∃ W : World, W = (w.alloc (Obj.cells #[Value.int IntKind.i64 0, Value.slice none 0 0] 26)) := ⟨_, rfl⟩
  have HB : Hid (Below w.heap.size w W) := by rw [hW]; exact (Below.refl _ _).alloc (Nat.le_refl _) _
  have hlW : W.heap.size = w.heap.size + 1 := by rw [hW]; simp
  have HR0 : Hid (GC W (w.heap.size) 0 none 0 0) := by rw [hW]; constructor <;> simp [go_sem]
  have HW := Lib.hid hW
  have KB := Lib.hid (l1New_s (hb.keep HB.out (by omega)) hn : Calls Try.prog 26 #[.slice A n c] W _)
  clear hW hb
  go_enter Try.func22, Try.ntmps22
  go_wp2_with fail
  rw [← HW.out]
  clear HW
  refine KB.out.mono ?_
  rintro e w1 ⟨q, rfl, hq, hc, hb⟩
  replace HR0 := Lib.hid (HR0.out.keep hb)
  have hl1 := hb.size
  replace HB := Lib.hid (HB.out.trans (hb.mono (by omega)))
  have HC := Lib.hid hc
  clear hb KB hc
  have hql := HC.out.lt
  have KB := Lib.hid (l2Any_s HC.out)
  go_wp2_with fail
  refine KB.out.mono ?_
  rintro e w2 ⟨s1, B1, m1, d1, x1, rfl, h1m1, h7m1, ho, hd⟩
  replace HR0 := Lib.hid (HR0.out.keepF hd.fr (.inl (by omega)))
  have hlw2 := hd.fr.size
  replace HB := Lib.hid (HB.out.trans (hd.fr.below (by omega) (by omega)))
  have HO1 := Lib.hid ho
  clear hd KB ho HC
  have r0c0 := HR0.out.c0
  have r0c1 := HR0.out.c1
  have r0f0 := HR0.out.f0
  have r0f1 := HR0.out.f1
  go_wp2
  exact bodyPost_ret (v := .agg #[.int .i64 s1, .slice B1 m1 d1]) (by simp [results, Try.results22, go_sem, *]) rfl ⟨s1, B1, m1, d1, x1, rfl, SG.fin HB.out (fr2 w2 w.heap.size _ _) h7m1 HO1.out (by omega) (Nat.le_refl _)⟩
set_option maxRecDepth 100000 in
set_option maxHeartbeats 6400000 in
theorem DrawCountHamiltonPaths_s (hb : By w w.heap.size A n c) (hn : n ≤ 1048576) :
    Calls Try.prog 19 #[.slice A n c] w fun e w' => ∃ (s1 : Int) (B1 : Option Addr) (m1 d1 : Nat) (x1 : Nat → Int), e = .returned (.agg #[.int .i64 s1, .slice B1 m1 d1]) ∧ SG w w' B1 m1 d1 x1 := by
  obtain ⟨W, hW⟩ : ∃ W : World, W = (w.alloc (Obj.cells #[Value.int IntKind.i64 0, Value.slice none 0 0] 26)) := ⟨_, rfl⟩
  have HB : Hid (Below w.heap.size w W) := by rw [hW]; exact (Below.refl _ _).alloc (Nat.le_refl _) _
  have hlW : W.heap.size = w.heap.size + 1 := by rw [hW]; simp
  have HR0 : Hid (GC W (w.heap.size) 0 none 0 0) := by rw [hW]; constructor <;> simp [go_sem]
  have HW := Lib.hid hW
  have KB := Lib.hid (l1New_s (hb.keep HB.out (by omega)) hn : Calls Try.prog 26 #[.slice A n c] W _)
  clear hW hb
  go_enter Try.func19, Try.ntmps19
  go_wp2_with fail
  rw [← HW.out]
  clear HW
  refine KB.out.mono ?_
  rintro e w1 ⟨q, rfl, hq, hc, hb⟩
  replace HR0 := Lib.hid (HR0.out.keep hb)
  have hl1 := hb.size
  replace HB := Lib.hid (HB.out.trans (hb.mono (by omega)))
  have HC := Lib.hid hc
  clear hb KB hc
  have hql := HC.out.lt
  have KB := Lib.hid (l2Any_s HC.out)
  go_wp2_with fail
  refine KB.out.mono ?_
  rintro e w2 ⟨s1, B1, m1, d1, x1, rfl, h1m1, h7m1, ho, hd⟩
  replace HR0 := Lib.hid (HR0.out.keepF hd.fr (.inl (by omega)))
  have hlw2 := hd.fr.size
  replace HB := Lib.hid (HB.out.trans (hd.fr.below (by omega) (by omega)))
  have HO1 := Lib.hid ho
  clear hd KB ho HC
  have r0c0 := HR0.out.c0
  have r0c1 := HR0.out.c1
  have r0f0 := HR0.out.f0
  have r0f1 := HR0.out.f1
  go_wp2
  exact bodyPost_ret (v := .agg #[.int .i64 s1, .slice B1 m1 d1]) (by simp [results, Try.results19, go_sem, *]) rfl ⟨s1, B1, m1, d1, x1, rfl, SG.fin HB.out (fr2 w2 w.heap.size _ _) h7m1 HO1.out (by omega) (Nat.le_refl _)⟩
set_option maxRecDepth 100000 in
set_option maxHeartbeats 6400000 in
theorem DrawIsWay_s (hb : By w w.heap.size A n c) (hn : n ≤ 1048576) :
    Calls Try.prog 21 #[.slice A n c] w fun e w' => ∃ (s1 : Int) (B1 : Option Addr) (m1 d1 : Nat) (x1 : Nat → Int) (A3 : Option Addr) (n3 c3 : Nat) (l : List Int), e = .returned (.tuple #[.agg #[.int .i64 s1, .slice B1 m1 d1], .slice A3 n3 c3]) ∧ SG w w' B1 m1 d1 x1 ∧ n3 ≤ 7 ∧ LI w' A3 n3 c3 l := by
  obtain ⟨W, hW⟩ : ∃ W : World, W = (w.alloc (Obj.cells #[Value.int IntKind.i64 0, Value.slice none 0 0] 26)) := ⟨_, rfl⟩
  have HB : Hid (Below w.heap.size w W) := by rw [hW]; exact (Below.refl _ _).alloc (Nat.le_refl _) _
  have hlW : W.heap.size = w.heap.size + 1 := by rw [hW]; simp
  have HR0 : Hid (GC W (w.heap.size) 0 none 0 0) := by rw [hW]; constructor <;> simp [go_sem]
  have HW := Lib.hid hW
  have HBy := Lib.hid hb
  have KB := Lib.hid (l1New_s (hb.keep HB.out (by omega)) hn : Calls Try.prog 26 #[.slice A n c] W _)
  clear hW hb
  go_enter Try.func21, Try.ntmps21
  go_wp2_with fail
  rw [← HW.out]
  clear HW
  refine KB.out.mono ?_
  rintro e w1 ⟨q, rfl, hq, hc, hb⟩
  replace HR0 := Lib.hid (HR0.out.keep hb)
  have hl1 := hb.size
  replace HB := Lib.hid (HB.out.trans (hb.mono (by omega)))
  have HC := Lib.hid hc
  clear hb KB hc
  have hql := HC.out.lt
  have KB := Lib.hid (l12Graph_s HC.out)
  go_wp2_with fail
  refine KB.out.mono ?_
  rintro e w2 ⟨s1, B1, m1, d1, x1, rfl, h7m1, ho, hd⟩
  replace HR0 := Lib.hid (HR0.out.keepF hd.fr (.inl (by omega)))
  have hlw2 := hd.fr.size
  replace HB := Lib.hid (HB.out.trans (hd.fr.below (by omega) (by omega)))
  replace HC := Lib.hid hd.cu
  have HO1 := Lib.hid ho
  clear hd KB ho
  obtain ⟨U, hU⟩ : ∃ U : World, U = (w2.alloc (Obj.cells #[.int .i64 s1, .slice B1 m1 d1] 26)) := ⟨_, rfl⟩
  have hbU : Below w2.heap.size w2 U := by rw [hU]; exact (Below.refl _ _).alloc (Nat.le_refl _) _
  have hlU : U.heap.size = w2.heap.size + 1 := by rw [hU]; simp
  have HG1 : Hid (GC U w2.heap.size s1 B1 m1 d1) := by rw [hU]; exact GC.new _ _ _ _ _
  replace HR0 := Lib.hid (HR0.out.keep hbU)
  replace HB := Lib.hid (HB.out.trans (hbU.mono (by omega)))
  replace HC := Lib.hid (HC.out.keep hbU)
  replace HO1 := Lib.hid (HO1.out.keepB hbU (Nat.le_refl _))
  have HU := Lib.hid hU
  have e0 := HG1.out.c0
  have e1 := HG1.out.c1
  have hham := ham_len (sz := s1) (m := m1) (x := x1) (closed := false)
  have KC := Lib.hid (HamiltonPath_s s1 B1 m1 d1 x1 U U.heap.size (HO1.out.rd.keep (Below.refl _ _) (by omega)) (Nat.le_refl _) (by omega))
  obtain ⟨Fl, hF⟩ : ∃ F, F = hamL s1 m1 x1 false := ⟨_, rfl⟩
  obtain ⟨is, his⟩ : ∃ b, b = hamB s1 m1 x1 false := ⟨_, rfl⟩
  rw [← hF, ← his] at KC
  rw [← hF] at hham
  clear hU hbU his hF
  go_wp2_with fail
  rw [← HU.out]
  clear HU
  refine KC.out.mono ?_
  rintro e w3 ⟨A3, c3, rfl, hoD, hb⟩
  replace HR0 := Lib.hid (HR0.out.keep hb)
  replace HG1 := Lib.hid (HG1.out.keep hb)
  replace HB := Lib.hid (HB.out.trans (hb.mono (by omega)))
  replace HC := Lib.hid (HC.out.keep hb)
  replace HO1 := Lib.hid (HO1.out.keepB hb (by omega))
  have HD := Lib.hid hoD
  have hl3 := hb.size
  have HQL : Hid (q + 1 ≤ w2.heap.size) := by show _ ≤ _; omega
  have HQW : Hid (w.heap.size + 1 ≤ w2.heap.size) := by show _ ≤ _; omega
  clear e0 e1 KC hb hoD
  cases is
  · skip
    have hq3 : w.heap.size + 1 ≤ q := by omega
    have hlr := HG1.out.lt
    have KL0 := Lib.hid (l4List_s (sz := s1) (B := B1) (m := m1) (d := d1) (HC.out.keep (Below.refl _ _).drew : Cu w3.drew q A n c))
    have HS1 : Hid (w3.drew.cell? ⟨w2.heap.size, 0, none⟩ = some (.int .i64 s1) ∧ w3.drew.cell? ⟨w2.heap.size, 1, none⟩ = some (.slice B1 m1 d1)) := ⟨HG1.out.c0, HG1.out.c1⟩
    go_wp2
    go_region_held3 (fun z => z.cell? ⟨w2.heap.size, 0, none⟩ = some (.int .i64 s1) ∧ z.cell? ⟨w2.heap.size, 1, none⟩ = some (.slice B1 m1 d1))
      (first | exact HS1.out | assumption | exact z6 | exact z7 | fail)
      (first
        | ((go_at_call 50; ((with_reducible refine KL0.out.mono ?_); rintro e w6 ⟨A6, n6, c6, f6, rfl, h6, ho6, hd6⟩; have HR6 := HR0.out.drew.keepF hd6.fr (.inl hq3); have HG6 := HG1.out.drew.keepF hd6.fr (.inr HQL.out); have y0 := HR6.c0; have y1 := HR6.c1; have y2 := HR6.f0; have y3 := HR6.f1; have z6 : w6.cell? ⟨w2.heap.size, 0, none⟩ = some (.int .i64 s1) ∧ w6.cell? ⟨w2.heap.size, 1, none⟩ = some (.slice B1 m1 d1) := ⟨HG6.c0, HG6.c1⟩; have HG7 := HG6.keepF (fr2 w6 w.heap.size (.int .i64 s1) (.slice B1 m1 d1)) (.inr HQW.out); have z7 : ((w6.setCell ⟨w.heap.size, 0, none⟩ (.int .i64 s1)).setCell ⟨w.heap.size, 1, none⟩ (.slice B1 m1 d1)).cell? ⟨w2.heap.size, 0, none⟩ = some (.int .i64 s1) ∧ ((w6.setCell ⟨w.heap.size, 0, none⟩ (.int .i64 s1)).setCell ⟨w.heap.size, 1, none⟩ (.slice B1 m1 d1)).cell? ⟨w2.heap.size, 1, none⟩ = some (.slice B1 m1 d1) := ⟨HG7.c0, HG7.c1⟩)))
        | fail)
    have F := fr2 w6 w.heap.size (.int .i64 s1) (.slice B1 m1 d1)
    have hz6 : w3.heap.size ≤ w6.heap.size := hd6.fr.size
    have HF := Lib.hid (SG.fin (HB.out.drew.trans (hd6.fr.below (by omega) HB.out.size)) F h7m1 (HO1.out.drew.keep hd6.fr (.inr (by omega))) (by omega) (by omega))
    have HI := Lib.hid (LI.of ((ho6.keep F (.inr (by show w.heap.size + 1 ≤ w3.heap.size; omega))).rd) F.size)
    clear F hd6 ho6 HR6 HG6 HG7 z6 z7 KL0 HS1
    go_wp2
    exact bodyPost_ret (v := .tuple #[.agg #[.int .i64 s1, .slice B1 m1 d1], .slice A6 n6 c6]) (by simp [results, Try.results21, go_sem, *]) rfl ⟨s1, B1, m1, d1, x1, A6, n6, c6, _, rfl, HF.out, h6, HI.out⟩
  · skip
    have KB := Lib.hid (l1Once_s (k := 3) HC.out (by omega) (by omega))
    go_wp2_with fail
    refine KB.out.mono ?_
    rintro e w5 ⟨y, rfl, hd⟩
    replace HR0 := Lib.hid (HR0.out.keepF hd.fr (.inl (by omega)))
    replace HG1 := Lib.hid (HG1.out.keepF hd.fr (.inr (by omega)))
    replace HO1 := Lib.hid (HO1.out.keep hd.fr (.inr (by omega)))
    replace HD := Lib.hid (HD.out.keep hd.fr (.inr (by omega)))
    have hl5 := hd.fr.size
    replace HB := Lib.hid (HB.out.trans (hd.fr.below (by omega) HB.out.size))
    replace HC := Lib.hid hd.cu
    clear hd KB
    cases y
    · have F := fr2 w5 w.heap.size (.int .i64 s1) (.slice B1 m1 d1)
      have HF := Lib.hid (SG.fin HB.out F h7m1 HO1.out (by omega) (by omega))
      have HI := Lib.hid (LI.of (HD.out.keep F (.inr (by omega))).rd (by have := F.size; omega))
      have g0 := HG1.out.c0
      have g1 := HG1.out.c1
      have d0 := HR0.out.c0
      have d1_ := HR0.out.c1
      have d2 := HR0.out.f0
      have d3 := HR0.out.f1
      clear F
      go_wp2
      exact bodyPost_ret (v := .tuple #[.agg #[.int .i64 s1, .slice B1 m1 d1], .slice A3 Fl.length c3]) (by simp [results, Try.results21, go_sem, *]) rfl ⟨s1, B1, m1, d1, x1, A3, Fl.length, c3, _, rfl, HF.out, hham, HI.out⟩
    · skip
      have hq3 : w.heap.size + 1 ≤ q := by omega
      have hlr := HG1.out.lt
      have KL0 := Lib.hid (l4List_s (sz := s1) (B := B1) (m := m1) (d := d1) (HC.out.keep (Below.refl _ _).drew : Cu w5.drew q A n c))
      have HS1 : Hid (w5.drew.cell? ⟨w2.heap.size, 0, none⟩ = some (.int .i64 s1) ∧ w5.drew.cell? ⟨w2.heap.size, 1, none⟩ = some (.slice B1 m1 d1)) := ⟨HG1.out.c0, HG1.out.c1⟩
      go_wp2
      go_region_held3 (fun z => z.cell? ⟨w2.heap.size, 0, none⟩ = some (.int .i64 s1) ∧ z.cell? ⟨w2.heap.size, 1, none⟩ = some (.slice B1 m1 d1))
        (first | exact HS1.out | assumption | exact z6 | exact z7 | fail)
        (first
          | ((go_at_call 50; ((with_reducible refine KL0.out.mono ?_); rintro e w6 ⟨A6, n6, c6, f6, rfl, h6, ho6, hd6⟩; have HR6 := HR0.out.drew.keepF hd6.fr (.inl hq3); have HG6 := HG1.out.drew.keepF hd6.fr (.inr HQL.out); have y0 := HR6.c0; have y1 := HR6.c1; have y2 := HR6.f0; have y3 := HR6.f1; have z6 : w6.cell? ⟨w2.heap.size, 0, none⟩ = some (.int .i64 s1) ∧ w6.cell? ⟨w2.heap.size, 1, none⟩ = some (.slice B1 m1 d1) := ⟨HG6.c0, HG6.c1⟩; have HG7 := HG6.keepF (fr2 w6 w.heap.size (.int .i64 s1) (.slice B1 m1 d1)) (.inr HQW.out); have z7 : ((w6.setCell ⟨w.heap.size, 0, none⟩ (.int .i64 s1)).setCell ⟨w.heap.size, 1, none⟩ (.slice B1 m1 d1)).cell? ⟨w2.heap.size, 0, none⟩ = some (.int .i64 s1) ∧ ((w6.setCell ⟨w.heap.size, 0, none⟩ (.int .i64 s1)).setCell ⟨w.heap.size, 1, none⟩ (.slice B1 m1 d1)).cell? ⟨w2.heap.size, 1, none⟩ = some (.slice B1 m1 d1) := ⟨HG7.c0, HG7.c1⟩)))
          | fail)
      have F := fr2 w6 w.heap.size (.int .i64 s1) (.slice B1 m1 d1)
      have hz6 : w5.heap.size ≤ w6.heap.size := hd6.fr.size
      have HF := Lib.hid (SG.fin (HB.out.drew.trans (hd6.fr.below (by omega) HB.out.size)) F h7m1 (HO1.out.drew.keep hd6.fr (.inr (by omega))) (by omega) (by omega))
      have HI := Lib.hid (LI.of ((ho6.keep F (.inr (by show w.heap.size + 1 ≤ w5.heap.size; omega))).rd) F.size)
      clear F hd6 ho6 HR6 HG6 HG7 z6 z7 KL0 HS1
      go_wp2
      exact bodyPost_ret (v := .tuple #[.agg #[.int .i64 s1, .slice B1 m1 d1], .slice A6 n6 c6]) (by simp [results, Try.results21, go_sem, *]) rfl ⟨s1, B1, m1, d1, x1, A6, n6, c6, _, rfl, HF.out, h6, HI.out⟩
end
end Go.Proofs.Ytncjfgebolikoaa
