/-
-/
import Derived.Test.YticadlkcjhglnaaGreatQnSimP
import Derived.Test.YticadlkcjhglnaaGreatQnSwP
import Derived.Test.YticadlkcjhglnaaGreatQnOptS
namespace Go.Proofs.YticadlkcjhglnaaGreat
open Go.RowKit
theorem TG.fin3 {w U W' : World} {s1 s2 : Int} {B1 B2 : Option Addr} {m1 m2 d1 d2 l1 h1 l2 h2 k : Nat} {x1 x2 : Nat → Int} (hB : Below w.heap.size w U) (F : Fr w.heap.size (w.heap.size + k) U W') (hm1 : 1 ≤ m1 ∧ m1 ≤ 7) (hm2 : 1 ≤ m2 ∧ m2 ≤ 7) (o1 : Own U l1 h1 3 1 B1 m1 d1 (fun j => .int .i64 (x1 j))) (o2 : Own U l2 h2 3 1 B2 m2 d2 (fun j => .int .i64 (x2 j))) (e1 : w.heap.size + k ≤ l1) (e2 : w.heap.size + k ≤ l2) (e3 : h1 ≤ U.heap.size) (e4 : h2 ≤ U.heap.size) : TG w W' s1 B1 m1 d1 x1 s2 B2 m2 d2 x2 :=
 ⟨hm1, hm2, (o1.keep F (.inr e1)).mono (by omega) (Nat.le_trans e3 F.size), (o2.keep F (.inr e2)).mono (by omega) (Nat.le_trans e4 F.size), hB.trans (F.below (Nat.le_refl _) hB.size)⟩
theorem fr6 (w : World) (q : Nat) (a b c d e f : Value) : Fr q (q + 3) w ((((((w.setCell ⟨q, 0, none⟩ a).setCell ⟨q, 1, none⟩ b).setCell ⟨q + 1, 0, none⟩ c).setCell ⟨q + 1, 1, none⟩ d).setCell ⟨q + 2, 0, none⟩ e).setCell ⟨q + 2, 1, none⟩ f) :=
 ((((((Fr.refl _ _ w).setCell (p := ⟨q, 0, none⟩) (Nat.le_refl _) (by show q < q + 3; omega) _).setCell (p := ⟨q, 1, none⟩) (Nat.le_refl _) (by show q < q + 3; omega) _).setCell (p := ⟨q + 1, 0, none⟩) (by show q ≤ q + 1; omega) (by show q + 1 < q + 3; omega) _).setCell (p := ⟨q + 1, 1, none⟩) (by show q ≤ q + 1; omega) (by show q + 1 < q + 3; omega) _).setCell (p := ⟨q + 2, 0, none⟩) (by show q ≤ q + 2; omega) (by show q + 2 < q + 3; omega) _).setCell (p := ⟨q + 2, 1, none⟩) (by show q ≤ q + 2; omega) (by show q + 2 < q + 3; omega) _
theorem with_draw {w : World} {s1 s2 : Int} {A A2 : Option Addr} {m1 m2 d c lo hi v : Nat} {x1 x2 : Nat → Int} {D : List Dsc} (h : GA w A m1 d x1) (hw : wiB s1 m1 x1 s2 m2 x2 = true) (hl : lists D = optL s1 m1 x1 s2 m2 x2) (hD : OwnD w lo hi A2 c D) (hhi : hi ≤ w.heap.size) (hv : v < 256) :
 Calls Tryz.prog 48 #[.agg #[.int .i64 s1, .slice A m1 d], .slice A2 D.length c, .int .i64 v] w fun e w' => ∃ (A3 : Option Addr) (c3 : Nat) (x3 : Nat → Int), e = .returned (.agg #[.int .i64 s1, .slice A3 m1 c3]) ∧ Own w' w.heap.size w'.heap.size 3 1 A3 m1 c3 (fun j => .int .i64 (x3 j)) ∧ Below w.heap.size w w' := by
 obtain ⟨o1, _, e1, e2, _, e4⟩ := sw_within hw
 subst e1 e2
 rw [e4] at hl
 rw [lists_lenE hl]
 have h7 := (okB_vg o1).1.n7
 refine (l31With_sv (h.gv o1) (swE_new _ _ _) (by omega) (swE_len h7) hD hhi hl).mono ?_
 rintro e w' ⟨A3, c3, he, _, ho, hb⟩
 exact ⟨A3, c3, _, he, ho, hb⟩
section
variable {w : World} {n c : Nat} {A : Option Addr}
set_option maxRecDepth 100000 in
set_option maxHeartbeats 6400000 in
theorem DrawIsSandwich_s (hb : By w w.heap.size A n c) (hn : n ≤ 1048576) :
 Calls Tryz.prog 21 #[.slice A n c] w fun e w' => ∃ s1 B1 m1 d1 x1 s2 B2 m2 d2 x2, ∃ (s3 : Int) (B3 : Option Addr) (m3 d3 : Nat) (x3 : Nat → Int), e = .returned (.tuple #[.agg #[.int .i64 s1, .slice B1 m1 d1], .agg #[.int .i64 s2, .slice B2 m2 d2], .agg #[.int .i64 s3, .slice B3 m3 d3]]) ∧ TG w w' s1 B1 m1 d1 x1 s2 B2 m2 d2 x2 ∧ m3 ≤ 7 ∧ Own w' w.heap.size w'.heap.size 3 1 B3 m3 d3 (fun j => .int .i64 (x3 j)) := by
 obtain ⟨W, hW⟩ : ∃ W : World, W = (((w.alloc (Obj.cells #[Value.int IntKind.i64 0, Value.slice none 0 0] 26)).alloc (Obj.cells #[Value.int IntKind.i64 0, Value.slice none 0 0] 26)).alloc (Obj.cells #[Value.int IntKind.i64 0, Value.slice none 0 0] 26)) := ⟨_, rfl⟩
 have HB : Hid (Below w.heap.size w W) := by rw [hW]; exact (((Below.refl _ _).alloc (Nat.le_refl _) _).alloc (by simp) _).alloc (by simp; omega) _
 have hlW : W.heap.size = w.heap.size + 3 := by rw [hW]; simp
 have HR0 : Hid (GC W w.heap.size 0 none 0 0) := by rw [hW]; constructor <;> simp [go_sem]
 have HR1 : Hid (GC W (w.heap.size + 1) 0 none 0 0) := by rw [hW]; constructor <;> simp [go_sem]
 have HR2 : Hid (GC W (w.heap.size + 2) 0 none 0 0) := by rw [hW]; constructor <;> simp [go_sem]
 have HW := Lib.hid hW
 have KB := Lib.hid (l1New_s (hb.keep HB.out (by omega)) hn : Calls Tryz.prog 63 #[.slice A n c] W _)
 clear hW hb
 go_enter Tryz.func21, Tryz.ntmps21
 go_wp2_with fail
 rw [← HW.out]
 clear HW
 refine KB.out.mono ?_
 rintro e w2 ⟨q, rfl, hq, hc, hb⟩
 replace HR0 := Lib.hid (HR0.out.keep hb)
 replace HR1 := Lib.hid (HR1.out.keep hb)
 replace HR2 := Lib.hid (HR2.out.keep hb)
 have hl1 := hb.size
 replace HB := Lib.hid (HB.out.trans (hb.mono (by omega)))
 have HC := Lib.hid hc
 clear hb KB hc
 have hql := HC.out.lt
 have KB := Lib.hid (l31Pair_s HC.out)
 go_wp2_with fail
 refine KB.out.mono ?_
 rintro e w3 ⟨s1, B1, m1, d1, x1, s2, B2, m2, d2, x2, rfl, hm1, hm2, o1, o2, hd⟩
 replace HR0 := Lib.hid (HR0.out.keepF hd.fr (.inl (by omega)))
 replace HR1 := Lib.hid (HR1.out.keepF hd.fr (.inl (by omega)))
 replace HR2 := Lib.hid (HR2.out.keepF hd.fr (.inl (by omega)))
 have hl3 := hd.fr.size
 replace HB := Lib.hid (HB.out.trans (hd.fr.below (by omega) (by omega)))
 replace HC := Lib.hid hd.cu
 have HO1 := Lib.hid o1
 have HO2 := Lib.hid o2
 clear hd KB o1 o2
 obtain ⟨U, hU⟩ : ∃ U : World, U = ((w3.alloc (Obj.cells #[.int .i64 s1, .slice B1 m1 d1] 26)).alloc (Obj.cells #[.int .i64 s2, .slice B2 m2 d2] 26)) := ⟨_, rfl⟩
 have hbU : Below w3.heap.size w3 U := by rw [hU]; exact ((Below.refl _ _).alloc (Nat.le_refl _) _).alloc (by simp) _
 have hlU : U.heap.size = w3.heap.size + 2 := by rw [hU]; simp
 have HG1 : Hid (GC U w3.heap.size s1 B1 m1 d1) := by rw [hU]; exact (GC.new _ _ _ _ _).keep ((Below.refl _ _).alloc (Nat.le_refl _) _)
 have HG2 : Hid (GC U (w3.heap.size + 1) s2 B2 m2 d2) := by rw [hU]; constructor <;> simp [go_sem]
 replace HR0 := Lib.hid (HR0.out.keep hbU)
 replace HR1 := Lib.hid (HR1.out.keep hbU)
 replace HR2 := Lib.hid (HR2.out.keep hbU)
 replace HB := Lib.hid (HB.out.trans (hbU.mono (by omega)))
 replace HC := Lib.hid (HC.out.keep hbU)
 replace HO1 := Lib.hid (HO1.out.keepB hbU (Nat.le_refl _))
 replace HO2 := Lib.hid (HO2.out.keepB hbU (Nat.le_refl _))
 have HU := Lib.hid hU
 have e0 := HG1.out.c0
 have e1 := HG1.out.c1
 have e2 := HG2.out.c0
 have e3 := HG2.out.c1
 have KC := Lib.hid (OptionalEdges_s s1 B1 m1 d1 x1 s2 B2 m2 d2 x2 U U.heap.size (HO1.out.rd.keep (Below.refl _ _) (by omega)) (HO2.out.rd.keep (Below.refl _ _) (by omega)) (Nat.le_refl _) (by omega) (by omega))
 clear hU hbU
 go_wp2_with fail
 rw [← HU.out]
 clear HU
 obtain ⟨is, his⟩ : ∃ b, b = wiB s1 m1 x1 s2 m2 x2 := ⟨_, rfl⟩
 rw [← his] at KC
 refine KC.out.mono ?_
 rintro e w4 ⟨A4, c4, D, rfl, hDl, hoD, hb⟩
 replace HR0 := Lib.hid (HR0.out.keep hb)
 replace HR1 := Lib.hid (HR1.out.keep hb)
 replace HR2 := Lib.hid (HR2.out.keep hb)
 replace HG1 := Lib.hid (HG1.out.keep hb)
 replace HG2 := Lib.hid (HG2.out.keep hb)
 replace HB := Lib.hid (HB.out.trans (hb.mono (by omega)))
 replace HC := Lib.hid (HC.out.keep hb)
 replace HO1 := Lib.hid (HO1.out.keepB hb (by omega))
 replace HO2 := Lib.hid (HO2.out.keepB hb (by omega))
 have HD := Lib.hid hoD
 have HDl := Lib.hid hDl
 have His := Lib.hid his
 have hl4 := hb.size
 clear e0 e1 e2 e3 KC hb hoD hDl his
 obtain ⟨bD, hbD⟩ : ∃ b, b = D.length := ⟨_, rfl⟩
 cases is
 ·have KB : Hid (Calls Tryz.prog 69 #[.pointer (some ⟨q, 0, none⟩)] w4.drew (dgQ w4 q A n c)) := by
          have hcd : Cu w4.drew q A n c := ⟨HC.out.ex, HC.out.f1, HC.out.f2, HC.out.by_, HC.out.le⟩
          refine (l2Any_s hcd).mono ?_
          rintro e w' ⟨sz, B, m, d, x, he, h1, h7, ho, hd⟩
          exact ⟨sz, B, m, d, x, he, h1, h7, ho, hd.cu, ⟨hd.fr.os, hd.fr.tape, hd.fr.output, hd.fr.size, hd.fr.block⟩⟩
  have e0 := HG1.out.c0
  have e1 := HG1.out.c1
  have e2 := HG2.out.c0
  have e3 := HG2.out.c1
  go_wp2
  refine wp_region_held_drew (S := fun z => z.cell? ⟨w3.heap.size, 0, none⟩ = some (.int .i64 s1) ∧ z.cell? ⟨w3.heap.size, 1, none⟩ = some (.slice B1 m1 d1) ∧ z.cell? ⟨w3.heap.size + 1, 0, none⟩ = some (.int .i64 s2) ∧ z.cell? ⟨w3.heap.size + 1, 1, none⟩ = some (.slice B2 m2 d2)) (by kernel_rfl) ⟨e0, e1, e2, e3⟩ (fun hHeld => ?_)
  refine pcY 0 rfl rfl (by kernel_rfl) (by rfl) (by intro w u; (try dsimp only at u); go_simp <;> with_reducible rfl) ‹_› (fun _ _ _ h => h) ?_; simp only [Act.put, sl0, sl1, sl2]
  iterate 2 (refine ptY rfl rfl (by kernel_rfl) (by rfl) (by intro w u; (try dsimp only at u); go_simp <;> with_reducible rfl) ‹_› (fun _ _ _ h => h) ?_; simp only [Act.put, sl0, sl1, sl2])
  refine wpAnyH_ready (rs := [3]) (by kernel_rfl) (by simp) ?_
  refine AllReadyH.cons rfl (fun K hK => ?_) AllReadyH.nil
  go_simp
  go_at_call 69; refine (KB.out).mono ?_
  rintro e w8 ⟨s8, A8, m8, c8, x8, rfl, hm81, hm87, ho, hd⟩
  replace HR0 := Lib.hid (HR0.out.keepF hd.fr (.inl (by omega)))
  replace HR1 := Lib.hid (HR1.out.keepF hd.fr (.inl (by omega)))
  replace HR2 := Lib.hid (HR2.out.keepF hd.fr (.inl (by omega)))
  replace HG1 := Lib.hid (HG1.out.keepF hd.fr (.inr (by omega)))
  replace HG2 := Lib.hid (HG2.out.keepF hd.fr (.inr (by omega)))
  replace HO1 := Lib.hid (HO1.out.keep hd.fr (.inr (by omega)))
  replace HO2 := Lib.hid (HO2.out.keep hd.fr (.inr (by omega)))
  have hl8 := hd.fr.size
  replace HB := Lib.hid (HB.out.trans (hd.fr.below (by omega) HB.out.size))
  have HO8 := Lib.hid ho
  have N0 := HR0.out
  have N1 := HR1.out
  have N2 := HR2.out
  have n0c0 := N0.c0
  have n0c1 := N0.c1
  have n0f0 := N0.f0
  have n0f1 := N0.f1
  have n1c0 := N1.c0
  have n1c1 := N1.c1
  have n1f0 := N1.f0
  have n1f1 := N1.f1
  have n2c0 := N2.c0
  have n2c1 := N2.c1
  have n2f0 := N2.f0
  have n2f1 := N2.f1
  have F1 := fr2 w8 (w.heap.size) (.int .i64 s1) (.slice B1 m1 d1)
  have P11 := (HG1.out).keepF F1 (.inr (by omega))
  have P12 := (HG2.out).keepF F1 (.inr (by omega))
  have F2 := fr2 ((w8.setCell ⟨w.heap.size, 0, none⟩ (.int .i64 s1)).setCell ⟨w.heap.size, 1, none⟩ (.slice B1 m1 d1)) (w.heap.size + 1) (.int .i64 s2) (.slice B2 m2 d2)
  have P21 := (P11).keepF F2 (.inr (by omega))
  have P22 := (P12).keepF F2 (.inr (by omega))
  have F3 := fr2 ((((w8.setCell ⟨w.heap.size, 0, none⟩ (.int .i64 s1)).setCell ⟨w.heap.size, 1, none⟩ (.slice B1 m1 d1)).setCell ⟨w.heap.size + 1, 0, none⟩ (.int .i64 s2)).setCell ⟨w.heap.size + 1, 1, none⟩ (.slice B2 m2 d2)) (w.heap.size + 2) (.int .i64 s8) (.slice A8 m8 c8)
  have P31 := (P21).keepF F3 (.inr (by omega))
  have P32 := (P22).keepF F3 (.inr (by omega))
  refine hK.out _ _ ⟨HG1.out.c0, HG1.out.c1, HG2.out.c0, HG2.out.c1⟩ (fun hHeld => ?_)
  clear hK K
  try simp only [Act.put, sl0, sl1, sl2]
  refine wpAnyH_ready (rs := [4]) (by kernel_rfl) (by simp) ?_
  refine AllReadyH.cons rfl (fun K hK => ?_) AllReadyH.nil
  go_simp
  refine hK.out _ _ ⟨P11.c0, P11.c1, P12.c0, P12.c1⟩ (fun hHeld => ?_)
  clear hK K
  try simp only [Act.put, sl0, sl1, sl2]
  refine wpAnyH_ready (rs := [5]) (by kernel_rfl) (by simp) ?_
  refine AllReadyH.cons rfl (fun K hK => ?_) AllReadyH.nil
  go_simp
  refine hK.out _ _ ⟨P21.c0, P21.c1, P22.c0, P22.c1⟩ (fun hHeld => ?_)
  clear hK K
  try simp only [Act.put, sl0, sl1, sl2]
  refine wpAnyH_ready (rs := [6]) (by kernel_rfl) (by simp) ?_
  refine AllReadyH.cons rfl (fun K hK => ?_) AllReadyH.nil
  go_simp
  refine hK.out _ _ ⟨P31.c0, P31.c1, P32.c0, P32.c1⟩ (fun hHeld => ?_)
  clear hK K
  try simp only [Act.put, sl0, sl1, sl2]
  refine wpAnyH_done (by kernel_rfl) ?_ _
  go_wp2
  exact bodyPost_ret (v := .tuple #[.agg #[.int .i64 s1, .slice B1 m1 d1], .agg #[.int .i64 s2, .slice B2 m2 d2], .agg #[.int .i64 s8, .slice A8 m8 c8]]) (by simp [results, Tryz.results21, go_sem, *]) rfl ⟨s1, B1, m1, d1, x1, s2, B2, m2, d2, x2, s8, A8, m8, c8, x8, rfl, TG.fin3 HB.out (fr6 w8 w.heap.size _ _ _ _ _ _) hm1 hm2 HO1.out HO2.out (by omega) (by omega) (by omega) (by omega), hm87, (HO8.out.keep (fr6 w8 w.heap.size _ _ _ _ _ _) (.inr (by omega))).mono (by omega) (fr6 w8 w.heap.size _ _ _ _ _ _).size⟩
 ·have KB := Lib.hid (l1Once_s (k := 4) HC.out (by omega) (by omega))
  go_wp2_with fail
  refine KB.out.mono ?_
  rintro e w5 ⟨y, rfl, hd⟩
  have hql4 := HC.out.lt
  replace HR0 := Lib.hid (HR0.out.keepF hd.fr (.inl (by omega)))
  replace HR1 := Lib.hid (HR1.out.keepF hd.fr (.inl (by omega)))
  replace HR2 := Lib.hid (HR2.out.keepF hd.fr (.inl (by omega)))
  replace HG1 := Lib.hid (HG1.out.keepF hd.fr (.inr (by omega)))
  replace HG2 := Lib.hid (HG2.out.keepF hd.fr (.inr (by omega)))
  replace HO1 := Lib.hid (HO1.out.keep hd.fr (.inr (by omega)))
  replace HO2 := Lib.hid (HO2.out.keep hd.fr (.inr (by omega)))
  replace HD := Lib.hid (HD.out.keep hd.fr (.inr (by omega)))
  have hl5 := hd.fr.size
  replace HB := Lib.hid (HB.out.trans (hd.fr.below (by omega) HB.out.size))
  replace HC := Lib.hid hd.cu
  clear hd KB
  cases y
  ·have e0 := HG1.out.c0
   have e1 := HG1.out.c1
   have e2 := HG2.out.c0
   have e3 := HG2.out.c1
   have KB : Hid (Calls Tryz.prog 68 #[.pointer (some ⟨q, 0, none⟩), .int .i64 256] w5.drew fun e w' => ∃ v : Nat, e = .returned (.int .i64 v) ∧ v < 256 ∧ Dr w5 q A n c w') := by
    have hcd : Cu w5.drew q A n c := ⟨HC.out.ex, HC.out.f1, HC.out.f2, HC.out.by_, HC.out.le⟩
    refine (l1Below_s (k := 256) hcd (by omega) (by omega)).mono ?_
    rintro e w' ⟨v, he, hv, hd⟩
    exact ⟨v, he, hv, hd.cu, ⟨hd.fr.os, hd.fr.tape, hd.fr.output, hd.fr.size, hd.fr.block⟩⟩
   have KW : Hid (∀ (z : World) (v : Nat), GA z B1 m1 d1 x1 → OwnD z U.heap.size w4.heap.size A4 c4 D → w4.heap.size ≤ z.heap.size → v < 256 → _) := fun z v hz hD hl hv => with_draw (v := v) hz His.out.symm HDl.out hD hl hv
   go_wp2
   refine wp_region_held_drew (S := fun z => z.cell? ⟨w3.heap.size, 0, none⟩ = some (.int .i64 s1) ∧ z.cell? ⟨w3.heap.size, 1, none⟩ = some (.slice B1 m1 d1) ∧ z.cell? ⟨w3.heap.size + 1, 0, none⟩ = some (.int .i64 s2) ∧ z.cell? ⟨w3.heap.size + 1, 1, none⟩ = some (.slice B2 m2 d2)) (by kernel_rfl) ⟨e0, e1, e2, e3⟩ (fun hHeld => ?_)
   refine pcY 0 rfl rfl (by kernel_rfl) (by rfl) (by intro w u; (try dsimp only at u); go_simp <;> with_reducible rfl) ‹_› (fun _ _ _ h => h) ?_; simp only [Act.put, sl0, sl1, sl2]
   iterate 4 (refine ptY rfl rfl (by kernel_rfl) (by rfl) (by intro w u; (try dsimp only at u); go_simp <;> with_reducible rfl) ‹_› (fun _ _ _ h => h) ?_; simp only [Act.put, sl0, sl1, sl2])
   refine wpAnyH_ready (rs := [5]) (by kernel_rfl) (by simp) ?_
   refine AllReadyH.cons rfl (fun K hK => ?_) AllReadyH.nil
   go_simp
   go_at_call 68; refine (KB.out).mono ?_
   rintro e w6 ⟨v, rfl, hv, hd⟩
   replace HR0 := Lib.hid (HR0.out.keepF hd.fr (.inl (by omega)))
   replace HR1 := Lib.hid (HR1.out.keepF hd.fr (.inl (by omega)))
   replace HR2 := Lib.hid (HR2.out.keepF hd.fr (.inl (by omega)))
   replace HG1 := Lib.hid (HG1.out.keepF hd.fr (.inr (by omega)))
   replace HG2 := Lib.hid (HG2.out.keepF hd.fr (.inr (by omega)))
   replace HO1 := Lib.hid (HO1.out.keep hd.fr (.inr (by omega)))
   replace HO2 := Lib.hid (HO2.out.keep hd.fr (.inr (by omega)))
   replace HD := Lib.hid (HD.out.keep hd.fr (.inr (by omega)))
   have hl6 := hd.fr.size
   replace HB := Lib.hid (HB.out.trans (hd.fr.below (by omega) HB.out.size))
   have K6 := Lib.hid (KW.out w6 v ⟨HO1.out.rd.keep (Below.refl _ _) (by omega)⟩ HD.out (by omega) hv)
   refine hK.out _ _ ⟨HG1.out.c0, HG1.out.c1, HG2.out.c0, HG2.out.c1⟩ (fun hHeld => ?_)
   clear hK K
   try simp only [Act.put, sl0, sl1, sl2]
   refine wpAnyH_ready (rs := [6]) (by kernel_rfl) (by simp) ?_
   refine AllReadyH.cons rfl (fun K hK => ?_) AllReadyH.nil
   go_simp
   go_at_call 48; refine (K6.out).mono ?_
   rintro e w7 ⟨A7, c7, x7, rfl, ho, hb⟩
   replace HR0 := Lib.hid (HR0.out.keep hb)
   replace HR1 := Lib.hid (HR1.out.keep hb)
   replace HR2 := Lib.hid (HR2.out.keep hb)
   replace HG1 := Lib.hid (HG1.out.keep hb)
   replace HG2 := Lib.hid (HG2.out.keep hb)
   replace HO1 := Lib.hid (HO1.out.keepB hb (by omega))
   replace HO2 := Lib.hid (HO2.out.keepB hb (by omega))
   have hl7 := hb.size
   replace HB := Lib.hid (HB.out.trans (hb.mono (by have := HB.out.size; omega)))
   have HO7 := Lib.hid ho
   have N0 := HR0.out
   have N1 := HR1.out
   have N2 := HR2.out
   have n0c0 := N0.c0
   have n0c1 := N0.c1
   have n0f0 := N0.f0
   have n0f1 := N0.f1
   have n1c0 := N1.c0
   have n1c1 := N1.c1
   have n1f0 := N1.f0
   have n1f1 := N1.f1
   have n2c0 := N2.c0
   have n2c1 := N2.c1
   have n2f0 := N2.f0
   have n2f1 := N2.f1
   have F1 := fr2 w7 (w.heap.size) (.int .i64 s1) (.slice B1 m1 d1)
   have P11 := (HG1.out).keepF F1 (.inr (by omega))
   have P12 := (HG2.out).keepF F1 (.inr (by omega))
   have F2 := fr2 ((w7.setCell ⟨w.heap.size, 0, none⟩ (.int .i64 s1)).setCell ⟨w.heap.size, 1, none⟩ (.slice B1 m1 d1)) (w.heap.size + 1) (.int .i64 s2) (.slice B2 m2 d2)
   have P21 := (P11).keepF F2 (.inr (by omega))
   have P22 := (P12).keepF F2 (.inr (by omega))
   have F3 := fr2 ((((w7.setCell ⟨w.heap.size, 0, none⟩ (.int .i64 s1)).setCell ⟨w.heap.size, 1, none⟩ (.slice B1 m1 d1)).setCell ⟨w.heap.size + 1, 0, none⟩ (.int .i64 s2)).setCell ⟨w.heap.size + 1, 1, none⟩ (.slice B2 m2 d2)) (w.heap.size + 2) (.int .i64 s1) (.slice A7 m1 c7)
   have P31 := (P21).keepF F3 (.inr (by omega))
   have P32 := (P22).keepF F3 (.inr (by omega))
   refine hK.out _ _ ⟨HG1.out.c0, HG1.out.c1, HG2.out.c0, HG2.out.c1⟩ (fun hHeld => ?_)
   clear hK K
   try simp only [Act.put, sl0, sl1, sl2]
   refine wpAnyH_ready (rs := [7]) (by kernel_rfl) (by simp) ?_
   refine AllReadyH.cons rfl (fun K hK => ?_) AllReadyH.nil
   go_simp
   refine hK.out _ _ ⟨P11.c0, P11.c1, P12.c0, P12.c1⟩ (fun hHeld => ?_)
   clear hK K
   try simp only [Act.put, sl0, sl1, sl2]
   refine wpAnyH_ready (rs := [8]) (by kernel_rfl) (by simp) ?_
   refine AllReadyH.cons rfl (fun K hK => ?_) AllReadyH.nil
   go_simp
   refine hK.out _ _ ⟨P21.c0, P21.c1, P22.c0, P22.c1⟩ (fun hHeld => ?_)
   clear hK K
   try simp only [Act.put, sl0, sl1, sl2]
   refine wpAnyH_ready (rs := [9]) (by kernel_rfl) (by simp) ?_
   refine AllReadyH.cons rfl (fun K hK => ?_) AllReadyH.nil
   go_simp
   refine hK.out _ _ ⟨P31.c0, P31.c1, P32.c0, P32.c1⟩ (fun hHeld => ?_)
   clear hK K
   try simp only [Act.put, sl0, sl1, sl2]
   refine wpAnyH_done (by kernel_rfl) ?_ _
   go_wp2
   exact bodyPost_ret (v := .tuple #[.agg #[.int .i64 s1, .slice B1 m1 d1], .agg #[.int .i64 s2, .slice B2 m2 d2], .agg #[.int .i64 s1, .slice A7 m1 c7]]) (by simp [results, Tryz.results21, go_sem, *]) rfl ⟨s1, B1, m1, d1, x1, s2, B2, m2, d2, x2, s1, A7, m1, c7, x7, rfl, TG.fin3 HB.out (fr6 w7 w.heap.size _ _ _ _ _ _) hm1 hm2 HO1.out HO2.out (by omega) (by omega) (by omega) (by omega), hm1.2, (HO7.out.keep (fr6 w7 w.heap.size _ _ _ _ _ _) (.inr (by omega))).mono (by omega) (fr6 w7 w.heap.size _ _ _ _ _ _).size⟩
  ·have KB : Hid (Calls Tryz.prog 69 #[.pointer (some ⟨q, 0, none⟩)] w5.drew (dgQ w5 q A n c)) := by
           have hcd : Cu w5.drew q A n c := ⟨HC.out.ex, HC.out.f1, HC.out.f2, HC.out.by_, HC.out.le⟩
           refine (l2Any_s hcd).mono ?_
           rintro e w' ⟨sz, B, m, d, x, he, h1, h7, ho, hd⟩
           exact ⟨sz, B, m, d, x, he, h1, h7, ho, hd.cu, ⟨hd.fr.os, hd.fr.tape, hd.fr.output, hd.fr.size, hd.fr.block⟩⟩
   have e0 := HG1.out.c0
   have e1 := HG1.out.c1
   have e2 := HG2.out.c0
   have e3 := HG2.out.c1
   go_wp2
   refine wp_region_held_drew (S := fun z => z.cell? ⟨w3.heap.size, 0, none⟩ = some (.int .i64 s1) ∧ z.cell? ⟨w3.heap.size, 1, none⟩ = some (.slice B1 m1 d1) ∧ z.cell? ⟨w3.heap.size + 1, 0, none⟩ = some (.int .i64 s2) ∧ z.cell? ⟨w3.heap.size + 1, 1, none⟩ = some (.slice B2 m2 d2)) (by kernel_rfl) ⟨e0, e1, e2, e3⟩ (fun hHeld => ?_)
   refine pcY 0 rfl rfl (by kernel_rfl) (by rfl) (by intro w u; (try dsimp only at u); go_simp <;> with_reducible rfl) ‹_› (fun _ _ _ h => h) ?_; simp only [Act.put, sl0, sl1, sl2]
   iterate 2 (refine ptY rfl rfl (by kernel_rfl) (by rfl) (by intro w u; (try dsimp only at u); go_simp <;> with_reducible rfl) ‹_› (fun _ _ _ h => h) ?_; simp only [Act.put, sl0, sl1, sl2])
   refine wpAnyH_ready (rs := [3]) (by kernel_rfl) (by simp) ?_
   refine AllReadyH.cons rfl (fun K hK => ?_) AllReadyH.nil
   go_simp
   go_at_call 69; refine (KB.out).mono ?_
   rintro e w8 ⟨s8, A8, m8, c8, x8, rfl, hm81, hm87, ho, hd⟩
   replace HR0 := Lib.hid (HR0.out.keepF hd.fr (.inl (by omega)))
   replace HR1 := Lib.hid (HR1.out.keepF hd.fr (.inl (by omega)))
   replace HR2 := Lib.hid (HR2.out.keepF hd.fr (.inl (by omega)))
   replace HG1 := Lib.hid (HG1.out.keepF hd.fr (.inr (by omega)))
   replace HG2 := Lib.hid (HG2.out.keepF hd.fr (.inr (by omega)))
   replace HO1 := Lib.hid (HO1.out.keep hd.fr (.inr (by omega)))
   replace HO2 := Lib.hid (HO2.out.keep hd.fr (.inr (by omega)))
   have hl8 := hd.fr.size
   replace HB := Lib.hid (HB.out.trans (hd.fr.below (by omega) HB.out.size))
   have HO8 := Lib.hid ho
   have N0 := HR0.out
   have N1 := HR1.out
   have N2 := HR2.out
   have n0c0 := N0.c0
   have n0c1 := N0.c1
   have n0f0 := N0.f0
   have n0f1 := N0.f1
   have n1c0 := N1.c0
   have n1c1 := N1.c1
   have n1f0 := N1.f0
   have n1f1 := N1.f1
   have n2c0 := N2.c0
   have n2c1 := N2.c1
   have n2f0 := N2.f0
   have n2f1 := N2.f1
   have F1 := fr2 w8 (w.heap.size) (.int .i64 s1) (.slice B1 m1 d1)
   have P11 := (HG1.out).keepF F1 (.inr (by omega))
   have P12 := (HG2.out).keepF F1 (.inr (by omega))
   have F2 := fr2 ((w8.setCell ⟨w.heap.size, 0, none⟩ (.int .i64 s1)).setCell ⟨w.heap.size, 1, none⟩ (.slice B1 m1 d1)) (w.heap.size + 1) (.int .i64 s2) (.slice B2 m2 d2)
   have P21 := (P11).keepF F2 (.inr (by omega))
   have P22 := (P12).keepF F2 (.inr (by omega))
   have F3 := fr2 ((((w8.setCell ⟨w.heap.size, 0, none⟩ (.int .i64 s1)).setCell ⟨w.heap.size, 1, none⟩ (.slice B1 m1 d1)).setCell ⟨w.heap.size + 1, 0, none⟩ (.int .i64 s2)).setCell ⟨w.heap.size + 1, 1, none⟩ (.slice B2 m2 d2)) (w.heap.size + 2) (.int .i64 s8) (.slice A8 m8 c8)
   have P31 := (P21).keepF F3 (.inr (by omega))
   have P32 := (P22).keepF F3 (.inr (by omega))
   refine hK.out _ _ ⟨HG1.out.c0, HG1.out.c1, HG2.out.c0, HG2.out.c1⟩ (fun hHeld => ?_)
   clear hK K
   try simp only [Act.put, sl0, sl1, sl2]
   refine wpAnyH_ready (rs := [4]) (by kernel_rfl) (by simp) ?_
   refine AllReadyH.cons rfl (fun K hK => ?_) AllReadyH.nil
   go_simp
   refine hK.out _ _ ⟨P11.c0, P11.c1, P12.c0, P12.c1⟩ (fun hHeld => ?_)
   clear hK K
   try simp only [Act.put, sl0, sl1, sl2]
   refine wpAnyH_ready (rs := [5]) (by kernel_rfl) (by simp) ?_
   refine AllReadyH.cons rfl (fun K hK => ?_) AllReadyH.nil
   go_simp
   refine hK.out _ _ ⟨P21.c0, P21.c1, P22.c0, P22.c1⟩ (fun hHeld => ?_)
   clear hK K
   try simp only [Act.put, sl0, sl1, sl2]
   refine wpAnyH_ready (rs := [6]) (by kernel_rfl) (by simp) ?_
   refine AllReadyH.cons rfl (fun K hK => ?_) AllReadyH.nil
   go_simp
   refine hK.out _ _ ⟨P31.c0, P31.c1, P32.c0, P32.c1⟩ (fun hHeld => ?_)
   clear hK K
   try simp only [Act.put, sl0, sl1, sl2]
   refine wpAnyH_done (by kernel_rfl) ?_ _
   go_wp2
   exact bodyPost_ret (v := .tuple #[.agg #[.int .i64 s1, .slice B1 m1 d1], .agg #[.int .i64 s2, .slice B2 m2 d2], .agg #[.int .i64 s8, .slice A8 m8 c8]]) (by simp [results, Tryz.results21, go_sem, *]) rfl ⟨s1, B1, m1, d1, x1, s2, B2, m2, d2, x2, s8, A8, m8, c8, x8, rfl, TG.fin3 HB.out (fr6 w8 w.heap.size _ _ _ _ _ _) hm1 hm2 HO1.out HO2.out (by omega) (by omega) (by omega) (by omega), hm87, (HO8.out.keep (fr6 w8 w.heap.size _ _ _ _ _ _) (.inr (by omega))).mono (by omega) (fr6 w8 w.heap.size _ _ _ _ _ _).size⟩
end
end Go.Proofs.YticadlkcjhglnaaGreat
