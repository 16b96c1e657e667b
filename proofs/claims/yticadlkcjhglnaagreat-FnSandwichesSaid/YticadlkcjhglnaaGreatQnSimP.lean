/-
  Several texts in one.
-/
import Derived.Test.YticadlkcjhglnaaGreatQnDrwH
import Derived.Test.YticadlkcjhglnaaGreatQnColP
import Derived.Test.YticadlkcjhglnaaGreatQnSet2I
import Derived.Test.YticadlkcjhglnaaGreatQnCls
import Derived.Test.YticadlkcjhglnaaGreatQnUmbI
import Derived.Test.YticadlkcjhglnaaGreatQnColI
/-
-/
namespace Go.Proofs.YticadlkcjhglnaaGreat
open Go.RowKit
set_option maxRecDepth 100000 in
set_option maxHeartbeats 3200000 in
theorem l1New_s {n c : Nat} {A : Option Addr} {w : World} (hb : By w w.heap.size A n c) (hn : n ≤ 1048576) :
 Calls Tryz.prog 63 #[.slice A n c] w fun e w' => ∃ q, e = .returned (.pointer (some ⟨q, 0, none⟩)) ∧ w.heap.size ≤ q ∧ Cu w' q A n c ∧ Below w.heap.size w w' := by
 have HBy := Lib.hid hb
 have Hc : Hid (∀ j, j < n → ∃ b o, ∃ u : Nat, A = some ⟨b, o, none⟩ ∧ u < 256 ∧ w.cell? ⟨b, o + j, none⟩ = some (.int .u8 u)) := fun j hj => by
  obtain ⟨b, o, e, _, h⟩ := hb.2 (by omega)
  obtain ⟨u, hu, pu⟩ := h j hj
  exact ⟨b, o, u, e, hu, pu⟩
 have fin : ∀ z : Int, Hid (∃ q, Ending.returned (Value.pointer (some ⟨w.heap.size, 0, none⟩)) = .returned (.pointer (some ⟨q, 0, none⟩)) ∧ w.heap.size ≤ q ∧ Cu (w.alloc (Obj.cells #[.slice A n c, .int .i64 0, .int .i64 z] 96)) q A n c ∧ Below w.heap.size w (w.alloc (Obj.cells #[.slice A n c, .int .i64 0, .int .i64 z] 96))) := fun z =>
  ⟨w.heap.size, rfl, Nat.le_refl _, ⟨⟨0, z, Nat.zero_le _, by simp [go_sem], by simp [go_sem], by simp [go_sem]⟩, by simp [go_sem], by simp [go_sem], hb.keep ((Below.refl _ _).alloc (Nat.le_refl _) _) (Nat.le_refl _), hn⟩, (Below.refl _ _).alloc (Nat.le_refl _) _⟩
 have Hfin := Lib.hid fin
 clear hb fin
 go_enter Tryz.func63, Tryz.ntmps63
 go_wp2
 go_loop [3, 4] (fun h i => ∃ (k : Nat) (z : Int), k ≤ n ∧ i = .int .i64 k ∧ h = .int .i64 z) (fun _ i => n - (intOf i).toNat)
 case atStart => exact ⟨0, _, Nat.zero_le _, rfl, rfl⟩
 case round =>
  obtain ⟨k, z, hk, rfl, rfl⟩ := hrel
  by_cases hkn : k < n
  ·have i1 : (k : Int) < (n : Int) := by omega
   by_cases h4 : k < 4000
   ·have i2 : (k : Int) < 4000 := by omega
    obtain ⟨b, o, u, rfl, hu, pu⟩ := Hc.out k hkn
    go_wp2
    go_round
    case rel => exact ⟨k + 1, _, by omega, by go_num, rfl⟩
    case measure => (simp [intOf] <;> omega)
   ·have i2 : (4000 : Int) ≤ (k : Int) := by omega
    go_wp2
    go_ret
    exact (Hfin.out _).out
  ·have i1 : (n : Int) ≤ (k : Int) := by omega
   go_wp2
   go_ret
   exact (Hfin.out _).out
structure TG (w W : World) (s1 : Int) (B1 : Option Addr) (m1 d1 : Nat) (x1 : Nat → Int) (s2 : Int) (B2 : Option Addr) (m2 d2 : Nat) (x2 : Nat → Int) : Prop where
 h1 : 1 ≤ m1 ∧ m1 ≤ 7
 h2 : 1 ≤ m2 ∧ m2 ≤ 7
 o1 : Own W w.heap.size W.heap.size 3 1 B1 m1 d1 (fun j => .int .i64 (x1 j))
 o2 : Own W w.heap.size W.heap.size 3 1 B2 m2 d2 (fun j => .int .i64 (x2 j))
 b : Below w.heap.size w W
section
variable {w V W U W' : World} {s1 s2 : Int} {B1 B2 : Option Addr} {m1 m2 d1 d2 : Nat} {x1 x2 : Nat → Int} {q nb cb : Nat} {A : Option Addr}
theorem TG.fin (h : TG V W s1 B1 m1 d1 x1 s2 B2 m2 d2 x2) (hV : Below w.heap.size w V) (hs : V.heap.size = w.heap.size + 2) (hU : Below W.heap.size W U) (F : Fr w.heap.size (w.heap.size + 2) U W') : TG w W' s1 B1 m1 d1 x1 s2 B2 m2 d2 x2 := by
 have h1 := h.b.size
 have h2 := hU.size
 have h3 := F.size
 exact ⟨h.h1, h.h2, ((h.o1.keepB hU (Nat.le_refl _)).keep F (.inr (by omega))).mono (by omega) (by omega), ((h.o2.keepB hU (Nat.le_refl _)).keep F (.inr (by omega))).mono (by omega) (by omega), ((hV.trans (h.b.mono (by omega))).trans (hU.mono (by omega))).trans (F.below (Nat.le_refl _) (by omega))⟩
theorem TG.of {e : Ending} {w1 : World} (h : pgQ w1 q A nb cb e W) (hb : Below w.heap.size w w1) (hq : w.heap.size ≤ q) (_ : q < w1.heap.size) : ∃ s1 B1 m1 d1 x1 s2 B2 m2 d2 x2, e = .returned (.tuple #[.agg #[.int .i64 s1, .slice B1 m1 d1], .agg #[.int .i64 s2, .slice B2 m2 d2]]) ∧ TG w W s1 B1 m1 d1 x1 s2 B2 m2 d2 x2 := by
 obtain ⟨s1, B1, m1, d1, x1, s2, B2, m2, d2, x2, he, h1, h2, o1, o2, hd⟩ := h
 have hz := hb.size
 exact ⟨s1, B1, m1, d1, x1, s2, B2, m2, d2, x2, he, h1, h2, o1.mono hz (Nat.le_refl _), o2.mono hz (Nat.le_refl _), hb.trans (hd.fr.below hq hz)⟩
end
section
variable {w : World} {n c : Nat} {A : Option Addr}
set_option maxRecDepth 100000 in
set_option maxHeartbeats 6400000 in
theorem l31Three_s (hb : By w w.heap.size A n c) (hn : n ≤ 1048576) :
 Calls Tryz.prog 45 #[.slice A n c] w fun e w' => ∃ s1 B1 m1 d1 x1 s2 B2 m2 d2 x2, ∃ t : ByteArray, e = .returned (.tuple #[.agg #[.int .i64 s1, .slice B1 m1 d1], .agg #[.int .i64 s2, .slice B2 m2 d2], .string t]) ∧ TG w w' s1 B1 m1 d1 x1 s2 B2 m2 d2 x2 := by
 obtain ⟨W, hW⟩ : ∃ W : World, W = ((w.alloc (Obj.cells #[Value.int IntKind.i64 0, Value.slice none 0 0] 26)).alloc (Obj.cells #[Value.int IntKind.i64 0, Value.slice none 0 0] 26)) := ⟨_, rfl⟩
 have HB : Hid (Below w.heap.size w W) := by rw [hW]; exact ((Below.refl _ _).alloc (Nat.le_refl _) _).alloc (by simp) _
 have hlW : W.heap.size = w.heap.size + 2 := by rw [hW]; simp
 have HR0 : Hid (GC W w.heap.size 0 none 0 0) := by rw [hW]; exact (GC.new _ _ _ _ _).keep ((Below.refl _ _).alloc (Nat.le_refl _) _)
 have HR1 : Hid (GC W (w.heap.size + 1) 0 none 0 0) := by rw [hW]; constructor <;> simp [go_sem]
 have HW := Lib.hid hW
 have KB := Lib.hid (l1New_s (hb.keep HB.out (by omega)) hn : Calls Tryz.prog 63 #[.slice A n c] W _)
 clear hW hb
 go_enter Tryz.func45, Tryz.ntmps45
 go_wp2_with fail
 rw [← HW.out]
 clear HW
 refine KB.out.mono ?_
 rintro e w1 ⟨q, rfl, hq, hc, hb⟩
 replace HR0 := Lib.hid (HR0.out.keep hb)
 replace HR1 := Lib.hid (HR1.out.keep hb)
 have hl1 := hb.size
 have HB1 := Lib.hid hb
 have HC := Lib.hid hc
 clear hb KB hc
 have KB := Lib.hid (l29Name_s HC.out)
 go_wp2_with fail
 refine KB.out.mono ?_
 rintro e w2 ⟨t, rfl, hd⟩
 have hql := HC.out.lt
 replace HR0 := Lib.hid (HR0.out.keepF hd.fr (.inl (by omega)))
 replace HR1 := Lib.hid (HR1.out.keepF hd.fr (.inl (by omega)))
 have hl2 := hd.fr.size
 replace HB1 := Lib.hid (HB1.out.trans (hd.fr.below hq hl1))
 replace HC := Lib.hid hd.cu
 clear hd KB
 have KB := Lib.hid (l31Pair_s HC.out)
 go_wp2_with fail
 refine KB.out.mono ?_
 intro e w3 hp
 obtain ⟨s1, B1, m1, d1, x1, s2, B2, m2, d2, x2, rfl, hT⟩ := TG.of hp HB1.out hq (by omega)
 obtain ⟨_, _, _, _, _, _, _, _, _, _, _, _, _, _, _, hd⟩ := hp
 replace HR0 := Lib.hid (HR0.out.keepF hd.fr (.inl (by omega)))
 replace HR1 := Lib.hid (HR1.out.keepF hd.fr (.inl (by omega)))
 have hl3 := hd.fr.size
 have HT := Lib.hid hT
 clear hd KB hT
 obtain ⟨U, hU⟩ : ∃ U : World, U = ((w3.alloc (Obj.cells #[.int .i64 s1, .slice B1 m1 d1] 26)).alloc (Obj.cells #[.int .i64 s2, .slice B2 m2 d2] 26)) := ⟨_, rfl⟩
 have hbU : Below w3.heap.size w3 U := by rw [hU]; exact ((Below.refl _ _).alloc (Nat.le_refl _) _).alloc (by simp) _
 have hlU : U.heap.size = w3.heap.size + 2 := by rw [hU]; simp
 have hg1 : GC U w3.heap.size s1 B1 m1 d1 := by rw [hU]; exact (GC.new _ _ _ _ _).keep ((Below.refl _ _).alloc (Nat.le_refl _) _)
 have hg2 : GC U (w3.heap.size + 1) s2 B2 m2 d2 := by rw [hU]; constructor <;> simp [go_sem]
 replace HR0 := Lib.hid (HR0.out.keep hbU)
 replace HR1 := Lib.hid (HR1.out.keep hbU)
 have HF := Lib.hid (fun (W' : World) (F : Fr w.heap.size (w.heap.size + 2) U W') => HT.out.fin HB.out hlW hbU F)
 have HU := Lib.hid hU
 have e0 := hg1.c0
 have e1 := hg1.c1
 have e2 := hg2.c0
 have e3 := hg2.c1
 have r0 := HR0.out.c0
 have r1 := HR0.out.c1
 have r2 := HR0.out.f0
 have r3 := HR0.out.f1
 have u0 := HR1.out.c0
 have u1 := HR1.out.c1
 have u2 := HR1.out.f0
 have u3 := HR1.out.f1
 clear hU hbU hg1 hg2
 go_wp2_with fail
 rw [← HU.out]
 clear HU
 go_region
 all_goals go_wp2
 all_goals exact bodyPost_ret (v := .tuple #[.agg #[.int .i64 s1, .slice B1 m1 d1], .agg #[.int .i64 s2, .slice B2 m2 d2], .string t]) (by simp [results, Tryz.results45, go_sem, *]) rfl ⟨s1, B1, m1, d1, x1, s2, B2, m2, d2, x2, t, rfl, HF.out _ ((fr4 _ _ _ _ _ _).drewN _)⟩
set_option maxRecDepth 100000 in
set_option maxHeartbeats 6400000 in
theorem DrawFindSandwich_s (hb : By w w.heap.size A n c) (hn : n ≤ 1048576) :
 Calls Tryz.prog 6 #[.slice A n c] w fun e w' => ∃ s1 B1 m1 d1 x1 s2 B2 m2 d2 x2, ∃ t : ByteArray, e = .returned (.tuple #[.agg #[.int .i64 s1, .slice B1 m1 d1], .agg #[.int .i64 s2, .slice B2 m2 d2], .string t]) ∧ TG w w' s1 B1 m1 d1 x1 s2 B2 m2 d2 x2 := by
 obtain ⟨W, hW⟩ : ∃ W : World, W = ((w.alloc (Obj.cells #[Value.int IntKind.i64 0, Value.slice none 0 0] 26)).alloc (Obj.cells #[Value.int IntKind.i64 0, Value.slice none 0 0] 26)) := ⟨_, rfl⟩
 have HB : Hid (Below w.heap.size w W) := by rw [hW]; exact ((Below.refl _ _).alloc (Nat.le_refl _) _).alloc (by simp) _
 have hlW : W.heap.size = w.heap.size + 2 := by rw [hW]; simp
 have HR0 : Hid (GC W w.heap.size 0 none 0 0) := by rw [hW]; exact (GC.new _ _ _ _ _).keep ((Below.refl _ _).alloc (Nat.le_refl _) _)
 have HR1 : Hid (GC W (w.heap.size + 1) 0 none 0 0) := by rw [hW]; constructor <;> simp [go_sem]
 have HW := Lib.hid hW
 have KB := Lib.hid (l31Three_s (hb.keep HB.out (by omega)) hn : Calls Tryz.prog 45 #[.slice A n c] W _)
 clear hW hb
 go_enter Tryz.func6, Tryz.ntmps6
 go_wp2_with fail
 rw [← HW.out]
 clear HW
 refine KB.out.mono ?_
 rintro e w3 ⟨s1, B1, m1, d1, x1, s2, B2, m2, d2, x2, t, rfl, hT⟩
 replace HR0 := Lib.hid (HR0.out.keep hT.b)
 replace HR1 := Lib.hid (HR1.out.keep hT.b)
 have hl3 := hT.b.size
 have HT := Lib.hid hT
 clear KB hT
 obtain ⟨U, hU⟩ : ∃ U : World, U = ((w3.alloc (Obj.cells #[.int .i64 s1, .slice B1 m1 d1] 26)).alloc (Obj.cells #[.int .i64 s2, .slice B2 m2 d2] 26)) := ⟨_, rfl⟩
 have hbU : Below w3.heap.size w3 U := by rw [hU]; exact ((Below.refl _ _).alloc (Nat.le_refl _) _).alloc (by simp) _
 have hlU : U.heap.size = w3.heap.size + 2 := by rw [hU]; simp
 have hg1 : GC U w3.heap.size s1 B1 m1 d1 := by rw [hU]; exact (GC.new _ _ _ _ _).keep ((Below.refl _ _).alloc (Nat.le_refl _) _)
 have hg2 : GC U (w3.heap.size + 1) s2 B2 m2 d2 := by rw [hU]; constructor <;> simp [go_sem]
 replace HR0 := Lib.hid (HR0.out.keep hbU)
 replace HR1 := Lib.hid (HR1.out.keep hbU)
 have HF := Lib.hid (fun (W' : World) (F : Fr w.heap.size (w.heap.size + 2) U W') => HT.out.fin HB.out hlW hbU F)
 have HU := Lib.hid hU
 have e0 := hg1.c0
 have e1 := hg1.c1
 have e2 := hg2.c0
 have e3 := hg2.c1
 have r0 := HR0.out.c0
 have r1 := HR0.out.c1
 have r2 := HR0.out.f0
 have r3 := HR0.out.f1
 have u0 := HR1.out.c0
 have u1 := HR1.out.c1
 have u2 := HR1.out.f0
 have u3 := HR1.out.f1
 clear hU hbU hg1 hg2
 go_wp2_with fail
 rw [← HU.out]
 clear HU
 go_region
 all_goals go_wp2
 all_goals exact bodyPost_ret (v := .tuple #[.agg #[.int .i64 s1, .slice B1 m1 d1], .agg #[.int .i64 s2, .slice B2 m2 d2], .string t]) (by simp [results, Tryz.results6, go_sem, *]) rfl ⟨s1, B1, m1, d1, x1, s2, B2, m2, d2, x2, t, rfl, HF.out _ ((fr4 _ _ _ _ _ _).drewN _)⟩
set_option maxRecDepth 100000 in
set_option maxHeartbeats 6400000 in
theorem DrawOptionalEdges_s (hb : By w w.heap.size A n c) (hn : n ≤ 1048576) :
 Calls Tryz.prog 18 #[.slice A n c] w fun e w' => ∃ s1 B1 m1 d1 x1 s2 B2 m2 d2 x2, e = .returned (.tuple #[.agg #[.int .i64 s1, .slice B1 m1 d1], .agg #[.int .i64 s2, .slice B2 m2 d2]]) ∧ TG w w' s1 B1 m1 d1 x1 s2 B2 m2 d2 x2 := by
 obtain ⟨W, hW⟩ : ∃ W : World, W = ((w.alloc (Obj.cells #[Value.int IntKind.i64 0, Value.slice none 0 0] 26)).alloc (Obj.cells #[Value.int IntKind.i64 0, Value.slice none 0 0] 26)) := ⟨_, rfl⟩
 have HB : Hid (Below w.heap.size w W) := by rw [hW]; exact ((Below.refl _ _).alloc (Nat.le_refl _) _).alloc (by simp) _
 have hlW : W.heap.size = w.heap.size + 2 := by rw [hW]; simp
 have HR0 : Hid (GC W w.heap.size 0 none 0 0) := by rw [hW]; exact (GC.new _ _ _ _ _).keep ((Below.refl _ _).alloc (Nat.le_refl _) _)
 have HR1 : Hid (GC W (w.heap.size + 1) 0 none 0 0) := by rw [hW]; constructor <;> simp [go_sem]
 have HW := Lib.hid hW
 have KB := Lib.hid (l1New_s (hb.keep HB.out (by omega)) hn : Calls Tryz.prog 63 #[.slice A n c] W _)
 clear hW hb
 go_enter Tryz.func18, Tryz.ntmps18
 go_wp2_with fail
 rw [← HW.out]
 clear HW
 refine KB.out.mono ?_
 rintro e w2 ⟨q, rfl, hq, hc, hb⟩
 replace HR0 := Lib.hid (HR0.out.keep hb)
 replace HR1 := Lib.hid (HR1.out.keep hb)
 have hl1 := hb.size
 have HB1 := Lib.hid hb
 have HC := Lib.hid hc
 clear hb KB hc
 have hql := HC.out.lt
 have KB := Lib.hid (l31Pair_s HC.out)
 go_wp2_with fail
 refine KB.out.mono ?_
 intro e w3 hp
 obtain ⟨s1, B1, m1, d1, x1, s2, B2, m2, d2, x2, rfl, hT⟩ := TG.of hp HB1.out hq (by omega)
 obtain ⟨_, _, _, _, _, _, _, _, _, _, _, _, _, _, _, hd⟩ := hp
 replace HR0 := Lib.hid (HR0.out.keepF hd.fr (.inl (by omega)))
 replace HR1 := Lib.hid (HR1.out.keepF hd.fr (.inl (by omega)))
 have hl3 := hd.fr.size
 have HT := Lib.hid hT
 clear hd KB hT
 obtain ⟨U, hU⟩ : ∃ U : World, U = ((w3.alloc (Obj.cells #[.int .i64 s1, .slice B1 m1 d1] 26)).alloc (Obj.cells #[.int .i64 s2, .slice B2 m2 d2] 26)) := ⟨_, rfl⟩
 have hbU : Below w3.heap.size w3 U := by rw [hU]; exact ((Below.refl _ _).alloc (Nat.le_refl _) _).alloc (by simp) _
 have hlU : U.heap.size = w3.heap.size + 2 := by rw [hU]; simp
 have hg1 : GC U w3.heap.size s1 B1 m1 d1 := by rw [hU]; exact (GC.new _ _ _ _ _).keep ((Below.refl _ _).alloc (Nat.le_refl _) _)
 have hg2 : GC U (w3.heap.size + 1) s2 B2 m2 d2 := by rw [hU]; constructor <;> simp [go_sem]
 replace HR0 := Lib.hid (HR0.out.keep hbU)
 replace HR1 := Lib.hid (HR1.out.keep hbU)
 have HF := Lib.hid (fun (W' : World) (F : Fr w.heap.size (w.heap.size + 2) U W') => HT.out.fin HB.out hlW hbU F)
 have HU := Lib.hid hU
 have e0 := hg1.c0
 have e1 := hg1.c1
 have e2 := hg2.c0
 have e3 := hg2.c1
 have r0 := HR0.out.c0
 have r1 := HR0.out.c1
 have r2 := HR0.out.f0
 have r3 := HR0.out.f1
 have u0 := HR1.out.c0
 have u1 := HR1.out.c1
 have u2 := HR1.out.f0
 have u3 := HR1.out.f1
 clear hU hbU hg1 hg2
 go_wp2_with fail
 rw [← HU.out]
 clear HU
 go_region
 all_goals go_wp2
 all_goals exact bodyPost_ret (v := .tuple #[.agg #[.int .i64 s1, .slice B1 m1 d1], .agg #[.int .i64 s2, .slice B2 m2 d2]]) (by simp [results, Tryz.results18, go_sem, *]) rfl ⟨s1, B1, m1, d1, x1, s2, B2, m2, d2, x2, rfl, HF.out _ ((fr4 _ _ _ _ _ _).drewN _)⟩
end
end Go.Proofs.YticadlkcjhglnaaGreat

/-
-/
namespace Go.Proofs.YticadlkcjhglnaaGreat
open Go.RowKit
theorem always_n (A : Option Addr) (n c : Nat) (w : World) : Calls Tryz.prog 133 #[.slice A n c] w fun e w' => e = .returned (.bool true) ∧ Below w.heap.size w w' := by
 go_enter Tryz.func133, Tryz.ntmps133
 go_wp2
 go_ret
 exact ⟨rfl, Below.refl _ _⟩
section
variable {m c H : Nat} {A : Option Addr} {r : Nat → Nat} {fn : FuncId} {caps : Array Value} {p : List Nat → Int} {w0 : World}
end
end Go.Proofs.YticadlkcjhglnaaGreat

/-
-/
namespace Go.Proofs.YticadlkcjhglnaaGreat
open Go.RowKit
noncomputable def umO (r : Nat → Nat) (m : Nat) : Option (List Nat) := seaG m (umB r) (fun _ => true) m []
noncomputable def ppB (sz : Int) (m : Nat) (x : Nat → Int) : Bool := okB sz m x && (umO (rw_ x) m).isSome
theorem ppB_no {sz : Int} {m : Nat} {x : Nat → Int} (h : okB sz m x = false) : ppB sz m x = false := by unfold ppB; rw [h]; rfl
theorem ppB_yes {sz : Int} {m : Nat} {x : Nat → Int} (h : okB sz m x = true) : ppB sz m x = (umO (rw_ x) m).isSome := by unfold ppB; rw [h]; rfl
set_option maxRecDepth 100000 in
set_option maxHeartbeats 1600000 in
theorem UmoF {A : Option Addr} {m c q : Nat} {r : Nat → Nat} {Al : Option Addr} {cl : Nat} {l : List Nat} {w : World} (h : GBox w q A m c r) (hl : LN w Al cl l) (hlt : ∀ v ∈ l, v < m) (hlen : l.length ≤ 7) :
 Calls Tryz.prog 191 #[.slice Al l.length cl, .pointer (some ⟨q, 0, none⟩)] w fun e w' => e = .returned (.bool (umB r l)) ∧ Below w.heap.size w w' := by
 have HG := Lib.hid h
 have HL := Lib.hid hl
 have Hlt := Lib.hid hlt
 have e0 := h.c0
 have e1 := h.c1
 have HF : Hid (From w w) := From.refl w
 clear h hl hlt
 go_enter Tryz.func191, Tryz.ntmps191
 go_wp2_with fail
 refine (isUmbrella_v HG.out.gv HL.out Hlt.out hlen).mono ?_
 rintro e w1 ⟨rfl, hb1⟩
 replace HF := Lib.hid (HF.out.keep hb1)
 clear hb1
 go_wp2
 go_ret
 exact ⟨rfl, HF.out.below⟩
section
variable {A : Option Addr} {m c : Nat} {r : Nat → Nat}
set_option maxRecDepth 100000 in
set_option maxHeartbeats 1600000 in
theorem UmbrellaOf_v {w : World} (h : GV w A m c r) : Calls Tryz.prog 175 #[.agg #[.int .i64 m, .slice A m c]] w (lsQ w (umO r m)) := by
 have hm1 := h.vg.n1
 have hm7 := h.vg.n7
 obtain ⟨W, hW⟩ : ∃ W : World, W = (w.alloc (Obj.cells #[Value.int IntKind.i64 m, Value.slice A m c] 26)) := ⟨_, rfl⟩
 have HB : Hid (From w W) := by rw [hW]; exact From.alloc _ _
 have HG : Hid (GBox W w.heap.size A m c r) := by rw [hW]; exact h.box
 have HW := Lib.hid hW
 clear hW h
 have e0 := HG.out.c0
 have e1 := HG.out.c1
 have HG0 := HG
 have KF := Lib.hid (firstList_g (m := m) (n := m) (A := A) (c := c) (r := r) (fm := 191) (cm := #[.pointer (some ⟨w.heap.size, 0, none⟩)]) (fh := 133) (ch := #[]) (may := umB r) (hol := fun _ => true) (lo := W.heap.size) (hi := W.heap.size) (J := fun _ z => GBox z w.heap.size A m c r)
  (ent_of Tryz.func191 (by kernel_rfl) rfl) (ent_of Tryz.func133 (by kernel_rfl) rfl) W HG0.out.gv hm1 (Nat.le_refl _) (fun _ z z' hz hb => hz.keep hb) HG0.out
  (fun _ l A' c' z hz hr _ hv hn => UmoF hz ⟨hr⟩ hv (by have := nodup_len hn hv; omega))
  (fun _ l A' c' z hz _ _ _ _ => (always_n A' l.length c' z).mono fun e w' ⟨h1, h2⟩ => ⟨h1, hz.keep h2, Fr.of_below h2⟩))
 have HO : Hid (umO r m = seaG m (umB r) (fun _ => true) m []) := rfl
 obtain ⟨o, ho⟩ : ∃ o, o = umO r m := ⟨_, rfl⟩
 rw [← ho] at HO ⊢
 rw [← HO.out] at KF
 clear ho HO
 go_enter Tryz.func175, Tryz.ntmps175
 have e0 := HG.out.c0
 have e1 := HG.out.c1
 go_wp2_with fail
 rw [← HW.out]
 clear HW
 refine KF.out.mono ?_
 rintro e w1 ⟨hf, hp⟩
 have HB1 : Hid (Below w.heap.size w w1) := HB.out.below.trans (hf.below HB.out.below.size HB.out.below.size)
 have HZ : Hid (w.heap.size ≤ W.heap.size) := HB.out.below.size
 clear hf KF HG e0 e1
 cases o with
 | none =>
   obtain ⟨rfl, _⟩ := hp
   go_wp2
   go_ret2
   exact lsQ.no HB1.out
 | some l =>
   obtain ⟨g, c', rfl, hO⟩ := hp
   have HL : Hid (ON w.heap.size w1 (some ⟨g, 0, none⟩) c' l) := ⟨hO.mono HZ.out (Nat.le_refl _)⟩
   clear hO
   go_wp2
   go_ret2
   exact lsQ.yes HL.out HB1.out
end
set_option maxRecDepth 100000 in
set_option maxHeartbeats 1600000 in
theorem firstList_noG {sz : Int} {A : Option Addr} {m c : Nat} {x : Nat → Int} {w : World} {n : Int} {fm fh : FuncId} {cm ch : Array Value} (h : GA w A m c x) (hm : m ≤ 1048576) (hok : okB sz m x = false) :
 Calls Tryz.prog 132 #[.agg #[.int .i64 sz, .slice A m c], .int .i64 n, .func (.func fm) #[] cm, .func (.func fh) #[] ch] w fun e w' => e = .returned (.tuple #[.slice none 0 0, .bool false]) ∧ Below w.heap.size w w' := by
 obtain ⟨W4, hW4⟩ : ∃ W : World, W = ((((w.alloc (Obj.cells #[Value.int IntKind.i64 sz, Value.slice A m c] 26)).alloc (Obj.cells #[Value.int IntKind.i64 n] 3)).alloc (Obj.cells #[.func (.func fm) #[] cm] 110)).alloc (Obj.cells #[.func (.func fh) #[] ch] 110)) := ⟨_, rfl⟩
 have HF4 : Hid (From w W4) := by rw [hW4]; exact (((From.alloc _ _).alloc_ _).alloc_ _).alloc_ _
 have hz4 : w.heap.size + 1 + 1 + 1 + 1 = W4.heap.size := by rw [hW4]; simp
 have a0 : W4.cell? ⟨w.heap.size, 0, none⟩ = some (.int .i64 sz) := by rw [hW4]; simp [go_sem]
 have a1 : W4.cell? ⟨w.heap.size, 1, none⟩ = some (.slice A m c) := by rw [hW4]; simp [go_sem]
 obtain ⟨W, hW⟩ : ∃ W : World, W = W4.alloc (Obj.cells #[.func (.func 173) #[] #[.pointer (some ⟨w.heap.size + 1, 0, none⟩), .pointer (some ⟨w.heap.size + 1 + 1 + 1, 0, none⟩), .pointer (some ⟨w.heap.size, 0, none⟩), .pointer (some ⟨w.heap.size + 1 + 1, 0, none⟩), .pointer (some ⟨W4.heap.size, 0, none⟩)]] 74) := ⟨_, rfl⟩
 have hbW : Below W4.heap.size W4 W := by rw [hW]; exact (Below.refl _ _).alloc (Nat.le_refl _) _
 have HB : Hid (From w W) := HF4.out.keep hbW
 have c1 : w.heap.size < W4.heap.size := by omega
 have e0 := up hbW a0 (by omega)
 have e1 := up hbW a1 (by omega)
 have HK := Lib.hid (h.keep HB.out.below)
 have HW := Lib.hid hW
 have HW4 := Lib.hid hW4
 have HZ4 := Lib.hid hz4
 have Ho := Lib.hid hok
 clear hW hW4 h hz4 hbW hok HF4
 go_enter Tryz.func132, Tryz.ntmps132
 go_upto_region 2 with (fail)
 rw [← HW4.out, HZ4.out]
 clear HW4
 go_wp2_with fail
 rw [← HW.out]
 clear HW
 refine (IsGraph_any sz A m c x W W.heap.size HK.out.rd (Nat.le_refl _) hm).mono ?_
 rintro e w1 ⟨rfl, hb1⟩
 rw [Ho.out]
 replace HB := Lib.hid (HB.out.keep hb1)
 clear hb1 e0 e1 a0 a1
 go_wp2
 go_ret2
 exact ⟨rfl, HB.out.below⟩
section
variable (sz : Int) (A : Option Addr) (m c : Nat) (x : Nat → Int) (w : World)
set_option maxRecDepth 100000 in
set_option maxHeartbeats 1600000 in
theorem UmbrellaOf_no (h : GA w A m c x) (hm : m ≤ 1048576) (hok : okB sz m x = false) :
 Calls Tryz.prog 175 #[.agg #[.int .i64 sz, .slice A m c]] w (lsQ w none) := by
 obtain ⟨W, hW⟩ : ∃ W : World, W = (w.alloc (Obj.cells #[Value.int IntKind.i64 sz, Value.slice A m c] 26)) := ⟨_, rfl⟩
 have HB : Hid (From w W) := by rw [hW]; exact From.alloc _ _
 have HK := Lib.hid (h.keep HB.out.below)
 have HC : Hid (GC W w.heap.size sz A m c) := by rw [hW]; exact GC.new _ _ _ _ _
 have HW := Lib.hid hW
 have KF := Lib.hid (firstList_noG (n := sz) (fm := 191) (cm := #[.pointer (some ⟨w.heap.size, 0, none⟩)]) (fh := 133) (ch := #[]) HK.out hm hok)
 clear hW h hok
 go_enter Tryz.func175, Tryz.ntmps175
 have e0 := HC.out.c0
 have e1 := HC.out.c1
 go_wp2_with fail
 rw [← HW.out]
 clear HW
 refine KF.out.mono ?_
 rintro e w1 ⟨rfl, hb1⟩
 clear e0 e1
 replace HB := Lib.hid (HB.out.keep hb1)
 replace HK := Lib.hid (HK.out.keep hb1)
 replace HC := Lib.hid (HC.out.keep hb1)
 clear hb1 KF
 have e0 := HC.out.c0
 have e1 := HC.out.c1
 go_wp2
 go_ret2
 exact lsQ.no HB.out.below
set_option maxRecDepth 100000 in
set_option maxHeartbeats 1600000 in
theorem IsProper_i (h : GA w A m c x) (hm : m ≤ 1048576) :
 Calls Tryz.prog 138 #[.agg #[.int .i64 sz, .slice A m c]] w fun e w' => e = .returned (.bool (ppB sz m x)) ∧ Below w.heap.size w w' := by
 obtain ⟨W, hW⟩ : ∃ W : World, W = (w.alloc (Obj.cells #[Value.int IntKind.i64 sz, Value.slice A m c] 26)) := ⟨_, rfl⟩
 have HB : Hid (From w W) := by rw [hW]; exact From.alloc _ _
 have HK := Lib.hid (h.keep HB.out.below)
 have HC : Hid (GC W w.heap.size sz A m c) := by rw [hW]; exact GC.new _ _ _ _ _
 have HW := Lib.hid hW
 clear hW h
 go_enter Tryz.func138, Tryz.ntmps138
 cases ho : okB sz m x
 ·have Hn : Hid (ppB sz m x = false) := ppB_no ho
  have KF := Lib.hid (UmbrellaOf_no sz A m c x W HK.out hm ho)
  clear ho
  have e0 := HC.out.c0
  have e1 := HC.out.c1
  go_wp2_with fail
  rw [← HW.out]
  refine (KF.out).mono ?_
  rintro e w1 ⟨A', c', rfl, _, hb1⟩
  clear HW
  clear e0 e1
  replace HB := Lib.hid (HB.out.keep hb1)
  replace HK := Lib.hid (HK.out.keep hb1)
  replace HC := Lib.hid (HC.out.keep hb1)
  clear hb1
  have e0 := HC.out.c0
  have e1 := HC.out.c1
  clear KF
  go_wp2
  go_ret
  exact ⟨ret_bool Hn.out.symm, HB.out.below⟩
 obtain ⟨_, es, _, _⟩ := okB_ok' ho
 subst es
 have Hn : Hid (ppB (m : Int) m x = (umO (rw_ x) m).isSome) := ppB_yes ho
 have HG : Hid (GBox W w.heap.size A m c (rw_ x)) := ⟨HK.out.gv ho, HC.out.c0, HC.out.c1, HC.out.lt⟩
 have KF := Lib.hid (UmbrellaOf_v HG.out.gv)
 obtain ⟨o, ho2⟩ : ∃ o, o = umO (rw_ x) m := ⟨_, rfl⟩
 rw [← ho2] at Hn KF
 clear ho ho2 HC HK
 cases o
 ·skip
  have e0 := HG.out.c0
  have e1 := HG.out.c1
  go_wp2_with fail
  rw [← HW.out]
  refine (KF.out).mono ?_
  rintro e w2 ⟨A', c', rfl, _, hb2⟩
  clear HW
  clear e0 e1
  replace HB := Lib.hid (HB.out.keep hb2)
  replace HG := Lib.hid (HG.out.keep hb2)
  clear hb2
  have e0 := HG.out.c0
  have e1 := HG.out.c1
  clear KF
  go_wp2
  go_ret
  exact ⟨ret_bool Hn.out.symm, HB.out.below⟩
 ·skip
  have e0 := HG.out.c0
  have e1 := HG.out.c1
  go_wp2_with fail
  rw [← HW.out]
  refine (KF.out).mono ?_
  rintro e w3 ⟨A', c', rfl, _, hb3⟩
  clear HW
  clear e0 e1
  replace HB := Lib.hid (HB.out.keep hb3)
  replace HG := Lib.hid (HG.out.keep hb3)
  clear hb3
  have e0 := HG.out.c0
  have e1 := HG.out.c1
  clear KF
  go_wp2
  go_ret
  exact ⟨ret_bool Hn.out.symm, HB.out.below⟩
end
end Go.Proofs.YticadlkcjhglnaaGreat

/-
-/
namespace Go.Proofs.YticadlkcjhglnaaGreat
open Go.RowKit
def nN (r : Nat → Nat) (s u : Nat) : Nat := (r u ||| 2 ^ u) &&& s
def Cm (a b : Nat) : Prop := a &&& b = a ∨ a &&& b = b
def Sm (r : Nat → Nat) (s : Nat) (T : List Nat) : Prop := ∀ i, i < T.length → ∀ k, k < i → Cm (nN r s (T.getD i 0)) (nN r s (T.getD k 0))
def Sm1 (r : Nat → Nat) (s : Nat) (T : List Nat) (n : Nat) : Prop := ∀ i, i < n → ∀ k, k < i → Cm (nN r s (T.getD i 0)) (nN r s (T.getD k 0))
noncomputable def simB (r : Nat → Nat) (v s : Nat) : Bool := s.testBit v && @decide (Sm r s (listN (nN r s v))) (Classical.propDecidable _)
section
variable {r : Nat → Nat} {s v n i k a b : Nat} {T : List Nat}
theorem sim_out (h : s.testBit v = false) : simB r v s = false := by unfold simB; rw [h]; rfl
theorem sim_yes (h : s.testBit v = true) (h2 : Sm r s (listN (nN r s v))) : simB r v s = true := by unfold simB; rw [h, @decide_eq_true _ (Classical.propDecidable _) h2]; rfl
theorem sim_no (hT : T = listN (nN r s v)) (hi : i < T.length) (hk : k < i) (h : ¬ Cm (nN r s (T.getD i 0)) (nN r s (T.getD k 0))) : simB r v s = false := by
 unfold simB
 rw [@decide_eq_false _ (Classical.propDecidable _) fun hb => h (by subst hT; exact hb i hi k hk), Bool.and_false]
theorem Sm1.zero : Sm1 r s T 0 := fun i h => absurd h (by omega)
theorem Sm1.step (h : Sm1 r s T n) (h2 : ∀ k, k < n → Cm (nN r s (T.getD n 0)) (nN r s (T.getD k 0))) : Sm1 r s T (n + 1) := fun i hi => by
 by_cases e : i < n
 ·exact h i e
 ·obtain rfl : i = n := by omega
  exact h2
theorem nN_lt (hs : s < 2 ^ n) : nN r s v < 2 ^ n := Nat.and_lt_two_pow _ hs
theorem xor_and (a b : Nat) : (a ^^^ (a &&& b) = 0) ↔ a &&& b = a := by
 constructor
 ·intro h
  apply Nat.eq_of_testBit_eq
  intro i
  have := congrArg (fun t => t.testBit i) h
  simp only [Nat.testBit_xor, Nat.testBit_and, Nat.zero_testBit] at this ⊢
  cases ha : a.testBit i <;> cases hb : b.testBit i <;> simp_all
 ·intro h; rw [h, Nat.xor_self]
theorem cm_of (h : (a ^^^ (a &&& b) = 0) ∨ (b ^^^ (b &&& a) = 0)) : Cm a b := by
 rw [xor_and, xor_and] at h
 rcases h with h | h
 ·exact .inl h
 ·exact .inr (by rw [Nat.and_comm]; exact h)
theorem cm_not (h1 : a ^^^ (a &&& b) ≠ 0) (h2 : b ^^^ (b &&& a) ≠ 0) : ¬ Cm a b := by
 rw [Ne, xor_and] at h1 h2
 rintro (h | h)
 ·exact h1 h
 ·exact h2 (by rw [Nat.and_comm]; exact h)
end
def nK (r : Nat → Nat) (s : Nat) (T : List Nat) (k : Nat) : List Nat := (List.range k).map fun j => nN r s (T.getD j 0)
theorem nK_len {r : Nat → Nat} {s : Nat} {T : List Nat} {k : Nat} : (nK r s T k).length = k := by unfold nK; simp
theorem nK_succ {r : Nat → Nat} {s : Nat} {T : List Nat} {k : Nat} : nK r s T (k + 1) = nK r s T k ++ [nN r s (T.getD k 0)] := by unfold nK; rw [List.range_succ, List.map_append]; rfl
theorem nK_at {r : Nat → Nat} {s : Nat} {T : List Nat} {k j : Nat} (h : j < k) : (nK r s T k).getD j 0 = nN r s (T.getD j 0) := by unfold nK; simp [List.getD, h]
end Go.Proofs.YticadlkcjhglnaaGreat
