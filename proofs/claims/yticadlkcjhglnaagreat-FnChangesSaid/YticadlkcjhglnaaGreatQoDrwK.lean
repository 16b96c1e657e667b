/-
  Several texts in one.
-/
import Derived.Test.YticadlkcjhglnaaGreatQoDelS
import Derived.Test.YticadlkcjhglnaaGreatQoDrwA
import Derived.Test.YticadlkcjhglnaaGreatQoBoxG
import Derived.Test.YticadlkcjhglnaaGreatQoMinFillI
import Derived.Test.YticadlkcjhglnaaGreatQoDelI
import Derived.Test.YticadlkcjhglnaaGreatQoGC
import Derived.Test.YticadlkcjhglnaaGreatQoDrwI
import Derived.Test.YticadlkcjhglnaaGreatQoFillS
/-
-/
namespace Go.Proofs.YticadlkcjhglnaaGreat
open Go.RowKit
theorem lsV_eq (o : Option Nat) : lsV o = .tuple #[.int .i64 ((o.getD 0 : Nat) : Int), .bool o.isSome] := by cases o <;> rfl
section
variable (s1 : Int) (A1 : Option Addr) (m1 c1 : Nat) (x1 : Nat → Int) (t2 : ByteArray) (w : World) (B : Nat)
end
theorem list_lens {D : List Dsc} {F : List (List Int)} (h : lists D = F) (h1 : F.length ≤ 21) (h2 : ∀ l ∈ F, l.length = 2) : D.length = F.length ∧ D.length ≤ 21 ∧ tot D ≤ 1048576 := by
 have := sum_two h2;rw [tot_eq h, this];have h3 : D.length = F.length := by rw [← h]; unfold lists; rw [List.length_map]
 omega
theorem mi_pack (s1 : Int) (m1 : Nat) (x1 : Nat → Int) (hm1 : m1 ≤ 7) :
 ∃ (is : Bool) (F : List (List Int)) (s2 : Int) (m2 : Nat) (X2 : Nat → Int) (ch : Bool) (few : Int), F.length ≤ 21 ∧ (∀ l ∈ F, l.length = 2) ∧ m2 ≤ 7 ∧
   (is = true → decide (F.length = 0) = ch ∧ (0 ≤ few → few ≤ (F.length : Int) ∧ decide (few = 0) = ch)) ∧
   (∀ (W : World) (A1 : Option Addr) (c1 : Nat), GA W A1 m1 c1 x1 → Calls Tryz.prog 24 #[.agg #[.int .i64 s1, .slice A1 m1 c1]] W fun e w' => ∃ (A' : Option Addr) (c' : Nat) (D : List Dsc), e = .returned (.tuple #[.slice A' D.length c', .bool is]) ∧ lists D = F ∧ LD w' A' c' D ∧ Below W.heap.size W w') ∧
   (∀ (W : World) (A1 : Option Addr) (c1 : Nat), GA W A1 m1 c1 x1 → Calls Tryz.prog 25 #[.agg #[.int .i64 s1, .slice A1 m1 c1]] W fun e w' => ∃ (A' : Option Addr) (c' : Nat) (D : List Dsc), e = .returned (.tuple #[.slice A' D.length c', .bool is]) ∧ lists D = F ∧ LD w' A' c' D ∧ Below W.heap.size W w') ∧
   (is = true → ∀ (W : World) (A1 : Option Addr) (c1 : Nat) (A2 : Option Addr) (c2 : Nat) (D : List Dsc), GA W A1 m1 c1 x1 → LD W A2 c2 D → lists D = F → Calls Tryz.prog 26 #[.agg #[.int .i64 s1, .slice A1 m1 c1], .slice A2 D.length c2] W fun e w' => ∃ (A' : Option Addr) (c' : Nat), e = .returned (.tuple #[.agg #[.int .i64 s2, .slice A' m2 c'], .bool true]) ∧ GA w' A' m2 c' X2 ∧ Below W.heap.size W w') ∧
   (is = true → ∀ (W : World) (A1 : Option Addr) (c1 : Nat) (A2 : Option Addr) (c2 : Nat), GA W A1 m1 c1 x1 → GA W A2 m2 c2 X2 → Calls Tryz.prog 27 #[.agg #[.int .i64 s1, .slice A1 m1 c1], .agg #[.int .i64 s2, .slice A2 m2 c2]] W fun e w' => e = .returned (.bool true) ∧ Below W.heap.size W w') ∧
   (is = true → ∀ (W : World) (A1 : Option Addr) (c1 : Nat) (A2 : Option Addr) (c2 : Nat) (D : List Dsc), GA W A1 m1 c1 x1 → LD W A2 c2 D → lists D = F → Calls Tryz.prog 28 #[.agg #[.int .i64 s1, .slice A1 m1 c1], .slice A2 D.length c2] W fun e w' => e = .returned (.bool true) ∧ Below W.heap.size W w') ∧
   (∀ (W : World) (A1 : Option Addr) (c1 : Nat), GA W A1 m1 c1 x1 → Calls Tryz.prog 29 #[.agg #[.int .i64 s1, .slice A1 m1 c1]] W fun e w' => e = .returned (.bool ch) ∧ Below W.heap.size W w') ∧
   (∀ (W : World) (A1 : Option Addr) (c1 : Nat), GA W A1 m1 c1 x1 → Calls Tryz.prog 30 #[.agg #[.int .i64 s1, .slice A1 m1 c1]] W fun e w' => e = .returned (.int .i64 few) ∧ Below W.heap.size W w') := by
 have hL := miL_two (sz := s1) (m := m1) (x := x1);have hlaw : lxB s1 m1 x1 0 = true → s1 = (m1 : Int) ∧ okB (m1 : Int) m1 x1 = true := fun h => by
  unfold lxB at h;rw [Bool.and_eq_true] at h;obtain ⟨_, es, _, _⟩ := okB_ok' h.2;rw [es] at h;exact ⟨es, h.2⟩
 have hall := fun h => mi_law (hlaw h).2
 refine ⟨lxB s1 m1 x1 0, miL s1 m1 x1, aaZ s1 m1 x1 (miL s1 m1 x1), aaN s1 m1 x1 (miL s1 m1 x1), aaX s1 m1 x1 (miL s1 m1 x1), chB s1 m1 x1, ffI s1 m1 x1, hL.1, hL.2, Nat.le_trans aaN_le hm1, fun h => ?_, ?_, ?_, fun h => ?_, fun h => ?_, fun h => ?_, ?_, ?_⟩
 ·have a := hall h;rw [← (hlaw h).1] at a;exact a.2.2.2
 ·intro W A1 c1 h1;refine (MinimalFill_i s1 A1 m1 c1 x1 W h1 (by omega)).mono ?_;rintro e w' ⟨A', c', D, he, hl, ho, hb⟩;exact ⟨A', c', D, he, hl, ⟨ho.rdD⟩, hb⟩
 ·intro W A1 c1 h1;refine (MinimalFill_s s1 A1 m1 c1 x1 W h1 (by omega)).mono ?_;rintro e w' ⟨A', c', D, he, hl, ho, hb⟩;exact ⟨A', c', D, he, hl, ⟨ho.rdD⟩, hb⟩
 ·intro W A1 c1 A2 c2 D h1 h2 hD;have hl := list_lens hD hL.1 hL.2;have a := hall h;rw [← (hlaw h).1] at a;refine (AddAll_i s1 A1 m1 c1 x1 A2 c2 D W W.heap.size h1.rd h2.rd nr_ (by omega) (by omega) hl.2.2 _ hD).mono ?_;rintro e w' ⟨A', c', he, ho, hb⟩;rw [a.1] at he;exact ⟨A', c', he, ⟨ho.rd⟩, hb⟩
 ·intro W A1 c1 A2 c2 h1 h2;have a := hall h;rw [← (hlaw h).1] at a;have hn : aaN s1 m1 x1 (miL s1 m1 x1) ≤ m1 := aaN_le;have := IsCompletion_i s1 A1 m1 c1 x1 (aaZ s1 m1 x1 (miL s1 m1 x1)) A2 (aaN s1 m1 x1 (miL s1 m1 x1)) c2 (aaX s1 m1 x1 (miL s1 m1 x1)) W W.heap.size h1.rd h2.rd nr_ (by omega) (by omega);rwa [a.2.1] at this
 ·intro W A1 c1 A2 c2 D h1 h2 hD;have hl := list_lens hD hL.1 hL.2;have a := hall h;rw [← (hlaw h).1] at a;have := IsMinimalFill_i s1 A1 m1 c1 x1 A2 c2 D W W.heap.size h1.rd h2.rd nr_ (by omega) (by omega) hl.2.2 _ hD;rwa [a.2.2.1] at this
 ·exact fun W A1 c1 h1 => IsChordal_sx s1 A1 m1 c1 x1 W W.heap.size h1.rd nr_ (by omega)
 ·exact fun W A1 c1 h1 => FewestFill_i s1 A1 m1 c1 x1 W h1 (by omega)
theorem del_pack (s1 : Int) (m1 : Nat) (x1 : Nat → Int) (t : ByteArray) (hm1 : m1 ≤ 7) :
 ∃ (is : Bool) (k : Nat) (z : Int),
   (∀ (W : World) (A1 : Option Addr) (c1 : Nat), GA W A1 m1 c1 x1 → Calls Tryz.prog 32 #[.agg #[.int .i64 s1, .slice A1 m1 c1], .string t] W fun e w' => e = .returned (.tuple #[.int .i64 (k : Nat), .bool is]) ∧ Below W.heap.size W w') ∧
   (∀ (W : World) (A1 : Option Addr) (c1 : Nat), GA W A1 m1 c1 x1 → Calls Tryz.prog 33 #[.agg #[.int .i64 s1, .slice A1 m1 c1], .string t] W fun e w' => e = .returned (.tuple #[.int .i64 (k : Nat), .bool is]) ∧ Below W.heap.size W w') ∧
   (∀ (W : World) (A1 : Option Addr) (c1 : Nat), GA W A1 m1 c1 x1 → Calls Tryz.prog 34 #[.agg #[.int .i64 s1, .slice A1 m1 c1], .string t] W fun e w' => e = .returned (.int .i64 z) ∧ Below W.heap.size W w') ∧
   (∀ (W : World) (A1 : Option Addr) (c1 : Nat), GA W A1 m1 c1 x1 → Calls Tryz.prog 35 #[.agg #[.int .i64 s1, .slice A1 m1 c1], .string t] W fun e w' => e = .returned (.int .i64 z) ∧ Below W.heap.size W w') ∧
   (is = true → ∃ (N : Nat) (X : Nat → Int), s1 = (m1 : Int) ∧ 1 ≤ m1 ∧ k < 2 ^ m1 - 1 ∧ z = (N : Int) ∧
     (∀ (W : World) (A1 : Option Addr) (c1 : Nat), GA W A1 m1 c1 x1 → Calls Tryz.prog 36 #[.agg #[.int .i64 s1, .slice A1 m1 c1], .int .i64 ((2 ^ m1 - 1 - k : Nat) : Int)] W fun e w' => ∃ (A' : Option Addr) (c' : Nat), e = .returned (.tuple #[.agg #[.int .i64 (N : Nat), .slice A' N c'], .bool true]) ∧ Own w' W.heap.size w'.heap.size 3 1 A' N c' (fun j => .int .i64 (X j)) ∧ Below W.heap.size W w') ∧
     (∀ (W : World) (A1 : Option Addr) (c1 : Nat), GA W A1 N c1 X → Calls Tryz.prog 16 #[.agg #[.int .i64 (N : Nat), .slice A1 N c1], .string t] W fun e w' => e = .returned (.bool true) ∧ Below W.heap.size W w') ∧
     (∀ (W : World) (A1 : Option Addr) (c1 : Nat), GA W A1 m1 c1 x1 → Calls Tryz.prog 16 #[.agg #[.int .i64 s1, .slice A1 m1 c1], .string t] W fun e w' => e = .returned (.bool (decide (k = 0))) ∧ Below W.heap.size W w')) := by
 refine ⟨(dlX s1 m1 x1 t.toList).isSome, (dlX s1 m1 x1 t.toList).getD 0, laI m1 (dlX s1 m1 x1 t.toList), ?_, ?_, ?_, ?_, fun h => ?_⟩
 ·intro W A1 c1 h1;have := FewestDeletions_i s1 A1 m1 c1 x1 t W h1 (by omega);rwa [lsV_eq] at this
 ·intro W A1 c1 h1;have := FewestDeletions_s s1 A1 m1 c1 x1 t W h1 (by omega);rwa [lsV_eq] at this
 ·exact fun W A1 c1 h1 => LargestInside_i s1 A1 m1 c1 x1 t W h1 (by omega)
 ·exact fun W A1 c1 h1 => LargestInside_s s1 A1 m1 c1 x1 t W h1 (by omega)
 ·obtain ⟨k, hk⟩ := Option.isSome_iff_exists.1 h;have hok : okB s1 m1 x1 = true := by
   cases hb : okB s1 m1 x1
   ·rw [dlX_no hb] at hk; cases hk
   ·rfl
  obtain ⟨_, es, _, _⟩ := okB_ok' hok;subst es;obtain ⟨vg, hx⟩ := okB_vg hok;have hk2 := hk;rw [dlX_yes hok] at hk2;obtain ⟨a1, a2, a3, a4⟩ := del_law vg hk2;obtain ⟨b1, _, _⟩ := cn_tables m1 (by omega);rw [hk];refine ⟨cn (2 ^ m1 - 1 - k), fun j => (inR (rw_ x1) (2 ^ m1 - 1 - k) j : Nat), rfl, vg.n1, a1, a3, ?_, ?_, ?_⟩
  ·intro W A1 c1 h1;refine (InducedOn_sv (h1.gv hok) (s := 2 ^ m1 - 1 - k) (by omega) (by omega)).mono ?_;rintro e w' ⟨A', c', he, ho, hb⟩;exact ⟨A', c', he, ho, hb⟩
  ·intro W A1 c1 h1;have := IsIn_sv (A := A1) (c := c1) (m := cn (2 ^ m1 - 1 - k)) (r := inR (rw_ x1) (2 ^ m1 - 1 - k)) ⟨inR_vg vg (by omega) (by omega), h1.rd⟩ t;unfold inV at a2;rwa [a2] at this
  ·intro W A1 c1 h1;have hrd : GV W A1 m1 c1 (inR (rw_ x1) (2 ^ m1 - 1)) := by
    have hv := inR_vg (s := 2 ^ m1 - 1) vg (by omega) (by omega);rw [b1] at hv;exact ⟨hv, h1.rd.congr fun j hj => by rw [inR_full vg j hj]; exact hx j hj⟩
   have := IsIn_sv hrd t;unfold inV at a4;rw [b1] at a4;rw [← a4] at this;exact this
set_option maxHeartbeats 6400000
structure SG (w W : World) (B : Option Addr) (m d : Nat) (x : Nat → Int) : Prop where
 h7 : m ≤ 7
 o1 : Own W w.heap.size W.heap.size 3 1 B m d (fun j => .int .i64 (x j))
 b : Below w.heap.size w W
theorem SG.fin {w U W' : World} {B : Option Addr} {m d l h k : Nat} {x : Nat → Int} (hB : Below w.heap.size w U) (F : Fr w.heap.size (w.heap.size + k) U W') (hm : m ≤ 7) (o : Own U l h 3 1 B m d (fun j => .int .i64 (x j))) (e1 : w.heap.size + k ≤ l) (e3 : h ≤ U.heap.size) : SG w W' B m d x :=
 ⟨hm, (o.keep F (.inr e1)).mono (by omega) (Nat.le_trans e3 F.size), hB.trans (F.below nr_ hB.size)⟩
theorem SG.alloc {w W : World} {B : Option Addr} {m d : Nat} {x : Nat → Int} (h : SG w W B m d x) (o : Obj) : SG w (W.alloc o) B m d x :=
 ⟨h.h7, (h.o1.alloc o).mono nr_ (by simp), h.b.alloc h.b.size _⟩
theorem SG.drewN {w W : World} {B : Option Addr} {m d : Nat} {x : Nat → Int} (h : SG w W B m d x) (k : Nat) : SG w (W.drewN k) B m d x := ⟨h.h7, h.o1, ⟨h.b.os, h.b.tape, h.b.output, h.b.size, h.b.block⟩⟩
section
variable {w : World} {n c : Nat} {A : Option Addr}
set_option maxRecDepth 100000 in
theorem DrawMinimalFill_s (hb : By w w.heap.size A n c) (hn : n ≤ 1048576) :
 Calls Tryz.prog 23 #[.slice A n c] w fun e w' => ∃ (s1 : Int) (B1 : Option Addr) (m1 d1 : Nat) (x1 : Nat → Int), e = .returned (.agg #[.int .i64 s1, .slice B1 m1 d1]) ∧ SG w w' B1 m1 d1 x1 := by
 obtain ⟨W, hW⟩ : ∃ W, W = (w.alloc (Obj.cells #[.int .i64 0, .slice none 0 0] 26)) := ⟨_, rfl⟩;have HB : Hid (Below w.heap.size w W) := by rw [hW]; exact br_.alloc nr_ _
 have hlW : W.heap.size = w.heap.size + 1 := by rw [hW]; simp
 have HR0 : Hid (GC W (w.heap.size) 0 none 0 0) := by rw [hW]; constructor <;> simp [go_sem]
 have HW := hh_ hW;have KB := hh_ (l1New_s (hb.keep HB (by omega)) hn : Calls Tryz.prog 63 #[.slice A n c] W _);clear hW hb;go_enter Tryz.func23, Tryz.ntmps23;go_wp2_with fail
 rw [← HW.out];clear HW;refine KB.mono ?_;rintro e w1 ⟨q, rfl, hq, hc, hb⟩;replace HR0 := hh_ (HR0.keep hb);have hl1 := hb.size;replace HB := hh_ (HB.trans (hb.mono (by omega)));have HC := hh_ hc;clear hb KB hc;have hql := HC.lt;have KB := hh_ (l4Holey_s HC);go_wp2_with fail
 refine KB.mono ?_;rintro e w2 ⟨s1, B1, m1, d1, x1, rfl, h1m1, h7m1, ho, hd⟩;replace HR0 := hh_ (HR0.keepF hd.fr (.inl (by omega)));have hlw2 := hd.fr.size;replace HB := hh_ (HB.trans (hd.fr.below (by omega) (by omega)));replace HC := hh_ hd.cu;have HO1 := hh_ ho;clear hd KB ho;have r0c0 := HR0.c0;have r0c1 := HR0.c1;have r0f0 := HR0.f0;have r0f1 := HR0.f1;go_wp2;exact bodyPost_ret (v := .agg #[.int .i64 s1, .slice B1 m1 d1]) (by simp [results, Tryz.results23, go_sem, *]) rfl ⟨s1, B1, m1, d1, x1, rfl, SG.fin HB (fr2 w2 w.heap.size _ _) h7m1 HO1.out (by omega) nr_⟩
set_option maxRecDepth 100000 in
theorem DrawFewestFill_s (hb : By w w.heap.size A n c) (hn : n ≤ 1048576) :
 Calls Tryz.prog 39 #[.slice A n c] w fun e w' => ∃ (s1 : Int) (B1 : Option Addr) (m1 d1 : Nat) (x1 : Nat → Int), e = .returned (.agg #[.int .i64 s1, .slice B1 m1 d1]) ∧ SG w w' B1 m1 d1 x1 := by
 obtain ⟨W, hW⟩ : ∃ W, W = (w.alloc (Obj.cells #[.int .i64 0, .slice none 0 0] 26)) := ⟨_, rfl⟩;have HB : Hid (Below w.heap.size w W) := by rw [hW]; exact br_.alloc nr_ _
 have hlW : W.heap.size = w.heap.size + 1 := by rw [hW]; simp
 have HR0 : Hid (GC W (w.heap.size) 0 none 0 0) := by rw [hW]; constructor <;> simp [go_sem]
 have HW := hh_ hW;have KB := hh_ (l1New_s (hb.keep HB (by omega)) hn : Calls Tryz.prog 63 #[.slice A n c] W _);clear hW hb;go_enter Tryz.func39, Tryz.ntmps39;go_wp2_with fail
 rw [← HW.out];clear HW;refine KB.mono ?_;rintro e w1 ⟨q, rfl, hq, hc, hb⟩;replace HR0 := hh_ (HR0.keep hb);have hl1 := hb.size;replace HB := hh_ (HB.trans (hb.mono (by omega)));have HC := hh_ hc;clear hb KB hc;have hql := HC.lt;have KB := hh_ (l30Small_s HC);go_wp2_with fail
 refine KB.mono ?_;rintro e w2 ⟨s1, B1, m1, d1, x1, rfl, h1m1, h7m1, ho, hd⟩;replace HR0 := hh_ (HR0.keepF hd.fr (.inl (by omega)));have hlw2 := hd.fr.size;replace HB := hh_ (HB.trans (hd.fr.below (by omega) (by omega)));replace HC := hh_ hd.cu;have HO1 := hh_ ho;clear hd KB ho;have r0c0 := HR0.c0;have r0c1 := HR0.c1;have r0f0 := HR0.f0;have r0f1 := HR0.f1;go_wp2;exact bodyPost_ret (v := .agg #[.int .i64 s1, .slice B1 m1 d1]) (by simp [results, Tryz.results39, go_sem, *]) rfl ⟨s1, B1, m1, d1, x1, rfl, SG.fin HB (fr2 w2 w.heap.size _ _) h7m1 HO1.out (by omega) nr_⟩
set_option maxRecDepth 100000 in
theorem l30Both_s (hb : By w w.heap.size A n c) (hn : n ≤ 1048576) :
 Calls Tryz.prog 86 #[.slice A n c] w fun e w' => ∃ (s1 : Int) (B1 : Option Addr) (m1 d1 : Nat) (x1 : Nat → Int) (t : ByteArray), e = .returned (.tuple #[.agg #[.int .i64 s1, .slice B1 m1 d1], .string t]) ∧ SG w w' B1 m1 d1 x1 := by
 obtain ⟨W, hW⟩ : ∃ W, W = (w.alloc (Obj.cells #[.int .i64 0, .slice none 0 0] 26)) := ⟨_, rfl⟩;have HB : Hid (Below w.heap.size w W) := by rw [hW]; exact br_.alloc nr_ _
 have hlW : W.heap.size = w.heap.size + 1 := by rw [hW]; simp
 have HR0 : Hid (GC W (w.heap.size) 0 none 0 0) := by rw [hW]; constructor <;> simp [go_sem]
 have HW := hh_ hW;have KB := hh_ (l1New_s (hb.keep HB (by omega)) hn : Calls Tryz.prog 63 #[.slice A n c] W _);clear hW hb;go_enter Tryz.func86, Tryz.ntmps86;go_wp2_with fail
 rw [← HW.out];clear HW;refine KB.mono ?_;rintro e w1 ⟨q, rfl, hq, hc, hb⟩;replace HR0 := hh_ (HR0.keep hb);have hl1 := hb.size;replace HB := hh_ (HB.trans (hb.mono (by omega)));have HC := hh_ hc;clear hb KB hc;have hql := HC.lt;have KB := hh_ (l29Name_s HC);go_wp2_with fail
 refine KB.mono ?_;rintro e w4 ⟨t, rfl, hd⟩;replace HR0 := hh_ (HR0.keepF hd.fr (.inl (by omega)));have hl4 := hd.fr.size;replace HB := hh_ (HB.trans (hd.fr.below (by omega) (by omega)));replace HC := hh_ hd.cu;clear hd KB;have KB := hh_ (l30Small_s HC);go_wp2_with fail
 refine KB.mono ?_;rintro e w2 ⟨s1, B1, m1, d1, x1, rfl, h1m1, h7m1, ho, hd⟩;replace HR0 := hh_ (HR0.keepF hd.fr (.inl (by omega)));have hlw2 := hd.fr.size;replace HB := hh_ (HB.trans (hd.fr.below (by omega) (by omega)));replace HC := hh_ hd.cu;have HO1 := hh_ ho;clear hd KB ho;have r0c0 := HR0.c0;have r0c1 := HR0.c1;have r0f0 := HR0.f0;have r0f1 := HR0.f1;go_wp2;exact bodyPost_ret (v := .tuple #[.agg #[.int .i64 s1, .slice B1 m1 d1], .string t]) (by simp [results, Tryz.results86, go_sem, *]) rfl ⟨s1, B1, m1, d1, x1, t, rfl, SG.fin HB (fr2 w2 w.heap.size _ _) h7m1 HO1.out (by omega) nr_⟩
set_option maxRecDepth 100000 in
theorem DrawFewestDeletions_s (hb : By w w.heap.size A n c) (hn : n ≤ 1048576) :
 Calls Tryz.prog 31 #[.slice A n c] w fun e w' => ∃ (s1 : Int) (B1 : Option Addr) (m1 d1 : Nat) (x1 : Nat → Int) (t : ByteArray), e = .returned (.tuple #[.agg #[.int .i64 s1, .slice B1 m1 d1], .string t]) ∧ SG w w' B1 m1 d1 x1 := by
 obtain ⟨W, hW⟩ : ∃ W, W = (w.alloc (Obj.cells #[.int .i64 0, .slice none 0 0] 26)) := ⟨_, rfl⟩;have HB : Hid (Below w.heap.size w W) := by rw [hW]; exact br_.alloc nr_ _
 have hlW : W.heap.size = w.heap.size + 1 := by rw [hW]; simp
 have HR0 : Hid (GC W (w.heap.size) 0 none 0 0) := by rw [hW]; constructor <;> simp [go_sem]
 have HW := hh_ hW;have KB := hh_ (l30Both_s (hb.keep HB (by omega)) hn : Calls Tryz.prog 86 #[.slice A n c] W _);clear hW hb;go_enter Tryz.func31, Tryz.ntmps31;go_wp2_with fail
 rw [← HW.out];clear HW;refine KB.mono ?_;rintro e w2 ⟨s1, B1, m1, d1, x1, t, rfl, hS⟩;have hb := hS.b;replace HR0 := hh_ (HR0.keep hb);have hl1 := hb.size;replace HB := hh_ (HB.trans (hb.mono (by omega)));have h7m1 := hS.h7;have HO1 := hh_ hS.o1;have hlt : w.heap.size < w2.heap.size := by omega
 have j1 : (w.heap.size = w2.heap.size) = False := by simp; omega
 have j2 : (w2.heap.size = w.heap.size) = False := by simp; omega
 clear hb KB hS;have r0c0 := HR0.c0;have r0c1 := HR0.c1;have r0f0 := HR0.f0;have r0f1 := HR0.f1;go_wp2;exact bodyPost_ret (v := .tuple #[.agg #[.int .i64 s1, .slice B1 m1 d1], .string t]) (by simp [results, Tryz.results31, go_sem, *]) rfl ⟨s1, B1, m1, d1, x1, t, rfl, (SG.fin HB (fr2 w2 w.heap.size _ _) h7m1 HO1.out (by omega) nr_).alloc _⟩
end
end Go.Proofs.YticadlkcjhglnaaGreat
