/-
  Several texts in one.
-/
import Derived.Test.YticadlkcjhglnaaGreatQnSetG
import Derived.Test.YticadlkcjhglnaaGreatQnIndS
import Derived.Test.YticadlkcjhglnaaGreatQnGA
import Derived.Test.YticadlkcjhglnaaGreatQnOptS
import Derived.Test.YticadlkcjhglnaaGreatQnBarP
import Derived.Test.YticadlkcjhglnaaGreatQnGB
/-
-/
namespace Go.Proofs.YticadlkcjhglnaaGreat
open Go.RowKit
section
variable {w : World} {q nb cb : Nat} {A : Option Addr}
set_option maxRecDepth 100000 in
set_option maxHeartbeats 1600000 in
theorem InducedOn_sn (sz : Int) (A : Option Addr) (m c : Nat) (x : Nat → Int) (s : Int) (w : World) (h : GA w A m c x) (hm : m ≤ 1048576) (hn : setB sz m x s = false) :
 Calls Tryz.prog 36 #[.agg #[.int .i64 sz, .slice A m c], .int .i64 s] w fun e w' => e = .returned (.tuple #[.agg #[.int .i64 0, .slice none 0 0], .bool false]) ∧ Below w.heap.size w w' := by
 obtain ⟨W, hW⟩ : ∃ W : World, W = ((w.alloc (Obj.cells #[Value.int IntKind.i64 sz, Value.slice A m c] 26)).alloc (Obj.cells #[Value.int IntKind.i64 0, Value.slice none 0 0] 26)) := ⟨_, rfl⟩
 have HB : Hid (From w W) := by rw [hW]; exact (From.alloc _ _).alloc_ _
 have HZ : Hid (w.heap.size + 2 = W.heap.size) := by rw [hW]; simp [Hid]
 have HS : Hid (From W W) := From.refl W
 have HK := Lib.hid (h.keep HB.out.below)
 have HC : Hid (GC W w.heap.size sz A m c) := by rw [hW]; exact (GC.new _ _ _ _ _).keep ((Below.refl _ _).alloc (Nat.le_refl _) _)
 have HD : Hid (GC W (w.heap.size + 1) 0 none 0 0) := by rw [hW]; constructor <;> simp [go_sem]
 have HW := Lib.hid hW
 have Hn := Lib.hid hn
 clear hW h hn
 go_enter Tryz.func36, Tryz.ntmps36
 have e0 := HC.out.c0
 have e1 := HC.out.c1
 have d0 := HD.out.c0
 have d1 := HD.out.c1
 have d2 := HD.out.f0
 have d3 := HD.out.f1
 go_wp2_with fail
 rw [← HW.out]
 clear HW
 refine (IsSet_sg sz A m c x s W HK.out hm).mono ?_
 rw [Hn.out]
 rintro e w1 ⟨rfl, hb1⟩
 clear e0 e1 d0 d1 d2 d3
 replace HB := Lib.hid (HB.out.keep hb1)
 replace HS := Lib.hid (HS.out.keep hb1)
 replace HK := Lib.hid (HK.out.keep hb1)
 replace HC := Lib.hid (HC.out.keep hb1)
 replace HD := Lib.hid (HD.out.keep hb1)
 clear hb1
 have e0 := HC.out.c0
 have e1 := HC.out.c1
 have d0 := HD.out.c0
 have d1 := HD.out.c1
 have d2 := HD.out.f0
 have d3 := HD.out.f1
 go_wp2
 have HE := (HB.out.set (q := w.heap.size + 1) (by omega) (.int .i64 0) (.slice none 0 0)).below
 exact bodyPost_ret (v := .tuple #[.agg #[.int .i64 0, .slice none 0 0], .bool false]) (by simp [results, Tryz.results36, go_sem, *]) rfl ⟨rfl, HE⟩
theorem dgQ.below {e : Ending} {w' w2 : World} (h : dgQ w q A nb cb e w') (hb : Below w'.heap.size w' w2) : dgQ w q A nb cb e w2 := by
 obtain ⟨sz, B, m, d, x, rfl, h1, h2, ho, hd⟩ := h
 exact ⟨sz, B, m, d, x, rfl, h1, h2, (ho.keepB hb (Nat.le_refl _)).mono (Nat.le_refl _) hb.size, hd.cu.keep hb, hd.fr.trans (Fr.of_below hb)⟩
set_option maxRecDepth 100000 in
set_option maxHeartbeats 6400000 in
theorem l30Small_s (hc : Cu w q A nb cb) : Calls Tryz.prog 96 #[.pointer (some ⟨q, 0, none⟩)] w (dgQ w q A nb cb) := by
 obtain ⟨W, hW⟩ : ∃ W : World, W = (w.alloc (Obj.cells #[Value.int IntKind.i64 0, Value.slice none 0 0] 26)) := ⟨_, rfl⟩
 have HD : Hid (D0 w W q A nb cb) := by rw [hW]; exact D0.new hc
 have HW := Lib.hid hW
 have KB := Lib.hid (l4Holey_s HD.out.cu)
 have hlW : w.heap.size < W.heap.size := HD.out.lt
 clear hW hc
 go_enter Tryz.func96, Tryz.ntmps96
 go_wp2_with fail
 rw [← HW.out]
 clear HW
 refine KB.out.mono ?_
 rintro e w1 ⟨sz, B, m, d, x, rfl, hm1, hm7, ho, hd⟩
 replace HD := Lib.hid (HD.out.draw hd)
 have HO := Lib.hid ho
 have hl1 := hd.fr.size
 clear hd KB ho
 have hql : q < w.heap.size := HD.out.l1
 obtain ⟨W2, hW2⟩ : ∃ W2 : World, W2 = (w1.alloc (Obj.cells #[.int .i64 sz, .slice B m d] 26)) := ⟨_, rfl⟩
 have hb2 : Below w1.heap.size w1 W2 := by rw [hW2]; exact (Below.refl _ _).alloc (Nat.le_refl _) _
 have HD1 := HD
 have HO1 := HO
 replace HD := Lib.hid (HD.out.keep hb2)
 replace HO := Lib.hid (HO.out.keepB hb2 (Nat.le_refl _))
 have HG : Hid (GC W2 w1.heap.size sz B m d) := by rw [hW2]; exact GC.new _ _ _ _ _
 have hz2 : w1.heap.size < W2.heap.size := by rw [hW2]; simp
 have j1 : (w.heap.size = w1.heap.size) = False := by simp; omega
 have j2 : (w1.heap.size = w.heap.size) = False := by simp; omega
 have HW2 := Lib.hid hW2
 clear hW2 hb2
 by_cases h5 : 5 < sz
 rotate_left
 ·have i5 : decide (5 < sz) = false := by simp; omega
  have HF := Lib.hid ((dgQ.fin0 (sz := sz) hm1 hm7 HD1.out.cu HD1.out.fr HD1.out.l1 HO1.out hlW).below ((Below.refl _ _).alloc (Nat.le_refl _) (Obj.cells #[.int .i64 sz, .slice B m d] 26)))
  have d0 := HD1.out.d.c0
  have d1 := HD1.out.d.c1
  have d2 := HD1.out.d.f0
  have d3 := HD1.out.d.f1
  have hlt1 : w.heap.size < w1.heap.size := by omega
  clear HW2 HD HO HG
  go_wp2
  exact bodyPost_ret (v := .agg #[.int .i64 sz, .slice B m d]) (by simp [results, Tryz.results96, go_sem, *]) rfl HF.out
 ·have i5 : decide (5 < sz) = true := by simp; omega
  have KB := Lib.hid (l1Once_s (k := 12) HD.out.cu (by omega) (by omega))
  go_wp2_with fail
  rw [← HW2.out]
  clear HW2
  refine KB.out.mono ?_
  rintro e w3 ⟨y, rfl, hd⟩
  replace HD := Lib.hid (HD.out.draw hd)
  replace HO := Lib.hid (HO.out.keep hd.fr (.inr (by omega)))
  replace HG := Lib.hid (HG.out.keepF hd.fr (.inr (by omega)))
  have hl3 := hd.fr.size
  clear hd KB HD1 HO1
  rename ∀ (a : Act) (w' : World), _ → _ => hK
  refine hK _ _ ?_
  clear hK
  cases y
  ·have e0 := HG.out.c0
   have e1 := HG.out.c1
   cases hok : okB sz m x
   ·have Hns : Hid (setB sz m x 31 = false) := by show _ = _; unfold setB; rw [hok]; rfl
    have KI := Lib.hid (InducedOn_sn sz B m d x 31 w3 ⟨HO.out.rd.keep (Below.refl _ _) (by omega)⟩ (by omega) Hns.out)
    clear hok Hns
    go_wp2_with fail
    refine KI.out.mono ?_
    rintro e w4 ⟨rfl, hb⟩
    replace HD := Lib.hid (HD.out.keep hb)
    replace HO := Lib.hid (HO.out.keepB hb (by omega))
    replace HG := Lib.hid (HG.out.keep hb)
    have hl4 := hb.size
    have HF := Lib.hid ((dgQ.fin0 (sz := sz) hm1 hm7 HD.out.cu HD.out.fr HD.out.l1 (HO.out.mono (Nat.le_refl _) (by omega)) hlW).below ((Below.refl _ _).alloc (Nat.le_refl _) (Obj.cells #[.int .i64 0, .slice none 0 0] 26)))
    rename ∀ (a : Act) (w' : World), _ → _ => hK
    refine hK _ _ ?_
    clear hK hb KI
    have hlt4 : w.heap.size < w4.heap.size := by omega
    have hlt5 : w1.heap.size < w4.heap.size := by omega
    have j3 : (w.heap.size = w4.heap.size) = False := by simp; omega
    have j4 : (w4.heap.size = w.heap.size) = False := by simp; omega
    have e0 := HG.out.c0
    have e1 := HG.out.c1
    have d0 := HD.out.d.c0
    have d1 := HD.out.d.c1
    have d2 := HD.out.d.f0
    have d3 := HD.out.d.f1
    go_wp2
    exact bodyPost_ret (v := .agg #[.int .i64 sz, .slice B m d]) (by simp [results, Tryz.results96, go_sem, *]) rfl HF.out
   ·obtain ⟨_, es, vg0, _⟩ := okB_ok' hok
    subst es
    have hm6 : 6 ≤ m := by omega
    have h64 := Nat.pow_le_pow_right (n := 2) (by decide) hm6
    have h31 : cn 31 = 5 := by decide
    have HV : GV w3 B m d (rw_ x) := GV.of HO.out.rd (by omega) hok
    have KI : Hid (Calls Tryz.prog 36 #[.agg #[.int .i64 (m : Int), .slice B m d], .int .i64 31] w3 _) := InducedOn_sv (s := 31) HV (by omega) (by omega)
    rw [h31] at KI
    clear hok HV vg0
    go_wp2_with fail
    refine KI.out.mono ?_
    rintro e w4 ⟨A4, c4, rfl, ho, hb⟩
    replace HD := Lib.hid (HD.out.keep hb)
    have hl4 := hb.size
    have HF := Lib.hid ((dgQ.fin0 (sz := 5) (by decide) (by decide) HD.out.cu HD.out.fr HD.out.l1 ho (by omega)).below ((Below.refl _ _).alloc (Nat.le_refl _) (Obj.cells #[.int .i64 5, .slice A4 5 c4] 26)))
    rename ∀ (a : Act) (w' : World), _ → _ => hK
    refine hK _ _ ?_
    clear hK hb KI
    have hlt4 : w.heap.size < w4.heap.size := by omega
    have hlt5 : w1.heap.size < w4.heap.size := by omega
    have j3 : (w.heap.size = w4.heap.size) = False := by simp; omega
    have j4 : (w4.heap.size = w.heap.size) = False := by simp; omega
    have d0 := HD.out.d.c0
    have d1 := HD.out.d.c1
    have d2 := HD.out.d.f0
    have d3 := HD.out.d.f1
    go_wp2
    exact bodyPost_ret (v := .agg #[.int .i64 5, .slice A4 5 c4]) (by simp [results, Tryz.results96, go_sem, *]) rfl HF.out
  ·have HF := Lib.hid (dgQ.fin0 (sz := sz) hm1 hm7 HD.out.cu HD.out.fr HD.out.l1 (HO.out.mono (Nat.le_refl _) (by omega)) hlW)
   have e0 := HG.out.c0
   have e1 := HG.out.c1
   have d0 := HD.out.d.c0
   have d1 := HD.out.d.c1
   have d2 := HD.out.d.f0
   have d3 := HD.out.d.f1
   go_wp2
   exact bodyPost_ret (v := .agg #[.int .i64 sz, .slice B m d]) (by simp [results, Tryz.results96, go_sem, *]) rfl HF.out
end
end Go.Proofs.YticadlkcjhglnaaGreat

/-
-/
namespace Go.Proofs.YticadlkcjhglnaaGreat
open Go.RowKit
theorem Own.cage1 {w : World} {lo hi g n c size : Nat} {e : TypeId} {x : Nat → Value} (h : Own w lo hi e size (some ⟨g, 0, none⟩) n c x) : Own w g (g + 1) e size (some ⟨g, 0, none⟩) n c x := by
 rcases h with ⟨h, _⟩ | ⟨g', cur, h1, h2, h3, h4, r⟩
 ·cases h
 ·simp only [Option.some.injEq, Addr.mk.injEq, and_true] at h1
  subst h1
  exact .inr ⟨g, cur, rfl, Nat.le_refl _, Nat.lt_succ_self _, h4, r⟩
end Go.Proofs.YticadlkcjhglnaaGreat

/-
-/
namespace Go.Proofs.YticadlkcjhglnaaGreat
open Go.RowKit
def nmL : List ByteArray := [⟨#[99, 104, 111, 114, 100, 97, 108]⟩, ⟨#[105, 110, 116, 101, 114, 118, 97, 108]⟩, ⟨#[112, 114, 111, 112, 101, 114]⟩, ⟨#[99, 111, 103, 114, 97, 112, 104]⟩, ⟨#[115, 112, 108, 105, 116]⟩, ⟨#[116, 104, 114, 101, 115, 104, 111, 108, 100]⟩, ⟨#[98, 105, 112, 97, 114, 116, 105, 116, 101]⟩, ⟨#[115, 116, 114, 111, 110, 103]⟩, ⟨#[112, 101, 114, 102, 101, 99, 116]⟩]
def nm (j : Nat) : ByteArray := nmL.getD j ⟨#[]⟩
theorem nm_own (w : World) : Own (w.alloc (Obj.cells #[.string ⟨#[99, 104, 111, 114, 100, 97, 108]⟩, .string ⟨#[105, 110, 116, 101, 114, 118, 97, 108]⟩, .string ⟨#[112, 114, 111, 112, 101, 114]⟩, .string ⟨#[99, 111, 103, 114, 97, 112, 104]⟩, .string ⟨#[115, 112, 108, 105, 116]⟩, .string ⟨#[116, 104, 114, 101, 115, 104, 111, 108, 100]⟩, .string ⟨#[98, 105, 112, 97, 114, 116, 105, 116, 101]⟩, .string ⟨#[115, 116, 114, 111, 110, 103]⟩, .string ⟨#[112, 101, 114, 102, 101, 99, 116]⟩] 9)) w.heap.size (w.heap.size + 1) 9 1 (some ⟨w.heap.size, 0, none⟩) 9 9 (strs nm) :=
 .inr ⟨w.heap.size, _, rfl, Nat.le_refl _, Nat.lt_succ_self _, heap_alloc_new w _, Nat.le_refl _, by unfold maxLen; omega, rfl, fun j hj => by
  have hc : j = 0 ∨ j = 1 ∨ j = 2 ∨ j = 3 ∨ j = 4 ∨ j = 5 ∨ j = 6 ∨ j = 7 ∨ j = 8 := by omega
  rcases hc with rfl | rfl | rfl | rfl | rfl | rfl | rfl | rfl | rfl <;> rfl⟩
set_option maxRecDepth 100000 in
set_option maxHeartbeats 1000000 in
theorem ClassNames_sv (w : World) : Calls Tryz.prog 148 #[] w fun e w' => ∃ A c, e = .returned (.slice A 9 c) ∧ Own w' w.heap.size w'.heap.size 9 1 A 9 c (strs nm) ∧ Below w.heap.size w w' := by
 have H := Lib.hid (nm_own w)
 go_enter Tryz.func148, Tryz.ntmps148
 go_wp2
 go_ret
 exact ⟨_, 9, rfl, H.out.mono (Nat.le_refl _) (by simp), (Below.refl _ _).alloc (Nat.le_refl _) _⟩
end Go.Proofs.YticadlkcjhglnaaGreat

/-
-/
namespace Go.Proofs.YticadlkcjhglnaaGreat
open Go.RowKit
section
variable {w : World} {q nb cb : Nat} {A : Option Addr}
set_option maxRecDepth 100000 in
set_option maxHeartbeats 3200000 in
theorem l29Name_s (hc : Cu w q A nb cb) : Calls Tryz.prog 100 #[.pointer (some ⟨q, 0, none⟩)] w fun e w' => ∃ t : ByteArray, e = .returned (.string t) ∧ Dr w q A nb cb w' := by
 have HD : Hid (Dr w q A nb cb w) := Dr.of hc (Below.refl _ _)
 have hql : q < w.heap.size := hc.lt
 clear hc
 have KN : Hid (∀ z, Calls Tryz.prog 148 #[] z _) := fun z => ClassNames_sv z
 go_enter Tryz.func100, Tryz.ntmps100
 go_wp2_with fail
 refine (KN.out w).mono ?_
 rintro e w1 ⟨A1, c1, rfl, ho, hb⟩
 replace HD := Lib.hid (HD.out.trans (Dr.of HD.out.cu hb))
 have HO := Lib.hid ho
 have hl1 := hb.size
 clear hb ho KN
 have KB := Lib.hid (l1Once_s (k := 18) HD.out.cu (by omega) (by omega))
 go_wp2_with fail
 refine KB.out.mono ?_
 rintro e w2 ⟨y, rfl, hd⟩
 replace HD := Lib.hid (HD.out.trans hd)
 replace HO := Lib.hid (HO.out.keep hd.fr (.inr (by omega)))
 have hl2 := hd.fr.size
 clear hd KB
 cases y
 ·have KB := Lib.hid (l1Below_s (k := 9) HD.out.cu (by omega) (by omega))
  go_wp2_with fail
  refine KB.out.mono ?_
  rintro e w3 ⟨v, rfl, hv, hd⟩
  replace HD := Lib.hid (HD.out.trans hd)
  replace HO := Lib.hid (HO.out.keep hd.fr (.inr (by omega)))
  obtain ⟨g, eB, _, _, _, hcl, _⟩ := HO.out.at_ (by omega)
  subst eB
  have k1 : w3.cell? ⟨g, v, none⟩ = some (.string (nm v)) := hcl v (by omega)
  have i1 : (v : Int) < 9 := by omega
  clear hd KB hcl
  rename ∀ (a : Act) (w' : World), _ → _ => hK
  refine hK _ _ ?_
  clear hK
  go_wp2
  go_ret
  exact ⟨_, rfl, HD.out⟩
 ·rename ∀ (a : Act) (w' : World), _ → _ => hK
  refine hK _ _ ?_
  clear hK
  obtain ⟨W4, hW4⟩ : ∃ W4 : World, W4 = w2.alloc (Obj.cells #[.string ⟨#[]⟩, .string ⟨#[67, 104, 111, 114, 100, 97, 108]⟩, .string ⟨#[112, 108, 97, 110, 97, 114]⟩] 9) := ⟨_, rfl⟩
  have hb4 : Below w2.heap.size w2 W4 := by rw [hW4]; exact (Below.refl _ _).alloc (Nat.le_refl _) _
  have hl4 : w2.heap.size < W4.heap.size := by rw [hW4]; simp
  have HL : Hid (LT W4 w2.heap.size 3 fun _ => True) := by
   refine ⟨fun j hj => ?_⟩
   rw [hW4]
   have hj3 : j = 0 ∨ j = 1 ∨ j = 2 := by omega
   rcases hj3 with rfl | rfl | rfl <;> exact ⟨_, trivial, by simp [go_sem]; rfl⟩
  replace HD := Lib.hid (HD.out.trans (Dr.of HD.out.cu hb4))
  have KP := Lib.hid (l1Pick_s (k := 3) HD.out.cu HL.out (by omega) hl4 (by omega) (by omega))
  have HW4 := Lib.hid hW4
  clear hW4 hb4 HL
  go_wp2_with fail
  rw [← HW4.out]
  clear HW4
  refine KP.out.mono ?_
  rintro e w5 ⟨t, rfl, _, hd⟩
  replace HD := Lib.hid (HD.out.trans hd)
  clear hd KP
  rename ∀ (a : Act) (w' : World), _ → _ => hK
  refine hK _ _ ?_
  clear hK
  go_wp2
  go_ret
  exact ⟨_, rfl, HD.out⟩
end
end Go.Proofs.YticadlkcjhglnaaGreat

/-
-/
namespace Go.Proofs.YticadlkcjhglnaaGreat
open Go.RowKit
set_option maxRecDepth 100000 in
set_option maxHeartbeats 6400000 in
theorem ComplementOf_s (sz : Int) (A : Option Addr) (m c : Nat) (x : Nat → Int) (w : World) (h : GA w A m c x) (hm : m ≤ 1048576) :
 Calls Tryz.prog 111 #[.agg #[.int .i64 sz, .slice A m c]] w fun e w' => ∃ sz' A' m' c', e = .returned (.tuple #[.agg #[.int .i64 sz', .slice A' m' c'], .bool (okB sz m x)]) ∧ (okB sz m x = true → sz' = (m : Int) ∧ m' = m ∧ GV w' A' m c' (coR (rw_ x) m)) ∧ Below w.heap.size w w' := by
 obtain ⟨W, hW⟩ : ∃ W : World, W = ((w.alloc (Obj.cells #[Value.int IntKind.i64 sz, Value.slice A m c] 26)).alloc (Obj.cells #[Value.int IntKind.i64 0, Value.slice none 0 0] 26)) := ⟨_, rfl⟩
 have HB : Hid (From w W) := by rw [hW]; exact (From.alloc _ _).alloc_ _
 have HZ : Hid (w.heap.size + 2 = W.heap.size) := by rw [hW]; simp [Hid]
 have HS : Hid (From W W) := From.refl W
 have HK := Lib.hid (h.keep HB.out.below)
 have HC : Hid (GC W w.heap.size sz A m c) := by rw [hW]; exact (GC.new _ _ _ _ _).keep ((Below.refl _ _).alloc (Nat.le_refl _) _)
 have HD : Hid (GC W (w.heap.size + 1) 0 none 0 0) := by rw [hW]; constructor <;> simp [go_sem]
 have HW := Lib.hid hW
 clear hW h
 go_enter Tryz.func111, Tryz.ntmps111
 have e0 := HC.out.c0
 have e1 := HC.out.c1
 have d0 := HD.out.c0
 have d1 := HD.out.c1
 have d2 := HD.out.f0
 have d3 := HD.out.f1
 go_wp2_with fail
 rw [← HW.out]
 refine (IsGraph_sany sz A m c x W W.heap.size HK.out.rd (Nat.le_refl _) hm).mono ?_
 rintro e w1 ⟨rfl, hb1⟩
 clear HW
 clear e0 e1 d0 d1 d2 d3
 replace HB := Lib.hid (HB.out.keep hb1)
 replace HS := Lib.hid (HS.out.keep hb1)
 replace HK := Lib.hid (HK.out.keep hb1)
 replace HC := Lib.hid (HC.out.keep hb1)
 replace HD := Lib.hid (HD.out.keep hb1)
 clear hb1
 have e0 := HC.out.c0
 have e1 := HC.out.c1
 have d0 := HD.out.c0
 have d1 := HD.out.c1
 have d2 := HD.out.f0
 have d3 := HD.out.f1
 cases ho : okB sz m x
 ·have Ho := Lib.hid ho
  clear ho
  go_wp2
  have HE := (HB.out.set (q := w.heap.size + 1) (by omega) (.int .i64 0) (.slice none 0 0)).below
  exact bodyPost_ret (v := .tuple #[.agg #[.int .i64 0, .slice none 0 0], .bool false]) (by simp [results, Tryz.results111, go_sem, *]) rfl ⟨0, none, 0, 0, by rw [Ho.out], (fun h => by rw [Ho.out] at h; cases h), HE⟩
 ·obtain ⟨_, es, vg0, _⟩ := okB_ok' ho
  subst es
  have hn1 := vg0.n1
  have hn7 := vg0.n7
  have HG : Hid (GV w1 A m c (rw_ x)) := HK.out.gv ho
  have Ho := Lib.hid ho
  have HY : Hid (w.heap.size + 2 ≤ w1.heap.size) := by have := HS.out.below.size; have := HZ.out; show _ ≤ _; omega
  obtain ⟨b, o, rfl⟩ := HG.out.addr
  obtain ⟨W2, hW2⟩ : ∃ W2 : World, W2 = (w1.alloc (Obj.cells #[Value.int IntKind.i64 (m : Int), Value.slice none 0 0] 26)) := ⟨_, rfl⟩
  have HR2 : Hid (From w1 W2) := by rw [hW2]; exact From.alloc _ _
  have HQ : Hid (GC W2 w1.heap.size m none 0 0) := by rw [hW2]; exact GC.new _ _ _ _ _
  have hz2 : w1.heap.size + 1 = W2.heap.size := by rw [hW2]; simp
  have HW2 := Lib.hid hW2
  clear hW2 ho vg0
  go_wp2_with fail
  rw [← HW2.out]
  clear HW2
  go_loopw [5] (fun k wr => ∃ (K : Nat) (A' : Option Addr) (c' : Nat), K ≤ m ∧ k = .int .i64 K ∧ Hid (GC wr w1.heap.size m A' K c') ∧ Hid (Own wr (w1.heap.size + 1) wr.heap.size 3 1 A' K c' (fun j => .int .i64 (coR (rw_ x) m j : Nat))) ∧ Hid (From w1 wr) ∧ Hid (w1.heap.size + 1 ≤ wr.heap.size)) (fun k _ => m - (intOf k).toNat)
  case atStart => exact ⟨0, none, 0, Nat.zero_le _, rfl, HQ, Own.nil _ _ _ _ _ _, HR2, Nat.le_of_eq hz2⟩
  case round =>
   obtain ⟨K, A', c', hK, rfl, HQr, HOr, HRr, HZr⟩ := hrel
   have HCr := Lib.hid (HC.out.keep HRr.out.below)
   have e0 := HCr.out.c0
   have e1 := HCr.out.c1
   have g0 := HQr.out.c0
   have g1 := HQr.out.c1
   have g2 := HQr.out.f0
   have g3 := HQr.out.f1
   by_cases hlt : K < m
   ·have HGr := Lib.hid (HG.out.keep HRr.out.below)
    have q0 := HGr.out.row hlt
    have hr := HGr.out.vg.lt K hlt
    obtain ⟨y, hy⟩ : ∃ y, y = rw_ x K := ⟨_, rfl⟩
    have hirr := HGr.out.vg.irr K hlt
    have hco : coR (rw_ x) m K = 2 ^ m - 1 - y - 2 ^ K ∧ y + 2 ^ K ≤ 2 ^ m - 1 := by rw [hy]; exact coR_sub HGr.out.vg hlt
    rw [← hy] at q0 hr
    have t1 := two_pow_int m hn7
    have t2 := two_pow_int K (by omega)
    have p1 := pow_shl m hn7
    have p2 := pow_shl K (by omega)
    have c1 : ((2 ^ m : Nat) : Int) = 2 ^ m := by simp
    have c2 : ((2 ^ K : Nat) : Int) = 2 ^ K := by simp
    have hle := hco.2
    have t3 : (y : Int) + 2 ^ K ≤ 2 ^ m - 1 := by rw [← c1, ← c2]; omega
    have s1 : IntKind.i64.wrap ((2 : Int) ^ m - 1) = 2 ^ m - 1 := Go.IntWalk.i64_in _ (by omega)
    have s2 : IntKind.i64.wrap ((2 : Int) ^ m - 1 - (y : Int)) = 2 ^ m - 1 - (y : Int) := Go.IntWalk.i64_in _ (by omega)
    have s3 : IntKind.i64.wrap ((2 : Int) ^ m - 1 - (y : Int) - 2 ^ K) = ((coR (rw_ x) m K : Nat) : Int) := by
     rw [hco.1, Go.IntWalk.i64_in _ (by omega)]
     omega
    have i1 : (K : Int) < (m : Int) := by omega
    obtain ⟨v, hv⟩ : ∃ v, v = coR (rw_ x) m K := ⟨_, rfl⟩
    rw [← hv] at s3
    have Hv := Lib.hid hv
    have HP : Hid (Own ((wr.alloc (Obj.cells #[.int .i64 (v : Int)] 3)).drew) (w1.heap.size + 1) wr.heap.size 3 1 A' K c' (fun j => .int .i64 (coR (rw_ x) m j : Nat))) := HOr.out.alloc _
    have HXn : Hid (∀ i, i < 1 → (#[Value.int .i64 (v : Int)] : Array Value)[i]? = some ((fun j => Value.int .i64 ((coR (rw_ x) m j : Nat) : Int)) (K * 1 + i))) := by
     intro i hi
     obtain rfl : i = 0 := by omega
     simp [Hv.out]
    have n5 : w1.heap.size < wr.heap.size := by have := HZr.out; omega
    have M0 : Hid (GC ((wr.alloc (Obj.cells #[.int .i64 (v : Int)] 3)).drew) w1.heap.size m A' K c') := (HQr.out.keep ((Below.refl _ _).alloc (Nat.le_refl _) _)).drew
    have n6 : K ≤ 1000 := by omega
    clear hv hco hle t1 t2 t3 c1 c2 hr hy hirr HGr HCr
    go_wp2
    go_region_law
     ((refine step_push _ (by rfl) _ _ _ (by rfl) 3 _ 1 8 Tryz.underlying24 info_int rfl (by omega) (w1.heap.size + 1) wr.heap.size A' K c' (fun j => .int .i64 (coR (rw_ x) m j : Nat)) (by rfl) HP.out (by have := HZr.out; simp; omega) wr.heap.size #[.int .i64 (v : Int)] 3 (0, 0) 1 (heap_alloc_new wr _) (by rfl) rfl HXn.out (by simp [Value.oneCell']) (by omega) (by omega) ?_; intro g6 cap w6 hp; have m0 := (hp.below.cell (p := ⟨w1.heap.size, 0, none⟩) (Nat.lt_succ_self _)).trans M0.out.c0; have m1 := (hp.below.cell (p := ⟨w1.heap.size, 1, none⟩) (Nat.lt_succ_self _)).trans M0.out.c1; have m3 := (World.frozen?_of_block (hp.below.block w1.heap.size (Nat.lt_succ_self _))).trans M0.out.f1; have m2 := (World.frozen?_of_block (hp.below.block w1.heap.size (Nat.lt_succ_self _))).trans M0.out.f0))
    all_goals
     obtain ⟨W7, hW7⟩ : ∃ W7 : World, W7 = (w6.setCell ⟨w1.heap.size, 1, none⟩ (.slice (some ⟨g6, 0, none⟩) (K + 1) cap)) := ⟨_, rfl⟩
     rw [← hW7]
     have F7 : Fr w1.heap.size (w1.heap.size + 1) w6 W7 := by rw [hW7]; exact (Fr.refl _ _ w6).setCell (p := ⟨w1.heap.size, 1, none⟩) (Nat.le_refl _) (Nat.lt_succ_self _) _
     have HQ6 : Hid (GC W7 w1.heap.size m (some ⟨g6, 0, none⟩) (K + 1) cap) := by rw [hW7]; constructor <;> simp [go_sem, m0, m1, m2, m3]
     have HO6 : Hid (Own W7 (w1.heap.size + 1) W7.heap.size 3 1 (some ⟨g6, 0, none⟩) (K + 1) cap (fun j => .int .i64 (coR (rw_ x) m j : Nat))) := (hp.own.keep F7 (.inr (Nat.le_refl _))).mono (Nat.le_refl _) F7.size
     have HR6 : Hid (From w1 W7) := by rw [hW7]; exact ⟨((HRr.out.below.trans ((Below.refl w1.heap.size wr).alloc (by omega) _).drew).trans (hp.below.mono (by omega))).setCell (p := ⟨w1.heap.size, 1, none⟩) (Nat.le_refl _) _⟩
     have HZ6 : Hid (w1.heap.size + 1 ≤ W7.heap.size) := by
      show _ ≤ _
      have h1 := hp.below.size
      have h2 : ((wr.alloc (Obj.cells #[.int .i64 (v : Int)] 3)).drew).heap.size = wr.heap.size + 1 := by simp
      have h3 := F7.size
      omega
     clear hp m0 m1 m2 m3 hW7 F7 HP HXn M0
     go_wp2
     go_roundw
     case rel => exact ⟨K + 1, some ⟨g6, 0, none⟩, cap, by omega, by go_num, HQ6, HO6, HR6, HZ6⟩
     case measure => (simp [intOf] <;> omega)
   ·obtain rfl : m = K := by omega
    have i1 : (m : Int) ≤ (m : Int) := Int.le_refl _
    have HDr := Lib.hid (HD.out.keep HRr.out.below)
    have d0 := HDr.out.c0
    have d1 := HDr.out.c1
    have d2 := HDr.out.f0
    have d3 := HDr.out.f1
    go_wp2
    have F := fr2 wr (w.heap.size + 1) (.int .i64 (m : Int)) (.slice A' m c')
    have O1 := (HOr.out.keep F (.inr (by have := HY.out; omega))).mono (Nat.le_refl _) F.size
    have HE := (((HB.out.keep HRr.out.below).set (q := w.heap.size + 1) (by omega) (.int .i64 (m : Int)) (.slice A' m c'))).below
    exact bodyPost_ret (v := .tuple #[.agg #[.int .i64 (m : Int), .slice A' m c'], .bool true]) (by simp [results, Tryz.results111, go_sem, *]) rfl ⟨m, A', m, c', by rw [Ho.out], (fun _ => ⟨rfl, rfl, ⟨coR_vg HG.out.vg, O1.rd⟩⟩), HE⟩
end Go.Proofs.YticadlkcjhglnaaGreat

/-
-/
namespace Go.Proofs.YticadlkcjhglnaaGreat
open Go.RowKit
def PrE (E : List (Nat × Nat)) : List (List Int) := E.map fun p => [(p.1 : Int), (p.2 : Int)]
def wbR (r : Nat → Nat) (E : List (Nat × Nat)) (b : Nat) : Nat → Nat → Nat
 | 0 => r
 | i + 1 => if b.testBit i = true then addN (wbR r E b i) (E.getD i (0, 0)).1 (E.getD i (0, 0)).2 else wbR r E b i
theorem wbR_yes {r : Nat → Nat} {E : List (Nat × Nat)} {b i : Nat} (h : b.testBit i = true) : wbR r E b (i + 1) = addN (wbR r E b i) (E.getD i (0, 0)).1 (E.getD i (0, 0)).2 := by rw [wbR, if_pos h]
theorem wbR_no {r : Nat → Nat} {E : List (Nat × Nat)} {b i : Nat} (h : b.testBit i = false) : wbR r E b (i + 1) = wbR r E b i := by rw [wbR, if_neg (by rw [h]; simp)]
structure EdN (r : Nat → Nat) (m : Nat) (E : List (Nat × Nat)) : Prop where
 inc : ∀ p ∈ E, p.1 < p.2 ∧ p.2 < m
 new : ∀ p ∈ E, (r p.1).testBit p.2 = false
 nd : E.Nodup
theorem getP_mem {E : List (Nat × Nat)} {i : Nat} (h : i < E.length) : E.getD i (0, 0) ∈ E := by simp [List.getD, h]
theorem getP_ne {E : List (Nat × Nat)} (h : E.Nodup) {i k : Nat} (hik : i < k) (hk : k < E.length) : E.getD i (0, 0) ≠ E.getD k (0, 0) := by
 have hi : i < E.length := by omega
 have e1 : E.getD i (0, 0) = E[i] := by simp [List.getD, hi]
 have e2 : E.getD k (0, 0) = E[k] := by simp [List.getD, hk]
 rw [e1, e2]
 exact (List.pairwise_iff_getElem.1 h) i k hi hk hik
theorem addN_other {q : Nat → Nat} {v u v' u' : Nat} (huv : v < u) (h' : v' < u') (hne : ¬ (v = v' ∧ u = u')) : (addN q v u v').testBit u' = (q v').testBit u' := by
 unfold addN
 by_cases h1 : v' = v
 ·rw [if_pos h1, Nat.testBit_xor, Nat.testBit_two_pow, h1]
  have : u ≠ u' := fun e => hne ⟨h1.symm, e⟩
  simp [this]
 ·rw [if_neg h1]
  by_cases h2 : v' = u
  ·rw [if_pos h2, Nat.testBit_xor, Nat.testBit_two_pow, h2]
   have : v ≠ u' := by omega
   simp [this]
  ·rw [if_neg h2]
section
variable {r : Nat → Nat} {m b : Nat} {E : List (Nat × Nat)}
theorem wbR_vg (vg : VG m r) (h : EdN r m E) : ∀ i, i ≤ E.length → VG m (wbR r E b i) := by
 intro i
 induction i with
 | zero => exact fun _ => vg
 | succ i ih =>
   intro hi
   have hv := ih (by omega)
   cases hb : b.testBit i
   ·rw [wbR_no hb]; exact hv
   ·rw [wbR_yes hb]
    have := h.inc _ (getP_mem (show i < E.length by omega))
    exact hv.add (by omega) this.2 (by omega)
theorem wbR_bit (h : EdN r m E) {k : Nat} (hk : k < E.length) : ∀ i, i ≤ k → (wbR r E b i (E.getD k (0, 0)).1).testBit (E.getD k (0, 0)).2 = false := by
 intro i
 induction i with
 | zero => exact fun _ => h.new _ (getP_mem hk)
 | succ i ih =>
   intro hi
   have hv := ih (by omega)
   cases hb : b.testBit i
   ·rw [wbR_no hb]; exact hv
   ·rw [wbR_yes hb, addN_other (h.inc _ (getP_mem (show i < E.length by omega))).1 (h.inc _ (getP_mem hk)).1]
    ·exact hv
    ·rintro ⟨h1, h2⟩
     exact getP_ne h.nd (show i < k by omega) hk (Prod.ext h1 h2)
end
end Go.Proofs.YticadlkcjhglnaaGreat
