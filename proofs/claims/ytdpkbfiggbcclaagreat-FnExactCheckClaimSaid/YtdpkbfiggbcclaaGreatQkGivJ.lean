/-
  Several texts in one.
-/
import Derived.Test.YtdpkbfiggbcclaaGreatQkModI
/-
-/
namespace Go.Proofs.YtdpkbfiggbcclaaGreat
open Go.RowKit
set_option maxRecDepth 100000 in
set_option maxHeartbeats 6400000 in
theorem graphOf_g {fn : FuncId} {caps : Array Value} {p : Nat → Nat → Bool} (hef : Ent fn) {n : Nat} (hn7 : n ≤ 7) (w : World)
 (HF : ∀ (a b : Nat) (z : World), a < b → b < n → Below w.heap.size w z → Calls Tryz.prog fn (#[.int .i64 a, .int .i64 b] ++ caps) z (fun e z' => e = .returned (.bool (p a b)) ∧ Below z.heap.size z z')) :
 Calls Tryz.prog 385 #[.int .i64 n, .func (.func fn) #[] caps] w fun e w' => ∃ A' c', e = .returned (.agg #[.int .i64 n, .slice A' n c']) ∧ Own w' w.heap.size w'.heap.size 3 1 A' n c' (fun j => .int .i64 (grS p n n 0 j : Nat)) ∧ Below w.heap.size w w' := by
 unfold Ent at hef
 have HFx := Lib.hid HF
 clear HF
 have HF := HFx
 clear HFx
 obtain ⟨W2, hmk, hO2, hb2⟩ := made_own (w.alloc (Obj.cells #[Value.int IntKind.i64 0, Value.slice none 0 0] 28)) n (by omega)
 have e : (w.alloc (Obj.cells #[Value.int IntKind.i64 0, Value.slice none 0 0] 28)).heap.size = w.heap.size + 1 := by simp
 rw [e] at hmk hO2 hb2
 obtain ⟨W, hW⟩ : ∃ W : World, W = (W2.alloc (Obj.cells #[Value.int IntKind.i64 n, Value.slice (some ⟨w.heap.size + 1, 0, none⟩) n n] 28)) := ⟨_, rfl⟩
 have hbW : Below W2.heap.size W2 W := by rw [hW]; exact (Below.refl _ _).alloc (Nat.le_refl _) _
 have hz2 : w.heap.size + 1 ≤ W2.heap.size := by have := hb2.size; omega
 have HB : Hid (From w W) := ⟨((((Below.refl w.heap.size w).alloc (Nat.le_refl _) _).trans (hb2.mono (by omega))).trans (hbW.mono (by omega)))⟩
 have HG : Hid (GC W W2.heap.size n (some ⟨w.heap.size + 1, 0, none⟩) n n) := by rw [hW]; exact GC.new _ _ _ _ _
 have HQ : Hid (GC W w.heap.size 0 none 0 0) := ((GC.new w 0 none 0 0).keep (by rw [e]; exact hb2)).keep hbW
 have HO : Hid (Own W (w.heap.size + 1) (w.heap.size + 2) 3 1 (some ⟨w.heap.size + 1, 0, none⟩) n n (fun j => .int .i64 (grS p n 0 0 j : Nat))) := (hO2.keepB hbW (by
  rcases hO2 with ⟨h, _⟩ | ⟨g, cur, h1, _, h3, h4, _⟩
  ·cases h
  ·have := (Array.getElem?_eq_some_iff.1 h4).1
   simp only [Option.some.injEq, Addr.mk.injEq, and_true] at h1
   omega)).congr fun j _ => by rw [grS_zero]; rfl
 have hzq : w.heap.size + 2 ≤ W2.heap.size := by
  rcases hO2 with ⟨h, _⟩ | ⟨g, cur, h1, _, h3, h4, _⟩
  ·cases h
  ·have := (Array.getElem?_eq_some_iff.1 h4).1
   simp only [Option.some.injEq, Addr.mk.injEq, and_true] at h1
   omega
 have HW := Lib.hid hW
 clear hW hbW hO2 hb2 e hz2
 go_enter Tryz.func385, Tryz.ntmps385
 go_wp2_with fail
 rw [← HW.out]
 clear HW hmk
 go_loopw [13] (fun iv wr => ∃ b : Nat, b ≤ n ∧ iv = .int .i64 b ∧ Hid (Own wr (w.heap.size + 1) (w.heap.size + 2) 3 1 (some ⟨w.heap.size + 1, 0, none⟩) n n (fun j => .int .i64 (grS p n b 0 j : Nat))) ∧ Hid (GC wr W2.heap.size n (some ⟨w.heap.size + 1, 0, none⟩) n n) ∧ Hid (GC wr w.heap.size 0 none 0 0) ∧ Hid (From w wr)) (fun iv _ => n - (intOf iv).toNat)
 case atStart => exact ⟨0, Nat.zero_le _, rfl, HO, HG, HQ, HB⟩
 case round =>
  clear HO HG HQ HB
  obtain ⟨b, hb, rfl, HO, HG, HQ, HB⟩ := hrel
  by_cases hbn : b < n
  ·have i1 : (b : Int) < (n : Int) := by omega
   go_wp2
   go_loopw [17] (fun iv wr => ∃ a : Nat, a ≤ b ∧ iv = .int .i64 a ∧ Hid (Own wr (w.heap.size + 1) (w.heap.size + 2) 3 1 (some ⟨w.heap.size + 1, 0, none⟩) n n (fun j => .int .i64 (grS p n b a j : Nat))) ∧ Hid (GC wr W2.heap.size n (some ⟨w.heap.size + 1, 0, none⟩) n n) ∧ Hid (GC wr w.heap.size 0 none 0 0) ∧ Hid (From w wr)) (fun iv _ => b - (intOf iv).toNat)
   case atStart => exact ⟨0, Nat.zero_le _, rfl, HO, HG, HQ, HB⟩
   case round =>
    clear HO HG HQ HB
    obtain ⟨a, ha, rfl, HO, HG, HQ, HB⟩ := hrel
    by_cases hab : a < b
    ·have i2 : (a : Int) < (b : Int) := by omega
     have KF := Lib.hid (HF.out a b wr hab hbn HB.out.below)
     have hgl := HG.out.lt
     cases hp : p a b
     ·rw [hp] at KF
      have Hs : Hid (∀ j, grS p n b (a + 1) j = grS p n b a j) := fun j => grS_no hp
      clear hp
      go_wp2_with fail
      refine KF.out.mono ?_
      rintro e w1 ⟨rfl, hb1⟩
      have HO1 : Hid (Own w1 (w.heap.size + 1) (w.heap.size + 2) 3 1 (some ⟨w.heap.size + 1, 0, none⟩) n n (fun j => .int .i64 (grS p n b (a + 1) j : Nat))) := (HO.out.keepB hb1 (by omega)).congr fun j _ => by rw [Hs.out]
      have HG1 := Lib.hid (HG.out.keep hb1)
      have HQ1 := Lib.hid (HQ.out.keep hb1)
      have HB1 := Lib.hid (HB.out.keep hb1)
      clear hb1
      go_wp2
      go_roundw
      case rel => exact ⟨a + 1, by omega, by go_num, HO1, HG1, HQ1, HB1⟩
      case measure => (simp [intOf] <;> omega)
     ·rw [hp] at KF
      have Hs : Hid (∀ j, addN (grS p n b a) a b j = grS p n b (a + 1) j) := fun j => (grS_yes hp hab hbn).symm
      clear hp
      go_wp2_with fail
      refine KF.out.mono ?_
      rintro e w1 ⟨rfl, hb1⟩
      have HO1 : Hid (Own w1 (w.heap.size + 1) (w.heap.size + 2) 3 1 (some ⟨w.heap.size + 1, 0, none⟩) n n (fun j => .int .i64 (grS p n b a j : Nat))) := HO.out.keepB hb1 (by omega)
      have HG1 := Lib.hid (HG.out.keep hb1)
      have HQ1 := Lib.hid (HQ.out.keep hb1)
      have HB1 := Lib.hid (HB.out.keep hb1)
      have hz1 := hb1.size
      have e0 := HG1.out.c0
      have e1 := HG1.out.c1
      have hgl1 := HG1.out.lt
      clear hb1
      go_wp2_with fail
      refine (flip_any (n : Int) (w.heap.size + 1) n n (grS p n b a) a b w1 (w.heap.size + 1) (w.heap.size + 2) HO1.out (by omega) hn7 (by omega) hbn (by omega) (fun j _ => Nat.lt_of_lt_of_le grS_lt (two_pow_le hn7))).mono ?_
      rintro e w2 ⟨rfl, hO2, hF2⟩
      have HO2 : Hid (Own w2 (w.heap.size + 1) (w.heap.size + 2) 3 1 (some ⟨w.heap.size + 1, 0, none⟩) n n (fun j => .int .i64 (grS p n b (a + 1) j : Nat))) := hO2.congr fun j _ => by rw [Hs.out]
      have HG2 := Lib.hid (HG1.out.keepF hF2 (.inr hzq))
      have HQ2 := Lib.hid (HQ1.out.keepF hF2 (.inl (Nat.lt_succ_self _)))
      have HB2 : Hid (From w w2) := ⟨HB1.out.below.trans (hF2.below (Nat.le_succ _) HB1.out.below.size)⟩
      clear hO2 hF2 e0 e1
      go_wp2
      go_roundw
      case rel => exact ⟨a + 1, by omega, by go_num, HO2, HG2, HQ2, HB2⟩
      case measure => (simp [intOf] <;> omega)
    ·have HO' : Hid (Own wr (w.heap.size + 1) (w.heap.size + 2) 3 1 (some ⟨w.heap.size + 1, 0, none⟩) n n (fun j => .int .i64 (grS p n (b + 1) 0 j : Nat))) := HO.out.congr fun j _ => by
      have e : a = b := by omega
      rw [e, grS_next]
     have i2 : (b : Int) ≤ (a : Int) := by omega
     go_wp2
     go_roundw
     case rel => exact ⟨b + 1, by omega, by go_num, HO', HG, HQ, HB⟩
     case measure => (simp [intOf] <;> omega)
  ·obtain rfl : n = b := by omega
   have e0 := HG.out.c0
   have e1 := HG.out.c1
   have d0 := HQ.out.c0
   have d1 := HQ.out.c1
   have d2 := HQ.out.f0
   have d3 := HQ.out.f1
   have hgl := HG.out.lt
   have F := fr2 wr w.heap.size (.int .i64 (n : Int)) (.slice (some ⟨w.heap.size + 1, 0, none⟩) n n)
   have HE := (HB.out.set (q := w.heap.size) (Nat.le_refl _) (.int .i64 (n : Int)) (.slice (some ⟨w.heap.size + 1, 0, none⟩) n n)).below
   have HOE := (HO.out.keep F (.inr (Nat.le_refl _))).mono (Nat.le_succ _) (Nat.le_trans (show w.heap.size + 2 ≤ wr.heap.size by omega) F.size)
   go_wp2
   exact bodyPost_ret (v := .agg #[.int .i64 (n : Int), .slice (some ⟨w.heap.size + 1, 0, none⟩) n n]) (by simp [results, Tryz.results385, go_sem, *]) rfl ⟨some ⟨w.heap.size + 1, 0, none⟩, n, rfl, HOE, HE⟩
def jnB (L R : List Int) (v u : Nat) : Bool := decide (L.getD v 0 ≤ R.getD u 0) && decide (L.getD u 0 ≤ R.getD v 0)
set_option maxRecDepth 100000 in
set_option maxHeartbeats 1600000 in
theorem givF {Al Ar : Option Addr} {n cl cr q : Nat} {L R : List Int} {w : World} (h : IB w q Al n cl Ar n cr) (hl : LI w Al n cl L) (hr : LI w Ar n cr R) {a b : Nat} (ha : a < n) (hb : b < n) :
 Calls Tryz.prog 386 #[.int .i64 a, .int .i64 b, .pointer (some ⟨q, 0, none⟩)] w fun e w' => e = .returned (.bool (jnB L R a b)) ∧ Below w.heap.size w w' := by
 have e0 := h.c0
 have e1 := h.c1
 obtain ⟨bl, ol, rfl⟩ := hl.addr (by omega)
 obtain ⟨br, or_, rfl⟩ := hr.addr (by omega)
 have p0 := hl.at ha
 have p1 := hr.at hb
 have p2 := hl.at hb
 have p3 := hr.at ha
 have HJ : jnB L R a b = (decide (L.getD a 0 ≤ R.getD b 0) && decide (L.getD b 0 ≤ R.getD a 0)) := rfl
 obtain ⟨la, hla⟩ : ∃ t, t = L.getD a 0 := ⟨_, rfl⟩
 obtain ⟨lb, hlb⟩ : ∃ t, t = L.getD b 0 := ⟨_, rfl⟩
 obtain ⟨ra, hra⟩ : ∃ t, t = R.getD a 0 := ⟨_, rfl⟩
 obtain ⟨rb, hrb⟩ : ∃ t, t = R.getD b 0 := ⟨_, rfl⟩
 rw [← hla] at p0 HJ
 rw [← hlb] at p2 HJ
 rw [← hra] at p3 HJ
 rw [← hrb] at p1 HJ
 have i1 : (a : Int) < (n : Int) := by omega
 have i2 : (b : Int) < (n : Int) := by omega
 have HF : Hid (From w w) := From.refl w
 clear h hl hr hla hlb hra hrb ha hb
 by_cases h1 : la ≤ rb
 ·by_cases h2 : lb ≤ ra
  ·have Hn : Hid (jnB L R a b = true) := by show _ = _; rw [HJ, decide_eq_true h1, decide_eq_true h2]; rfl
   have d1 : decide (la ≤ rb) = true := decide_eq_true h1
   have d2 : decide (lb ≤ ra) = true := decide_eq_true h2
   clear HJ
   go_enter Tryz.func386, Tryz.ntmps386
   go_wp2
   go_quiet (fail)
   go_wp2
   go_ret
   exact ⟨ret_bool Hn.out.symm, (HF.out.drewN _).below⟩
  ·have Hn : Hid (jnB L R a b = false) := by show _ = _; rw [HJ, decide_eq_true h1, decide_eq_false h2]; rfl
   have d1 : decide (la ≤ rb) = true := decide_eq_true h1
   have d2 : decide (lb ≤ ra) = false := decide_eq_false h2
   have j2 : ra < lb := by omega
   clear HJ h2
   go_enter Tryz.func386, Tryz.ntmps386
   go_wp2
   go_quiet (fail)
   go_wp2
   go_ret
   exact ⟨ret_bool Hn.out.symm, (HF.out.drewN _).below⟩
 ·have Hn : Hid (jnB L R a b = false) := by show _ = _; rw [HJ, decide_eq_false h1]; rfl
  have d1 : decide (la ≤ rb) = false := decide_eq_false h1
  have j1 : rb < la := by omega
  clear HJ h1
  go_enter Tryz.func386, Tryz.ntmps386
  go_wp2
  go_quiet (fail)
  go_wp2
  go_ret
  exact ⟨ret_bool Hn.out.symm, (HF.out.drewN _).below⟩
end Go.Proofs.YtdpkbfiggbcclaaGreat

/-
-/
namespace Go.Proofs.YtdpkbfiggbcclaaGreat
open Go.RowKit
def ivR (L R : List Int) (j : Nat) : Nat := grS (jnB L R) L.length L.length 0 j
noncomputable def moB (sz : Int) (m : Nat) (x : Nat → Int) (L R : List Int) : Bool := imB L R && gsl (L.length : Int) L.length (fun j => ((ivR L R j : Nat) : Int)) sz m x
set_option maxRecDepth 100000 in
set_option maxHeartbeats 3200000 in
theorem GraphOfIntervals_i (Al : Option Addr) (n cl : Nat) (L : List Int) (Ar : Option Addr) (k cr : Nat) (R : List Int) (w : World) (hl : LI w Al n cl L) (hr : LI w Ar k cr R) :
 Calls Tryz.prog 342 #[.agg #[.slice Al n cl, .slice Ar k cr]] w fun e w' => ∃ sz' A' m' c', e = .returned (.tuple #[.agg #[.int .i64 sz', .slice A' m' c'], .bool (imB L R)]) ∧ (imB L R = true → sz' = (n : Int) ∧ m' = n ∧ Own w' w.heap.size w'.heap.size 3 1 A' n c' (fun j => .int .i64 (ivR L R j : Nat))) ∧ Below w.heap.size w w' := by
 obtain ⟨W, hW⟩ : ∃ W : World, W = ((w.alloc (Obj.cells #[Value.slice Al n cl, Value.slice Ar k cr] 141)).alloc (Obj.cells #[Value.int IntKind.i64 0, Value.slice none 0 0] 28)) := ⟨_, rfl⟩
 have HB : Hid (From w W) := by rw [hW]; exact (From.alloc _ _).alloc_ _
 have HL := Lib.hid (hl.keep HB.out.below)
 have HR := Lib.hid (hr.keep HB.out.below)
 have HI : Hid (IB W w.heap.size Al n cl Ar k cr) := by rw [hW]; constructor <;> simp [go_sem]
 have HD : Hid (GC W (w.heap.size + 1) 0 none 0 0) := by rw [hW]; constructor <;> simp [go_sem]
 have HW := Lib.hid hW
 have HN := Lib.hid hl.len
 have HK := Lib.hid hr.len
 clear hW hl hr
 go_enter Tryz.func342, Tryz.ntmps342
 have e0 := HI.out.c0
 have e1 := HI.out.c1
 have d0 := HD.out.c0
 have d1 := HD.out.c1
 have d2 := HD.out.f0
 have d3 := HD.out.f1
 go_wp2_with fail
 rw [← HW.out]
 refine (IsModel_i Al n cl L Ar k cr R W HL.out HR.out).mono ?_
 rintro e w1 ⟨rfl, hb1⟩
 clear HW
 clear e0 e1 d0 d1 d2 d3
 replace HB := Lib.hid (HB.out.keep hb1)
 replace HI := Lib.hid (HI.out.keep hb1)
 replace HD := Lib.hid (HD.out.keep hb1)
 replace HL := Lib.hid (HL.out.keep hb1)
 replace HR := Lib.hid (HR.out.keep hb1)
 clear hb1
 have e0 := HI.out.c0
 have e1 := HI.out.c1
 have d0 := HD.out.c0
 have d1 := HD.out.c1
 have d2 := HD.out.f0
 have d3 := HD.out.f1
 cases ho : imB L R
 ·have Ho := Lib.hid ho
  clear ho
  go_wp2
  have HE := (HB.out.set (q := w.heap.size + 1) (by omega) (.int .i64 0) (.slice none 0 0)).below
  exact bodyPost_ret (v := .tuple #[.agg #[.int .i64 0, .slice none 0 0], .bool false]) (by simp [results, Tryz.results342, go_sem, *]) rfl ⟨0, none, 0, 0, by rw [Ho.out], (fun h => by rw [Ho.out] at h; cases h), HE⟩
 ·obtain ⟨h7, hk, _⟩ := im_parts ho
  have Ho := Lib.hid ho
  have hkn : k = n := by rw [HN.out, HK.out, hk]
  subst hkn
  have hn7 : k ≤ 7 := by rw [HN.out]; exact h7.2
  have HI0 := HI
  have HL0 := HL
  have HR0 := HR
  have KG := Lib.hid (graphOf_g (p := jnB L R) (caps := #[.pointer (some ⟨w.heap.size, 0, none⟩)]) (ent_of Tryz.func386 (by kernel_rfl) rfl) hn7 w1 (fun a b z ha hb hz => givF (HI0.out.keep hz) (HL0.out.keep hz) (HR0.out.keep hz) (by omega) hb))
  have Hrow : Hid (∀ j, grS (jnB L R) k k 0 j = ivR L R j) := fun j => by unfold ivR; rw [← HN.out]
  have hz1 : w.heap.size + 1 < w1.heap.size := HD.out.lt
  clear ho h7 hk
  go_wp2_with fail
  refine KG.out.mono ?_
  rintro e w2 ⟨A2, c2, rfl, hO2, hb2⟩
  have HO2 := Lib.hid hO2
  clear e0 e1 d0 d1 d2 d3
  replace HB := Lib.hid (HB.out.keep hb2)
  replace HI := Lib.hid (HI.out.keep hb2)
  replace HD := Lib.hid (HD.out.keep hb2)
  replace HL := Lib.hid (HL.out.keep hb2)
  replace HR := Lib.hid (HR.out.keep hb2)
  clear hb2 hO2
  have e0 := HI.out.c0
  have e1 := HI.out.c1
  have d0 := HD.out.c0
  have d1 := HD.out.c1
  have d2 := HD.out.f0
  have d3 := HD.out.f1
  go_wp2
  have F := fr2 w2 (w.heap.size + 1) (.int .i64 (k : Int)) (.slice A2 k c2)
  have HE := (HB.out.set (q := w.heap.size + 1) (by omega) (.int .i64 (k : Int)) (.slice A2 k c2)).below
  have HOE := ((HO2.out.keep F (.inr (by omega))).mono (show w.heap.size ≤ w1.heap.size by omega) F.size).congr (y := fun j => .int .i64 (ivR L R j : Nat)) (fun j _ => by rw [Hrow.out])
  exact bodyPost_ret (v := .tuple #[.agg #[.int .i64 (k : Int), .slice A2 k c2], .bool true]) (by simp [results, Tryz.results342, go_sem, *]) rfl ⟨k, A2, k, c2, by rw [Ho.out], (fun _ => ⟨rfl, rfl, HOE⟩), HE⟩
set_option maxRecDepth 100000 in
set_option maxHeartbeats 3200000 in
theorem IsModelOf_i (sz : Int) (A : Option Addr) (m c : Nat) (x : Nat → Int) (Al : Option Addr) (n cl : Nat) (L : List Int) (Ar : Option Addr) (k cr : Nat) (R : List Int) (w : World) (h : GA w A m c x) (hl : LI w Al n cl L) (hr : LI w Ar k cr R) (hm : m ≤ 1048576) :
 Calls Tryz.prog 248 #[.agg #[.int .i64 sz, .slice A m c], .agg #[.slice Al n cl, .slice Ar k cr]] w fun e w' => e = .returned (.bool (moB sz m x L R)) ∧ Below w.heap.size w w' := by
 obtain ⟨W, hW⟩ : ∃ W : World, W = ((w.alloc (Obj.cells #[Value.int IntKind.i64 sz, Value.slice A m c] 28)).alloc (Obj.cells #[Value.slice Al n cl, Value.slice Ar k cr] 141)) := ⟨_, rfl⟩
 have HB : Hid (From w W) := by rw [hW]; exact (From.alloc _ _).alloc_ _
 have HA := Lib.hid (h.keep HB.out.below)
 have HL := Lib.hid (hl.keep HB.out.below)
 have HR := Lib.hid (hr.keep HB.out.below)
 have HC : Hid (GC W w.heap.size sz A m c) := by rw [hW]; exact (GC.new _ _ _ _ _).keep ((Below.refl _ _).alloc (Nat.le_refl _) _)
 have HI : Hid (IB W (w.heap.size + 1) Al n cl Ar k cr) := by rw [hW]; constructor <;> simp [go_sem]
 have HW := Lib.hid hW
 have HN := Lib.hid hl.len
 clear hW h hl hr
 go_enter Tryz.func248, Tryz.ntmps248
 have e0 := HC.out.c0
 have e1 := HC.out.c1
 have i0 := HI.out.c0
 have i1 := HI.out.c1
 go_wp2_with fail
 rw [← HW.out]
 refine (GraphOfIntervals_i Al n cl L Ar k cr R W HL.out HR.out).mono ?_
 rintro e w1 ⟨sz2, A2, m2, c2, rfl, hG2, hb1⟩
 clear HW
 clear e0 e1 i0 i1
 replace HB := Lib.hid (HB.out.keep hb1)
 replace HA := Lib.hid (HA.out.keep hb1)
 replace HC := Lib.hid (HC.out.keep hb1)
 replace HI := Lib.hid (HI.out.keep hb1)
 replace HL := Lib.hid (HL.out.keep hb1)
 replace HR := Lib.hid (HR.out.keep hb1)
 clear hb1
 have e0 := HC.out.c0
 have e1 := HC.out.c1
 have i0 := HI.out.c0
 have i1 := HI.out.c1
 obtain ⟨W2, hW2⟩ : ∃ W2 : World, W2 = (w1.alloc (Obj.cells #[Value.int IntKind.i64 sz2, Value.slice A2 m2 c2] 28)) := ⟨_, rfl⟩
 have hb2 : Below w1.heap.size w1 W2 := by rw [hW2]; exact (Below.refl _ _).alloc (Nat.le_refl _) _
 have HQ : Hid (GC W2 w1.heap.size sz2 A2 m2 c2) := by rw [hW2]; exact GC.new _ _ _ _ _
 have HW2 := Lib.hid hW2
 cases ho : imB L R
 ·have Hn : Hid (moB sz m x L R = false) := by show _ = _; unfold moB; rw [ho]; rfl
  have HB2 : Hid (From w W2) := HB.out.keep hb2
  clear ho hG2 hW2 hb2
  go_wp2
  rw [← HW2.out]
  go_ret
  exact ⟨ret_bool Hn.out.symm, HB2.out.below⟩
 ·obtain ⟨rfl, rfl, hO⟩ := hG2 ho
  have Hy : Hid (moB sz m x L R = gsl (m2 : Int) m2 (fun j => ((ivR L R j : Nat) : Int)) sz m x) := by show _ = _; unfold moB; rw [ho, HN.out]; rfl
  have HRd : Hid (Rd W2 W2.heap.size A2 m2 c2 (fun j => ((ivR L R j : Nat) : Int))) := (hO.rd).keep (hb2.mono (Nat.le_refl _)) hb2.size
  obtain ⟨h7, _, _⟩ := im_parts ho
  have hm7 : m2 ≤ 7 := by rw [HN.out]; exact h7.2
  have HA2 := Lib.hid (HA.out.keep hb2)
  have HB2 : Hid (From w W2) := HB.out.keep hb2
  have hlt := HC.out.lt
  have hlq := HI.out.lt
  clear ho hG2 hW2 hb2 hO h7
  go_wp2_with fail
  rw [← HW2.out]
  clear HW2
  refine (EqualGraphs_i (m2 : Int) sz A2 A m2 m c2 c _ x W2 W2.heap.size HRd.out HA2.out.rd (Nat.le_refl _) (by omega) (by omega)).mono ?_
  rintro e w5 ⟨rfl, hb5⟩
  have HB5 := Lib.hid (HB2.out.keep hb5)
  clear hb5
  go_wp2
  go_ret
  exact ⟨ret_bool Hy.out.symm, HB5.out.below⟩
end Go.Proofs.YtdpkbfiggbcclaaGreat
