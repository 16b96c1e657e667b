/-
-/
import Derived.Test.YtdpkbfiggbcclaaGreatQkTwnI
namespace Go.Proofs.YtdpkbfiggbcclaaGreat
open Go.RowKit
section
variable {m k : Nat} {l : List Int}
theorem lf_last (_h : VZ m l) (hk : k + 1 = l.length) {d : Nat} (hd : l.getD k 0 = (d : Int)) : lfN l k = 2 ^ d := by
 unfold lfN
 rw [drop_consz (by omega : k < l.length), hd, List.drop_eq_nil_of_le (by omega)]
 simp [stN]
theorem lf_more (h : VZ m l) (hk : k + 1 < l.length) {d : Nat} (hd : l.getD k 0 = (d : Int)) : lfN l k ≠ 2 ^ d := by
 obtain ⟨d1, hd1, _, _, hs, _⟩ := lf_at h (show k < l.length by omega)
 obtain ⟨d2, _, _, _, hs2, _⟩ := lf_at h hk
 have : d1 = d := by omega
 subst this
 have := Nat.two_pow_pos d2
 omega
end
def Tw33 (r : Nat → Nat) (m : Nat) (l : List Int) (k : Nat) : Prop := ∀ j, j < k → tkB r (lfN l j) (l.getD j 0).toNat m = true
theorem tw33_all {r : Nat → Nat} {m : Nat} {l : List Int} (hV : VZ m l) (hl : l.length = m) (hm : 1 ≤ m) (h : Tw33 r m l (m - 1)) : ((List.range l.length).all fun j => tnB r m (l.getD j 0).toNat (lfN l j)) = true :=
 all_yes (p := fun j => tnB r m (l.getD j 0).toNat (lfN l j)) fun j hj => by
  obtain ⟨d, hd, _⟩ := lf_at hV hj
  show tnB r m (l.getD j 0).toNat (lfN l j) = true
  rw [hd, Int.toNat_natCast]
  unfold tnB
  by_cases e : j + 1 = l.length
  ·rw [decide_eq_true (lf_last hV e hd)]; rfl
  ·have := h j (by omega)
   rw [hd, Int.toNat_natCast] at this
   rw [this, Bool.or_true]
theorem tw33_no {r : Nat → Nat} {m k d : Nat} {l : List Int} (hV : VZ m l) (hk : k + 1 < l.length) (hd : l.getD k 0 = (d : Int)) (h : tkB r (lfN l k) d m = false) : ((List.range l.length).all fun j => tnB r m (l.getD j 0).toNat (lfN l j)) = false :=
 all_snoc (p := fun j => tnB r m (l.getD j 0).toNat (lfN l j)) (show k < l.length by omega) (by
  show tnB r m (l.getD k 0).toNat (lfN l k) = false
  rw [hd, Int.toNat_natCast]
  unfold tnB
  rw [h, decide_eq_false (lf_more hV hk hd)]; rfl)
set_option maxRecDepth 100000 in
set_option maxHeartbeats 6400000 in
theorem l33Twins_v {A : Option Addr} {m c : Nat} {r : Nat → Nat} {Al : Option Addr} {n cl : Nat} {l : List Int} {w : World} (h : GV w A m c r) (hl : LI w Al n cl l) (hV : VZ m l) (hlen : l.length = m) :
 Calls Tryz.prog 234 #[.agg #[.int .i64 m, .slice A m c], .slice Al n cl] w fun e w' => e = .returned (.bool ((List.range l.length).all fun j => tnB r m (l.getD j 0).toNat (lfN l j))) ∧ Below w.heap.size w w' := by
 have hn7 := h.vg.n7
 have hn1 := h.vg.n1
 have h128 := two_pow_le hn7
 have hpos := Nat.two_pow_pos m
 have HVG := Lib.hid h.vg
 have HL := Lib.hid hl
 have HN := Lib.hid hl.len
 have HLn := Lib.hid hlen
 have HV := Lib.hid hV
 obtain ⟨F, hF⟩ : ∃ F, F = 2 ^ m := ⟨_, rfl⟩
 have p0 : IntKind.i64.wrap ((2 : Int) ^ m) = (F : Int) := by rw [pow_shl m hn7, hF]; simp
 have s0 : wrap64 ((F : Int) - 1) = (lfN l 0 : Nat) := by rw [lf_zero hV hlen, ← hF, Go.IntWalk.wrap64_in _ (by omega)]; omega
 have hnm : n = m := by rw [hl.len, hlen]
 clear hl hV hlen hF hpos
 subst hnm
 obtain ⟨b0, o0, rfl⟩ := h.addr
 have HY : Hid ((((List.range l.length).all fun j => tnB r n (l.getD j 0).toNat (lfN l j))) = ((List.range l.length).all fun j => tnB r n (l.getD j 0).toNat (lfN l j))) := rfl
 obtain ⟨Y, hY⟩ : ∃ Y, Y = ((List.range l.length).all fun j => tnB r n (l.getD j 0).toNat (lfN l j)) := ⟨_, rfl⟩
 rw [← hY]
 have HY2 := Lib.hid hY
 clear hY HY
 have s9 : wrap64 ((n : Int) - 1) = ((n - 1 : Nat) : Int) := by rw [Go.IntWalk.wrap64_in _ (by omega)]; omega
 obtain ⟨W, hW⟩ : ∃ W : World, W = (w.alloc (Obj.cells #[Value.int IntKind.i64 n, Value.slice (some ⟨b0, o0, none⟩) n c] 28)) := ⟨_, rfl⟩
 have HB : Hid (From w W) := by rw [hW]; exact From.alloc _ _
 have HG : Hid (GBox W w.heap.size (some ⟨b0, o0, none⟩) n c r) := by rw [hW]; exact h.box
 have HW := Lib.hid hW
 clear hW h
 have e0 := HG.out.c0
 have e1 := HG.out.c1
 replace HL := Lib.hid (HL.out.keep HB.out.below)
 have HR0 : Hid (From W W) := From.refl W
 have hlt0 := HG.out.lt
 go_enter Tryz.func234, Tryz.ntmps234
 go_wp2_with fail
 rw [← HW.out]
 clear HW
 go_wp2
 clear e0 e1
 go_loopw [5, 6] (fun sv iv wr => ∃ k : Nat, k ≤ n - 1 ∧ sv = .int .i64 (lfN l k : Nat) ∧ iv = .int .i64 k ∧ Hid (Tw33 r n l k) ∧ Hid (From W wr)) (fun _ iv _ => n - 1 - (intOf iv).toNat)
 case atStart => exact ⟨0, Nat.zero_le _, by first | rfl | exact congrArg (Value.int .i64) s0 | (rw [s0]), rfl, (fun j hj => absurd hj (by omega)), HR0⟩
 case round =>
  clear HR0 p0 s0
  obtain ⟨k, hk, rfl, rfl, H1, HR⟩ := hrel
  by_cases hkn : k < n - 1
  ·have i1 : (k : Int) < ((n - 1 : Nat) : Int) := by omega
   have i8 : (k : Int) < (n : Int) := by omega
   have hkl : k + 1 < l.length := by rw [HLn.out]; omega
   obtain ⟨d, hd, hdm, hbit, hsub, _⟩ := lf_at HV.out (show k < l.length by omega)
   have hs := lf_lt (k := k) HV.out
   have Hd := Lib.hid hd
   obtain ⟨s, hs'⟩ : ∃ s, s = lfN l k := ⟨_, rfl⟩
   rw [← hs'] at hs hsub hbit ⊢
   have Hs := Lib.hid hs'
   have h2d := two_pow_le (n := d) (by omega)
   obtain ⟨z, hz⟩ : ∃ z, z = 2 ^ d := ⟨_, rfl⟩
   have p1 : IntKind.i64.wrap ((2 : Int) ^ d) = (z : Int) := by rw [pow_shl d (by omega), hz]; simp
   rw [← hz] at hsub h2d
   have Hz := Lib.hid hz
   obtain ⟨s2, hs2⟩ : ∃ s2, s2 = lfN l (k + 1) := ⟨_, rfl⟩
   rw [← hs2] at hsub
   have Hs2 := Lib.hid hs2
   have s3 : wrap64 ((s : Int) - (z : Int)) = (s2 : Int) := by rw [Go.IntWalk.wrap64_in _ (by omega)]; omega
   have HS6 : Hid ((s : Int) - (z : Int) = (s2 : Int)) := by show _ = _; omega
   have Hbit := Lib.hid hbit
   clear hd hs' hz hsub hs2 hbit
   go_wp2
   go_loopw [7, 8] (fun fv iv wr => ∃ u : Nat, u ≤ n ∧ iv = .int .i64 u ∧ fv = .bool (tkB r s d u) ∧ Hid (From W wr)) (fun _ iv _ => n - (intOf iv).toNat)
   case atStart => exact ⟨0, Nat.zero_le _, rfl, rfl, HR⟩
   case round =>
    clear HR
    obtain ⟨u, hu, rfl, rfl, HR⟩ := hrel
    have HBr := Lib.hid (HB.out.up HR.out)
    have HLr := Lib.hid (HL.out.keep HR.out.below)
    have HGr := Lib.hid (HG.out.keep HR.out.below)
    have e0 := HGr.out.c0
    have e1 := HGr.out.c1
    obtain ⟨bl, ol, rfl⟩ := HLr.out.addr (by omega)
    have p5 := HLr.out.at (show k < n by omega)
    rw [Hd.out] at p5
    by_cases hun : u < n
    ·have i2 : (u : Int) < (n : Int) := by omega
     have i3 : (d : Int) < (n : Int) := by omega
     have q0 := HGr.out.gv.row hdm
     have q1 := HGr.out.gv.row hun
     have hr0 := HVG.out.lt128 hdm
     have hr1 := HVG.out.lt128 hun
     have h2u := two_pow_le (n := u) (by omega)
     obtain ⟨zu, hzu⟩ : ∃ z, z = 2 ^ u := ⟨_, rfl⟩
     have p2 : IntKind.i64.wrap ((2 : Int) ^ u) = (zu : Int) := by rw [pow_shl u (by omega), hzu]; simp
     rw [← hzu] at h2u
     have E1 := i64_or_nat z zu (by omega) (by omega)
     obtain ⟨pr, hpr⟩ : ∃ pr, pr = prN d u := ⟨_, rfl⟩
     have hprlt : z ||| zu < 2 ^ 8 := Nat.or_lt_two_pow (by omega) (by omega)
     rw [show z ||| zu = pr by rw [hpr, Hz.out, hzu]; rfl] at E1 hprlt
     have E2 := i64_and_nat s pr (by omega) (by omega)
     have hstep : tkB r s d (u + 1) = (tkB r s d u || tpB r s d u) := rfl
     cases hf : tkB r s d u
     rotate_left
     ·have Hn : Hid (tkB r s d (u + 1) = true) := by show _ = _; rw [hstep, hf]; rfl
      clear hstep hf hzu hpr q0 q1
      go_wp2
      go_quiet (fail)
      go_wp2
      go_quiet (fail)
      go_wp2
      go_roundw
      case rel => exact ⟨u + 1, by omega, by go_num, by rw [Hn.out], by first | exact HR.out.drewN _ | exact (HR.out.drewN _).drewN _⟩
      case measure => (simp [intOf] <;> omega)
     rw [hf, Bool.false_or] at hstep
     by_cases hne : u = d
     ·have Hn : Hid (tkB r s d (u + 1) = false) := by show _ = _; rw [hstep]; exact tp_no fun h => h.1 hne
      have d1 : ((u : Int) != (d : Int)) = false := by rw [hne]; simp
      clear hstep hf hzu hpr q0 q1 hne
      go_wp2
      go_quiet (fail)
      go_wp2
      go_quiet (fail)
      go_wp2
      go_roundw
      case rel => exact ⟨u + 1, by omega, by go_num, by rw [Hn.out], by first | exact HR.out.drewN _ | exact (HR.out.drewN _).drewN _⟩
      case measure => (simp [intOf] <;> omega)
     have d1 : ((u : Int) != (d : Int)) = true := by simp; omega
     have hpin := pr_in (w := u) Hbit.out
     rw [← hpr] at hpin
     by_cases hin : s &&& pr = pr
     rotate_left
     ·have Hn : Hid (tkB r s d (u + 1) = false) := by show _ = _; rw [hstep]; exact tp_no fun h => hin (hpin.2 h.2.1)
      obtain ⟨sp, hsp⟩ : ∃ sp, sp = s &&& pr := ⟨_, rfl⟩
      rw [← hsp] at E2 hin
      have d2 : ((sp : Int) == (pr : Int)) = false := by simp; omega
      clear hstep hf hzu hpr q0 q1 hne hpin hin hsp
      go_wp2
      go_quiet (fail)
      go_wp2
      go_quiet (fail)
      go_wp2
      go_roundw
      case rel => exact ⟨u + 1, by omega, by go_num, by rw [Hn.out], by first | exact HR.out.drewN _ | exact (HR.out.drewN _).drewN _⟩
      case measure => (simp [intOf] <;> omega)
     have hbu := hpin.1 hin
     have htw := tw_s (r := r) hne hbu Hbit.out
     rw [← hpr] at htw
     obtain ⟨hx1, hx2⟩ := pr_sub (v := d) (w := u) (s := s) (by omega) (by rw [← hpr]; exact hin)
     rw [← hpr] at hx1 hx2
     rw [hin] at E2
     have d2 : ((pr : Int) == (pr : Int)) = true := by simp
     obtain ⟨t, ht⟩ : ∃ t, t = s ^^^ pr := ⟨_, rfl⟩
     rw [← ht] at htw hx1
     have s4 : wrap64 ((s : Int) - (pr : Int)) = (t : Int) := by rw [Go.IntWalk.wrap64_in _ (by omega)]; omega
     have s5 : IntKind.i64.wrap ((s : Int) - (pr : Int)) = (t : Int) := by rw [Go.IntWalk.i64_in _ (by omega)]; omega
     obtain ⟨y, hy⟩ : ∃ y, y = r d := ⟨_, rfl⟩
     obtain ⟨x, hx⟩ : ∃ x, x = r u := ⟨_, rfl⟩
     rw [← hy] at q0 hr0 htw
     rw [← hx] at q1 hr1 htw
     have E3 := i64_and_nat y t (by omega) (by omega)
     have E4 := i64_and_nat x t (by omega) (by omega)
     obtain ⟨yt, hyt⟩ : ∃ yt, yt = y &&& t := ⟨_, rfl⟩
     obtain ⟨xt, hxt⟩ : ∃ xt, xt = x &&& t := ⟨_, rfl⟩
     rw [← hyt] at E3 htw
     rw [← hxt] at E4 htw
     clear hzu hpr hne hpin hin hx1 hx2 ht hy hx hyt hxt hbu
     by_cases heq : yt = xt
     ·have Hn : Hid (tkB r s d (u + 1) = true) := by show _ = _; rw [hstep]; exact tp_yes (htw.1 heq)
      have d3 : ((yt : Int) == (xt : Int)) = true := by simp; omega
      clear hstep hf htw heq
      go_wp2
      go_quiet (fail)
      go_wp2
      go_quiet (fail)
      go_wp2
      go_roundw
      case rel => exact ⟨u + 1, by omega, by go_num, by rw [Hn.out], by first | exact HR.out.drewN _ | exact (HR.out.drewN _).drewN _⟩
      case measure => (simp [intOf] <;> omega)
     ·have Hn : Hid (tkB r s d (u + 1) = false) := by show _ = _; rw [hstep]; exact tp_no fun h => heq (htw.2 h)
      have d3 : ((yt : Int) == (xt : Int)) = false := by simp; omega
      clear hstep hf htw heq
      go_wp2
      go_quiet (fail)
      go_wp2
      go_quiet (fail)
      go_wp2
      go_roundw
      case rel => exact ⟨u + 1, by omega, by go_num, by rw [Hn.out], by first | exact HR.out.drewN _ | exact (HR.out.drewN _).drewN _⟩
      case measure => (simp [intOf] <;> omega)
    ·obtain rfl : n = u := by omega
     cases hf : tkB r s d n
     ·have Hn : Hid (Y = false) := by show _ = _; rw [HY2.out]; exact tw33_no HV.out hkl Hd.out (by rw [← Hs.out]; exact hf)
      clear hf
      go_wp2
      go_ret
      exact ⟨ret_bool Hn.out.symm, HBr.out.below⟩
     ·have H1' : Hid (Tw33 r n l (k + 1)) := fun j hj => by
       by_cases e : j < k
       ·exact H1.out j e
       ·obtain rfl : j = k := by omega
        rw [Hd.out, Int.toNat_natCast, ← Hs.out]; exact hf
      clear hf
      go_wp2
      go_roundw
      case rel => exact ⟨k + 1, by omega, by first | rw [s3, Hs2.out] | rw [HS6.out, Hs2.out], by go_num, H1', HR⟩
      case measure => (simp [intOf] <;> omega)
  ·obtain rfl : k = n - 1 := by omega
   have HBr := Lib.hid (HB.out.up HR.out)
   have Hn : Hid (Y = true) := by show _ = _; rw [HY2.out]; exact tw33_all HV.out HLn.out hn1 H1.out
   go_wp2
   go_ret
   exact ⟨ret_bool Hn.out.symm, HBr.out.below⟩
end Go.Proofs.YtdpkbfiggbcclaaGreat
