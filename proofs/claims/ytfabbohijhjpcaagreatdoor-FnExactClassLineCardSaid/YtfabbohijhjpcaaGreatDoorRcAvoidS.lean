/-
-/
import Derived.Test.YtfabbohijhjpcaaGreatDoorRcPushI
import Derived.Test.YtfabbohijhjpcaaGreatDoorRcAntI
namespace Go.Proofs.YtfabbohijhjpcaaGreatDoor
open Go.RowKit
theorem nb_pow {r : Nat → Nat} {c : Nat} (hc : c < 7) : nb r (2 ^ c) = r c := by
 apply Nat.eq_of_testBit_eq
 intro u
 rw [Bool.eq_iff_iff, nb_bit]
 constructor
 ·rintro ⟨v, _, h1, h2⟩
  rw [Nat.testBit_two_pow] at h1
  have : c = v := by simpa using h1
  rw [this]; exact h2
 ·exact fun h => ⟨c, hc, Nat.testBit_two_pow_self, h⟩
theorem avB_bad {sz : Int} {m : Nat} {x : Nat → Int} {a b c : Int} (h : okB sz m x = false) : avB sz m x a b c = false := by unfold avB; rw [h]; rfl
theorem avB_out {sz : Int} {m : Nat} {x : Nat → Int} {a b c : Int} (h : ¬((0 ≤ a ∧ a < sz) ∧ (0 ≤ b ∧ b < sz) ∧ (0 ≤ c ∧ c < sz))) : avB sz m x a b c = false := by unfold avB; rw [decide_eq_false h, Bool.and_false]; rfl
theorem l1In_t {n lo hi : Int} (w : World) (h1 : lo ≤ n) (h2 : n ≤ hi) : Calls Tryz.prog 68 #[.int .i64 n, .int .i64 lo, .int .i64 hi] w fun e w' => e = .returned (.bool true) ∧ Below w.heap.size w w' :=
 (l1In_yes n lo hi w h1 h2).mono fun _ _ ⟨h1, h2⟩ => ⟨h1, h2 ▸ Below.refl _ _⟩
theorem l1In_f {n lo hi : Int} (w : World) (h : n < lo ∨ hi < n) : Calls Tryz.prog 68 #[.int .i64 n, .int .i64 lo, .int .i64 hi] w fun e w' => e = .returned (.bool false) ∧ Below w.heap.size w w' :=
 (l1In_no n lo hi w h).mono fun _ _ ⟨h1, h2⟩ => ⟨h1, h2 ▸ Below.refl _ _⟩
structure FO (lo : Nat) (w : World) (A : Option Addr) (n c : Nat) (f : Nat → Int) : Prop where
 own : Own w lo w.heap.size 3 1 A n c (fun j => .int .i64 (f j))
theorem FO.keep {lo n c : Nat} {w w' : World} {A : Option Addr} {f : Nat → Int} (h : FO lo w A n c f) (hb : Below w.heap.size w w') : FO lo w' A n c f := ⟨(h.own.keepB hb (Nat.le_refl _)).mono (Nat.le_refl _) hb.size⟩
theorem FO.congr {lo n c : Nat} {w : World} {A : Option Addr} {f f' : Nat → Int} (h : FO lo w A n c f) (e : ∀ j, j < n → f j = f' j) : FO lo w A n c f' := ⟨h.own.congr fun j hj => by rw [e j (by omega)]⟩
theorem FO.nil (w : World) (f : Nat → Int) : FO w.heap.size (w.alloc (Obj.cells #[] 3)) (some ⟨w.heap.size, 0, none⟩) 0 0 f :=
 ⟨.inr ⟨w.heap.size, #[], rfl, Nat.le_refl _, by simp, heap_alloc_new w _, Nat.le_refl _, by unfold maxLen; omega, rfl, fun j hj => absurd hj (by simp)⟩⟩
theorem FO.at {lo n c g j : Nat} {w : World} {f : Nat → Int} (h : FO lo w (some ⟨g, 0, none⟩) n c f) (hj : j < n) : w.cell? ⟨g, j, none⟩ = some (.int .i64 (f j)) ∧ w.frozen? ⟨g, j, none⟩ = false := by
 obtain ⟨g', e, _, _, _, h1, h2⟩ := h.own.at_ (by omega)
 simp only [Option.some.injEq, Addr.mk.injEq, and_true] at e
 subst e
 exact ⟨h1 j (by omega), h2 j⟩
theorem FO.addr {lo n c : Nat} {w : World} {A : Option Addr} {f : Nat → Int} (h : FO lo w A n c f) (hn : 0 < n) : ∃ g, A = some ⟨g, 0, none⟩ ∧ lo ≤ g := by
 obtain ⟨g', e, h1, _⟩ := h.own.at_ hn
 exact ⟨g', e, h1⟩
theorem FO.set {lo n c g v : Nat} {w : World} {f f' : Nat → Int} {k : Int} (h : FO lo w (some ⟨g, 0, none⟩) n c f) (e : ∀ j, j < n → f' j = if j = v then k else f j) : FO lo (w.setCell ⟨g, v, none⟩ (.int .i64 k)) (some ⟨g, 0, none⟩) n c f' :=
 ⟨((h.own.set_ v (.int .i64 k)).congr fun j hj => by rw [e j (by omega)]; split <;> rfl).mono (Nat.le_refl _) (by simp [World.setCell])⟩
theorem From.store {w0 w : World} (h : From w0 w) {g v : Nat} (hg : w0.heap.size ≤ g) (x : Value) : From w0 (w.setCell ⟨g, v, none⟩ x) := ⟨h.below.setCell (p := ⟨g, v, none⟩) hg _⟩
section
variable {r : Nat → Nat} {set s : Nat}
theorem fr_lt {n v k : Nat} (h : frN r set s n v = (k : Int)) : k < n := by
 rcases fr_spec (r := r) (set := set) (s := s) v n with ⟨_, h1⟩ | ⟨i, h1, _, _, h4⟩
 ·rw [h1] at h; omega
 ·rw [h4] at h; omega
theorem fr_mid_no {n v j : Nat} (h : frN r set s (n + 1) v = frN r set s n v) : (if j < v then frN r set s (n + 1) j else frN r set s n j) = if j < v + 1 then frN r set s (n + 1) j else frN r set s n j := by
 by_cases e : j < v
 ·rw [if_pos e, if_pos (by omega)]
 ·by_cases e2 : j = v
  ·subst e2; rw [if_neg e, if_pos (by omega), h]
  ·rw [if_neg e, if_neg (by omega)]
theorem fr_mid_yes {n v j : Nat} {k : Int} (h : frN r set s (n + 1) v = k) : (if j < v + 1 then frN r set s (n + 1) j else frN r set s n j) = if j = v then k else if j < v then frN r set s (n + 1) j else frN r set s n j := by
 by_cases e : j < v
 ·rw [if_pos (show j < v + 1 by omega), if_neg (show ¬ j = v by omega), if_pos e]
 ·by_cases e2 : j = v
  ·subst e2; rw [if_pos (show j < j + 1 by omega), if_pos rfl, h]
  ·rw [if_neg (show ¬ j < v + 1 by omega), if_neg e2, if_neg e]
theorem fr_step {n v : Nat} : frN r set s (n + 1) v = if (gro r set s n).testBit v = true ∧ frN r set s n v < 0 then (n : Int) else frN r set s n v := rfl
theorem fr_zero' {n b a : Nat} (hs : s = 2 ^ b) (hf : frN r set s n a = 0) : a = b := by subst hs; exact fr_zero hf
theorem fr_reach' {m a : Nat} (hm : m ≤ 7) (hset : set < 2 ^ m) (h : Sub s set) (h0 : s ≠ 0) : decide (frN r set s m a < 0) = !(part r set s).testBit a := fr_reach hm hset h h0
end
def pX (r : Nat → Nat) (set s m : Nat) (T T' : List Nat) (at_ k v : Nat) : Prop :=
 (T' = T ∧ ∀ u, u < v → ¬((r at_).testBit u = true ∧ frN r set s m u = (k : Int))) ∨ ∃ u, T' = T ++ [u] ∧ u < m ∧ frN r set s m u = (k : Int) ∧ u ≠ at_
theorem ON.last {lo : Nat} {w : World} {A : Option Addr} {c q : Nat} {T : List Nat} (h : ON lo w A c T) (hq : T.length = q + 1) : ∃ g, A = some ⟨g, 0, none⟩ ∧ w.cell? ⟨g, q, none⟩ = some (.int .i64 (T.getD q 0 : Nat)) := by
 obtain ⟨g, e, _, _, _, h1, _⟩ := h.own.at_ (by omega)
 refine ⟨g, e, ?_⟩
 rw [h1 q (by omega), ni_at (by omega)]
 simp [List.getD, show q < T.length by omega]
def slLen : Value → Nat
 | .slice _ n _ => n
 | _ => 0
set_option maxRecDepth 100000 in
set_option maxHeartbeats 6400000 in
theorem Avoid_in {A : Option Addr} {m cA a b c : Nat} {r : Nat → Nat} {w : World} (h : GV w A m cA r) (ha : a < m) (hb : b < m) (hc : c < m) :
 Calls Tryz.prog 328 #[.agg #[.int .i64 m, .slice A m cA], .int .i64 a, .int .i64 b, .int .i64 c] w fun e w' => ∃ A' n' c', e = .returned (.tuple #[.slice A' n' c', .bool (avN r m a b c)]) ∧ Below w.heap.size w w' := by
 have hn7 := h.vg.n7
 have hn1 := h.vg.n1
 have h128 := two_pow_le hn7
 have HV := Lib.hid h.vg
 obtain ⟨b0, o0, rfl⟩ := h.addr
 obtain ⟨W, hW⟩ : ∃ W : World, W = (w.alloc (Obj.cells #[Value.int IntKind.i64 m, Value.slice (some ⟨b0, o0, none⟩) m cA] 26)) := ⟨_, rfl⟩
 have HB : Hid (From w W) := by rw [hW]; exact From.alloc _ _
 have HG : Hid (GV W (some ⟨b0, o0, none⟩) m cA r) := h.keep HB.out.below
 have HC : Hid (GC W w.heap.size m (some ⟨b0, o0, none⟩) m cA) := by rw [hW]; exact GC.new _ _ _ _ _
 have HW := Lib.hid hW
 have HE : Hid (∀ z : World, From w z → Below w.heap.size w (z.alloc (Obj.cells #[] 3))) := fun z hz => (hz.alloc_ _).below
 clear hW h
 go_enter Tryz.func328, Tryz.ntmps328
 have e0 := HC.out.c0
 have e1 := HC.out.c1
 go_wp2_with fail
 rw [← HW.out]
 refine (IsGraph_sv HG.out).mono ?_
 rintro e w1 ⟨rfl, hb1⟩
 clear HW
 clear e0 e1
 replace HB := Lib.hid (HB.out.keep hb1)
 replace HG := Lib.hid (HG.out.keep hb1)
 replace HC := Lib.hid (HC.out.keep hb1)
 clear hb1
 have e0 := HC.out.c0
 have e1 := HC.out.c1
 have s1 : wrap64 ((m : Int) - 1) = (m : Int) - 1 := Go.IntWalk.wrap64_in _ (by omega)
 go_wp2_with fail
 refine (l1In_t (n := (a : Int)) (lo := 0) (hi := (m : Int) - 1) w1 (by omega) (by omega)).mono ?_
 rintro e w2 ⟨rfl, hb2⟩
 clear e0 e1
 replace HB := Lib.hid (HB.out.keep hb2)
 replace HG := Lib.hid (HG.out.keep hb2)
 replace HC := Lib.hid (HC.out.keep hb2)
 clear hb2
 have e0 := HC.out.c0
 have e1 := HC.out.c1
 go_wp2_with fail
 refine (l1In_t (n := (b : Int)) (lo := 0) (hi := (m : Int) - 1) w2 (by omega) (by omega)).mono ?_
 rintro e w3 ⟨rfl, hb3⟩
 clear e0 e1
 replace HB := Lib.hid (HB.out.keep hb3)
 replace HG := Lib.hid (HG.out.keep hb3)
 replace HC := Lib.hid (HC.out.keep hb3)
 clear hb3
 have e0 := HC.out.c0
 have e1 := HC.out.c1
 go_wp2_with fail
 refine (l1In_t (n := (c : Int)) (lo := 0) (hi := (m : Int) - 1) w3 (by omega) (by omega)).mono ?_
 rintro e w4 ⟨rfl, hb4⟩
 clear e0 e1
 replace HB := Lib.hid (HB.out.keep hb4)
 replace HG := Lib.hid (HG.out.keep hb4)
 replace HC := Lib.hid (HC.out.keep hb4)
 clear hb4
 have e0 := HC.out.c0
 have e1 := HC.out.c1
 have hor := or_pow_lt HV.out hc
 have hset := avS_lt HV.out hc
 have hset2 : avS r m c = 2 ^ m - 1 - (r c ||| 2 ^ c) := full_sub hn7 hor
 obtain ⟨set, hs⟩ : ∃ set, set = avS r m c := ⟨_, rfl⟩
 have HS := Lib.hid hs
 rw [← hs] at hset hset2
 obtain ⟨pc, hpc⟩ : ∃ pc, pc = 2 ^ c := ⟨_, rfl⟩
 have hpcm : pc < 2 ^ m := by rw [hpc]; exact Nat.pow_lt_pow_right (by omega) hc
 obtain ⟨F, hF⟩ : ∃ F, F = 2 ^ m := ⟨_, rfl⟩
 obtain ⟨y, hy⟩ : ∃ y, y = r c ||| 2 ^ c := ⟨_, rfl⟩
 have hye : pc ||| nb r pc = y := by rw [hpc, nb_pow (by omega), hy, Nat.or_comm]
 have KA : Hid (∀ z : World, Below w4.heap.size w4 z → Calls Tryz.prog 259 #[.agg #[.int .i64 m, .slice (some ⟨b0, o0, none⟩) m cA], .int .i64 (pc : Int)] z fun e w' => e = .returned (.int .i64 (y : Nat)) ∧ Below z.heap.size z w') := fun z hz => by
  have := AroundSet_sv (HG.out.keep hz) hpcm
  rwa [hye] at this
 have p1 : IntKind.i64.wrap ((2 : Int) ^ m) = (F : Int) := by rw [pow_shl m hn7, hF]; simp
 have p2 : IntKind.i64.wrap ((2 : Int) ^ c) = (pc : Int) := by rw [pow_shl c (by omega), hpc]; simp
 rw [← hy, ← hF] at hset2
 rw [← hF, ← hy] at hor
 rw [← hF] at h128
 have s2 : IntKind.i64.wrap ((F : Int) - 1) = (F : Int) - 1 := Go.IntWalk.i64_in _ (by omega)
 have s3 : IntKind.i64.wrap ((F : Int) - 1 - (y : Int)) = (set : Int) := by rw [Go.IntWalk.i64_in _ (by omega)]; omega
 have hset7 : set < 128 := by omega
 have HF := Lib.hid hF
 clear hs hset2 hpc hF hy hye hpcm s1 hor
 go_wp2
 have HSC : Hid (∀ z : World, Below w4.heap.size w4 z → (Below w4.heap.size w4 z ∧ z.cell? ⟨w.heap.size, 0, none⟩ = some (.int .i64 m) ∧ z.cell? ⟨w.heap.size, 1, none⟩ = some (.slice (some ⟨b0, o0, none⟩) m cA))) := fun z hz => ⟨hz, up_ hz e0, up_ hz e1⟩
 have HZ0 : Hid (Below w4.heap.size w4 w4.drew) := (Below.refl _ _).drew
 have HS1 := Lib.hid (HSC.out _ HZ0.out)
 have KR1 : Hid (∀ z : World, Below w4.heap.size w4 z → _) := fun z hz => KA.out z hz
 go_region_held3 (fun z => Below w4.heap.size w4 z ∧ z.cell? ⟨w.heap.size, 0, none⟩ = some (.int .i64 m) ∧ z.cell? ⟨w.heap.size, 1, none⟩ = some (.slice (some ⟨b0, o0, none⟩) m cA))
  (first | exact HS1.out | assumption | exact HSC.out _ hz5 | fail)
  (first | (go_at_call 259; ((with_reducible refine (KR1.out _ HZ0.out).mono ?_); rintro e w5 ⟨rfl, hb5⟩; have hz5 := bl_trans HZ0.out hb5)))
 clear e0 e1
 replace HB := Lib.hid (HB.out.keep hz5)
 replace HG := Lib.hid (HG.out.keep hz5)
 replace HC := Lib.hid (HC.out.keep hz5)
 clear hb5 hz5 HSC HZ0 HS1 KR1
 have e0 := HC.out.c0
 have e1 := HC.out.c1
 have E1 : (bits .and .i64 ((set : Int) / 2 ^ a) 1 == 0) = !set.testBit a := by
  have := and_one_i64' (set : Int) a (by omega) (by omega)
  simpa using this
 have E2 : (bits .and .i64 ((set : Int) / 2 ^ b) 1 == 0) = !set.testBit b := by
  have := and_one_i64' (set : Int) b (by omega) (by omega)
  simpa using this
 clear p1 p2 s2 s3
 cases t1 : set.testBit a
 ·have Hn : Hid (avN r m a b c = false) := by show _ = _; unfold avN; rw [← HS.out, t1]; rfl
  rw [t1] at E1
  clear t1 E2
  go_wp2
  go_ret2
  exact ⟨_, _, _, by rw [Hn.out]; rfl, HE.out _ HB.out⟩
 rw [t1] at E1
 cases t2 : set.testBit b
 ·have Hn : Hid (avN r m a b c = false) := by show _ = _; unfold avN; rw [← HS.out, t1, t2]; rfl
  rw [t2] at E2
  clear t1 t2
  go_wp2
  go_ret2
  exact ⟨_, _, _, by rw [Hn.out]; rfl, HE.out _ HB.out⟩
 rw [t2] at E2
 have Hs : Hid (Sub (2 ^ b) set) := pow_sub t2
 have H0 : Hid (2 ^ b ≠ 0) := by have := Nat.two_pow_pos b; show _ ≠ _; omega
 have HN : Hid (avN r m a b c = (part r set (2 ^ b)).testBit a) := by show _ = _; unfold avN; rw [← HS.out, t1, t2]; rfl
 have Hset : Hid (set < 2 ^ m) := hset
 clear t1 t2 hset
 obtain ⟨W5, hW5⟩ : ∃ W5 : World, W5 = (w5.alloc (Obj.cells #[] 3)) := ⟨_, rfl⟩
 have HO5 : Hid (FO w5.heap.size W5 (some ⟨w5.heap.size, 0, none⟩) 0 0 (frN r set (2 ^ b) 0)) := by rw [hW5]; exact FO.nil w5 _
 have HR5 : Hid (From w5 W5) := by rw [hW5]; exact From.alloc _ _
 have HW5 := Lib.hid hW5
 clear hW5
 go_wp2_with fail
 rw [← HW5.out]
 clear HW5 E1 E2
 go_loopw [11, 12] (fun far iv wr => ∃ (k : Nat) (A' : Option Addr) (c' : Nat), k ≤ m ∧ far = .slice A' k c' ∧ iv = .int .i64 k ∧ Hid (FO w5.heap.size wr A' k c' (frN r set (2 ^ b) 0)) ∧ Hid (From w5 wr)) (fun _ iv _ => m - (intOf iv).toNat)
 case atStart => exact ⟨0, _, 0, Nat.zero_le _, rfl, rfl, HO5, HR5⟩
 case round =>
  clear HO5 HR5
  obtain ⟨k, A', c', hk, rfl, rfl, HO, HR⟩ := hrel
  have HCr := Lib.hid (HC.out.keep HR.out.below)
  have e0 := HCr.out.c0
  have hB5 := HR.out.below.size
  by_cases hlt : k < m
  ·have i1 : (k : Int) < (m : Int) := by omega
   go_wp2_with (first | (at_builtin; (refine wpList_pushI wr rfl _ _ rfl w5.heap.size wr.heap.size A' k c' (frN r set (2 ^ b) 0) HO.out.own (by omega) (-1) rfl rfl 1 wr.heap.size rfl rfl (by omega) ?_; intro g cap wa hO6 hb6)))
   have H5 : Hid (FO w5.heap.size wa (some ⟨g, 0, none⟩) (k + 1) cap (frN r set (2 ^ b) 0)) := ⟨hO6⟩
   have H6 : Hid (From w5 wa) := ⟨HR.out.below.trans hb6⟩
   clear hO6 hb6
   go_roundw
   case rel => exact ⟨k + 1, some ⟨g, 0, none⟩, cap, by omega, rfl, by go_num, H5, H6⟩
   case measure => (simp [intOf] <;> omega)
  ·obtain rfl : m = k := by omega
   obtain ⟨g, rfl, hg⟩ := HO.out.addr (by omega)
   have p1 : IntKind.i64.wrap ((2 : Int) ^ b) = ((2 ^ b : Nat) : Int) := by rw [pow_shl b (by omega)]; simp
   obtain ⟨s, hs⟩ : ∃ s, s = 2 ^ b := ⟨_, rfl⟩
   rw [← hs] at Hs H0 HN HO p1
   have Hsb := Lib.hid hs
   clear hs hlt hk
   go_wp2
   go_loopw [13, 14] (fun rc nv wz => ∃ n : Nat, n ≤ m ∧ rc = .int .i64 (gro r set s n : Nat) ∧ nv = .int .i64 n ∧ Hid (FO w5.heap.size wz (some ⟨g, 0, none⟩) m c' (frN r set s n)) ∧ Hid (From w5 wz)) (fun _ nv _ => m - (intOf nv).toNat)
   case atStart => exact ⟨0, Nat.zero_le _, rfl, rfl, HO, HR⟩
   case round =>
    clear HO HR p1 hB5 e0 HCr
    obtain ⟨n, hn, rfl, rfl, HO, HR⟩ := hrel
    by_cases hlt : n < m
    ·have i1 : (n : Int) < (m : Int) := by omega
     have hgs := sub_lt (gro_sub (r := r) Hs.out n) Hset.out
     obtain ⟨G0, hG0⟩ : ∃ G0, G0 = gro r set s n := ⟨_, rfl⟩
     rw [← hG0] at hgs ⊢
     have HG0 := Lib.hid hG0
     have hG7 : G0 < 128 := by have := two_pow_le hn7; omega
     have HO0 : Hid (FO w5.heap.size wr (some ⟨g, 0, none⟩) m c' (fun j => if j < 0 then frN r set s (n + 1) j else frN r set s n j)) := HO.out.congr (fun j _ => by simp)
     have HCr := Lib.hid (HC.out.keep HR.out.below)
     have e0 := HCr.out.c0
     clear hG0 HO
     go_wp2
     go_loopw [15] (fun iv wy => ∃ v, v ≤ m ∧ iv = .int .i64 (v : Nat) ∧ Hid (FO w5.heap.size wy (some ⟨g, 0, none⟩) m c' (fun j => if j < v then frN r set s (n + 1) j else frN r set s n j)) ∧ Hid (From w5 wy)) (fun iv _ => m - (intOf iv).toNat)
     case atStart => exact ⟨0, Nat.zero_le _, rfl, HO0, HR⟩
     case round =>
      clear HO0 HR HCr e0
      obtain ⟨v, hv, rfl, HO, HR⟩ := hrel
      have HCr := Lib.hid (HC.out.keep HR.out.below)
      have e0 := HCr.out.c0
      by_cases hvl : v < m
      ·have i2 : (v : Int) < (m : Int) := by omega
       obtain ⟨q0, f0⟩ := HO.out.at hvl
       obtain ⟨fv, hfv⟩ : ∃ fv, fv = frN r set s n v := ⟨_, rfl⟩
       have q1 : wr.cell? ⟨g, v, none⟩ = some (.int .i64 fv) := by rw [q0, hfv]; simp
       have E1 : (bits .and .i64 ((G0 : Int) / 2 ^ v) 1 == 1) = G0.testBit v := by
        have := and_one_i64 (G0 : Int) v (by omega) (by omega)
        simpa using this
       have hstep : frN r set s (n + 1) v = if G0.testBit v = true ∧ fv < 0 then (n : Int) else fv := by rw [fr_step, HG0.out, hfv]
       clear q0
       cases tb : G0.testBit v
       ·have HO6 : Hid (FO w5.heap.size wr (some ⟨g, 0, none⟩) m c' (fun j => if j < v + 1 then frN r set s (n + 1) j else frN r set s n j)) := HO.out.congr (fun j _ => fr_mid_no (by rw [hstep, if_neg (by rw [tb]; simp), hfv]))
        rw [tb] at E1
        clear hstep tb hfv
        go_wp2
        go_roundw
        case rel => exact ⟨v + 1, by omega, by go_num, HO6, HR⟩
        case measure => (simp [intOf] <;> omega)
       ·rw [tb] at E1
        by_cases hneg : fv < 0
        ·have HO6 : Hid (FO w5.heap.size (wr.setCell ⟨g, v, none⟩ (.int .i64 (n : Int))) (some ⟨g, 0, none⟩) m c' (fun j => if j < v + 1 then frN r set s (n + 1) j else frN r set s n j)) := HO.out.set (fun j _ => fr_mid_yes (by rw [hstep, if_pos ⟨tb, hneg⟩]))
         have HR6 : Hid (From w5 (wr.setCell ⟨g, v, none⟩ (.int .i64 (n : Int)))) := HR.out.store hg _
         clear hstep tb hfv
         go_wp2
         go_roundw
         case rel => exact ⟨v + 1, by omega, by go_num, HO6, HR6⟩
         case measure => (simp [intOf] <;> omega)
        ·have HO6 : Hid (FO w5.heap.size wr (some ⟨g, 0, none⟩) m c' (fun j => if j < v + 1 then frN r set s (n + 1) j else frN r set s n j)) := HO.out.congr (fun j _ => fr_mid_no (by rw [hstep, if_neg (fun h => hneg h.2), hfv]))
         have i3 : 0 ≤ fv := by omega
         clear hstep tb hfv
         go_wp2
         go_roundw
         case rel => exact ⟨v + 1, by omega, by go_num, HO6, HR⟩
         case measure => (simp [intOf] <;> omega)
      ·obtain rfl : m = v := by omega
       have HGr := Lib.hid (HG.out.keep HR.out.below)
       have HO7 : Hid (FO w5.heap.size wr (some ⟨g, 0, none⟩) m c' (frN r set s (n + 1))) := HO.out.congr (fun j hj => if_pos hj)
       obtain ⟨y, hy⟩ : ∃ y, y = G0 ||| nb r G0 := ⟨_, rfl⟩
       have hy7 : y < 2 ^ m := by rw [hy]; exact Nat.or_lt_two_pow hgs (nb_lt HV.out.lt hgs 7)
       have KA : Hid (Calls Tryz.prog 259 #[.agg #[.int .i64 m, .slice (some ⟨b0, o0, none⟩) m cA], .int .i64 (G0 : Int)] wr fun e w' => e = .returned (.int .i64 (y : Nat)) ∧ Below wr.heap.size wr w') := by
        rw [hy]; exact AroundSet_sv HGr.out hgs
       have hgo : gro r set s (n + 1) = y &&& set := by rw [hy, HG0.out]; rfl
       have E2 := i64_and_nat y set (by have := two_pow_le hn7; omega) (by omega)
       obtain ⟨G1, hG1⟩ : ∃ G1, G1 = gro r set s (n + 1) := ⟨_, rfl⟩
       rw [← hgo, ← hG1] at E2
       have HG1 := Lib.hid hG1
       clear hy hgo hG1 HO e0 hy7
       have e0 := HCr.out.c0
       have e1 := HCr.out.c1
       go_wp2_with fail
       refine (KA.out).mono ?_
       rintro e w6 ⟨rfl, hb6⟩
       clear e0 e1
       replace HO7 := Lib.hid (HO7.out.keep hb6)
       replace HR := Lib.hid (HR.out.keep hb6)
       replace HCr := Lib.hid (HCr.out.keep hb6)
       clear hb6
       have e0 := HCr.out.c0
       have e1 := HCr.out.c1
       go_wp2
       go_roundw
       case rel => exact ⟨n + 1, by omega, by rw [HG1.out], by go_num, HO7, HR⟩
       case measure => (simp [intOf] <;> omega)
    ·obtain rfl : m = n := by omega
     obtain ⟨wf, hwf⟩ : ∃ wf : World, wf = wr := ⟨_, rfl⟩
     subst hwf
     have HB6 := Lib.hid (HB.out.keep HR.out.below)
     have HG6 := Lib.hid (HG.out.keep HR.out.below)
     have HC6 := Lib.hid (HC.out.keep HR.out.below)
     have e0 := HC6.out.c0
     obtain ⟨q0, _⟩ := HO.out.at ha
     obtain ⟨fa, hfa⟩ : ∃ fa, fa = frN r set s m a := ⟨_, rfl⟩
     rw [← hfa] at q0
     have hre : decide (fa < 0) = !(part r set s).testBit a := by rw [hfa]; exact fr_reach' hn7 Hset.out Hs.out H0.out
     have i5 : (a : Int) < (m : Int) := by omega
     by_cases hneg : fa < 0
     ·have Hn : Hid ((part r set s).testBit a = false) := by
       rw [decide_eq_true hneg] at hre
       show _ = _
       cases h : (part r set s).testBit a
       ·rfl
       ·rw [h] at hre; cases hre
      clear hre hfa
      go_wp2
      go_ret2
      exact ⟨_, _, _, by rw [HN.out, Hn.out]; rfl, HE.out _ HB6.out⟩
     have Hy : Hid ((part r set s).testBit a = true) := by
      rw [decide_eq_false hneg] at hre
      show _ = _
      cases h : (part r set s).testBit a
      ·rw [h] at hre; cases hre
      ·rfl
     have i6 : 0 ≤ fa := by omega
     obtain ⟨k0, hk0⟩ := Int.eq_ofNat_of_zero_le i6
     have Hk0 : Hid (frN r set s m a = (k0 : Int)) := hfa.symm.trans hk0
     have hk7 := fr_lt Hk0.out
     have HF6 := HO
     obtain ⟨W6, hW6⟩ : ∃ W6 : World, W6 = (wf.alloc (Obj.cells #[Value.int .i64 (a : Int)] 3)) := ⟨_, rfl⟩
     have HO6 : Hid (ON wf.heap.size W6 (some ⟨wf.heap.size, 0, none⟩) 1 [a]) := by rw [hW6]; exact one_on wf a
     have HR6 : Hid (From wf W6) := by rw [hW6]; exact From.alloc _ _
     have HW6 := Lib.hid hW6
     clear hW6 hre hfa hk0 HO HB HG HC hneg
     go_wp2_with fail
     rw [← HW6.out]
     clear HW6
     go_loopw [16, 17, 18] (fun out _ _ wz => ∃ (T : List Nat) (k at_ : Nat) (A5 : Option Addr) (c5 : Nat), out = .slice A5 T.length c5 ∧ 1 ≤ T.length ∧ T.length + k ≤ 8 ∧ at_ < m ∧ Hid (T.getD (T.length - 1) 0 = at_) ∧ Hid (frN r set s m at_ = (k : Int)) ∧ Hid (ON wf.heap.size wz A5 c5 T) ∧ Hid (From wf wz)) (fun out _ _ _ => 8 - slLen out)
     case atStart => exact ⟨[a], k0, a, _, 1, rfl, by simp, by simp; omega, ha, rfl, Hk0, HO6, HR6⟩
     case round =>
      clear HO6 HR6 Hk0 hk7 q0 e0 i6 i5
      obtain ⟨T, k, at_, A5, c5, rfl, hT1, hTk, hat, Hl, Hk, HO5, HR5⟩ := hrel
      obtain ⟨q, hq⟩ : ∃ q, T.length = q + 1 := ⟨T.length - 1, by omega⟩
      obtain ⟨g5, rfl, p0⟩ := HO5.out.last hq
      have hl : T.getD q 0 = at_ := by have := Hl.out; rwa [hq, Nat.add_sub_cancel] at this
      rw [hl] at p0
      have s7 : wrap64 ((T.length : Int) - 1) = (q : Int) := by rw [Go.IntWalk.wrap64_in _ (by omega)]; omega
      have s8 : IntKind.i64.wrap ((T.length : Int) - 1) = (q : Int) := by rw [Go.IntWalk.i64_in _ (by omega)]; omega
      have i6 : (q : Int) < (T.length : Int) := by omega
      have i7 : q < T.length := by omega
      have Hq := Lib.hid hq
      clear hq hl
      by_cases hab : at_ = b
      ·have HBz := Lib.hid (HB6.out.keep HR5.out.below)
       have d1 : ((at_ : Int) != (b : Int)) = false := by simp; omega
       clear hab
       go_wp2
       go_ret2
       exact ⟨_, _, _, by rw [HN.out, Hy.out]; rfl, HBz.out.below⟩
      have d1 : ((at_ : Int) != (b : Int)) = true := by simp; omega
      obtain ⟨k', rfl⟩ : ∃ k', k = k' + 1 := by
       cases k with
       | zero => exact absurd (fr_zero' Hsb.out Hk.out) hab
       | succ k' => exact ⟨k', rfl⟩
      have HX0 : Hid (pX r set s m T T at_ k' (0)) := .inl ⟨rfl, fun u hu => absurd hu (by omega)⟩
      clear hab
      go_wp2
      go_loopw [16, 18] (fun out vv wz => ∃ (v : Nat) (T' : List Nat) (A6 : Option Addr) (c6 : Nat), v ≤ m ∧ out = .slice A6 T'.length c6 ∧ vv = .int .i64 v ∧ T.length ≤ T'.length ∧ T'.length ≤ 8 ∧ Hid (pX r set s m T T' at_ k' (v)) ∧ Hid (ON wf.heap.size wz A6 c6 T') ∧ Hid (From wf wz)) (fun _ vv _ => m - (intOf vv).toNat)
      case atStart => exact ⟨0, T, _, c5, Nat.zero_le _, rfl, rfl, Nat.le_refl _, by omega, HX0, HO5, HR5⟩
      case round =>
       clear HX0 HO5 HR5 p0 s7 s8 i6 i7 d1
       obtain ⟨v, T', A6, c6, hv, rfl, rfl, hT0, hT8, HX, HO5, HR5⟩ := hrel
       have HCr := Lib.hid (HC6.out.keep HR5.out.below)
       have e0 := HCr.out.c0
       have e1 := HCr.out.c1
       by_cases hvl : v < m
       ·have i2 : (v : Int) < (m : Int) := by omega
        have i3 : (at_ : Int) < (m : Int) := by omega
        have HGr := Lib.hid (HG6.out.keep HR5.out.below)
        have q1 := ((HF6.out.keep HR5.out.below).at hvl).1
        have q2 := ((HF6.out.keep HR5.out.below).at hat).1
        rw [Hk.out] at q2
        obtain ⟨fv, hfv⟩ : ∃ fv, fv = frN r set s m v := ⟨_, rfl⟩
        rw [← hfv] at q1
        obtain ⟨q', hq'⟩ : ∃ q', T'.length = q' + 1 := ⟨T'.length - 1, by omega⟩
        obtain ⟨g6, rfl, p0⟩ := HO5.out.last hq'
        obtain ⟨ls, hls⟩ : ∃ ls, ls = T'.getD q' 0 := ⟨_, rfl⟩
        rw [← hls] at p0
        have s7 : wrap64 ((T'.length : Int) - 1) = (q' : Int) := by rw [Go.IntWalk.wrap64_in _ (by omega)]; omega
        have s8 : IntKind.i64.wrap ((T'.length : Int) - 1) = (q' : Int) := by rw [Go.IntWalk.i64_in _ (by omega)]; omega
        have s9 : IntKind.i64.wrap (((k' + 1 : Nat) : Int) - 1) = (k' : Int) := by rw [Go.IntWalk.i64_in _ (by omega)]; omega
        have i6 : (q' : Int) < (T'.length : Int) := by omega
        have i7 : q' < T'.length := by omega
        have Hq' := Lib.hid hq'
        have Hls := Lib.hid hls
        have Hfv := Lib.hid hfv
        have HT8 := Lib.hid hT8
        obtain ⟨fk, hfk⟩ : ∃ fk : Int, fk = ((k' + 1 : Nat) : Int) := ⟨_, rfl⟩
        rw [← hfk] at q2 s9
        have KE : Hid (∀ z : World, Below wr.heap.size wr z → Calls Tryz.prog 45 #[.agg #[.int .i64 m, .slice (some ⟨b0, o0, none⟩) m cA], .int .i64 (at_ : Int), .int .i64 (v : Int)] z fun e w' => e = .returned (.bool ((r at_).testBit v)) ∧ Below z.heap.size z w') := fun z hz => l2Edge_v (HGr.out.keep hz) hat hvl
        clear hq' hls hfv hfk
        cases te : (r at_).testBit v
        ·rw [te] at KE
         have HX' : Hid (pX r set s m T T' at_ k' (v + 1)) := by
          rcases HX.out with ⟨h1, h2⟩ | h1
          ·refine .inl ⟨h1, fun u hu => ?_⟩
           by_cases e : u < v
           ·exact h2 u e
           ·obtain rfl : u = v := by omega
            rw [te]; exact fun h => absurd h.1 (by simp)
          ·exact .inr h1
         clear te HX
         go_wp2
         have HSC : Hid (∀ z : World, Below wr.heap.size wr z → (Below wr.heap.size wr z ∧ z.cell? ⟨w.heap.size, 0, none⟩ = some (.int .i64 m) ∧ z.cell? ⟨w.heap.size, 1, none⟩ = some (.slice (some ⟨b0, o0, none⟩) m cA))) := fun z hz => ⟨hz, up_ hz e0, up_ hz e1⟩
         have HZ0 : Hid (Below wr.heap.size wr wr.drew) := (Below.refl _ _).drew
         have HS1 := Lib.hid (HSC.out _ HZ0.out)
         have KR1 : Hid (∀ z : World, Below wr.heap.size wr z → _) := fun z hz => KE.out z hz
         refine wp_region_held_drew (S := fun z => Below wr.heap.size wr z ∧ z.cell? ⟨w.heap.size, 0, none⟩ = some (.int .i64 m) ∧ z.cell? ⟨w.heap.size, 1, none⟩ = some (.slice (some ⟨b0, o0, none⟩) m cA)) (by kernel_rfl) HS1.out (fun hHeld => ?_)
         refine pcY 0 rfl rfl (by kernel_rfl) (by rfl) (by intro w u; (try dsimp only at u); go_simp <;> with_reducible rfl) ‹_› (fun _ _ _ h => h) ?_; simp only [Act.put, sl0, sl1, sl2]
         iterate 2 (refine ptY rfl rfl (by kernel_rfl) (by rfl) (by intro w u; (try dsimp only at u); go_simp <;> with_reducible rfl) ‹_› (fun _ _ _ h => h) ?_; simp only [Act.put, sl0, sl1, sl2])
         refine wpAnyH_ready (rs := [3]) (by kernel_rfl) (by simp) ?_
         refine AllReadyH.cons rfl (fun K hK => ?_) AllReadyH.nil
         go_simp
         go_at_call 45; refine (KR1.out _ HZ0.out).mono ?_
         rintro e w7 ⟨rfl, hb7⟩
         have hz7 := bl_trans HZ0.out hb7
         refine hK.out _ _ (HSC.out _ hz7) (fun hHeld => ?_)
         clear hK K
         try simp only [Act.put, sl0, sl1, sl2]
         refine ptY rfl rfl (by kernel_rfl) (by rfl) (by intro w u; (try dsimp only at u); go_simp <;> with_reducible rfl) ‹_› (fun _ _ _ h => h) ?_; simp only [Act.put, sl0, sl1, sl2]
         iterate 10 (refine ptN rfl rfl (by kernel_rfl) (by rfl) ‹_› (fun _ _ _ h => h) ?_; simp only [Act.put, sl0, sl1, sl2])
         iterate 2 (refine ptY rfl rfl (by kernel_rfl) (by rfl) (by intro w u; (try dsimp only at u); go_simp <;> with_reducible rfl) ‹_› (fun _ _ _ h => h) ?_; simp only [Act.put, sl0, sl1, sl2])
         iterate 8 (refine ptN rfl rfl (by kernel_rfl) (by rfl) ‹_› (fun _ _ _ h => h) ?_; simp only [Act.put, sl0, sl1, sl2])
         refine ptY rfl rfl (by kernel_rfl) (by rfl) (by intro w u; (try dsimp only at u); go_simp <;> with_reducible rfl) ‹_› (fun _ _ _ h => h) ?_; simp only [Act.put, sl0, sl1, sl2]
         refine wpAnyH_done (by kernel_rfl) ?_ _
         replace HO5 := Lib.hid (HO5.out.keep hz7)
         replace HR5 := Lib.hid (HR5.out.keep hz7)
         clear hb7 hz7 HSC HZ0 HS1 KR1
         go_wp2
         go_roundw
         case rel => exact ⟨v + 1, T', _, c6, by omega, rfl, by go_num, hT0, HT8.out, HX', HO5, HR5⟩
         case measure => (simp [intOf] <;> omega)
        rw [te] at KE
        by_cases hf : fv = (k' : Int)
        rotate_left
        ·have HX' : Hid (pX r set s m T T' at_ k' (v + 1)) := by
          rcases HX.out with ⟨h1, h2⟩ | h1
          ·refine .inl ⟨h1, fun u hu => ?_⟩
           by_cases e : u < v
           ·exact h2 u e
           ·obtain rfl : u = v := by omega
            rw [← Hfv.out]; exact fun h => absurd h.2 hf
          ·exact .inr h1
         have d2 : (fv == (k' : Int)) = false := by simpa using hf
         clear te HX hf
         go_wp2
         have HSC : Hid (∀ z : World, Below wr.heap.size wr z → (Below wr.heap.size wr z ∧ z.cell? ⟨w.heap.size, 0, none⟩ = some (.int .i64 m) ∧ z.cell? ⟨w.heap.size, 1, none⟩ = some (.slice (some ⟨b0, o0, none⟩) m cA) ∧ z.cell? ⟨g, v, none⟩ = some (.int .i64 fv) ∧ z.cell? ⟨g, at_, none⟩ = some (.int .i64 fk))) := fun z hz => ⟨hz, up_ hz e0, up_ hz e1, up_ hz q1, up_ hz q2⟩
         have HZ0 : Hid (Below wr.heap.size wr wr.drew) := (Below.refl _ _).drew
         have HS1 := Lib.hid (HSC.out _ HZ0.out)
         have KR1 : Hid (∀ z : World, Below wr.heap.size wr z → _) := fun z hz => KE.out z hz
         refine wp_region_held_drew (S := fun z => Below wr.heap.size wr z ∧ z.cell? ⟨w.heap.size, 0, none⟩ = some (.int .i64 m) ∧ z.cell? ⟨w.heap.size, 1, none⟩ = some (.slice (some ⟨b0, o0, none⟩) m cA) ∧ z.cell? ⟨g, v, none⟩ = some (.int .i64 fv) ∧ z.cell? ⟨g, at_, none⟩ = some (.int .i64 fk)) (by kernel_rfl) HS1.out (fun hHeld => ?_)
         refine pcY 0 rfl rfl (by kernel_rfl) (by rfl) (by intro w u; (try dsimp only at u); go_simp <;> with_reducible rfl) ‹_› (fun _ _ _ h => h) ?_; simp only [Act.put, sl0, sl1, sl2]
         iterate 2 (refine ptY rfl rfl (by kernel_rfl) (by rfl) (by intro w u; (try dsimp only at u); go_simp <;> with_reducible rfl) ‹_› (fun _ _ _ h => h) ?_; simp only [Act.put, sl0, sl1, sl2])
         refine wpAnyH_ready (rs := [3]) (by kernel_rfl) (by simp) ?_
         refine AllReadyH.cons rfl (fun K hK => ?_) AllReadyH.nil
         go_simp
         go_at_call 45; refine (KR1.out _ HZ0.out).mono ?_
         rintro e w8 ⟨rfl, hb8⟩
         have hz8 := bl_trans HZ0.out hb8
         refine hK.out _ _ (HSC.out _ hz8) (fun hHeld => ?_)
         clear hK K
         try simp only [Act.put, sl0, sl1, sl2]
         iterate 13 (refine ptY rfl rfl (by kernel_rfl) (by rfl) (by intro w u; (try dsimp only at u); go_simp <;> with_reducible rfl) ‹_› (fun _ _ _ h => h) ?_; simp only [Act.put, sl0, sl1, sl2])
         iterate 8 (refine ptN rfl rfl (by kernel_rfl) (by rfl) ‹_› (fun _ _ _ h => h) ?_; simp only [Act.put, sl0, sl1, sl2])
         refine ptY rfl rfl (by kernel_rfl) (by rfl) (by intro w u; (try dsimp only at u); go_simp <;> with_reducible rfl) ‹_› (fun _ _ _ h => h) ?_; simp only [Act.put, sl0, sl1, sl2]
         refine wpAnyH_done (by kernel_rfl) ?_ _
         replace HO5 := Lib.hid (HO5.out.keep hz8)
         replace HR5 := Lib.hid (HR5.out.keep hz8)
         clear hb8 hz8 HSC HZ0 HS1 KR1
         go_wp2
         go_roundw
         case rel => exact ⟨v + 1, T', _, c6, by omega, rfl, by go_num, hT0, HT8.out, HX', HO5, HR5⟩
         case measure => (simp [intOf] <;> omega)
        have d2 : (fv == (k' : Int)) = true := by simpa using hf
        have Hf : Hid (frN r set s m v = (k' : Int)) := by rw [← Hfv.out]; exact hf
        clear hf
        rcases HX.out with ⟨h1, _⟩ | ⟨u, h1, hu, h2, h3⟩
        ·subst h1
         have hlsat : ls = at_ := by
          have := Hl.out
          rw [Hq'.out, Nat.add_sub_cancel] at this
          rw [Hls.out]; exact this
         have Hne : Hid (v ≠ at_) := fun e => by
          have := HV.out.irr at_ hat
          rw [e] at te; rw [te] at this; cases this
         have d3 : ((at_ : Int) == (ls : Int)) = true := by rw [hlsat]; simp
         clear te HX hlsat
         go_wp2
         have HSC : Hid (∀ z : World, Below wr.heap.size wr z → (Below wr.heap.size wr z ∧ z.cell? ⟨w.heap.size, 0, none⟩ = some (.int .i64 m) ∧ z.cell? ⟨w.heap.size, 1, none⟩ = some (.slice (some ⟨b0, o0, none⟩) m cA) ∧ z.cell? ⟨g, v, none⟩ = some (.int .i64 fv) ∧ z.cell? ⟨g, at_, none⟩ = some (.int .i64 fk) ∧ z.cell? ⟨g6, q', none⟩ = some (.int .i64 (ls : Int)))) := fun z hz => ⟨hz, up_ hz e0, up_ hz e1, up_ hz q1, up_ hz q2, up_ hz p0⟩
         have HZ0 : Hid (Below wr.heap.size wr wr.drew) := (Below.refl _ _).drew
         have HS1 := Lib.hid (HSC.out _ HZ0.out)
         have KR1 : Hid (∀ z : World, Below wr.heap.size wr z → _) := fun z hz => KE.out z hz
         refine wp_region_held_drew (S := fun z => Below wr.heap.size wr z ∧ z.cell? ⟨w.heap.size, 0, none⟩ = some (.int .i64 m) ∧ z.cell? ⟨w.heap.size, 1, none⟩ = some (.slice (some ⟨b0, o0, none⟩) m cA) ∧ z.cell? ⟨g, v, none⟩ = some (.int .i64 fv) ∧ z.cell? ⟨g, at_, none⟩ = some (.int .i64 fk) ∧ z.cell? ⟨g6, q', none⟩ = some (.int .i64 (ls : Int))) (by kernel_rfl) HS1.out (fun hHeld => ?_)
         refine pcY 0 rfl rfl (by kernel_rfl) (by rfl) (by intro w u; (try dsimp only at u); go_simp <;> with_reducible rfl) ‹_› (fun _ _ _ h => h) ?_; simp only [Act.put, sl0, sl1, sl2]
         iterate 2 (refine ptY rfl rfl (by kernel_rfl) (by rfl) (by intro w u; (try dsimp only at u); go_simp <;> with_reducible rfl) ‹_› (fun _ _ _ h => h) ?_; simp only [Act.put, sl0, sl1, sl2])
         refine wpAnyH_ready (rs := [3]) (by kernel_rfl) (by simp) ?_
         refine AllReadyH.cons rfl (fun K hK => ?_) AllReadyH.nil
         go_simp
         go_at_call 45; refine (KR1.out _ HZ0.out).mono ?_
         rintro e w9 ⟨rfl, hb9⟩
         have hz9 := bl_trans HZ0.out hb9
         refine hK.out _ _ (HSC.out _ hz9) (fun hHeld => ?_)
         clear hK K
         try simp only [Act.put, sl0, sl1, sl2]
         iterate 22 (refine ptY rfl rfl (by kernel_rfl) (by rfl) (by intro w u; (try dsimp only at u); go_simp <;> with_reducible rfl) ‹_› (fun _ _ _ h => h) ?_; simp only [Act.put, sl0, sl1, sl2])
         refine wpAnyH_done (by kernel_rfl) ?_ _
         replace HO5 := Lib.hid (HO5.out.keep hz9)
         replace HR5 := Lib.hid (HR5.out.keep hz9)
         clear hb9 hz9 HSC HZ0 HS1 KR1
         have hB9 := HR5.out.below.size
         go_wp2_with (first | (at_builtin; (refine wpList_pushN w9 rfl _ _ rfl wf.heap.size w9.heap.size (some ⟨g6, 0, none⟩) c6 T' HO5.out.own (by omega) v rfl 1 w9.heap.size rfl rfl (by omega) ?_; intro g7 cap wa hOa hba)))
         have H5 : Hid (ON wf.heap.size wa (some ⟨g7, 0, none⟩) cap (T' ++ [v])) := ⟨by rw [List.length_append]; exact hOa⟩
         have H6 : Hid (From wf wa) := ⟨HR5.out.below.trans hba⟩
         have HX' : Hid (pX r set s m T' (T' ++ [v]) at_ k' (v + 1)) := .inr ⟨v, rfl, hvl, Hf.out, Hne.out⟩
         clear hOa hba
         go_roundw
         case rel => exact ⟨v + 1, T' ++ [v], _, cap, by omega, by rw [List.length_append]; rfl, by go_num, by rw [List.length_append]; omega, by rw [List.length_append]; simp; omega, HX', H5, H6⟩
         case measure => (simp [intOf] <;> omega)
        ·have hlsu : ls = u := by
          rw [Hls.out, h1]
          have : q' = T.length := by have := Hq'.out; rw [h1, List.length_append] at this; simpa using this.symm
          rw [this]; simp
         have d3 : ((at_ : Int) == (ls : Int)) = false := by rw [hlsu]; simp; omega
         have HX' : Hid (pX r set s m T T' at_ k' (v + 1)) := .inr ⟨u, h1, hu, h2, h3⟩
         clear te HX hlsu h1 h2 h3
         go_wp2
         have HSC : Hid (∀ z : World, Below wr.heap.size wr z → (Below wr.heap.size wr z ∧ z.cell? ⟨w.heap.size, 0, none⟩ = some (.int .i64 m) ∧ z.cell? ⟨w.heap.size, 1, none⟩ = some (.slice (some ⟨b0, o0, none⟩) m cA) ∧ z.cell? ⟨g, v, none⟩ = some (.int .i64 fv) ∧ z.cell? ⟨g, at_, none⟩ = some (.int .i64 fk) ∧ z.cell? ⟨g6, q', none⟩ = some (.int .i64 (ls : Int)))) := fun z hz => ⟨hz, up_ hz e0, up_ hz e1, up_ hz q1, up_ hz q2, up_ hz p0⟩
         have HZ0 : Hid (Below wr.heap.size wr wr.drew) := (Below.refl _ _).drew
         have HS1 := Lib.hid (HSC.out _ HZ0.out)
         have KR1 : Hid (∀ z : World, Below wr.heap.size wr z → _) := fun z hz => KE.out z hz
         refine wp_region_held_drew (S := fun z => Below wr.heap.size wr z ∧ z.cell? ⟨w.heap.size, 0, none⟩ = some (.int .i64 m) ∧ z.cell? ⟨w.heap.size, 1, none⟩ = some (.slice (some ⟨b0, o0, none⟩) m cA) ∧ z.cell? ⟨g, v, none⟩ = some (.int .i64 fv) ∧ z.cell? ⟨g, at_, none⟩ = some (.int .i64 fk) ∧ z.cell? ⟨g6, q', none⟩ = some (.int .i64 (ls : Int))) (by kernel_rfl) HS1.out (fun hHeld => ?_)
         refine pcY 0 rfl rfl (by kernel_rfl) (by rfl) (by intro w u; (try dsimp only at u); go_simp <;> with_reducible rfl) ‹_› (fun _ _ _ h => h) ?_; simp only [Act.put, sl0, sl1, sl2]
         iterate 2 (refine ptY rfl rfl (by kernel_rfl) (by rfl) (by intro w u; (try dsimp only at u); go_simp <;> with_reducible rfl) ‹_› (fun _ _ _ h => h) ?_; simp only [Act.put, sl0, sl1, sl2])
         refine wpAnyH_ready (rs := [3]) (by kernel_rfl) (by simp) ?_
         refine AllReadyH.cons rfl (fun K hK => ?_) AllReadyH.nil
         go_simp
         go_at_call 45; refine (KR1.out _ HZ0.out).mono ?_
         rintro e w10 ⟨rfl, hb10⟩
         have hz10 := bl_trans HZ0.out hb10
         refine hK.out _ _ (HSC.out _ hz10) (fun hHeld => ?_)
         clear hK K
         try simp only [Act.put, sl0, sl1, sl2]
         iterate 22 (refine ptY rfl rfl (by kernel_rfl) (by rfl) (by intro w u; (try dsimp only at u); go_simp <;> with_reducible rfl) ‹_› (fun _ _ _ h => h) ?_; simp only [Act.put, sl0, sl1, sl2])
         refine wpAnyH_done (by kernel_rfl) ?_ _
         replace HO5 := Lib.hid (HO5.out.keep hz10)
         replace HR5 := Lib.hid (HR5.out.keep hz10)
         clear hb10 hz10 HSC HZ0 HS1 KR1
         go_wp2
         go_roundw
         case rel => exact ⟨v + 1, T', _, c6, by omega, rfl, by go_num, hT0, HT8.out, HX', HO5, HR5⟩
         case measure => (simp [intOf] <;> omega)
       ·obtain rfl : m = v := by omega
        rcases HX.out with ⟨h1, h2⟩ | ⟨u, h1, hu, h2, h3⟩
        ·exfalso
         obtain ⟨u, h4, h5, h6⟩ := fr_back HV.out Hset.out Hs.out hat Hk.out
         exact h2 u h4 ⟨h5, h6⟩
        ·have Hk' : Hid (frN r set s m u = (k' : Int)) := h2
         have hlen : T'.length = T.length + 1 := by rw [h1]; simp
         have Hl' : Hid (T'.getD (T'.length - 1) 0 = u) := by show _ = _; rw [hlen, h1]; simp
         have Hlen := Lib.hid hlen
         clear h1 h2 h3 HX hlen
         go_wp2
         go_roundw
         case rel => exact ⟨T', k', u, A6, c6, rfl, by omega, by have := Hlen.out; omega, hu, Hl', Hk', HO5, HR5⟩
         case measure => (have := Hlen.out; simp [slLen]; omega)
section
variable (sz : Int) (A : Option Addr) (m cA : Nat) (x : Nat → Int) (a b c : Int) (w : World)
set_option maxRecDepth 100000 in
set_option maxHeartbeats 6400000 in
theorem AvoidingPath_s (h : GA w A m cA x) (hm : m ≤ 1048576) :
 Calls Tryz.prog 328 #[.agg #[.int .i64 sz, .slice A m cA], .int .i64 a, .int .i64 b, .int .i64 c] w fun e w' => ∃ A' n' c', e = .returned (.tuple #[.slice A' n' c', .bool (avB sz m x a b c)]) ∧ Below w.heap.size w w' := by
 cases ho : okB sz m x
 ·obtain ⟨W, hW⟩ : ∃ W : World, W = (w.alloc (Obj.cells #[Value.int IntKind.i64 sz, Value.slice A m cA] 26)) := ⟨_, rfl⟩
  have HB : Hid (From w W) := by rw [hW]; exact From.alloc _ _
  have HK := Lib.hid (h.keep HB.out.below)
  have HC : Hid (GC W w.heap.size sz A m cA) := by rw [hW]; exact GC.new _ _ _ _ _
  have HW := Lib.hid hW
  have HE : Hid (∀ z : World, From w z → Below w.heap.size w (z.alloc (Obj.cells #[] 3))) := fun z hz => (hz.alloc_ _).below
  have Hn : Hid (avB sz m x a b c = false) := avB_bad ho
  have Ho := Lib.hid ho
  clear hW h ho
  go_enter Tryz.func328, Tryz.ntmps328
  have e0 := HC.out.c0
  have e1 := HC.out.c1
  have KI : Hid (Calls Tryz.prog 39 #[.agg #[.int .i64 sz, .slice A m cA]] W fun e w' => e = .returned (.bool false) ∧ Below W.heap.size W w') := by
   have := IsGraph_sany sz A m cA x W W.heap.size HK.out.rd (Nat.le_refl _) hm
   rwa [Ho.out] at this
  go_wp2_with fail
  rw [← HW.out]
  refine (KI.out).mono ?_
  rintro e w1 ⟨rfl, hb1⟩
  clear HW
  clear e0 e1
  replace HB := Lib.hid (HB.out.keep hb1)
  replace HK := Lib.hid (HK.out.keep hb1)
  replace HC := Lib.hid (HC.out.keep hb1)
  clear hb1
  have e0 := HC.out.c0
  have e1 := HC.out.c1
  go_wp2
  go_ret2
  exact ⟨_, _, _, by rw [Hn.out]; rfl, HE.out _ HB.out⟩
 obtain ⟨_, es, vg0, _⟩ := okB_ok' ho
 subst es
 have HG : GV w A m cA (rw_ x) := h.gv ho
 by_cases hin : (0 ≤ a ∧ a < m) ∧ (0 ≤ b ∧ b < m) ∧ (0 ≤ c ∧ c < m)
 ·obtain ⟨⟨a0, a1⟩, ⟨b0, b1⟩, c0, c1⟩ := hin
  have HA : avB (m : Int) m x a b c = avN (rw_ x) m a.toNat b.toNat c.toNat := by unfold avB; rw [ho, decide_eq_true ⟨⟨a0, a1⟩, ⟨b0, b1⟩, c0, c1⟩]; rfl
  rw [HA]
  obtain ⟨a', rfl⟩ := Int.eq_ofNat_of_zero_le a0
  obtain ⟨b', rfl⟩ := Int.eq_ofNat_of_zero_le b0
  obtain ⟨c', rfl⟩ := Int.eq_ofNat_of_zero_le c0
  exact Avoid_in HG (by omega) (by omega) (by omega)
 have Hn : Hid (avB (m : Int) m x a b c = false) := avB_out hin
 have hn7 := vg0.n7
 have hn1 := vg0.n1
 have s1 : wrap64 ((m : Int) - 1) = (m : Int) - 1 := Go.IntWalk.wrap64_in _ (by omega)
 have HG' := Lib.hid HG
 obtain ⟨W, hW⟩ : ∃ W : World, W = (w.alloc (Obj.cells #[Value.int IntKind.i64 m, Value.slice A m cA] 26)) := ⟨_, rfl⟩
 have HB : Hid (From w W) := by rw [hW]; exact From.alloc _ _
 have HG1 : Hid (GV W A m cA (rw_ x)) := HG.keep HB.out.below
 have HC : Hid (GC W w.heap.size m A m cA) := by rw [hW]; exact GC.new _ _ _ _ _
 have HE : Hid (∀ z : World, From w z → Below w.heap.size w (z.alloc (Obj.cells #[] 3))) := fun z hz => (hz.alloc_ _).below
 have HW := Lib.hid hW
 clear hW h ho vg0 HG HG'
 by_cases ha : 0 ≤ a ∧ a ≤ (m : Int) - 1
 rotate_left
 ·have hr : Hid (a < 0 ∨ (m : Int) - 1 < a) := by show _ ∨ _; omega
  clear ha hin
  go_enter Tryz.func328, Tryz.ntmps328
  have e0 := HC.out.c0
  have e1 := HC.out.c1
  go_wp2_with fail
  rw [← HW.out]
  refine (IsGraph_sv HG1.out).mono ?_
  rintro e w2 ⟨rfl, hb2⟩
  clear HW
  clear e0 e1
  replace HB := Lib.hid (HB.out.keep hb2)
  replace HG1 := Lib.hid (HG1.out.keep hb2)
  replace HC := Lib.hid (HC.out.keep hb2)
  clear hb2
  have e0 := HC.out.c0
  have e1 := HC.out.c1
  go_wp2_with fail
  refine (l1In_f (n := a) (lo := 0) (hi := (m : Int) - 1) _ hr.out).mono ?_
  rintro e w3 ⟨rfl, hb3⟩
  clear e0 e1
  replace HB := Lib.hid (HB.out.keep hb3)
  replace HG1 := Lib.hid (HG1.out.keep hb3)
  replace HC := Lib.hid (HC.out.keep hb3)
  clear hb3
  have e0 := HC.out.c0
  have e1 := HC.out.c1
  go_wp2
  go_ret2
  exact ⟨_, _, _, by rw [Hn.out]; rfl, HE.out _ HB.out⟩
 by_cases hb : 0 ≤ b ∧ b ≤ (m : Int) - 1
 rotate_left
 ·have hr : Hid (b < 0 ∨ (m : Int) - 1 < b) := by show _ ∨ _; omega
  have Ha := Lib.hid ha
  clear ha hb hin
  go_enter Tryz.func328, Tryz.ntmps328
  have e0 := HC.out.c0
  have e1 := HC.out.c1
  go_wp2_with fail
  rw [← HW.out]
  refine (IsGraph_sv HG1.out).mono ?_
  rintro e w4 ⟨rfl, hb4⟩
  clear HW
  clear e0 e1
  replace HB := Lib.hid (HB.out.keep hb4)
  replace HG1 := Lib.hid (HG1.out.keep hb4)
  replace HC := Lib.hid (HC.out.keep hb4)
  clear hb4
  have e0 := HC.out.c0
  have e1 := HC.out.c1
  go_wp2_with fail
  refine (l1In_t (n := a) (lo := 0) (hi := (m : Int) - 1) _ Ha.out.1 Ha.out.2).mono ?_
  rintro e w5 ⟨rfl, hb5⟩
  clear e0 e1
  replace HB := Lib.hid (HB.out.keep hb5)
  replace HG1 := Lib.hid (HG1.out.keep hb5)
  replace HC := Lib.hid (HC.out.keep hb5)
  clear hb5
  have e0 := HC.out.c0
  have e1 := HC.out.c1
  go_wp2_with fail
  refine (l1In_f (n := b) (lo := 0) (hi := (m : Int) - 1) _ hr.out).mono ?_
  rintro e w6 ⟨rfl, hb6⟩
  clear e0 e1
  replace HB := Lib.hid (HB.out.keep hb6)
  replace HG1 := Lib.hid (HG1.out.keep hb6)
  replace HC := Lib.hid (HC.out.keep hb6)
  clear hb6
  have e0 := HC.out.c0
  have e1 := HC.out.c1
  go_wp2
  go_ret2
  exact ⟨_, _, _, by rw [Hn.out]; rfl, HE.out _ HB.out⟩
 ·have hr : Hid (c < 0 ∨ (m : Int) - 1 < c) := by show _ ∨ _; omega
  have Ha := Lib.hid ha
  have Hb := Lib.hid hb
  clear ha hb hin
  go_enter Tryz.func328, Tryz.ntmps328
  have e0 := HC.out.c0
  have e1 := HC.out.c1
  go_wp2_with fail
  rw [← HW.out]
  refine (IsGraph_sv HG1.out).mono ?_
  rintro e w7 ⟨rfl, hb7⟩
  clear HW
  clear e0 e1
  replace HB := Lib.hid (HB.out.keep hb7)
  replace HG1 := Lib.hid (HG1.out.keep hb7)
  replace HC := Lib.hid (HC.out.keep hb7)
  clear hb7
  have e0 := HC.out.c0
  have e1 := HC.out.c1
  go_wp2_with fail
  refine (l1In_t (n := a) (lo := 0) (hi := (m : Int) - 1) _ Ha.out.1 Ha.out.2).mono ?_
  rintro e w8 ⟨rfl, hb8⟩
  clear e0 e1
  replace HB := Lib.hid (HB.out.keep hb8)
  replace HG1 := Lib.hid (HG1.out.keep hb8)
  replace HC := Lib.hid (HC.out.keep hb8)
  clear hb8
  have e0 := HC.out.c0
  have e1 := HC.out.c1
  go_wp2_with fail
  refine (l1In_t (n := b) (lo := 0) (hi := (m : Int) - 1) _ Hb.out.1 Hb.out.2).mono ?_
  rintro e w9 ⟨rfl, hb9⟩
  clear e0 e1
  replace HB := Lib.hid (HB.out.keep hb9)
  replace HG1 := Lib.hid (HG1.out.keep hb9)
  replace HC := Lib.hid (HC.out.keep hb9)
  clear hb9
  have e0 := HC.out.c0
  have e1 := HC.out.c1
  go_wp2_with fail
  refine (l1In_f (n := c) (lo := 0) (hi := (m : Int) - 1) _ hr.out).mono ?_
  rintro e w10 ⟨rfl, hb10⟩
  clear e0 e1
  replace HB := Lib.hid (HB.out.keep hb10)
  replace HG1 := Lib.hid (HG1.out.keep hb10)
  replace HC := Lib.hid (HC.out.keep hb10)
  clear hb10
  have e0 := HC.out.c0
  have e1 := HC.out.c1
  go_wp2
  go_ret2
  exact ⟨_, _, _, by rw [Hn.out]; rfl, HE.out _ HB.out⟩
end
end Go.Proofs.YtfabbohijhjpcaaGreatDoor
