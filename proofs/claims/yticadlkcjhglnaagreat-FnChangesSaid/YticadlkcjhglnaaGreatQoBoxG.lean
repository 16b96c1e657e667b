/-
  Several texts in one.
-/
import Derived.Test.YticadlkcjhglnaaGreatQoSmoS
import Derived.Test.YticadlkcjhglnaaGreatQoDrwA
import Derived.Test.YticadlkcjhglnaaGreatQoPthS
import Derived.Test.YticadlkcjhglnaaGreatQoColS
import Derived.Test.YticadlkcjhglnaaGreatQoCloS
import Derived.Test.YticadlkcjhglnaaGreatQoCluS
import Derived.Test.YticadlkcjhglnaaGreatQoSidS
import Derived.Test.YticadlkcjhglnaaGreatQoIndI
import Derived.Test.YticadlkcjhglnaaGreatQoGA
import Derived.Test.YticadlkcjhglnaaGreatQoDrwI
import Derived.Test.YticadlkcjhglnaaGreatQoFillS
/-
-/
namespace Go.Proofs.YticadlkcjhglnaaGreat
open Go.RowKit
set_option maxHeartbeats 6400000
section
variable (sz : Int) (A : Option Addr) (m c : Nat) (x : Nat → Int) (str : ByteArray) (w : World)
theorem IsChordal_sg (h : GA w A m c x) (hm : m ≤ 1048576) :
 Calls Tryz.prog 29 #[.agg #[.int .i64 sz, .slice A m c]] w fun e w' => e = .returned (.bool (chB sz m x)) ∧ Below w.heap.size w w' := IsChordal_sx sz A m c x w w.heap.size h.rd nr_ hm
theorem IsStronglyChordal_sg (h : GA w A m c x) (hm : m ≤ 1048576) :
 Calls Tryz.prog 58 #[.agg #[.int .i64 sz, .slice A m c]] w fun e w' => e = .returned (.bool (sgB sz m x)) ∧ Below w.heap.size w w' := IsStronglyChordal_s sz A m c x w w.heap.size h.rd nr_ hm
set_option maxRecDepth 100000 in
theorem IsIn_s (h : GA w A m c x) (hm : m ≤ 1048576) :
 Calls Tryz.prog 16 #[.agg #[.int .i64 sz, .slice A m c], .string str] w fun e w' => e = .returned (.bool (isB sz m x str.toList)) ∧ Below w.heap.size w w' := by
 obtain ⟨W, hW, HB, HK, HC⟩ := gaW sz h;have HW := hh_ hW;have HR : Hid (isB sz m x str.toList = isB sz m x str.toList) := rfl;clear hW h;by_cases e0 : str.toList = [99, 104, 111, 114, 100, 97, 108]
 ·have r : Hid (isB sz m x str.toList = chB sz m x) := by show _ = _; unfold isB; rw [if_pos e0]
  have f0 : (str.toList == [99, 104, 111, 114, 100, 97, 108]) = true := by simpa using e0
  clear HR e0;go_enter Tryz.func16, Tryz.ntmps16;obtain ⟨e0, e1⟩ := gc_ HC;go_wp2_with fail
  rw [← HW.out];refine (IsChordal_sg sz A m c x W HK hm).mono ?_;rintro e w1 ⟨rfl, hb1⟩;clear HW;clear e0 e1;obtain ⟨HB, HK, HC, e0, e1⟩ := kC_ HB HK HC hb1;clear hb1;go_wp2;go_ret;exact ⟨ret_bool r.symm, HB.below⟩
 by_cases e1 : str.toList = [105, 110, 116, 101, 114, 118, 97, 108]
 ·have r : Hid (isB sz m x str.toList = ivG sz m x) := by show _ = _; unfold isB; rw [if_neg e0, if_pos e1]
  have f0 : (str.toList == [99, 104, 111, 114, 100, 97, 108]) = false := by simpa using e0
  have f1 : (str.toList == [105, 110, 116, 101, 114, 118, 97, 108]) = true := by simpa using e1
  clear HR e0 e1;go_enter Tryz.func16, Tryz.ntmps16;obtain ⟨e0, e1⟩ := gc_ HC;go_wp2_with fail
  rw [← HW.out];refine (IsInterval_s sz A m c x W HK hm).mono ?_;rintro e w2 ⟨rfl, hb2⟩;clear HW;clear e0 e1;obtain ⟨HB, HK, HC, e0, e1⟩ := kC_ HB HK HC hb2;clear hb2;go_wp2;go_ret;exact ⟨ret_bool r.symm, HB.below⟩
 by_cases e2 : str.toList = [112, 114, 111, 112, 101, 114]
 ·have r : Hid (isB sz m x str.toList = ppB sz m x) := by show _ = _; unfold isB; rw [if_neg e0, if_neg e1, if_pos e2]
  have f0 : (str.toList == [99, 104, 111, 114, 100, 97, 108]) = false := by simpa using e0
  have f1 : (str.toList == [105, 110, 116, 101, 114, 118, 97, 108]) = false := by simpa using e1
  have f2 : (str.toList == [112, 114, 111, 112, 101, 114]) = true := by simpa using e2
  clear HR e0 e1 e2;go_enter Tryz.func16, Tryz.ntmps16;obtain ⟨e0, e1⟩ := gc_ HC;go_wp2_with fail
  rw [← HW.out];refine (IsProper_s sz A m c x W HK hm).mono ?_;rintro e w3 ⟨rfl, hb3⟩;clear HW;clear e0 e1;obtain ⟨HB, HK, HC, e0, e1⟩ := kC_ HB HK HC hb3;clear hb3;go_wp2;go_ret;exact ⟨ret_bool r.symm, HB.below⟩
 by_cases e3 : str.toList = [99, 111, 103, 114, 97, 112, 104]
 ·have r : Hid (isB sz m x str.toList = cgB sz m x) := by show _ = _; unfold isB; rw [if_neg e0, if_neg e1, if_neg e2, if_pos e3]
  have f0 : (str.toList == [99, 104, 111, 114, 100, 97, 108]) = false := by simpa using e0
  have f1 : (str.toList == [105, 110, 116, 101, 114, 118, 97, 108]) = false := by simpa using e1
  have f2 : (str.toList == [112, 114, 111, 112, 101, 114]) = false := by simpa using e2
  have f3 : (str.toList == [99, 111, 103, 114, 97, 112, 104]) = true := by simpa using e3
  clear HR e0 e1 e2 e3;go_enter Tryz.func16, Tryz.ntmps16;obtain ⟨e0, e1⟩ := gc_ HC;go_wp2_with fail
  rw [← HW.out];refine (IsCograph_s sz A m c x W HK hm).mono ?_;rintro e w4 ⟨rfl, hb4⟩;clear HW;clear e0 e1;obtain ⟨HB, HK, HC, e0, e1⟩ := kC_ HB HK HC hb4;clear hb4;go_wp2;go_ret;exact ⟨ret_bool r.symm, HB.below⟩
 by_cases e4 : str.toList = [115, 112, 108, 105, 116]
 ·have r : Hid (isB sz m x str.toList = slB sz m x) := by show _ = _; unfold isB; rw [if_neg e0, if_neg e1, if_neg e2, if_neg e3, if_pos e4]
  have f0 : (str.toList == [99, 104, 111, 114, 100, 97, 108]) = false := by simpa using e0
  have f1 : (str.toList == [105, 110, 116, 101, 114, 118, 97, 108]) = false := by simpa using e1
  have f2 : (str.toList == [112, 114, 111, 112, 101, 114]) = false := by simpa using e2
  have f3 : (str.toList == [99, 111, 103, 114, 97, 112, 104]) = false := by simpa using e3
  have f4 : (str.toList == [115, 112, 108, 105, 116]) = true := by simpa using e4
  clear HR e0 e1 e2 e3 e4;go_enter Tryz.func16, Tryz.ntmps16;obtain ⟨e0, e1⟩ := gc_ HC;go_wp2_with fail
  rw [← HW.out];refine (IsSplit_s sz A m c x W HK hm).mono ?_;rintro e w5 ⟨rfl, hb5⟩;clear HW;clear e0 e1;obtain ⟨HB, HK, HC, e0, e1⟩ := kC_ HB HK HC hb5;clear hb5;go_wp2;go_ret;exact ⟨ret_bool r.symm, HB.below⟩
 by_cases e5 : str.toList = [116, 104, 114, 101, 115, 104, 111, 108, 100]
 ·have r : Hid (isB sz m x str.toList = toB sz m x) := by show _ = _; unfold isB; rw [if_neg e0, if_neg e1, if_neg e2, if_neg e3, if_neg e4, if_pos e5]
  have f0 : (str.toList == [99, 104, 111, 114, 100, 97, 108]) = false := by simpa using e0
  have f1 : (str.toList == [105, 110, 116, 101, 114, 118, 97, 108]) = false := by simpa using e1
  have f2 : (str.toList == [112, 114, 111, 112, 101, 114]) = false := by simpa using e2
  have f3 : (str.toList == [99, 111, 103, 114, 97, 112, 104]) = false := by simpa using e3
  have f4 : (str.toList == [115, 112, 108, 105, 116]) = false := by simpa using e4
  have f5 : (str.toList == [116, 104, 114, 101, 115, 104, 111, 108, 100]) = true := by simpa using e5
  clear HR e0 e1 e2 e3 e4 e5;go_enter Tryz.func16, Tryz.ntmps16;obtain ⟨e0, e1⟩ := gc_ HC;go_wp2_with fail
  rw [← HW.out];refine (IsThreshold_s sz A m c x W HK hm).mono ?_;rintro e w6 ⟨rfl, hb6⟩;clear HW;clear e0 e1;obtain ⟨HB, HK, HC, e0, e1⟩ := kC_ HB HK HC hb6;clear hb6;go_wp2;go_ret;exact ⟨ret_bool r.symm, HB.below⟩
 by_cases e6 : str.toList = [98, 105, 112, 97, 114, 116, 105, 116, 101]
 ·have r : Hid (isB sz m x str.toList = biB sz m x) := by show _ = _; unfold isB; rw [if_neg e0, if_neg e1, if_neg e2, if_neg e3, if_neg e4, if_neg e5, if_pos e6]
  have f0 : (str.toList == [99, 104, 111, 114, 100, 97, 108]) = false := by simpa using e0
  have f1 : (str.toList == [105, 110, 116, 101, 114, 118, 97, 108]) = false := by simpa using e1
  have f2 : (str.toList == [112, 114, 111, 112, 101, 114]) = false := by simpa using e2
  have f3 : (str.toList == [99, 111, 103, 114, 97, 112, 104]) = false := by simpa using e3
  have f4 : (str.toList == [115, 112, 108, 105, 116]) = false := by simpa using e4
  have f5 : (str.toList == [116, 104, 114, 101, 115, 104, 111, 108, 100]) = false := by simpa using e5
  have f6 : (str.toList == [98, 105, 112, 97, 114, 116, 105, 116, 101]) = true := by simpa using e6
  clear HR e0 e1 e2 e3 e4 e5 e6;go_enter Tryz.func16, Tryz.ntmps16;obtain ⟨e0, e1⟩ := gc_ HC;go_wp2_with fail
  rw [← HW.out];refine (IsBipartite_s sz A m c x W HK hm).mono ?_;rintro e w7 ⟨rfl, hb7⟩;clear HW;clear e0 e1;obtain ⟨HB, HK, HC, e0, e1⟩ := kC_ HB HK HC hb7;clear hb7;go_wp2;go_ret;exact ⟨ret_bool r.symm, HB.below⟩
 by_cases e7 : str.toList = [115, 116, 114, 111, 110, 103]
 ·have r : Hid (isB sz m x str.toList = sgB sz m x) := by show _ = _; unfold isB; rw [if_neg e0, if_neg e1, if_neg e2, if_neg e3, if_neg e4, if_neg e5, if_neg e6, if_pos e7]
  have f0 : (str.toList == [99, 104, 111, 114, 100, 97, 108]) = false := by simpa using e0
  have f1 : (str.toList == [105, 110, 116, 101, 114, 118, 97, 108]) = false := by simpa using e1
  have f2 : (str.toList == [112, 114, 111, 112, 101, 114]) = false := by simpa using e2
  have f3 : (str.toList == [99, 111, 103, 114, 97, 112, 104]) = false := by simpa using e3
  have f4 : (str.toList == [115, 112, 108, 105, 116]) = false := by simpa using e4
  have f5 : (str.toList == [116, 104, 114, 101, 115, 104, 111, 108, 100]) = false := by simpa using e5
  have f6 : (str.toList == [98, 105, 112, 97, 114, 116, 105, 116, 101]) = false := by simpa using e6
  have f7 : (str.toList == [115, 116, 114, 111, 110, 103]) = true := by simpa using e7
  clear HR e0 e1 e2 e3 e4 e5 e6 e7;go_enter Tryz.func16, Tryz.ntmps16;obtain ⟨e0, e1⟩ := gc_ HC;go_wp2_with fail
  rw [← HW.out];refine (IsStronglyChordal_sg sz A m c x W HK hm).mono ?_;rintro e w8 ⟨rfl, hb8⟩;clear HW;clear e0 e1;obtain ⟨HB, HK, HC, e0, e1⟩ := kC_ HB HK HC hb8;clear hb8;go_wp2;go_ret;exact ⟨ret_bool r.symm, HB.below⟩
 by_cases e8 : str.toList = [112, 101, 114, 102, 101, 99, 116]
 ·have r : Hid (isB sz m x str.toList = peB sz m x) := by show _ = _; unfold isB; rw [if_neg e0, if_neg e1, if_neg e2, if_neg e3, if_neg e4, if_neg e5, if_neg e6, if_neg e7, if_pos e8]
  have f0 : (str.toList == [99, 104, 111, 114, 100, 97, 108]) = false := by simpa using e0
  have f1 : (str.toList == [105, 110, 116, 101, 114, 118, 97, 108]) = false := by simpa using e1
  have f2 : (str.toList == [112, 114, 111, 112, 101, 114]) = false := by simpa using e2
  have f3 : (str.toList == [99, 111, 103, 114, 97, 112, 104]) = false := by simpa using e3
  have f4 : (str.toList == [115, 112, 108, 105, 116]) = false := by simpa using e4
  have f5 : (str.toList == [116, 104, 114, 101, 115, 104, 111, 108, 100]) = false := by simpa using e5
  have f6 : (str.toList == [98, 105, 112, 97, 114, 116, 105, 116, 101]) = false := by simpa using e6
  have f7 : (str.toList == [115, 116, 114, 111, 110, 103]) = false := by simpa using e7
  have f8 : (str.toList == [112, 101, 114, 102, 101, 99, 116]) = true := by simpa using e8
  clear HR e0 e1 e2 e3 e4 e5 e6 e7 e8;go_enter Tryz.func16, Tryz.ntmps16;obtain ⟨e0, e1⟩ := gc_ HC;go_wp2_with fail
  rw [← HW.out];refine (IsPerfect_s sz A m c x W HK hm).mono ?_;rintro e w9 ⟨rfl, hb9⟩;clear HW;clear e0 e1;obtain ⟨HB, HK, HC, e0, e1⟩ := kC_ HB HK HC hb9;clear hb9;go_wp2;go_ret;exact ⟨ret_bool r.symm, HB.below⟩
 have r : Hid (isB sz m x str.toList = false) := by show _ = _; unfold isB; rw [if_neg e0, if_neg e1, if_neg e2, if_neg e3, if_neg e4, if_neg e5, if_neg e6, if_neg e7, if_neg e8]
 have f0 : (str.toList == [99, 104, 111, 114, 100, 97, 108]) = false := by simpa using e0
 have f1 : (str.toList == [105, 110, 116, 101, 114, 118, 97, 108]) = false := by simpa using e1
 have f2 : (str.toList == [112, 114, 111, 112, 101, 114]) = false := by simpa using e2
 have f3 : (str.toList == [99, 111, 103, 114, 97, 112, 104]) = false := by simpa using e3
 have f4 : (str.toList == [115, 112, 108, 105, 116]) = false := by simpa using e4
 have f5 : (str.toList == [116, 104, 114, 101, 115, 104, 111, 108, 100]) = false := by simpa using e5
 have f6 : (str.toList == [98, 105, 112, 97, 114, 116, 105, 116, 101]) = false := by simpa using e6
 have f7 : (str.toList == [115, 116, 114, 111, 110, 103]) = false := by simpa using e7
 have f8 : (str.toList == [112, 101, 114, 102, 101, 99, 116]) = false := by simpa using e8
 clear e0 e1 e2 e3 e4 e5 e6 e7 e8;go_enter Tryz.func16, Tryz.ntmps16;go_wp2;rw [← HW.out];go_ret;exact ⟨ret_bool r.symm, HB.below⟩
end
theorem fwK_least {p : Nat → Bool} : ∀ k b, fwK p k = some b → ∀ s, s < k → p s = true → cn b ≤ cn s ∧ (s < b → cn b < cn s) := by
 intro k;induction k with
 | zero => intro b h; cases h
 | succ k ih =>
   intro b h s hs hps;by_cases hc : (((fwK p k).all fun b => decide (cn k < cn b)) && p k) = true
   ·rw [fwK, if_pos hc] at h;injection h with h
    subst h;rw [Bool.and_eq_true] at hc;by_cases hsk : s = k
    ·subst hsk; exact ⟨nr_, fun h => absurd h (by omega)⟩
    ·cases e : fwK p k with
     | none => exact absurd e (fwK_some k s (by omega) hps)
     | some b' =>
       have h1 := hc.1;rw [e] at h1;have h2 : cn k < cn b' := by simpa using h1
       have h3 := (ih b' e s (by omega) hps).1;exact ⟨by omega, fun _ => by omega⟩
   ·rw [fwK, if_neg hc] at h;have hbk := fwK_lt k b h;by_cases hsk : s = k
    ·subst hsk;rw [h, hps] at hc;have h2 : ¬ cn s < cn b := by simpa using hc
     exact ⟨by omega, fun h => by omega⟩
    ·exact ih b h s (by omega) hps
theorem fwK_is {p : Nat → Bool} {n b : Nat} (hb : b < n) (hp : p b = true) (h : ∀ s, s < n → p s = true → cn b ≤ cn s ∧ (s < b → cn b < cn s)) : fwK p n = some b := by
 cases e : fwK p n with
 | none => exact absurd e (fwK_some n b hb hp)
 | some d =>
   obtain ⟨hd, hpd⟩ := fwK_lt n d e;have h1 := fwK_least n d e b hb hp;have h2 := h d hd hpd;rcases Nat.lt_trichotomy b d with h3 | h3 | h3
   ·have := h1.2 h3; omega
   ·rw [h3]
   ·have := h2.2 h3; omega
theorem fwK_none {p : Nat → Bool} {n : Nat} (h : ∀ s, s < n → p s = false) : fwK p n = none := by
 cases e : fwK p n with
 | none => rfl
 | some b => obtain ⟨h1, h2⟩ := fwK_lt n b e; rw [h b h1] at h2; cases h2
theorem cn_full_table : ∀ m, m < 8 → ∀ s, s < 2 ^ m - 1 → cn s < m := by decide +kernel
theorem fw_found {p : Nat → Bool} {m n k : Nat} (hk : k < 2 ^ m - 1) (hn : cn k = n) (hp : p k = true) (hout : ∀ s, s < 2 ^ m - 1 → cn s < n → p s = false) (hin : ∀ s, s < k → cn s = n → p s = false) (hfull : p (2 ^ m - 1) = false) : fwK p (2 ^ m) = some k := by
 refine fwK_is (by omega) hp fun s hs hps => ?_
 have hne : s < 2 ^ m - 1 := by
  rcases (by omega : s < 2 ^ m - 1 ∨ s = 2 ^ m - 1) with h | h
  ·exact h
  ·rw [h, hfull] at hps; cases hps
 have h1 : n ≤ cn s := by
  rcases Nat.lt_or_ge (cn s) n with h | h
  ·rw [hout s hne h] at hps; cases hps
  ·exact h
 refine ⟨by omega, fun hsk => ?_⟩;rcases (by omega : cn s = n ∨ n < cn s) with h | h
 ·rw [hin s hsk h] at hps; cases hps
 ·omega
theorem fw_never {p : Nat → Bool} {m : Nat} (hm : m ≤ 7) (hout : ∀ s, s < 2 ^ m - 1 → cn s < m → p s = false) (hfull : p (2 ^ m - 1) = false) : fwK p (2 ^ m) = none := by
 refine fwK_none fun s hs => ?_
 rcases (by omega : s < 2 ^ m - 1 ∨ s = 2 ^ m - 1) with h | h
 ·exact hout s h (cn_full_table m (by omega) s h)
 ·rw [h]; exact hfull
noncomputable def isV (r : Nat → Nat) (m : Nat) (s : List UInt8) : Bool := isB (m : Int) m (fun v => (r v : Int)) s
noncomputable def inV (r : Nat → Nat) (s : List UInt8) (t : Nat) : Bool := isV (inR r t) (cn t) s
section
variable {A : Option Addr} {m c : Nat} {r : Nat → Nat} {w : World} {s : Nat}
theorem IsIn_v (h : GV w A m c r) (str : ByteArray) : Calls Tryz.prog 91 #[.agg #[.int .i64 m, .slice A m c], .string str] w fun e w' => e = .returned (.bool (isV r m str.toList)) ∧ Below w.heap.size w w' :=
 IsIn_i m A m c _ str w h.ga (by have := h.vg.n7; omega)
theorem IsIn_sv (h : GV w A m c r) (str : ByteArray) : Calls Tryz.prog 16 #[.agg #[.int .i64 m, .slice A m c], .string str] w fun e w' => e = .returned (.bool (isV r m str.toList)) ∧ Below w.heap.size w w' :=
 IsIn_s m A m c _ str w h.ga (by have := h.vg.n7; omega)
end
theorem nodup_pr (n : Nat) : (pr n).Nodup := by
 unfold pr List.Nodup;rw [List.pairwise_flatMap];refine ⟨fun v _ => ?_, List.Pairwise.imp ?_ List.pairwise_lt_range⟩
 ·unfold prRow;rw [List.pairwise_map];refine List.Pairwise.imp ?_ List.pairwise_lt_range';rintro a b hab ⟨⟩;omega
 ·intro a b hab p hp q hq e;unfold prRow at hp hq;rw [List.mem_map] at hp hq;obtain ⟨_, _, rfl⟩ := hp;obtain ⟨_, _, rfl⟩ := hq;injection e with e
  omega
def swE (r s : Nat → Nat) (m : Nat) : List (Nat × Nat) := ((pr m).filter fun p => (s p.1).testBit p.2).filter fun p => !(r p.1).testBit p.2
theorem swE_new (r s : Nat → Nat) (m : Nat) : EdN r m (swE r s m) := by
 refine ⟨fun p hp => ?_, fun p hp => ?_, ?_⟩
 ·unfold swE at hp;exact mem_pr.1 (List.mem_filter.1 (List.mem_filter.1 hp).1).1
 ·unfold swE at hp;have := (List.mem_filter.1 hp).2;simpa using this
 ·exact List.Pairwise.filter _ (List.Pairwise.filter _ (nodup_pr m))
section
variable (r : Nat → Nat) (m : Nat) (E : List (Nat × Nat)) (s : List UInt8)
end
section
variable {r : Nat → Nat} {m : Nat} {E : List (Nat × Nat)} {s : List UInt8}
end
open Go.ChangeShapes Go.WideShapes Go.ChangeAt Go.RowKit Go.Deep
structure BX (w : World) (A : Option Addr) (n c : Nat) : Prop where
 b : By w w.heap.size A n c
theorem BX.keep {w w' : World} {A : Option Addr} {n c : Nat} (h : BX w A n c) (hb : Below w.heap.size w w') : BX w' A n c := ⟨h.b.keep hb hb.size⟩
section
variable {H : Type} {enc : TypeId × Value → H} {w : World} {base : Nat} {spare : Nat → Bool} {held : Bool}
set_option maxRecDepth 100000 in
theorem open_bytes_arg {r : Reach} {b0 : Nat} {vv : Value} {d : DataW H} {p : List MemPlace} (_hv : Value.okWide Tryz.prog w r b0 22 vv)
 (h : DataW.Trod enc Tryz.prog w base spare held 22 vv d p) : ∃ A n c, vv = .slice A n c ∧ BX w A n c ∧ n ≤ maxLen := by
 obtain ⟨A0, n0, c0, rfl⟩ := okWide_slice Tryz.underlying22 _hv;obtain ⟨fuel, hf⟩ := h;rcases open_ints Tryz.underlying22 Tryz.underlying5 (by kernel_rfl) hf with ⟨hcs, _⟩ | ⟨a, l, c, zs, hcs, _, hl, hm, hz, _, hcell, hwz⟩
 ·simp [Value.cells] at hcs;obtain ⟨rfl, rfl, rfl⟩ := hcs;exact ⟨none, 0, 0, rfl, ⟨⟨nr_, fun h => absurd h (by omega)⟩⟩, Nat.zero_le _⟩
 ·simp [Value.cells] at hcs;obtain ⟨rfl, rfl, rfl⟩ := hcs;refine ⟨some a, n0, c0, rfl, ⟨⟨hl, fun hn => ?_⟩⟩, by omega⟩;have hzl : n0 ≤ zs.length := by rw [hz]; split <;> omega
  obtain ⟨b, o, s⟩ := a;have h0 := hcell 0 (by omega);have hs : s = none := by simpa [Addr.add] using World.cell?_spot h0
  subst hs;have hadd : ∀ k, (⟨b, o, none⟩ : Addr).add k = ⟨b, o + k, none⟩ := fun k => by unfold Addr.add; split <;> simp_all
  simp only [hadd] at hcell h0;refine ⟨b, o, rfl, World.block_lt_of_cell? w _ h0, fun j hj => ?_⟩;have hj2 : j < zs.length := by omega
  have hb := bounds_u8 (hwz (zs.getD j 0) (by simp [List.getD, hj2]));refine ⟨(zs.getD j 0).toNat, by omega, ?_⟩;rw [hcell j hj2, Int.toNat_of_nonneg hb.1]
end
theorem big_s (A : Option Addr) (n c : Nat) (w : World) (hn : n ≤ maxLen) :
 Calls Tryz.prog 5 #[.slice A n c] w fun e w' => e = .returned (.bool (decide (1048576 < n))) ∧ w' = w := by
 unfold maxLen at hn;go_enter Tryz.func5, Tryz.ntmps5;go_wp2;go_ret;exact ⟨ret_bool (decide_eq_decide.2 (by omega)), rfl⟩
structure GX (W : World) (q : Nat) (s : Int) (A : Option Addr) (m c : Nat) (x : Nat → Int) : Prop where
 c0 : W.cell? ⟨q, 0, none⟩ = some (.int .i64 s)
 c1 : W.cell? ⟨q, 1, none⟩ = some (.slice A m c)
 a : GA W A m c x
section
variable {w w' : World} {q m1 c1 m2 c2 m3 c3 : Nat} {s1 s2 s3 : Int} {A1 A2 A3 : Option Addr} {x1 x2 x3 : Nat → Int}
theorem GX.keep (h : GX w q s1 A1 m1 c1 x1) (hb : Below w.heap.size w w') : GX w' q s1 A1 m1 c1 x1 := ⟨up hb h.c0 (World.block_lt_of_cell? _ _ h.c0), up hb h.c1 (World.block_lt_of_cell? _ _ h.c1), h.a.keep hb⟩
theorem GX.new (h : GA w A1 m1 c1 x1) : GX (w.alloc (Obj.cells #[.int .i64 s1, .slice A1 m1 c1] 26)) w.heap.size s1 A1 m1 c1 x1 :=
 ⟨by simp [go_sem], by simp [go_sem], h.keep (br_.alloc nr_ _)⟩
theorem GX.two (h1 : GA w A1 m1 c1 x1) (h2 : GA w A2 m2 c2 x2) :
 GX ((w.alloc (Obj.cells #[.int .i64 s1, .slice A1 m1 c1] 26)).alloc (Obj.cells #[.int .i64 s2, .slice A2 m2 c2] 26)) w.heap.size s1 A1 m1 c1 x1 ∧ GX ((w.alloc (Obj.cells #[.int .i64 s1, .slice A1 m1 c1] 26)).alloc (Obj.cells #[.int .i64 s2, .slice A2 m2 c2] 26)) (w.heap.size + 1) s2 A2 m2 c2 x2 ∧ Below w.heap.size w ((w.alloc (Obj.cells #[.int .i64 s1, .slice A1 m1 c1] 26)).alloc (Obj.cells #[.int .i64 s2, .slice A2 m2 c2] 26)) := by
 have hb : Below w.heap.size w ((w.alloc (Obj.cells #[.int .i64 s1, .slice A1 m1 c1] 26)).alloc (Obj.cells #[.int .i64 s2, .slice A2 m2 c2] 26)) := (br_.alloc nr_ _).alloc (by simp) _;exact ⟨⟨by simp [go_sem], by simp [go_sem], h1.keep hb⟩, ⟨by simp [go_sem], by simp [go_sem], h2.keep hb⟩, hb⟩
theorem GX.three (h1 : GA w A1 m1 c1 x1) (h2 : GA w A2 m2 c2 x2) (h3 : GA w A3 m3 c3 x3) {W : World} (hW : W = (((w.alloc (Obj.cells #[.int .i64 s1, .slice A1 m1 c1] 26)).alloc (Obj.cells #[.int .i64 s2, .slice A2 m2 c2] 26)).alloc (Obj.cells #[.int .i64 s3, .slice A3 m3 c3] 26))) :
 GX W w.heap.size s1 A1 m1 c1 x1 ∧ GX W (w.heap.size + 1) s2 A2 m2 c2 x2 ∧ GX W (w.heap.size + 2) s3 A3 m3 c3 x3 ∧ Below w.heap.size w W := by
 have hb : Below w.heap.size w W := by rw [hW]; exact ((br_.alloc nr_ _).alloc (by simp) _).alloc (by simp; omega) _
 refine ⟨⟨?_, ?_, h1.keep hb⟩, ⟨?_, ?_, h2.keep hb⟩, ⟨?_, ?_, h3.keep hb⟩, hb⟩ <;> (rw [hW]; simp [go_sem])
end
end Go.Proofs.YticadlkcjhglnaaGreat
