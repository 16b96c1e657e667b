/-
  Several texts in one.
-/
import Derived.Test.YticadlkcjhglnaaGreatQoSet2S
import Derived.Test.YticadlkcjhglnaaGreatQoGC
/-
-/
namespace Go.Proofs.YticadlkcjhglnaaGreat
open Go.RowKit
set_option maxHeartbeats 1600000
structure LI (w : World) (A : Option Addr) (n c : Nat) (l : List Int) : Prop where
 len : n = l.length
 rd : Rd w w.heap.size A n c (fun j => l.getD j 0)
theorem LI.keep {w w' : World} {A : Option Addr} {n c : Nat} {l : List Int} (h : LI w A n c l) (hb : Below w.heap.size w w') : LI w' A n c l := ⟨h.len, h.rd.keep hb hb.size⟩
theorem LI.drew {w : World} {A : Option Addr} {n c : Nat} {l : List Int} (h : LI w A n c l) : LI w.drew A n c l := ⟨h.len, h.rd⟩
theorem LI.of {w : World} {B : Nat} {A : Option Addr} {n c : Nat} {x : Nat → Int} (h : Rd w B A n c x) (hB : B ≤ w.heap.size) : LI w A n c ((List.range n).map x) :=
 ⟨by simp, (h.keep br_ hB).congr (fun k hk => by simp [List.getD, hk])⟩
theorem LI.addr {w : World} {A : Option Addr} {n c : Nat} {l : List Int} (h : LI w A n c l) (hn : 0 < n) : ∃ b o, A = some ⟨b, o, none⟩ := by
 obtain ⟨b, o, e, _⟩ := h.rd.pos hn;exact ⟨b, o, e⟩
theorem LI.at {w : World} {b o n c j : Nat} {l : List Int} (h : LI w (some ⟨b, o, none⟩) n c l) (hj : j < n) : w.cell? ⟨b, o + j, none⟩ = some (.int .i64 (l.getD j 0)) := by
 obtain ⟨b', o', e, _, hc⟩ := h.rd.pos (by omega);simp only [Option.some.injEq, Addr.mk.injEq, and_true] at e;obtain ⟨rfl, rfl⟩ := e;exact hc j hj
theorem LI.take {w : World} {A : Option Addr} {n c k : Nat} {l : List Int} (h : LI w A n c l) (hk : k ≤ n) : LI w A k c (l.take k) :=
 ⟨by rw [List.length_take, ← h.len]; omega, by have := h.rd.1; omega, fun hn => by
   obtain ⟨b, o, e, hb, hc⟩ := h.rd.2 (by omega)
   refine ⟨b, o, e, hb, fun j hj => ?_⟩
   rw [hc j (by omega)]
   simp [List.getD, hj]⟩
theorem getD_mem {l : List Int} {k : Nat} (h : k < l.length) : l.getD k 0 ∈ l := by simp [List.getD, h]
theorem fIdz_in {l : List Int} {v : Int} (h : v ∈ l) : ∃ k : Nat, k < l.length ∧ fIdx (fun j => l.getD j 0 == v) l.length = (k : Int) := by
 unfold fIdx;cases hf : (List.range l.length).find? (fun j => l.getD j 0 == v) with
 | some k => exact ⟨k, by have := List.mem_of_find?_eq_some hf; simpa using this, rfl⟩
 | none =>
   exfalso;rw [List.find?_eq_none] at hf;obtain ⟨i, hi, rfl⟩ := List.mem_iff_getElem.1 h;have := hf i (List.mem_range.2 hi);simp [List.getD, hi] at this
theorem fIdz_out {l : List Int} {v : Int} (h : v ∉ l) : fIdx (fun j => l.getD j 0 == v) l.length = -1 := by
 refine fIdx_no fun j hj => ?_
 have : l[j] ≠ v := fun e => h (e ▸ List.getElem_mem hj)
 simpa [List.getD, hj] using this
theorem Index_z (A : Option Addr) (n c : Nat) (l : List Int) (v : Int) (w : World) (h : LI w A n c l) (hl : n ≤ 1048576) :
 Calls Tryz.prog 165 #[.slice A n c, .int .i64 v] w fun e w' => e = .returned (.int .i64 (fIdx (fun j => l.getD j 0 == v) l.length)) ∧ w = w' := by
 have HR := hh_ h;have HN := hh_ h.len;clear h;go_enter Tryz.func165, Tryz.ntmps165;go_wp2;go_loop [8] (fun i => ∃ k : Nat, k ≤ n ∧ i = .int .i64 k ∧ Hid (∀ j, j < k → (l.getD j 0 == v) = false)) (fun i => n - (intOf i).toNat);case atStart => exact ⟨0, Nat.zero_le _, rfl, (fun j hj => absurd hj (by omega))⟩
 case round =>
  obtain ⟨k, hk, rfl, hall⟩ := hrel;by_cases hlt : k < n
  ·obtain ⟨b, o, rfl⟩ := HR.addr (by omega);have q0 := HR.at hlt;obtain ⟨u, hu⟩ : ∃ u : Int, u = l.getD k 0 := ⟨_, rfl⟩;rw [← hu] at q0;have Hu := hh_ hu;have i1 : (k : Int) < n := by omega
   clear hu;by_cases hp : v = u
   ·have Hi : Hid (fIdx (fun j => l.getD j 0 == v) l.length = k) := fIdx_yes (by rw [← HN.out]; exact hlt) (by show (l.getD k 0 == v) = true; rw [← Hu.out, hp]; simp) hall.out;subst hp;go_wp2;go_ret;exact ⟨ret_int Hi.symm, rfl⟩
   ·have hne : (v == u) = false := by simpa using hp
    have hne2 : (v = u) = False := by simp [hp]
    have Hp : Hid ((l.getD k 0 == v) = false) := by show _ = _; rw [← Hu.out]; simpa using fun e => hp e.symm
    clear hp;go_wp2;go_round;case rel =>
     refine ⟨k + 1, by omega, by go_num, fun j hj => ?_⟩;by_cases hjk : j < k
     ·exact hall.out j hjk
     ·obtain rfl : j = k := by omega
      exact Hp.out
    case measure => simp [intOf]; omega
  ·have Hi : Hid (fIdx (fun j => l.getD j 0 == v) l.length = -1) := fIdx_no fun j hj => hall.out j (by rw [← HN.out] at hj; omega)
   have i1 : (n : Int) ≤ k := by omega
   go_wp2;go_ret;exact ⟨ret_int Hi.symm, rfl⟩
theorem Contains_z (A : Option Addr) (n c : Nat) (l : List Int) (v : Int) (w : World) (h : LI w A n c l) (hl : n ≤ 1048576) :
 Calls Tryz.prog 162 #[.slice A n c, .int .i64 v] w fun e w' => e = .returned (.bool (decide (v ∈ l))) ∧ w = w' := by
 have HI := hh_ (Index_z A n c l v w h hl);clear h;by_cases hv : v ∈ l
 ·obtain ⟨k, _, hk⟩ := fIdz_in hv;rw [hk] at HI;have Hd : Hid (decide (v ∈ l) = true) := decide_eq_true hv;have k0 : (0 : Int) ≤ k := by omega
  clear hk hv;go_enter Tryz.func162, Tryz.ntmps162;go_wp2_with fail
  refine HI.mono ?_;rintro e w' ⟨rfl, rfl⟩;go_wp2;go_ret;exact ⟨ret_bool Hd.symm, rfl⟩
 ·rw [fIdz_out hv] at HI;have Hd : Hid (decide (v ∈ l) = false) := decide_eq_false hv;clear hv;go_enter Tryz.func162, Tryz.ntmps162;go_wp2_with fail
  refine HI.mono ?_;rintro e w' ⟨rfl, rfl⟩;go_wp2;go_ret;exact ⟨ret_bool Hd.symm, rfl⟩
theorem nodup_lenz : ∀ {m : Nat} {l : List Nat}, l.Nodup → (∀ v ∈ l, v < m) → l.length ≤ m := by
 intro m;induction m with
 | zero =>
   intro l _ h;cases l with
   | nil => exact nr_
   | cons a l => exact absurd (h a (by simp)) (by omega)
 | succ m ih =>
   intro l hn h;by_cases hm : m ∈ l
   ·have h1 := ih (hn.erase m) (fun v hv => by
     have := (hn.mem_erase_iff).1 hv;have := h v this.2;omega)
    rw [List.length_erase_of_mem hm] at h1;omega
   ·have := ih hn (fun v hv => by
     have h1 := h v hv;have : v ≠ m := fun e => hm (e ▸ hv)
     omega)
    omega
theorem map_nodup {l : List Int} (hn : l.Nodup) (h : ∀ v ∈ l, 0 ≤ v) : (l.map Int.toNat).Nodup := by
 induction l with
 | nil => exact List.nodup_nil
 | cons a l ih =>
   rw [List.nodup_cons] at hn;rw [List.map_cons, List.nodup_cons];refine ⟨fun hm => ?_, ih hn.2 (fun v hv => h v (by simp [hv]))⟩;obtain ⟨b, hb, e⟩ := List.mem_map.1 hm;have h1 := h b (by simp [hb]);have h2 := h a (by simp);have : a = b := by omega
   exact hn.1 (this ▸ hb)
def VZ (m : Nat) (l : List Int) : Prop := l.Nodup ∧ ∀ v ∈ l, 0 ≤ v ∧ v < m
noncomputable def vzB (m : Nat) (l : List Int) : Bool := @decide (VZ m l) (Classical.propDecidable _)
theorem vzB_yes {m : Nat} {l : List Int} (h : VZ m l) : vzB m l = true := @decide_eq_true _ (Classical.propDecidable _) h
theorem vzB_no {m : Nat} {l : List Int} (h : ¬ VZ m l) : vzB m l = false := @decide_eq_false _ (Classical.propDecidable _) h
theorem vzB_iff {m : Nat} {l : List Int} : vzB m l = true ↔ VZ m l := ⟨(fun h => Classical.byContradiction fun h2 => by rw [vzB_no h2] at h; cases h), vzB_yes⟩
noncomputable def vrB (sz : Int) (m : Nat) (x : Nat → Int) (l : List Int) : Bool := okB sz m x && vzB m l
theorem vrB_bad {sz : Int} {m : Nat} {x : Nat → Int} {l : List Int} (h : okB sz m x = false) : vrB sz m x l = false := by unfold vrB; rw [h]; rfl
theorem vrB_ok {sz : Int} {m : Nat} {x : Nat → Int} {l : List Int} (h : okB sz m x = true) : vrB sz m x l = vzB m l := by unfold vrB; rw [h]; rfl
theorem nodupz_take {l : List Int} {k : Nat} (hk : k < l.length) (h : (l.take k).Nodup) (hn : l.getD k 0 ∉ l.take k) : (l.take (k + 1)).Nodup := by
 have e : l.getD k 0 = l[k] := by simp [List.getD, hk]
 rw [e] at hn;rw [List.take_succ_eq_append_getElem hk, List.nodup_append];exact ⟨h, by simp, fun a ha b hb e => by rw [List.mem_singleton] at hb; subst hb; subst e; exact hn ha⟩
theorem not_nodupz {l : List Int} {k : Nat} (hk : k < l.length) (hn : l.getD k 0 ∈ l.take k) : ¬ l.Nodup := by
 intro h;have e : l.getD k 0 = l[k] := by simp [List.getD, hk]
 rw [e] at hn;have h2 : (l.take (k + 1)).Nodup := h.sublist (List.take_sublist _ _);rw [List.take_succ_eq_append_getElem hk, List.nodup_append] at h2;exact h2.2.2 _ hn _ (List.mem_singleton_self _) rfl
theorem VZ.len {m : Nat} {l : List Int} (h : VZ m l) : l.length ≤ m := by
 have e : (l.map Int.toNat).length = l.length := by simp
 rw [← e];refine nodup_lenz ?_ ?_
 ·exact map_nodup h.1 (fun v hv => (h.2 v hv).1)
 ·intro v hv;obtain ⟨u, hu, rfl⟩ := List.mem_map.1 hv;have := h.2 u hu; omega
theorem areVertices_z (sz : Int) (A : Option Addr) (m c : Nat) (x : Nat → Int) (Al : Option Addr) (n cl : Nat) (l : List Int) (w : World) (h : GA w A m c x) (hl : LI w Al n cl l) (hm : m ≤ 1048576) (hn : n ≤ 1048576) :
 Calls Tryz.prog 163 #[.agg #[.int .i64 sz, .slice A m c], .slice Al n cl] w fun e w' => e = .returned (.bool (vrB sz m x l)) ∧ Below w.heap.size w w' := by
 obtain ⟨W, hW⟩ : ∃ W, W = (w.alloc (Obj.cells #[.int .i64 sz, .slice A m c] 26)) := ⟨_, rfl⟩;have HB : Hid (From w W) := by rw [hW]; exact From.alloc _ _
 have HK := hh_ (h.keep HB.below);have HL := hh_ (hl.keep HB.below);have HC : Hid (GC W w.heap.size sz A m c) := by rw [hW]; exact GC.new _ _ _ _ _
 have HW := hh_ hW;have HN := hh_ hl.len;have hcap : n ≤ cl := hl.rd.1;obtain ⟨e0, e1⟩ := gc_ HC;clear hW h hl;cases ho : okB sz m x
 ·have hno : Hid (vrB sz m x l = false) := vrB_bad ho;have Ho := hh_ ho;clear ho;go_enter Tryz.func163, Tryz.ntmps163;go_wp2;rw [← HW.out];clear HW;go_loop [9] (fun i => ∃ k : Nat, k ≤ n ∧ i = .int .i64 k) (fun i => n - (intOf i).toNat);case atStart => exact ⟨0, Nat.zero_le _, rfl⟩
  case round =>
   obtain ⟨k, hk, rfl⟩ := hrel;by_cases hlt : k < n
   ·obtain ⟨b, o, rfl⟩ := HL.addr (by omega);have q0 := HL.at hlt;obtain ⟨u, hu⟩ : ∃ u : Int, u = l.getD k 0 := ⟨_, rfl⟩;rw [← hu] at q0;have KC := hh_ (Contains_z (some ⟨b, o, none⟩) k cl (l.take k) u W (HL.take (by omega)) (by omega));have i1 : (k : Int) < n := by omega
    have i4 : (k : Int) ≤ cl := by omega
    clear hu;go_wp2_with fail
    refine (within_any u 0 _ W).mono ?_;rintro e w' ⟨rfl, rfl⟩;obtain ⟨t, ht⟩ : ∃ t, t = (decide (0 ≤ u) && decide (u ≤ wrap64 (sz - 1))) := ⟨_, rfl⟩;rw [← ht];clear ht;cases t
    ·go_wp2;go_ret;exact ⟨ret_bool hno.symm, HB.below⟩
    ·go_wp2_with fail
     refine KC.mono ?_;rintro e w' ⟨rfl, rfl⟩;obtain ⟨t, ht⟩ : ∃ t, t = decide (u ∈ l.take k) := ⟨_, rfl⟩;rw [← ht];clear ht;cases t
     ·go_wp2;go_round;case rel => exact ⟨k + 1, by omega, by go_num⟩
      case measure => simp [intOf]; omega
     ·go_wp2;go_ret;exact ⟨ret_bool hno.symm, HB.below⟩
   ·have i1 : (n : Int) ≤ k := by omega
    go_wp2_with fail
    refine (IsGraph_any sz A m c x W W.heap.size HK.rd nr_ hm).mono ?_;rintro e w1 ⟨rfl, hb1⟩;rw [Ho.out];have HB1 := hh_ (HB.keep hb1);clear hb1;go_wp2;go_ret;exact ⟨ret_bool hno.symm, HB1.below⟩
 ·have hv : Hid (vrB sz m x l = vzB m l) := vrB_ok ho;obtain ⟨_, es, vg0, _⟩ := okB_ok' ho;subst es;have hn1 := vg0.n1;have hn7 := vg0.n7;have Ho := hh_ ho;clear ho vg0;go_enter Tryz.func163, Tryz.ntmps163;go_wp2;rw [← HW.out];clear HW;go_loop [9] (fun i => ∃ k : Nat, k ≤ n ∧ i = .int .i64 k ∧ Hid ((l.take k).Nodup ∧ ∀ v ∈ l.take k, 0 ≤ v ∧ v < (m : Int))) (fun i => n - (intOf i).toNat);case atStart => exact ⟨0, Nat.zero_le _, rfl, by simp [Hid]⟩
  case round =>
   obtain ⟨k, hk, rfl, hall⟩ := hrel;by_cases hlt : k < n
   ·have hkl : k < l.length := by rw [← HN.out]; exact hlt
    obtain ⟨b, o, rfl⟩ := HL.addr (by omega);have q0 := HL.at hlt;have hmem := getD_mem hkl;obtain ⟨u, hu⟩ : ∃ u : Int, u = l.getD k 0 := ⟨_, rfl⟩;rw [← hu] at q0 hmem;have KC := hh_ (Contains_z (some ⟨b, o, none⟩) k cl (l.take k) u W (HL.take (by omega)) (by omega));have i1 : (k : Int) < n := by omega
    have i4 : (k : Int) ≤ cl := by omega
    have Hu := hh_ hu;have Hm := hh_ hmem;clear hu hmem;by_cases hr : 0 ≤ u ∧ u < (m : Int)
    ·obtain ⟨r1, r2⟩ := hr;go_wp2_with fail
     refine (within_yes u 0 _ W r1 (by omega)).mono ?_;rintro e w' ⟨rfl, rfl⟩;go_wp2_with fail
     refine KC.mono ?_;rintro e w' ⟨rfl, rfl⟩;by_cases hin : u ∈ l.take k
     ·have hno : Hid (vzB m l = false) := vzB_no fun h => not_nodupz hkl (by rw [← Hu.out]; exact hin) h.1
      rw [decide_eq_true hin];clear hin;go_wp2;go_ret;exact ⟨ret_bool (by rw [hv.out, hno.out]), HB.below⟩
     ·have hyes : Hid ((l.take (k + 1)).Nodup ∧ ∀ v ∈ l.take (k + 1), 0 ≤ v ∧ v < (m : Int)) := by
       refine ⟨nodupz_take hkl hall.out.1 (by rw [← Hu.out]; exact hin), fun v hv2 => ?_⟩;rw [List.take_succ_eq_append_getElem hkl, List.mem_append, List.mem_singleton] at hv2;rcases hv2 with h | h
       ·exact hall.out.2 v h
       ·have e : l.getD k 0 = l[k] := by simp [List.getD, hkl]
        rw [h, ← e, ← Hu.out]; exact ⟨r1, r2⟩
      rw [decide_eq_false hin];clear hin;go_wp2;go_round;case rel => exact ⟨k + 1, by omega, by go_num, hyes⟩
      case measure => simp [intOf]; omega
    ·have hno : Hid (vzB m l = false) := vzB_no fun h => hr (h.2 u Hm.out)
     have hr' : Hid (u < 0 ∨ (m : Int) - 1 < u) := by show _ ∨ _; omega
     clear hr;go_wp2_with fail
     refine (within_no u 0 _ W (by have := hr'.out; omega)).mono ?_;rintro e w' ⟨rfl, rfl⟩;go_wp2;go_ret;exact ⟨ret_bool (by rw [hv.out, hno.out]), HB.below⟩
   ·have hyes : Hid (vzB m l = true) := by
     refine vzB_yes ?_;have := hall.out;rwa [List.take_of_length_le (by rw [← HN.out]; omega)] at this
    have i1 : (n : Int) ≤ k := by omega
    go_wp2_with fail
    refine (IsGraph_any m A m c x W W.heap.size HK.rd nr_ hm).mono ?_;rintro e w1 ⟨rfl, hb1⟩;rw [Ho.out];have HB1 := hh_ (HB.keep hb1);clear hb1;go_wp2;go_ret;exact ⟨ret_bool (by rw [hv.out, hyes.out]), HB1.below⟩
set_option maxHeartbeats 1600000
def stN : List Int → Nat
 | [] => 0
 | v :: l => 2 ^ v.toNat ||| stN l
theorem stN_bit {l : List Int} {u : Nat} (h : ∀ v ∈ l, 0 ≤ v) : (stN l).testBit u = true ↔ (u : Int) ∈ l := by
 induction l with
 | nil => simp [stN]
 | cons v l ih =>
   rw [stN, Nat.testBit_or, Nat.testBit_two_pow, Bool.or_eq_true, ih (fun v hv => h v (by simp [hv])), List.mem_cons, decide_eq_true_eq];have := h v (by simp);constructor
   ·rintro (h1 | h1)
    ·left; omega
    ·exact .inr h1
   ·rintro (h1 | h1)
    ·left; omega
    ·exact .inr h1
theorem stN_lt {l : List Int} {m : Nat} (h : ∀ v ∈ l, 0 ≤ v ∧ v < (m : Int)) : stN l < 2 ^ m := by
 induction l with
 | nil => exact Nat.two_pow_pos m
 | cons v l ih =>
   have := h v (by simp);exact Nat.or_lt_two_pow (Nat.pow_lt_pow_right (by omega) (by omega)) (ih (fun v hv => h v (by simp [hv])))
theorem stN_append (l k : List Int) : stN (l ++ k) = stN l ||| stN k := by
 induction l with
 | nil => simp [stN]
 | cons v l ih => rw [List.cons_append, stN, stN, ih, Nat.or_assoc]
theorem or_of_add {a u : Nat} (h : a.testBit u = false) : a + 2 ^ u = a ||| 2 ^ u := by
 rw [add_pow_bit h];apply Nat.eq_of_testBit_eq;intro i;rw [Nat.testBit_or, Nat.testBit_xor, Nat.testBit_two_pow];by_cases hi : u = i
 ·subst hi; simp [h]
 ·simp [hi]
theorem take_snocz {l : List Int} {k : Nat} (hk : k < l.length) : l.take (k + 1) = l.take k ++ [l.getD k 0] := by
 have e : l.getD k 0 = l[k] := by simp [List.getD, hk]
 rw [e, List.take_succ_eq_append_getElem hk]
theorem stN_take {l : List Int} {k : Nat} (hk : k < l.length) : stN (l.take (k + 1)) = stN (l.take k) ||| 2 ^ (l.getD k 0).toNat := by
 rw [take_snocz hk, stN_append]; simp [stN]
noncomputable def soN (l : List Int) : Int := if vzB 7 l = true then (stN l : Int) else 0
theorem soN_yes {l : List Int} (h : vzB 7 l = true) : soN l = (stN l : Int) := by unfold soN; rw [if_pos h]
theorem soN_no {l : List Int} (h : vzB 7 l = false) : soN l = 0 := by unfold soN; rw [h]; rfl
theorem VZ.step {m : Nat} {l : List Int} {k : Nat} (hk : k < l.length) (h : VZ m (l.take k)) (h0 : 0 ≤ l.getD k 0) (h1 : l.getD k 0 < m) (hn : l.getD k 0 ∉ l.take k) : VZ m (l.take (k + 1)) := by
 refine ⟨nodupz_take hk h.1 hn, fun v hv => ?_⟩;rw [take_snocz hk, List.mem_append, List.mem_singleton] at hv;rcases hv with hv | rfl
 ·exact h.2 v hv
 ·exact ⟨h0, h1⟩
theorem SetOf_i (Al : Option Addr) (n cl : Nat) (l : List Int) (w : World) (hl : LI w Al n cl l) (hn : n ≤ 1048576) :
 Calls Tryz.prog 164 #[.slice Al n cl] w fun e w' => e = .returned (.tuple #[.int .i64 (soN l), .bool (vzB 7 l)]) ∧ w = w' := by
 have HL := hh_ hl;have HN := hh_ hl.len;clear hl;go_enter Tryz.func164, Tryz.ntmps164;go_wp2;go_loop [4, 9] (fun s i => ∃ k : Nat, k ≤ n ∧ i = .int .i64 k ∧ s = .int .i64 (stN (l.take k) : Nat) ∧ Hid (VZ 7 (l.take k))) (fun _ i => n - (intOf i).toNat);case atStart => exact ⟨0, Nat.zero_le _, rfl, rfl, List.nodup_nil, fun v hv => by cases hv⟩
 case round =>
  obtain ⟨k, hk, rfl, rfl, hall⟩ := hrel;by_cases hlt : k < n
  ·have hkl : k < l.length := by rw [← HN.out]; exact hlt
   obtain ⟨b, o, rfl⟩ := HL.addr (by omega);have q0 := HL.at hlt;have hmem := getD_mem hkl;have hst := stN_take hkl;have hs7 := stN_lt hall.out.2;obtain ⟨u, hu⟩ : ∃ u : Int, u = l.getD k 0 := ⟨_, rfl⟩;rw [← hu] at q0 hmem hst;have i1 : (k : Int) < n := by omega
   by_cases hr : 0 ≤ u ∧ u < 7
   ·obtain ⟨r1, r2⟩ := hr;obtain ⟨v, rfl⟩ := Int.eq_ofNat_of_zero_le r1;rw [Int.toNat_natCast] at hst;have hv7 : 2 ^ v < 2 ^ 7 := Nat.pow_lt_pow_right (by omega) (by omega);have E := i64_or_nat (stN (l.take k)) (2 ^ v) (by omega) (by omega);rw [← hst, pow_cast] at E;have p1 := pow_shl v (by omega);have KH := hh_ (has_v (s := stN (l.take k)) (v := v) w (by omega) (by omega));cases ht : (stN (l.take k)).testBit v
    ·have hnin : (v : Int) ∉ l.take k := fun h => by rw [(stN_bit (fun v hv => (hall.out.2 v hv).1)).2 h] at ht; cases ht
     have hyes : Hid (VZ 7 (l.take (k + 1))) := hall.step hkl (by rw [← hu]; exact r1) (by rw [← hu]; exact r2) (by rw [← hu]; exact hnin);rw [ht] at KH;clear ht hnin hst hu hmem;go_wp2_with (first | (go_at_call 128; refine (within_yes _ _ _ _ r1 (by omega)).mono ?_; rintro e w' ⟨rfl, rfl⟩) | (go_at_call 49; with_reducible refine KH.out.mono ?_; rintro e w' ⟨rfl, rfl⟩))
     go_round;case rel => exact ⟨k + 1, by omega, by go_num, rfl, hyes⟩
     case measure => simp [intOf]; omega
    ·have hin : (v : Int) ∈ l.take k := (stN_bit (fun v hv => (hall.out.2 v hv).1)).1 ht;have hno : Hid (vzB 7 l = false) := vzB_no fun h => not_nodupz hkl (by rw [← hu]; exact hin) h.1
     have hz : Hid (soN l = 0) := soN_no hno.out;rw [ht] at KH;clear ht hin hst hu hmem;go_wp2_with (first | (go_at_call 128; refine (within_yes _ _ _ _ r1 (by omega)).mono ?_; rintro e w' ⟨rfl, rfl⟩) | (go_at_call 49; with_reducible refine KH.out.mono ?_; rintro e w' ⟨rfl, rfl⟩))
     go_ret2;exact ⟨by rw [hno.out, hz.out]; rfl, rfl⟩
   ·have hno : Hid (vzB 7 l = false) := vzB_no fun h => hr (h.2 u hmem)
    have hz : Hid (soN l = 0) := soN_no hno.out;have hr' : Hid (u < 0 ∨ 6 < u) := by show _ ∨ _; omega
    clear hr hst hu hmem;go_wp2_with (first | (go_at_call 128; refine (within_no _ _ _ _ hr'.out).mono ?_; rintro e w' ⟨rfl, rfl⟩))
    go_ret2;exact ⟨by rw [hno.out, hz.out]; rfl, rfl⟩
  ·have hyes : Hid (vzB 7 l = true) := by
    refine vzB_yes ?_;have := hall.out;rwa [List.take_of_length_le (by rw [← HN.out]; omega)] at this
   have he : Hid (l.take k = l) := List.take_of_length_le (by rw [← HN.out]; omega);have hz : Hid (soN l = (stN l : Int)) := soN_yes hyes.out;have i1 : (n : Int) ≤ k := by omega
   go_wp2;go_ret2;exact ⟨by rw [hyes.out, hz.out]; simp only [he.out]; rfl, rfl⟩
theorem SetOf_s (Al : Option Addr) (n cl : Nat) (l : List Int) (w : World) (hl : LI w Al n cl l) (hn : n ≤ 1048576) :
 Calls Tryz.prog 188 #[.slice Al n cl] w fun e w' => e = .returned (.tuple #[.int .i64 (soN l), .bool (vzB 7 l)]) ∧ w = w' := by
 have HL := hh_ hl;have HN := hh_ hl.len;clear hl;go_enter Tryz.func188, Tryz.ntmps188;go_wp2;go_loop [4, 5] (fun s i => ∃ k : Nat, k ≤ n ∧ i = .int .i64 k ∧ s = .int .i64 (stN (l.take k) : Nat) ∧ Hid (VZ 7 (l.take k))) (fun _ i => n - (intOf i).toNat);case atStart => exact ⟨0, Nat.zero_le _, rfl, rfl, List.nodup_nil, fun v hv => by cases hv⟩
 case round =>
  obtain ⟨k, hk, rfl, rfl, hall⟩ := hrel;by_cases hlt : k < n
  ·have hkl : k < l.length := by rw [← HN.out]; exact hlt
   obtain ⟨b, o, rfl⟩ := HL.addr (by omega);have q0 := HL.at hlt;have hmem := getD_mem hkl;have hst := stN_take hkl;have hs7 := stN_lt hall.out.2;obtain ⟨u, hu⟩ : ∃ u : Int, u = l.getD k 0 := ⟨_, rfl⟩;rw [← hu] at q0 hmem hst;have i1 : (k : Int) < n := by omega
   by_cases hr : 0 ≤ u ∧ u < 7
   ·obtain ⟨r1, r2⟩ := hr;obtain ⟨v, rfl⟩ := Int.eq_ofNat_of_zero_le r1;rw [Int.toNat_natCast] at hst;have hv7 : 2 ^ v < 2 ^ 7 := Nat.pow_lt_pow_right (by omega) (by omega);have E1 := and_one_i64 (stN (l.take k) : Int) v (by omega) (by omega);rw [Int.toNat_natCast] at E1;have p1 := pow_shl v (by omega);have hpc := pow_cast v;cases ht : (stN (l.take k)).testBit v
    ·have hnin : (v : Int) ∉ l.take k := fun h => by rw [(stN_bit (fun v hv => (hall.out.2 v hv).1)).2 h] at ht; cases ht
     have hyes : Hid (VZ 7 (l.take (k + 1))) := hall.step hkl (by rw [← hu]; exact r1) (by rw [← hu]; exact r2) (by rw [← hu]; exact hnin);have E2 : wrap64 ((stN (l.take k) : Int) + 2 ^ v) = (stN (l.take (k + 1)) : Int) := by
      have e : (stN (l.take k) : Int) + 2 ^ v = (stN (l.take (k + 1)) : Int) := by rw [hst, ← or_of_add ht]; simp
      rw [Go.IntWalk.wrap64_in _ (by omega), e]
     rw [ht] at E1;clear ht hnin hst hu hmem hpc;go_wp2_with (first | (go_at_call 110; refine (l1In_yes _ _ _ _ r1 (by omega)).mono ?_; rintro e w' ⟨rfl, rfl⟩))
     go_round;case rel => exact ⟨k + 1, by omega, by go_num, congrArg (Value.int .i64) E2, hyes⟩
     case measure => simp [intOf]; omega
    ·have hin : (v : Int) ∈ l.take k := (stN_bit (fun v hv => (hall.out.2 v hv).1)).1 ht;have hno : Hid (vzB 7 l = false) := vzB_no fun h => not_nodupz hkl (by rw [← hu]; exact hin) h.1
     have hz : Hid (soN l = 0) := soN_no hno.out;rw [ht] at E1;clear ht hin hst hu hmem hpc;go_wp2_with (first | (go_at_call 110; refine (l1In_yes _ _ _ _ r1 (by omega)).mono ?_; rintro e w' ⟨rfl, rfl⟩))
     go_ret2;exact ⟨by rw [hno.out, hz.out]; rfl, rfl⟩
   ·have hno : Hid (vzB 7 l = false) := vzB_no fun h => hr (h.2 u hmem)
    have hz : Hid (soN l = 0) := soN_no hno.out;have hr' : Hid (u < 0 ∨ 6 < u) := by show _ ∨ _; omega
    clear hr hst hu hmem;go_wp2_with (first | (go_at_call 110; refine (l1In_no _ _ _ _ hr'.out).mono ?_; rintro e w' ⟨rfl, rfl⟩))
    go_ret2;exact ⟨by rw [hno.out, hz.out]; rfl, rfl⟩
  ·have hyes : Hid (vzB 7 l = true) := by
    refine vzB_yes ?_;have := hall.out;rwa [List.take_of_length_le (by rw [← HN.out]; omega)] at this
   have he : Hid (l.take k = l) := List.take_of_length_le (by rw [← HN.out]; omega);have hz : Hid (soN l = (stN l : Int)) := soN_yes hyes.out;have i1 : (n : Int) ≤ k := by omega
   go_wp2;go_ret2;exact ⟨by rw [hyes.out, hz.out]; simp only [he.out]; rfl, rfl⟩
noncomputable def orB (sz : Int) (m : Nat) (x : Nat → Int) (l : List Int) : Bool := vrB sz m x l && decide (l.length = m)
theorem IsSet_s (sz : Int) (A : Option Addr) (m c : Nat) (x : Nat → Int) (s : Nat) (w : World) (h : GA w A m c x) (ho : okB sz m x = true) :
 Calls Tryz.prog 94 #[.agg #[.int .i64 sz, .slice A m c], .int .i64 s] w fun e w' => e = .returned (.bool (decide (s < 2 ^ m))) ∧ Below w.heap.size w w' := by
 obtain ⟨_, es, vg0, _⟩ := okB_ok' ho;subst es;have hn7 := vg0.n7;have p1 := pow_shl m hn7;have hpc := pow_cast m;have HV := hh_ (h.gv ho);clear ho vg0;have h := HV.out;obtain ⟨r, hr⟩ : ∃ r, r = rw_ x := ⟨_, rfl⟩;rw [← hr] at h;obtain ⟨W, hW, HB, HG⟩ := gbW h;have HW := hh_ hW;clear hW h;obtain ⟨e0, e1⟩ := gx_ HG;by_cases hlt : s < 2 ^ m
 ·rw [decide_eq_true hlt];have i1 : (s : Int) < 2 ^ m := by omega
  clear hlt;go_enter Tryz.func94, Tryz.ntmps94;go_wp2_with fail
  rw [← HW.out];refine (IsGraph_sv HG.gv).mono ?_;rintro e w1 ⟨rfl, hb1⟩;clear HW;clear e0 e1;obtain ⟨HB, HG, e0, e1⟩ := kG_ HB HG hb1;clear hb1;go_wp2;go_ret;exact ⟨rfl, HB.below⟩
 ·rw [decide_eq_false hlt];have i1 : (2 : Int) ^ m ≤ (s : Int) := by omega
  clear hlt;go_enter Tryz.func94, Tryz.ntmps94;go_wp2_with fail
  rw [← HW.out];refine (IsGraph_sv HG.gv).mono ?_;rintro e w2 ⟨rfl, hb2⟩;clear HW;clear e0 e1;obtain ⟨HB, HG, e0, e1⟩ := kG_ HB HG hb2;clear hb2;go_wp2;go_ret;exact ⟨ret_bool (decide_eq_false (by omega)), HB.below⟩
theorem l4Distinct_z (sz : Int) (A : Option Addr) (m c : Nat) (x : Nat → Int) (Al : Option Addr) (n cl : Nat) (l : List Int) (w : World) (h : GA w A m c x) (hl : LI w Al n cl l) (hm : m ≤ 1048576) (hn : n ≤ 1048576) :
 Calls Tryz.prog 167 #[.agg #[.int .i64 sz, .slice A m c], .slice Al n cl] w fun e w' => e = .returned (.bool (vrB sz m x l)) ∧ Below w.heap.size w w' := by
 obtain ⟨W, hW⟩ : ∃ W, W = (w.alloc (Obj.cells #[.int .i64 sz, .slice A m c] 26)) := ⟨_, rfl⟩;have HB : Hid (From w W) := by rw [hW]; exact From.alloc _ _
 have HK := hh_ (h.keep HB.below);have HL := hh_ (hl.keep HB.below);have HC : Hid (GC W w.heap.size sz A m c) := by rw [hW]; exact GC.new _ _ _ _ _
 have HW := hh_ hW;clear hW h hl;go_enter Tryz.func167, Tryz.ntmps167;go_wp2_with fail
 rw [← HW.out];clear HW;refine (SetOf_s Al n cl l W HL.out hn).mono ?_;rintro e w' ⟨rfl, rfl⟩;obtain ⟨e0, e1⟩ := gc_ HC;go_wp2_with fail
 refine (IsGraph_sany sz A m c x W W.heap.size HK.rd nr_ hm).mono ?_;rintro e w1 ⟨rfl, hb1⟩;clear e0 e1;obtain ⟨HB, HK, HC, e0, e1⟩ := kC_ HB HK HC hb1;clear hb1;cases ho : okB sz m x
 ·have hno : Hid (vrB sz m x l = false) := vrB_bad ho;clear ho;go_wp2;go_ret;exact ⟨ret_bool hno.symm, HB.below⟩
 ·have hv : Hid (vrB sz m x l = vzB m l) := vrB_ok ho;obtain ⟨_, es, vg0, _⟩ := okB_ok' ho;subst es;have hn7 := vg0.n7;have Ho := hh_ ho;clear ho vg0;cases h7 : vzB 7 l
  ·have hno : Hid (vzB m l = false) := vzB_no fun h => by
    rw [vzB_yes ⟨h.1, fun v hv => by have := h.2 v hv; omega⟩] at h7; cases h7
   clear h7;go_wp2;go_ret;exact ⟨ret_bool (by rw [hv.out, hno.out]), HB.below⟩
  ·have hz : Hid (soN l = (stN l : Int)) := soN_yes h7;have hV := vzB_iff.1 h7;have hlt := stN_lt hV.2;have hd : Hid (decide (stN l < 2 ^ m) = vrB (m : Int) m x l) := by
    show _ = _;rw [hv.out];by_cases h : VZ m l
    ·rw [vzB_yes h, decide_eq_true (stN_lt h.2)]
    ·rw [vzB_no h, decide_eq_false];intro hs;refine h ⟨hV.1, fun v hv => ?_⟩;have h0 := (hV.2 v hv).1;obtain ⟨u, rfl⟩ := Int.eq_ofNat_of_zero_le h0;have := bit_lt hs ((stN_bit (fun v hv => (hV.2 v hv).1)).2 hv);omega
   rw [hz.out];obtain ⟨S, hS⟩ : ∃ S, S = stN l := ⟨_, rfl⟩;rw [← hS] at hd ⊢;clear h7 hV hlt hz hS;go_wp2_with fail
   refine (IsSet_s (m : Int) A m c x S _ HK Ho.out).mono ?_;rintro e w2 ⟨rfl, hb2⟩;clear e0 e1;obtain ⟨HB, HK, HC, e0, e1⟩ := kC_ HB HK HC hb2;clear hb2;go_wp2;go_ret;exact ⟨ret_bool hd.out, HB.below⟩
theorem IsOrder_sz (sz : Int) (A : Option Addr) (m c : Nat) (x : Nat → Int) (Al : Option Addr) (n cl : Nat) (l : List Int) (w : World) (h : GA w A m c x) (hl : LI w Al n cl l) (hm : m ≤ 1048576) (hn : n ≤ 1048576) :
 Calls Tryz.prog 126 #[.agg #[.int .i64 sz, .slice A m c], .slice Al n cl] w fun e w' => e = .returned (.bool (orB sz m x l)) ∧ Below w.heap.size w w' := by
 obtain ⟨W, hW⟩ : ∃ W, W = (w.alloc (Obj.cells #[.int .i64 sz, .slice A m c] 26)) := ⟨_, rfl⟩;have HB : Hid (From w W) := by rw [hW]; exact From.alloc _ _
 have HK := hh_ (h.keep HB.below);have HL := hh_ (hl.keep HB.below);have HC : Hid (GC W w.heap.size sz A m c) := by rw [hW]; exact GC.new _ _ _ _ _
 have HW := hh_ hW;have HN := hh_ hl.len;clear hW h hl;go_enter Tryz.func126, Tryz.ntmps126;obtain ⟨e0, e1⟩ := gc_ HC;go_wp2_with fail
 rw [← HW.out];refine (l4Distinct_z sz A m c x Al n cl l W HK HL.out hm hn).mono ?_;rintro e w1 ⟨rfl, hb1⟩;clear HW;clear e0 e1;replace HB := hh_ (HB.keep hb1);replace HK := hh_ (HK.keep hb1);replace HL := hh_ (HL.keep hb1);replace HC := hh_ (HC.keep hb1);clear hb1;obtain ⟨e0, e1⟩ := gc_ HC;cases hv : vrB sz m x l
 ·have hno : Hid (orB sz m x l = false) := by show _ = _; unfold orB; rw [hv]; rfl
  clear hv;go_wp2;go_ret;exact ⟨ret_bool hno.symm, HB.below⟩
 ·have hd : Hid (decide ((n : Int) = sz) = orB sz m x l) := by
   show _ = _;unfold orB;rw [hv, Bool.true_and];have ho : okB sz m x = true := by
    cases h : okB sz m x
    ·rw [vrB_bad h] at hv; cases hv
    ·rfl
   obtain ⟨_, es, _⟩ := okB_ok' ho;rw [decide_eq_decide, es, ← HN.out];omega
  clear hv;go_wp2;go_ret;exact ⟨ret_bool (by rw [← hd.out, Bool.eq_iff_iff]; simp), HB.below⟩
theorem IsOrder_z (sz : Int) (A : Option Addr) (m c : Nat) (x : Nat → Int) (Al : Option Addr) (n cl : Nat) (l : List Int) (w : World) (h : GA w A m c x) (hl : LI w Al n cl l) (hm : m ≤ 1048576) (hn : n ≤ 1048576) :
 Calls Tryz.prog 119 #[.agg #[.int .i64 sz, .slice A m c], .slice Al n cl] w fun e w' => e = .returned (.bool (orB sz m x l)) ∧ Below w.heap.size w w' := by
 obtain ⟨W, hW⟩ : ∃ W, W = (w.alloc (Obj.cells #[.int .i64 sz, .slice A m c] 26)) := ⟨_, rfl⟩;have HB : Hid (From w W) := by rw [hW]; exact From.alloc _ _
 have HK := hh_ (h.keep HB.below);have HL := hh_ (hl.keep HB.below);have HC : Hid (GC W w.heap.size sz A m c) := by rw [hW]; exact GC.new _ _ _ _ _
 have HW := hh_ hW;have HN := hh_ hl.len;clear hW h hl;go_enter Tryz.func119, Tryz.ntmps119;obtain ⟨e0, e1⟩ := gc_ HC;go_wp2_with fail
 rw [← HW.out];refine (areVertices_z sz A m c x Al n cl l W HK HL.out hm hn).mono ?_;rintro e w1 ⟨rfl, hb1⟩;clear HW;clear e0 e1;replace HB := hh_ (HB.keep hb1);replace HK := hh_ (HK.keep hb1);replace HL := hh_ (HL.keep hb1);replace HC := hh_ (HC.keep hb1);clear hb1;obtain ⟨e0, e1⟩ := gc_ HC;cases hv : vrB sz m x l
 ·have hno : Hid (orB sz m x l = false) := by show _ = _; unfold orB; rw [hv]; rfl
  clear hv;go_wp2;go_ret;exact ⟨ret_bool hno.symm, HB.below⟩
 ·have hd : Hid (decide ((n : Int) = sz) = orB sz m x l) := by
   show _ = _;unfold orB;rw [hv, Bool.true_and];have ho : okB sz m x = true := by
    cases h : okB sz m x
    ·rw [vrB_bad h] at hv; cases hv
    ·rfl
   obtain ⟨_, es, _⟩ := okB_ok' ho;rw [decide_eq_decide, es, ← HN.out];omega
  clear hv;go_wp2;go_ret;exact ⟨ret_bool (by rw [← hd.out, Bool.eq_iff_iff]; simp), HB.below⟩
end Go.Proofs.YticadlkcjhglnaaGreat
