/-
  Several texts in one.
-/
import Derived.Test.YtdpkbfiggbcclaaGreatQkUmbI
import Derived.Deep.RegionHeld3
/-
-/
namespace Go.Proofs.YtdpkbfiggbcclaaGreat
open Go.RowKit
def Tw1 (l : List Int) (v : Nat) : Prop := ∀ u, u < v → 0 ≤ l.getD u 0 ∧ l.getD u 0 ≤ 1000000
def Twp (r : Nat → Nat) (l : List Int) (lim : Int) (v k : Nat) : Prop := (r v).testBit k = decide (lim < l.getD k 0 + l.getD v 0)
def Tw2 (r : Nat → Nat) (l : List Int) (lim : Int) (v : Nat) : Prop := ∀ u, u < v → ∀ k, k < u → Twp r l lim u k
noncomputable def wgB (r : Nat → Nat) (m : Nat) (l : List Int) (lim : Int) : Bool := @decide (Tw1 l m ∧ Tw2 r l lim m) (Classical.propDecidable _)
noncomputable def wgG (sz : Int) (m : Nat) (x : Nat → Int) (l : List Int) (lim : Int) : Bool := (okB sz m x && decide (l.length = m)) && decide (0 ≤ lim ∧ lim ≤ 1000000) && wgB (rw_ x) m l lim
section
variable {r : Nat → Nat} {m v k : Nat} {l : List Int} {lim : Int}
theorem wg_yes (h : Tw1 l m) (h2 : Tw2 r l lim m) : wgB r m l lim = true := @decide_eq_true _ (Classical.propDecidable _) ⟨h, h2⟩
theorem wg_no1 (hv : v < m) (h : ¬ (0 ≤ l.getD v 0 ∧ l.getD v 0 ≤ 1000000)) : wgB r m l lim = false := @decide_eq_false _ (Classical.propDecidable _) fun hb => h (hb.1 v hv)
theorem wg_no2 (hv : v < m) (hk : k < v) (h : ¬ Twp r l lim v k) : wgB r m l lim = false := @decide_eq_false _ (Classical.propDecidable _) fun hb => h (hb.2 v hv k hk)
theorem Tw1.zero : Tw1 l 0 := fun u h => absurd h (by omega)
theorem Tw2.zero : Tw2 r l lim 0 := fun u h => absurd h (by omega)
theorem Tw1.step (h : Tw1 l v) (h2 : 0 ≤ l.getD v 0 ∧ l.getD v 0 ≤ 1000000) : Tw1 l (v + 1) := fun u hu => by
 by_cases e : u < v
 ·exact h u e
 ·obtain rfl : u = v := by omega
  exact h2
theorem Tw2.step (h : Tw2 r l lim v) (h2 : ∀ k, k < v → Twp r l lim v k) : Tw2 r l lim (v + 1) := fun u hu => by
 by_cases e : u < v
 ·exact h u e
 ·obtain rfl : u = v := by omega
  exact h2
end
theorem wgG_ok {sz : Int} {m : Nat} {x : Nat → Int} {l : List Int} {lim : Int} (h : okB sz m x = false) : wgG sz m x l lim = false := by unfold wgG; rw [h]; rfl
theorem wgG_len {sz : Int} {m : Nat} {x : Nat → Int} {l : List Int} {lim : Int} (h : l.length ≠ m) : wgG sz m x l lim = false := by unfold wgG; rw [decide_eq_false h, Bool.and_false]; rfl
theorem wgG_lim {sz : Int} {m : Nat} {x : Nat → Int} {l : List Int} {lim : Int} (h : ¬ (0 ≤ lim ∧ lim ≤ 1000000)) : wgG sz m x l lim = false := by unfold wgG; rw [decide_eq_false h, Bool.and_false]; rfl
theorem wgG_yes {sz : Int} {m : Nat} {x : Nat → Int} {l : List Int} {lim : Int} (h1 : okB sz m x = true) (h2 : l.length = m) (h3 : 0 ≤ lim ∧ lim ≤ 1000000) : wgG sz m x l lim = wgB (rw_ x) m l lim := by unfold wgG; rw [h1, decide_eq_true h2, decide_eq_true h3]; rfl
theorem within_b {n lo hi : Int} (w : World) {b : Bool} (h : decide (lo ≤ n ∧ n ≤ hi) = b) : Calls Tryz.prog 193 #[.int .i64 n, .int .i64 lo, .int .i64 hi] w fun e w' => e = .returned (.bool b) ∧ Below w.heap.size w w' :=
 (within_any n lo hi w).mono fun _ _ ⟨h1, h2⟩ => ⟨by rw [h1, ← h]; simp, h2 ▸ Below.refl _ _⟩
set_option maxRecDepth 100000 in
set_option maxHeartbeats 3200000 in
theorem AreThresholdWeights_i (sz : Int) (A : Option Addr) (m c : Nat) (x : Nat → Int) (Al : Option Addr) (n cl : Nat) (l : List Int) (lim : Int) (w : World) (h : GA w A m c x) (hl : LI w Al n cl l) (hm : m ≤ 1048576) (hn : n ≤ 1048576) :
 Calls Tryz.prog 249 #[.agg #[.int .i64 sz, .slice A m c], .slice Al n cl, .int .i64 lim] w fun e w' => e = .returned (.bool (wgG sz m x l lim)) ∧ Below w.heap.size w w' := by
 obtain ⟨W, hW⟩ : ∃ W : World, W = (w.alloc (Obj.cells #[Value.int IntKind.i64 sz, Value.slice A m c] 28)) := ⟨_, rfl⟩
 have HB : Hid (From w W) := by rw [hW]; exact From.alloc _ _
 have HK := Lib.hid (h.keep HB.out.below)
 have HL := Lib.hid (hl.keep HB.out.below)
 have HC : Hid (GC W w.heap.size sz A m c) := by rw [hW]; exact GC.new _ _ _ _ _
 have HW := Lib.hid hW
 have HN := Lib.hid hl.len
 clear hW h hl
 go_enter Tryz.func249, Tryz.ntmps249
 have e0 := HC.out.c0
 have e1 := HC.out.c1
 go_wp2_with fail
 rw [← HW.out]
 refine (IsGraph_any sz A m c x W W.heap.size HK.out.rd (Nat.le_refl _) hm).mono ?_
 rintro e w1 ⟨rfl, hb1⟩
 clear HW
 clear e0 e1
 replace HB := Lib.hid (HB.out.keep hb1)
 replace HK := Lib.hid (HK.out.keep hb1)
 replace HL := Lib.hid (HL.out.keep hb1)
 replace HC := Lib.hid (HC.out.keep hb1)
 clear hb1
 have e0 := HC.out.c0
 have e1 := HC.out.c1
 cases ho : okB sz m x
 ·have Hn : Hid (wgG sz m x l lim = false) := wgG_ok ho
  clear ho
  go_wp2
  go_ret
  exact ⟨ret_bool Hn.out.symm, HB.out.below⟩
 obtain ⟨_, es, vg0, _⟩ := okB_ok' ho
 subst es
 have hn7 := vg0.n7
 have HG : Hid (GV w1 A m c (rw_ x)) := HK.out.gv ho
 have HV := Lib.hid HG.out.vg
 by_cases hnm : n = m
 rotate_left
 ·have Hn : Hid (wgG (m : Int) m x l lim = false) := wgG_len (by rw [← HN.out]; exact hnm)
  have d1 : ((n : Int) != (m : Int)) = true := by simp; omega
  clear ho vg0 hnm
  go_wp2
  go_ret
  exact ⟨ret_bool Hn.out.symm, HB.out.below⟩
 subst hnm
 have d1 : ((n : Int) != (n : Int)) = false := by simp
 by_cases hli : 0 ≤ lim ∧ lim ≤ 1000000
 rotate_left
 ·have Hn : Hid (wgG (n : Int) n x l lim = false) := wgG_lim hli
  have KW := Lib.hid (decide_eq_false hli)
  clear ho vg0 hli
  go_wp2_with fail
  refine (within_b (n := lim) (lo := 0) (hi := 1000000) w1 KW.out).mono ?_
  rintro e w2 ⟨rfl, hb2⟩
  clear e0 e1
  replace HB := Lib.hid (HB.out.keep hb2)
  replace HK := Lib.hid (HK.out.keep hb2)
  replace HL := Lib.hid (HL.out.keep hb2)
  replace HC := Lib.hid (HC.out.keep hb2)
  clear hb2
  have e0 := HC.out.c0
  have e1 := HC.out.c1
  go_wp2
  go_ret
  exact ⟨ret_bool Hn.out.symm, HB.out.below⟩
 have Hy : Hid (wgG (n : Int) n x l lim = wgB (rw_ x) n l lim) := wgG_yes ho HN.out.symm hli
 have KW := Lib.hid (decide_eq_true hli)
 clear ho vg0
 go_wp2_with fail
 refine (within_b (n := lim) (lo := 0) (hi := 1000000) w1 KW.out).mono ?_
 rintro e w3 ⟨rfl, hb3⟩
 clear e0 e1
 replace HB := Lib.hid (HB.out.keep hb3)
 replace HK := Lib.hid (HK.out.keep hb3)
 replace HL := Lib.hid (HL.out.keep hb3)
 replace HC := Lib.hid (HC.out.keep hb3)
 replace HG := Lib.hid (HG.out.keep hb3)
 clear hb3
 have e0 := HC.out.c0
 have e1 := HC.out.c1
 have HR0 : Hid (From w3 w3) := From.refl w3
 obtain ⟨b0, o0, rfl⟩ := HG.out.addr
 clear e0 e1 KW
 go_wp2
 go_loopw [27] (fun i wr => ∃ v : Nat, v ≤ n ∧ i = .int .i64 v ∧ Hid (Tw1 l v) ∧ Hid (Tw2 (rw_ x) l lim v) ∧ Hid (From w3 wr)) (fun i _ => n - (intOf i).toNat)
 case atStart => exact ⟨0, Nat.zero_le _, rfl, Tw1.zero, Tw2.zero, HR0⟩
 case round =>
  clear HR0
  obtain ⟨v, hv, rfl, H1, H2, HR⟩ := hrel
  have HBr := Lib.hid (HB.out.up HR.out)
  by_cases hvn : v < n
  ·have i1 : (v : Int) < (n : Int) := by omega
   have HLr := Lib.hid (HL.out.keep HR.out.below)
   obtain ⟨bl, ol, rfl⟩ := HLr.out.addr (by omega)
   have p0 := HLr.out.at hvn
   obtain ⟨b, hb⟩ : ∃ b : Int, b = l.getD v 0 := ⟨_, rfl⟩
   rw [← hb] at p0
   have Hb := Lib.hid hb
   by_cases hbr : 0 ≤ b ∧ b ≤ 1000000
   rotate_left
   ·have Hn : Hid (wgB (rw_ x) n l lim = false) := wg_no1 hvn (by rw [← hb]; exact hbr)
    have KB := Lib.hid (decide_eq_false hbr)
    clear hbr hb
    go_wp2_with fail
    refine (within_b (n := b) (lo := 0) (hi := 1000000) wr KB.out).mono ?_
    rintro e w4 ⟨rfl, hb4⟩
    replace HBr := Lib.hid (HBr.out.keep hb4)
    clear hb4
    go_wp2
    go_ret
    exact ⟨ret_bool (by rw [Hy.out, Hn.out]), HBr.out.below⟩
   have H1' : Hid (Tw1 l (v + 1)) := H1.out.step (by rw [← hb]; exact hbr)
   have KB := Lib.hid (decide_eq_true hbr)
   clear hb
   go_wp2_with fail
   refine (within_b (n := b) (lo := 0) (hi := 1000000) wr KB.out).mono ?_
   rintro e w5 ⟨rfl, hb5⟩
   replace HBr := Lib.hid (HBr.out.keep hb5)
   replace HR := Lib.hid (HR.out.keep hb5)
   clear hb5
   clear HLr p0
   go_wp2
   go_loopw [36] (fun i wr => ∃ k : Nat, k ≤ v ∧ i = .int .i64 k ∧ Hid (∀ u, u < k → Twp (rw_ x) l lim v u) ∧ Hid (From w3 wr)) (fun i _ => v - (intOf i).toNat)
   case atStart => exact ⟨0, Nat.zero_le _, rfl, (fun u hu => absurd hu (by omega)), HR⟩
   case round =>
    clear HR HBr
    obtain ⟨k, hk, rfl, H3, HR⟩ := hrel
    by_cases hkv : k < v
    ·have i2 : (k : Int) < (v : Int) := by omega
     have i3 : (k : Int) < (n : Int) := by omega
     have HBr := Lib.hid (HB.out.up HR.out)
     have HLr := Lib.hid (HL.out.keep HR.out.below)
     have HGr := Lib.hid (HG.out.keep HR.out.below)
     have HCr := Lib.hid (HC.out.keep HR.out.below)
     have e1 := HCr.out.c1
     have p1 := HLr.out.at (show k < n by omega)
     have ha := H1.out k hkv
     have q0 := HGr.out.row hvn
     have hr := HV.out.lt128 hvn
     obtain ⟨a, ha'⟩ : ∃ a : Int, a = l.getD k 0 := ⟨_, rfl⟩
     rw [← ha'] at p1 ha
     obtain ⟨y, hy⟩ : ∃ y, y = rw_ x v := ⟨_, rfl⟩
     rw [← hy] at q0 hr
     have s1 : wrap64 (a + b) = a + b := Go.IntWalk.wrap64_in _ (by omega)
     have s2 : IntKind.i64.wrap (a + b) = a + b := Go.IntWalk.i64_in _ (by omega)
     have Hp : Hid (Twp (rw_ x) l lim v k ↔ y.testBit k = decide (lim < a + b)) := by show _ ↔ _; unfold Twp; rw [← hy, ← ha', ← Hb.out]
     clear ha' hy
     cases h1 : y.testBit k
     ·have K1 := Lib.hid (has_q hr (by omega) h1)
      by_cases hg : lim < a + b
      ·have Hn : Hid (wgB (rw_ x) n l lim = false) := wg_no2 hvn hkv fun ht => by
        have := Hp.out.1 ht
        rw [h1, decide_eq_true hg] at this; cases this
       have d2 : decide (lim < a + b) = true := decide_eq_true hg
       clear h1 hg
       go_wp2
       go_quiet (first | (go_at_call 90; with_reducible exact Calls.quiet_of_same (K1.out _)))
       go_wp2
       go_ret
       exact ⟨ret_bool (by rw [Hy.out, Hn.out]), (HBr.out.drewN _).below⟩
      ·have H3' : Hid (∀ u, u < k + 1 → Twp (rw_ x) l lim v u) := fun u hu => by
        by_cases e : u < k
        ·exact H3.out u e
        ·obtain rfl : u = k := by omega
         exact Hp.out.2 (by rw [h1, decide_eq_false hg])
       have d2 : decide (lim < a + b) = false := decide_eq_false hg
       clear h1 hg
       go_wp2
       go_quiet (first | (go_at_call 90; with_reducible exact Calls.quiet_of_same (K1.out _)))
       go_wp2
       first
        | (refine ⟨⟨k + 1, by omega, by go_num, H3', HR.out.drewN _⟩, ?_⟩
           simp [intOf] <;> omega)
        | (go_roundw
           case rel => exact ⟨k + 1, by omega, by go_num, H3', HR.out.drewN _⟩
           case measure => (simp [intOf] <;> omega))
     ·have K1 := Lib.hid (has_q hr (by omega) h1)
      by_cases hg : lim < a + b
      ·have H3' : Hid (∀ u, u < k + 1 → Twp (rw_ x) l lim v u) := fun u hu => by
        by_cases e : u < k
        ·exact H3.out u e
        ·obtain rfl : u = k := by omega
         exact Hp.out.2 (by rw [h1, decide_eq_true hg])
       have d2 : decide (lim < a + b) = true := decide_eq_true hg
       clear h1 hg
       go_wp2
       go_quiet (first | (go_at_call 90; with_reducible exact Calls.quiet_of_same (K1.out _)))
       go_wp2
       first
        | (refine ⟨⟨k + 1, by omega, by go_num, H3', HR.out.drewN _⟩, ?_⟩
           simp [intOf] <;> omega)
        | (go_roundw
           case rel => exact ⟨k + 1, by omega, by go_num, H3', HR.out.drewN _⟩
           case measure => (simp [intOf] <;> omega))
      ·have Hn : Hid (wgB (rw_ x) n l lim = false) := wg_no2 hvn hkv fun ht => by
        have := Hp.out.1 ht
        rw [h1, decide_eq_false hg] at this; cases this
       have d2 : decide (lim < a + b) = false := decide_eq_false hg
       clear h1 hg
       go_wp2
       go_quiet (first | (go_at_call 90; with_reducible exact Calls.quiet_of_same (K1.out _)))
       go_wp2
       go_ret
       exact ⟨ret_bool (by rw [Hy.out, Hn.out]), (HBr.out.drewN _).below⟩
    ·have H2' : Hid (Tw2 (rw_ x) l lim (v + 1)) := H2.out.step fun u hu => H3.out u (by omega)
     have i2 : (v : Int) ≤ (k : Int) := by omega
     go_wp2
     go_roundw
     case rel => exact ⟨v + 1, by omega, by go_num, H1', H2', HR⟩
     case measure => (simp [intOf] <;> omega)
  ·obtain rfl : n = v := by omega
   have Hn : Hid (wgB (rw_ x) n l lim = true) := wg_yes H1.out H2.out
   go_wp2
   go_ret
   exact ⟨ret_bool (by rw [Hy.out, Hn.out]), HBr.out.below⟩
end Go.Proofs.YtdpkbfiggbcclaaGreat

/-
-/
namespace Go.Proofs.YtdpkbfiggbcclaaGreat
section
variable {P : Program} {ops : Array Oper} {Q : Exit → Act → World → Prop} {md : Region.Mode} {S : World → Prop}
theorem take_yes {i d : Nat} {oi : Oper} {v : Value} {fuel : Nat} {listed : Array Bool} {a : Act} {w : World} (hi : ops[i]? = some oi) (hd : oi.dst = some d)
 (hs : Region.noSelect ops = true) (hf : Region.free md ops listed i = true) (hr : (Region.ready md ops listed).contains i = true)
 (hQ : ∀ c a w, Q (.panic c) (a.put oi.dst v) w → Q (.panic c) a w) (hw : Region.wanted oi (yielded ops a.tmps) = true) (hy : ∀ w, S w → (execOp a.eval oi).run P w = .ok (.value v) w) (hS : S w)
 (h : wpAnyH P md ops Q S fuel (listed.setIfInBounds i true) (a.put (some d) v) w) : wpAnyH P md ops Q S (fuel + 1) listed a w :=
 wpAnyH_take hi hs hf hr hQ (.inl ⟨hw, hy⟩) hS (hd ▸ h)
theorem take_no {i d : Nat} {oi : Oper} {fuel : Nat} {listed : Array Bool} {a : Act} {w : World} (hi : ops[i]? = some oi) (hd : oi.dst = some d)
 (hs : Region.noSelect ops = true) (hf : Region.free md ops listed i = true) (hr : (Region.ready md ops listed).contains i = true)
 (hQ : ∀ c a w, Q (.panic c) (a.put oi.dst undef) w → Q (.panic c) a w) (hw : Region.wanted oi (yielded ops a.tmps) = false) (hS : S w)
 (h : wpAnyH P md ops Q S fuel (listed.setIfInBounds i true) (a.put (some d) undef) w) : wpAnyH P md ops Q S (fuel + 1) listed a w :=
 wpAnyH_take hi hs hf hr hQ (.inr ⟨hw, rfl⟩) hS (hd ▸ h)
end
theorem sl0 {α : Type} (l : List α) (i : Nat) (a : α) : l.toArray.setIfInBounds i a = (l.set i a).toArray := List.setIfInBounds_toArray l i a
theorem sl1 {α : Type} (a b : α) (l : List α) : (a :: l).set 0 b = b :: l := rfl
theorem sl2 {α : Type} (a b : α) (l : List α) (n : Nat) : (a :: l).set (n + 1) b = a :: l.set n b := rfl
section
variable {P : Program} {ops : Array Oper} {Q : Exit → Act → World → Prop} {md : Region.Mode} {S : World → Prop}
theorem pcY (i : Nat) {d : Nat} {oi : Oper} {v : Value} {fuel : Nat} {l : Array Bool} {a : Act} {w : World} (hi : ops[i]? = some oi) (hd : oi.dst = some d)
 (hk : (Region.noSelect ops && Region.free md ops l i && (Region.ready md ops l).contains i) = true)
 (hw : Region.wanted oi (yielded ops a.tmps) = true) (hy : ∀ w, S w → (execOp a.eval oi).run P w = .ok (.value v) w) (hS : S w) (hQ : ∀ c a w, Q (.panic c) (a.put oi.dst v) w → Q (.panic c) a w)
 (h : wpAnyH P md ops Q S fuel (l.setIfInBounds i true) (a.put (some d) v) w) : wpAnyH P md ops Q S (fuel + 1) l a w := by
 simp only [Bool.and_eq_true] at hk
 exact take_yes hi hd hk.1.1 hk.1.2 hk.2 hQ hw hy hS h
theorem pcN (i : Nat) {d : Nat} {oi : Oper} {fuel : Nat} {l : Array Bool} {a : Act} {w : World} (hi : ops[i]? = some oi) (hd : oi.dst = some d)
 (hk : (Region.noSelect ops && Region.free md ops l i && (Region.ready md ops l).contains i) = true)
 (hw : Region.wanted oi (yielded ops a.tmps) = false) (hS : S w) (hQ : ∀ c a w, Q (.panic c) (a.put oi.dst undef) w → Q (.panic c) a w)
 (h : wpAnyH P md ops Q S fuel (l.setIfInBounds i true) (a.put (some d) undef) w) : wpAnyH P md ops Q S (fuel + 1) l a w := by
 simp only [Bool.and_eq_true] at hk
 exact take_no hi hd hk.1.1 hk.1.2 hk.2 hQ hw hS h
theorem ptY {j d : Nat} {oi : Oper} {v : Value} {fuel : Nat} {l : Array Bool} {a : Act} {w : World} (hi : ops[j + 1]? = some oi) (hd : oi.dst = some d)
 (hk : (Region.noSelect ops && Region.free md ops (l.setIfInBounds j true) (j + 1) && (Region.ready md ops (l.setIfInBounds j true)).contains (j + 1)) = true)
 (hw : Region.wanted oi (yielded ops a.tmps) = true) (hy : ∀ w, S w → (execOp a.eval oi).run P w = .ok (.value v) w) (hS : S w) (hQ : ∀ c a w, Q (.panic c) (a.put oi.dst v) w → Q (.panic c) a w)
 (h : wpAnyH P md ops Q S fuel ((l.setIfInBounds j true).setIfInBounds (j + 1) true) (a.put (some d) v) w) : wpAnyH P md ops Q S (fuel + 1) (l.setIfInBounds j true) a w := pcY (j + 1) hi hd hk hw hy hS hQ h
theorem ptN {j d : Nat} {oi : Oper} {fuel : Nat} {l : Array Bool} {a : Act} {w : World} (hi : ops[j + 1]? = some oi) (hd : oi.dst = some d)
 (hk : (Region.noSelect ops && Region.free md ops (l.setIfInBounds j true) (j + 1) && (Region.ready md ops (l.setIfInBounds j true)).contains (j + 1)) = true)
 (hw : Region.wanted oi (yielded ops a.tmps) = false) (hS : S w) (hQ : ∀ c a w, Q (.panic c) (a.put oi.dst undef) w → Q (.panic c) a w)
 (h : wpAnyH P md ops Q S fuel ((l.setIfInBounds j true).setIfInBounds (j + 1) true) (a.put (some d) undef) w) : wpAnyH P md ops Q S (fuel + 1) (l.setIfInBounds j true) a w := pcN (j + 1) hi hd hk hw hS hQ h
end
end Go.Proofs.YtdpkbfiggbcclaaGreat
