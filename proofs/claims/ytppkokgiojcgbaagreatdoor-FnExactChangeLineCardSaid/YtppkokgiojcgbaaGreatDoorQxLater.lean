/-
  Several texts in one.
-/
import Derived.Test.YtppkokgiojcgbaaGreatDoorQxSet2I
import Derived.Test.YtppkokgiojcgbaaGreatDoorQxJoinI
import Derived.Test.YtppkokgiojcgbaaGreatDoorQxSetG
import Derived.Test.YtppkokgiojcgbaaGreatDoorQxColI
import Derived.Test.YtppkokgiojcgbaaGreatDoorQxColP
import Derived.Test.YtppkokgiojcgbaaGreatDoorQxListS
/-
-/
namespace Go.Proofs.YtppkokgiojcgbaaGreatDoor
open Go.RowKit
def lsQ (w : World) (o : Option (List Nat)) (e : Ending) (w' : World) : Prop :=
 ∃ A' c', e = .returned (.tuple #[.slice A' (o.getD []).length c', .bool o.isSome]) ∧ ON w.heap.size w' A' c' (o.getD []) ∧ Below w.heap.size w w'
theorem lsQ.no {w w' : World} (hb : Below w.heap.size w w') : lsQ w none (.returned (.tuple #[.slice none 0 0, .bool false])) w' := ⟨none, 0, rfl, ⟨Own.nil _ _ _ _ _ _⟩, hb⟩
theorem lsQ.yes {w w' : World} {A : Option Addr} {c : Nat} {l : List Nat} (ho : ON w.heap.size w' A c l) (hb : Below w.heap.size w w') : lsQ w (some l) (.returned (.tuple #[.slice A l.length c, .bool true])) w' := ⟨A, c, rfl, ho, hb⟩
theorem lsQ.up {w w' : World} {o : Option (List Nat)} {e : Ending} {W : World} (h : lsQ W o e w') (hb : Below w.heap.size w W) : lsQ w o e w' := by
 obtain ⟨A, c, h1, h2, h3⟩ := h
 exact ⟨A, c, h1, h2.mono hb.size, hb.trans (h3.mono hb.size)⟩
def lsK (p : Nat → Bool) (n : Nat) : Option Nat := (List.range n).find? p
def lsV : Option Nat → Value
 | none => .tuple #[.int .i64 0, .bool false]
 | some k => .tuple #[.int .i64 (k : Int), .bool true]
theorem lsV_none : lsV none = .tuple #[.int .i64 0, .bool false] := rfl
theorem lsV_some (k : Nat) : lsV (some k) = .tuple #[.int .i64 (k : Int), .bool true] := rfl
theorem lsK_yes {p : Nat → Bool} {n k : Nat} (hk : k < n) (hp : p k = true) (hmin : ∀ j, j < k → p j = false) : lsK p n = some k := by
 unfold lsK
 rw [List.find?_range_eq_some]
 exact ⟨hp, by simp [hk], fun j hj => by simp [hmin j hj]⟩
theorem lsK_no {p : Nat → Bool} {n : Nat} (h : ∀ j, j < n → p j = false) : lsK p n = none := by
 unfold lsK
 rw [List.find?_eq_none]
 intro j hj
 simp [h j (List.mem_range.1 hj)]
theorem wpList_copyN (W : World) {ops : Array Oper} {rest : List Oper} {o : Oper} {a : Act} {Q : Exit → Act → World → Prop} (hgd : o.guard = none) (s z : Operand)
 (ho : o.op = .call { callee := .builtin .append, args := #[s, z], argTypes := #[22, 22] })
 (Al : Option Addr) (cl : Nat) (l : List Nat) (h : LN W Al cl l) (hl : l.length ≤ 1073741824) (H : Nat) (hH : W.heap.size = H) (hs : a.eval s = .slice (some ⟨H, 0, none⟩) 0 0) (hz : a.eval z = .slice Al l.length cl)
 (hK : ∀ A' c' w', Own w' W.heap.size w'.heap.size 3 1 A' l.length c' (ni l) → Below W.heap.size W w' → wpList Tryz.prog ops Q rest (a.put o.dst (.slice A' l.length c')) w') :
 wpList Tryz.prog ops Q (o :: rest) a (W.alloc (Obj.cells #[] 3)) := by
 subst hH
 have HO : Own (W.alloc (Obj.cells #[] 3)) W.heap.size (W.heap.size + 1) 3 1 (some ⟨W.heap.size, 0, none⟩) 0 0 (ni []) :=
  .inr ⟨W.heap.size, #[], rfl, Nat.le_refl _, Nat.lt_succ_self _, heap_alloc_new W _, Nat.le_refl _, by unfold maxLen; omega, rfl, fun j hj => absurd hj (by omega)⟩
 have HB : Below W.heap.size W (W.alloc (Obj.cells #[] 3)) := (Below.refl _ _).alloc (Nat.le_refl _) _
 refine wpList_appendI _ hgd s z ho hs HO hz (h.rd.keep HB (Nat.le_refl _)) HB.size (by omega) hl fun A' c' w' h1 h2 => ?_
 have h3 : Own w' W.heap.size w'.heap.size 3 1 A' l.length c' (ni l) := by
  have := h1
  rw [Nat.zero_add] at this
  exact this.congr fun j hj => by unfold thenI ni; simp
 have := hK A' c' w' h3 (HB.trans h2)
 rw [Nat.zero_add]
 exact this
section
variable {A : Option Addr} {m c : Nat} {r : Nat → Nat} {fn : FuncId} {caps : Array Value} {p : Nat → Bool}
set_option maxHeartbeats 1000000 in
theorem least_g (hef : Ent fn) (w : World) (h : GV w A m c r)
 (HF : ∀ (s : Nat) (z : World), s < 2 ^ m → Below w.heap.size w z → Calls Tryz.prog fn (#[.agg #[.int .i64 m, .slice A m c], .int .i64 s] ++ caps) z (fun e z' => e = .returned (.bool (p s)) ∧ Below z.heap.size z z')) :
 Calls Tryz.prog 231 #[.agg #[.int .i64 m, .slice A m c], .func (.func fn) #[] caps] w fun e w' => e = .returned (lsV (lsK p (2 ^ m))) ∧ Below w.heap.size w w' := by
 have hn7 := h.vg.n7
 unfold Ent at hef
 have h128 := two_pow_le hn7
 have hpos := Nat.two_pow_pos m
 have s1 : wrap64 (((2 ^ m - 1 : Nat) : Int) + 1) = ((2 ^ m : Nat) : Int) := by
  rw [Go.IntWalk.wrap64_in _ (by omega)]; omega
 obtain ⟨W, hW⟩ : ∃ W : World, W = (w.alloc (Obj.cells #[Value.int IntKind.i64 m, Value.slice A m c] 29)) := ⟨_, rfl⟩
 have HB : Hid (From w W) := by rw [hW]; exact From.alloc _ _
 have HG : Hid (GBox W w.heap.size A m c r) := by rw [hW]; exact h.box
 have HW := Lib.hid hW
 clear hW h
 have e0 := HG.out.c0
 have e1 := HG.out.c1
 have HF := Lib.hid HF
 have HS := Lib.hid s1
 go_enter Tryz.func231, Tryz.ntmps231
 go_wp2_with fail
 rw [← HW.out]
 refine (IsGraph_v HG.out.gv).mono ?_
 rintro e w1 ⟨rfl, hb1⟩
 clear HW
 clear e0 e1
 replace HB := Lib.hid (HB.out.keep hb1)
 replace HG := Lib.hid (HG.out.keep hb1)
 clear hb1
 have e0 := HG.out.c0
 have e1 := HG.out.c1
 go_wp2_with fail
 refine (all_v HG.out.gv).mono ?_
 rintro e w2 ⟨rfl, hb2⟩
 clear e0 e1
 replace HB := Lib.hid (HB.out.keep hb2)
 replace HG := Lib.hid (HG.out.keep hb2)
 clear hb2
 have e0 := HG.out.c0
 have e1 := HG.out.c1
 go_wp2
 go_loopw [13] (fun i wr => ∃ k : Nat, k ≤ 2 ^ m ∧ i = .int .i64 k ∧ Hid (∀ u, u < k → p u = false) ∧ Hid (From w2 wr)) (fun i _ => 2 ^ m - (intOf i).toNat)
 case atStart => exact ⟨0, Nat.zero_le _, rfl, (fun u hu => absurd hu (by omega)), From.refl _⟩
 case round =>
  obtain ⟨k, hk, rfl, hall, HR⟩ := hrel
  clear e0 e1
  replace HB := Lib.hid (HB.out.keep HR.out.below)
  replace HG := Lib.hid (HG.out.keep HR.out.below)
  have e0 := HG.out.c0
  have e1 := HG.out.c1
  by_cases hlt : k < 2 ^ m
  ·have i1 : (k : Int) < ((2 ^ m : Nat) : Int) := by omega
   have KF := Lib.hid (HF.out k _ hlt HB.out.below)
   go_wp2_with fail
   refine (KF.out).mono ?_
   rintro e w3 ⟨rfl, hb3⟩
   clear e0 e1
   replace HB := Lib.hid (HB.out.keep hb3)
   replace HG := Lib.hid (HG.out.keep hb3)
   replace HR := Lib.hid (HR.out.keep hb3)
   clear hb3
   have e0 := HG.out.c0
   have e1 := HG.out.c1
   cases hp : p k
   ·have Hn : Hid (∀ u, u < k + 1 → p u = false) := fun u hu => by
     by_cases huk : u < k
     ·exact hall.out u huk
     ·obtain rfl : u = k := by omega
      exact hp
    clear hp KF
    go_wp2
    go_roundw
    case rel => exact ⟨k + 1, by omega, by go_num, Hn, HR⟩
    case measure => simp [intOf]; omega
   ·have Hn : Hid (lsK p (2 ^ m) = some k) := lsK_yes hlt hp hall.out
    clear hp KF
    go_wp2
    go_ret2
    exact ⟨by rw [Hn.out]; rfl, HB.out.below⟩
  ·have hkm : k = 2 ^ m := by omega
   have Hn : Hid (lsK p (2 ^ m) = none) := lsK_no fun u hu => hall.out u (by omega)
   have i1 : ((2 ^ m : Nat) : Int) ≤ (k : Int) := by omega
   clear hkm
   go_wp2
   go_ret2
   exact ⟨by rw [Hn.out]; rfl, HB.out.below⟩
end
set_option maxHeartbeats 1000000 in
theorem least_no {sz : Int} {A : Option Addr} {m c : Nat} {x : Nat → Int} {w : World} {f : Value} (h : GA w A m c x) (hm : m ≤ 1048576) (hok : okB sz m x = false) :
 Calls Tryz.prog 231 #[.agg #[.int .i64 sz, .slice A m c], f] w fun e w' => e = .returned (lsV none) ∧ Below w.heap.size w w' := by
 obtain ⟨W, hW⟩ : ∃ W : World, W = (w.alloc (Obj.cells #[Value.int IntKind.i64 sz, Value.slice A m c] 29)) := ⟨_, rfl⟩
 have HB : Hid (From w W) := by rw [hW]; exact From.alloc _ _
 have HK := Lib.hid (h.keep HB.out.below)
 have HC : Hid (GC W w.heap.size sz A m c) := by rw [hW]; exact GC.new _ _ _ _ _
 have HW := Lib.hid hW
 have Ho := Lib.hid hok
 clear hW h hok
 go_enter Tryz.func231, Tryz.ntmps231
 have e0 := HC.out.c0
 have e1 := HC.out.c1
 go_wp2_with fail
 rw [← HW.out]
 clear HW
 refine (IsGraph_any sz A m c x W W.heap.size HK.out.rd (Nat.le_refl _) hm).mono ?_
 rintro e w1 ⟨rfl, hb1⟩
 rw [Ho.out]
 clear e0 e1
 replace HB := Lib.hid (HB.out.keep hb1)
 replace HK := Lib.hid (HK.out.keep hb1)
 replace HC := Lib.hid (HC.out.keep hb1)
 clear hb1
 have e0 := HC.out.c0
 have e1 := HC.out.c1
 go_wp2
 go_ret2
 exact ⟨rfl, HB.out.below⟩
end Go.Proofs.YtppkokgiojcgbaaGreatDoor

/-
-/
namespace Go.Proofs.YtppkokgiojcgbaaGreatDoor
open Go.RowKit
theorem always_n (A : Option Addr) (n c : Nat) (w : World) : Calls Tryz.prog 229 #[.slice A n c] w fun e w' => e = .returned (.bool true) ∧ Below w.heap.size w w' := by
 go_enter Tryz.func229, Tryz.ntmps229
 go_wp2
 go_ret
 exact ⟨rfl, Below.refl _ _⟩
section
variable {m c H : Nat} {A : Option Addr} {r : Nat → Nat} {fn : FuncId} {caps : Array Value} {p : List Nat → Int} {w0 : World}
end
end Go.Proofs.YtppkokgiojcgbaaGreatDoor

/-
-/
namespace Go.Proofs.YtppkokgiojcgbaaGreatDoor
open Go.RowKit
theorem orB_parts {sz : Int} {m : Nat} {x : Nat → Int} {l : List Int} (h : orB sz m x l = true) : okB sz m x = true ∧ VZ m l ∧ l.length = m := by
 unfold orB vrB at h
 simp only [Bool.and_eq_true, decide_eq_true_eq] at h
 exact ⟨h.1.1, vzB_iff.1 h.1.2, h.2⟩
theorem VZ.all {m : Nat} {l : List Int} (h : VZ m l) (hl : l.length = m) {v : Int} (h0 : 0 ≤ v) (h1 : v < m) : v ∈ l := by
 refine Classical.byContradiction fun hn => ?_
 have : VZ m (v :: l) := ⟨List.nodup_cons.2 ⟨hn, h.1⟩, fun u hu => by
  rw [List.mem_cons] at hu
  rcases hu with rfl | hu
  ·exact ⟨h0, h1⟩
  ·exact h.2 u hu⟩
 have := this.len
 rw [List.length_cons] at this
 omega
theorem stN_all {m : Nat} {l : List Int} (h : VZ m l) (hl : l.length = m) : stN l = 2 ^ m - 1 := by
 apply Nat.eq_of_testBit_eq
 intro i
 rw [Nat.testBit_two_pow_sub_one, Bool.eq_iff_iff, stN_bit (fun v hv => (h.2 v hv).1), decide_eq_true_eq]
 constructor
 ·intro hi; have := (h.2 _ hi).2; omega
 ·intro hi; exact h.all hl (by omega) (by omega)
theorem drop_consz {l : List Int} {k : Nat} (hk : k < l.length) : l.drop k = l.getD k 0 :: l.drop (k + 1) := by
 rw [List.drop_eq_getElem_cons hk]
 simp [List.getD, hk]
theorem VZ.drop {m : Nat} {l : List Int} (h : VZ m l) (k : Nat) : VZ m (l.drop k) := ⟨h.1.sublist (List.drop_sublist _ _), fun v hv => h.2 v (List.mem_of_mem_drop hv)⟩
theorem stN_drop {m : Nat} {l : List Int} {k : Nat} (h : VZ m l) (hk : k < l.length) : stN (l.drop k) = stN (l.drop (k + 1)) + 2 ^ (l.getD k 0).toNat := by
 have hd := h.drop k
 rw [drop_consz hk] at hd ⊢
 have hn := (List.nodup_cons.1 hd.1).1
 have h0 := (hd.2 _ (List.mem_cons_self)).1
 have hb : (stN (l.drop (k + 1))).testBit (l.getD k 0).toNat = false := by
  cases hb : (stN (l.drop (k + 1))).testBit (l.getD k 0).toNat
  ·rfl
  ·rw [stN_bit (fun v hv => (hd.2 v (List.mem_cons_of_mem _ hv)).1), Int.toNat_of_nonneg h0] at hb
   exact absurd hb hn
 rw [or_of_add hb, stN, Nat.or_comm]
def ixN (l : List Int) (v : Int) : Nat := (fIdx (fun j => l.getD j 0 == v) l.length).toNat
theorem ixN_in {l : List Int} {v : Int} (h : v ∈ l) : ixN l v < l.length ∧ fIdx (fun j => l.getD j 0 == v) l.length = (ixN l v : Int) ∧ l.getD (ixN l v) 0 = v ∧ ∀ j, j < ixN l v → l.getD j 0 ≠ v := by
 obtain ⟨k, hk, e⟩ := fIdz_in h
 have e2 : ixN l v = k := by unfold ixN; rw [e]; rfl
 rw [e2]
 refine ⟨hk, e, ?_⟩
 unfold fIdx at e
 cases hf : (List.range l.length).find? (fun j => l.getD j 0 == v) with
 | none => rw [hf] at e; simp at e
 | some j =>
   rw [hf] at e
   have : j = k := by have h := e; simp at h; omega
   subst this
   rw [List.find?_range_eq_some] at hf
   exact ⟨by simpa using hf.1, fun i hi => by simpa using hf.2.2 i hi⟩
def ltN (r : Nat → Nat) (l : List Int) (v : Int) : Nat := r v.toNat &&& stN (l.drop (ixN l v))
noncomputable def ltZ (sz : Int) (m : Nat) (x : Nat → Int) (l : List Int) (v : Int) : Nat := if (orB sz m x l && decide (0 ≤ v ∧ v < m)) = true then ltN (rw_ x) l v else 0
theorem ltZ_yes {sz : Int} {m : Nat} {x : Nat → Int} {l : List Int} {v : Int} (h : orB sz m x l = true) (hv : 0 ≤ v ∧ v < m) : ltZ sz m x l v = ltN (rw_ x) l v := by
 unfold ltZ; rw [h, decide_eq_true hv]; rfl
theorem ltZ_no {sz : Int} {m : Nat} {x : Nat → Int} {l : List Int} {v : Int} (h : orB sz m x l = false) : ltZ sz m x l v = 0 := by unfold ltZ; rw [h]; rfl
theorem ltZ_out {sz : Int} {m : Nat} {x : Nat → Int} {l : List Int} {v : Int} (h : ¬(0 ≤ v ∧ v < m)) : ltZ sz m x l v = 0 := by unfold ltZ; rw [decide_eq_false h, Bool.and_false]; rfl
theorem LI.drop {w : World} {b o n c k : Nat} {l : List Int} (h : LI w (some ⟨b, o, none⟩) n c l) (hk : k < n) : LI w (some ⟨b, o + k, none⟩) (n - k) (c - k) (l.drop k) :=
 ⟨by rw [List.length_drop, ← h.len], by have := h.rd.1; omega, fun hn => by
   obtain ⟨b', o', e, hb, hc⟩ := h.rd.2 (by omega)
   simp only [Option.some.injEq, Addr.mk.injEq, and_true] at e
   obtain ⟨rfl, rfl⟩ := e
   refine ⟨b, o + k, rfl, hb, fun j hj => ?_⟩
   rw [Nat.add_assoc, hc (k + j) (by omega)]
   simp [List.getD]⟩
set_option maxHeartbeats 1600000 in
theorem LaterNeighbours_i (sz : Int) (A : Option Addr) (m c : Nat) (x : Nat → Int) (Al : Option Addr) (n cl : Nat) (l : List Int) (v : Int) (w : World) (h : GA w A m c x) (hl : LI w Al n cl l) (hm : m ≤ 1048576) (hn : n ≤ 1048576) :
 Calls Tryz.prog 163 #[.agg #[.int .i64 sz, .slice A m c], .slice Al n cl, .int .i64 v] w fun e w' => e = .returned (.int .i64 (ltZ sz m x l v : Nat)) ∧ Below w.heap.size w w' := by
 obtain ⟨W, hW⟩ : ∃ W : World, W = (w.alloc (Obj.cells #[Value.int IntKind.i64 sz, Value.slice A m c] 29)) := ⟨_, rfl⟩
 have HB : Hid (From w W) := by rw [hW]; exact From.alloc _ _
 have HK := Lib.hid (h.keep HB.out.below)
 have HL := Lib.hid (hl.keep HB.out.below)
 have HC : Hid (GC W w.heap.size sz A m c) := by rw [hW]; exact GC.new _ _ _ _ _
 have HW := Lib.hid hW
 have HN := Lib.hid hl.len
 clear hW h hl
 go_enter Tryz.func163, Tryz.ntmps163
 have e0 := HC.out.c0
 have e1 := HC.out.c1
 go_wp2_with fail
 rw [← HW.out]
 refine (IsOrder_z sz A m c x Al n cl l W HK.out HL.out hm hn).mono ?_
 rintro e w1 ⟨rfl, hb1⟩
 clear HW
 clear e0 e1
 replace HB := Lib.hid (HB.out.keep hb1)
 replace HK := Lib.hid (HK.out.keep hb1)
 replace HL := Lib.hid (HL.out.keep hb1)
 replace HC := Lib.hid (HC.out.keep hb1)
 clear hb1
 have e0 := HC.out.c0
 have e1 := HC.out.c1
 cases hv : orB sz m x l
 ·have hno : Hid (ltZ sz m x l v = 0) := ltZ_no hv
  clear hv
  go_wp2
  go_ret
  exact ⟨ret_int (by rw [hno.out]; rfl), HB.out.below⟩
 ·obtain ⟨ho, hV, hlen⟩ := orB_parts hv
  obtain ⟨_, es, vg0, _⟩ := okB_ok' ho
  subst es
  have hn1 := vg0.n1
  have hn7 := vg0.n7
  have Hv := Lib.hid hv
  have HG : Hid (GV w1 A m c (rw_ x)) := HK.out.gv ho
  by_cases hr : 0 ≤ v ∧ v < (m : Int)
  ·obtain ⟨r1, r2⟩ := hr
   obtain ⟨h1, h2, h3, _⟩ := ixN_in (hV.all hlen r1 r2)
   have hyes : Hid (ltZ (m : Int) m x l v = ltN (rw_ x) l v) := ltZ_yes hv ⟨r1, r2⟩
   obtain ⟨k, hk⟩ : ∃ k, k = ixN l v := ⟨_, rfl⟩
   rw [← hk] at h1 h2
   have hkn : k < n := by rw [HN.out]; exact h1
   obtain ⟨b, o, rfl⟩ := HL.out.addr (by omega)
   obtain ⟨b2, o2, rfl⟩ := HG.out.addr
   obtain ⟨u, rfl⟩ := Int.eq_ofNat_of_zero_le r1
   have hu : u < m := by omega
   have q0 := HG.out.row hu
   have hr128 := HG.out.vg.lt128 hu
   have hd := hV.drop k
   have hlt := stN_lt hd.2
   have h128 := two_pow_le hn7
   have E := i64_and_nat (rw_ x u) (stN (l.drop k)) (by omega) (by omega)
   have he : Hid (rw_ x u &&& stN (l.drop k) = ltZ (m : Int) m x l u) := by show _ = _; rw [hyes.out, hk]; rfl
   have h7 : vzB 7 (l.drop k) = true := vzB_yes ⟨hd.1, fun v hv => by have := hd.2 v hv; omega⟩
   have hz : Hid (soN (l.drop k) = (stN (l.drop k) : Int)) := soN_yes h7
   have hcap := HL.out.rd.1
   have i1 : (0 : Int) ≤ (k : Int) := by omega
   have i2 : (k : Int) ≤ (n : Int) := by omega
   have i3 : (u : Int) < (m : Int) := r2
   have hci : (cl = k) = False := by simp; omega
   have HD := Lib.hid (HL.out.drop hkn)
   have KI := Lib.hid (Index_z (some ⟨b, o, none⟩) n cl l u w1 HL.out hn)
   rw [h2] at KI
   have KS := Lib.hid (SetOf_i (some ⟨b, o + k, none⟩) (n - k) (cl - k) (l.drop k) w1 HD.out (by omega))
   rw [h7, hz.out] at KS
   rw [he.out] at E
   clear hV hlen h1 h2 h3 hk hd h7 ho hv vg0
   go_wp2_with (first | (go_at_call 85; refine (within_yes _ _ _ _ r1 (by omega)).mono ?_; rintro e w' ⟨rfl, rfl⟩) | (go_at_call 213; with_reducible refine KI.out.mono ?_; rintro e w' ⟨rfl, rfl⟩) | (go_at_call 212; with_reducible refine KS.out.mono ?_; rintro e w' ⟨rfl, rfl⟩))
   go_ret
   exact ⟨rfl, HB.out.below⟩
  ·have hno : Hid (ltZ (m : Int) m x l v = 0) := ltZ_out hr
   have hr' : Hid (v < 0 ∨ (m : Int) - 1 < v) := by show _ ∨ _; omega
   clear hr hv hV hlen ho vg0
   go_wp2_with (first | (go_at_call 85; refine (within_no _ _ _ _ hr'.out).mono ?_; rintro e w' ⟨rfl, rfl⟩))
   go_ret
   exact ⟨ret_int (by rw [hno.out]; rfl), HB.out.below⟩
set_option maxHeartbeats 1600000 in
theorem LaterNeighbours_s (sz : Int) (A : Option Addr) (m c : Nat) (x : Nat → Int) (Al : Option Addr) (n cl : Nat) (l : List Int) (v : Int) (w : World) (h : GA w A m c x) (hl : LI w Al n cl l) (hm : m ≤ 1048576) (hn : n ≤ 1048576) :
 Calls Tryz.prog 209 #[.agg #[.int .i64 sz, .slice A m c], .slice Al n cl, .int .i64 v] w fun e w' => e = .returned (.int .i64 (ltZ sz m x l v : Nat)) ∧ Below w.heap.size w w' := by
 obtain ⟨W, hW⟩ : ∃ W : World, W = (w.alloc (Obj.cells #[Value.int IntKind.i64 sz, Value.slice A m c] 29)) := ⟨_, rfl⟩
 have HB : Hid (From w W) := by rw [hW]; exact From.alloc _ _
 have HK := Lib.hid (h.keep HB.out.below)
 have HL := Lib.hid (hl.keep HB.out.below)
 have HC : Hid (GC W w.heap.size sz A m c) := by rw [hW]; exact GC.new _ _ _ _ _
 have HW := Lib.hid hW
 have HN := Lib.hid hl.len
 clear hW h hl
 go_enter Tryz.func209, Tryz.ntmps209
 have e0 := HC.out.c0
 have e1 := HC.out.c1
 go_wp2_with fail
 rw [← HW.out]
 refine (IsOrder_sz sz A m c x Al n cl l W HK.out HL.out hm hn).mono ?_
 rintro e w1 ⟨rfl, hb1⟩
 clear HW
 clear e0 e1
 replace HB := Lib.hid (HB.out.keep hb1)
 replace HK := Lib.hid (HK.out.keep hb1)
 replace HL := Lib.hid (HL.out.keep hb1)
 replace HC := Lib.hid (HC.out.keep hb1)
 clear hb1
 have e0 := HC.out.c0
 have e1 := HC.out.c1
 cases hv : orB sz m x l
 ·have hno : Hid (ltZ sz m x l v = 0) := ltZ_no hv
  clear hv
  go_wp2
  go_ret
  exact ⟨ret_int (by rw [hno.out]; rfl), HB.out.below⟩
 ·obtain ⟨ho, hV, hlen⟩ := orB_parts hv
  obtain ⟨_, es, vg0, _⟩ := okB_ok' ho
  subst es
  have hn1 := vg0.n1
  have hn7 := vg0.n7
  have HG : Hid (GV w1 A m c (rw_ x)) := HK.out.gv ho
  by_cases hr : 0 ≤ v ∧ v < (m : Int)
  ·obtain ⟨r1, r2⟩ := hr
   obtain ⟨h1, _, h3, h4⟩ := ixN_in (hV.all hlen r1 r2)
   have hyes : Hid (ltZ (m : Int) m x l v = ltN (rw_ x) l v) := ltZ_yes hv ⟨r1, r2⟩
   obtain ⟨K, hK⟩ : ∃ K, K = ixN l v := ⟨_, rfl⟩
   rw [← hK] at h1 h3 h4
   have hKn : K < n := by rw [HN.out]; exact h1
   obtain ⟨b, o, rfl⟩ := HL.out.addr (by omega)
   obtain ⟨b2, o2, rfl⟩ := HG.out.addr
   obtain ⟨u, rfl⟩ := Int.eq_ofNat_of_zero_le r1
   have hu : u < m := by omega
   have q0 := HG.out.row hu
   have hr128 := HG.out.vg.lt128 hu
   have h128 := two_pow_le hn7
   have p1 := pow_shl m hn7
   have hpc := pow_cast m
   have hpos := Nat.two_pow_pos m
   have hall := stN_all hV hlen
   have s0 : (2 : Int) ^ m - 1 = (stN (l.drop 0) : Int) := by
    rw [List.drop_zero, hall]; omega
   have S0 : Hid (wrap64 (stN l : Int) = (stN (l.drop 0) : Int)) := by rw [List.drop_zero, hall]; exact Go.IntWalk.wrap64_in _ (by omega)
   have HV2 := Lib.hid hV
   have H3 := Lib.hid h3
   have H4 := Lib.hid h4
   have he : Hid (rw_ x u &&& stN (l.drop K) = ltZ (m : Int) m x l u) := by show _ = _; rw [hyes.out, hK]; rfl
   have i3 : (u : Int) < (m : Int) := r2
   clear hV hlen h3 h4 hK ho hv vg0 hall
   go_wp2
   clear s0
   go_loop [7, 8] (fun s i => ∃ k : Nat, k ≤ K ∧ i = .int .i64 k ∧ s = .int .i64 (stN (l.drop k) : Nat)) (fun _ i => n - (intOf i).toNat)
   case atStart => exact ⟨0, Nat.zero_le _, rfl, congrArg (Value.int .i64) S0.out⟩
   case round =>
    obtain ⟨k, hk, rfl, rfl⟩ := hrel
    have hkn : k < n := by omega
    have hkl : k < l.length := by rw [← HN.out]; exact hkn
    have q1 := HL.out.at hkn
    have i1 : (k : Int) < (n : Int) := by omega
    by_cases hkK : k = K
    ·have e1 : l.getD k 0 = (u : Int) := by rw [hkK]; exact H3.out
     rw [e1] at q1
     have hlt := stN_lt (HV2.out.drop k).2
     have E := i64_and_nat (rw_ x u) (stN (l.drop k)) (by omega) (by omega)
     rw [hkK, he.out, ← hkK] at E
     have hne : ((u : Int) != (u : Int)) = false := by simp
     clear hkK e1
     go_wp2
     go_ret
     exact ⟨rfl, HB.out.below⟩
    ·have hne1 : l.getD k 0 ≠ (u : Int) := H4.out k (by omega)
     have hst := stN_drop HV2.out hkl
     have hmem := HV2.out.2 _ (getD_mem hkl)
     have hlt := stN_lt (HV2.out.drop k).2
     obtain ⟨a, ha⟩ : ∃ a : Int, a = l.getD k 0 := ⟨_, rfl⟩
     rw [← ha] at q1 hne1 hst hmem
     obtain ⟨a0, a1⟩ := hmem
     obtain ⟨d, rfl⟩ := Int.eq_ofNat_of_zero_le a0
     rw [Int.toNat_natCast] at hst
     have hne : ((d : Int) != (u : Int)) = true := by simpa using hne1
     have hne2 : (d = u) = False := by simp; omega
     have p2 := pow_shl d (by omega)
     have hpd := pow_cast d
     have h2d := two_pow_int d (by omega)
     have s1 : wrap64 ((stN (l.drop k) : Int) - 2 ^ d) = (stN (l.drop (k + 1)) : Int) := by
      rw [Go.IntWalk.wrap64_in _ (by omega)]; omega
     have hkK2 : k + 1 ≤ K := by omega
     clear ha hst hne1 hkK hlt hpd
     go_wp2
     go_round
     case rel => exact ⟨k + 1, hkK2, by go_num, by first | rfl | exact congrArg (Value.int .i64) s1⟩
     case measure => simp [intOf]; omega
  ·have hno : Hid (ltZ (m : Int) m x l v = 0) := ltZ_out hr
   clear hv hV hlen ho vg0
   by_cases h0 : v < 0
   ·clear hr
    go_wp2
    go_ret
    exact ⟨ret_int (by rw [hno.out]; rfl), HB.out.below⟩
   ·have i1 : (m : Int) ≤ v := by omega
    have i2 : (0 : Int) ≤ v := by omega
    clear hr h0
    go_wp2
    go_ret
    exact ⟨ret_int (by rw [hno.out]; rfl), HB.out.below⟩
end Go.Proofs.YtppkokgiojcgbaaGreatDoor
