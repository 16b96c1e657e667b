/-
  Several texts in one.
-/
import Derived.Test.YticadlkcjhglnaaGreatQnSet2I
import Derived.Test.YticadlkcjhglnaaGreatQnSetG
import Derived.Test.YticadlkcjhglnaaGreatQnColI
/-
-/
namespace Go.Proofs.YticadlkcjhglnaaGreat
open Go.RowKit
def redL (f : Nat → Option Nat) (left : Nat) : Option (List Nat) :=
 if left = 0 then some []
 else match f left with
  | none => none
  | some v => if h : left.testBit v = true then (redL f (left ^^^ 2 ^ v)).map (v :: ·) else none
termination_by left
decreasing_by exact xor_bit_lt h
theorem redL_zero (f : Nat → Option Nat) : redL f 0 = some [] := by unfold redL; rfl
theorem redL_none {f : Nat → Option Nat} {left : Nat} (h0 : left ≠ 0) (h : f left = none) : redL f left = none := by
 unfold redL; rw [if_neg h0, h]
theorem redL_some {f : Nat → Option Nat} {left v : Nat} (hb : left.testBit v = true) (h : f left = some v) : redL f left = (redL f (left ^^^ 2 ^ v)).map (v :: ·) := by
 have h0 : left ≠ 0 := by
  rintro rfl
  simp at hb
 rw [redL, if_neg h0, h]
 simp [hb]
theorem redL_step {f : Nat → Option Nat} {left v : Nat} {o : Option (List Nat)} {T : List Nat} (hb : left.testBit v = true) (h : f left = some v) (e : o = (redL f left).map (T ++ ·)) : o = (redL f (left ^^^ 2 ^ v)).map ((T ++ [v]) ++ ·) := by
 rw [e, redL_some hb h, Option.map_map]
 congr 1
 funext l
 simp
theorem redL_end {f : Nat → Option Nat} {o : Option (List Nat)} {T : List Nat} (e : o = (redL f 0).map (T ++ ·)) : o = some T := by
 rw [e, redL_zero]; simp
theorem redL_stuck {f : Nat → Option Nat} {left : Nat} {o : Option (List Nat)} {T : List Nat} (h0 : left ≠ 0) (h : f left = none) (e : o = (redL f left).map (T ++ ·)) : o = none := by
 rw [e, redL_none h0 h]; rfl
theorem redL_start {f : Nat → Option Nat} {left : Nat} : redL f left = (redL f left).map ([] ++ ·) := by
 cases redL f left <;> rfl
def fsF (p : Nat → Nat → Bool) (left : Nat) : Option Nat := (listN left).find? (p left)
section
variable {p : Nat → Nat → Bool} {left v k : Nat}
theorem fsF_bit (h : fsF p left = some v) : v < 7 ∧ left.testBit v = true := mem_listN.1 (List.mem_of_find?_eq_some h)
theorem fsF_place (h : fsF p left = some v) : ∃ k, ∃ hk : k < (listN left).length, (listN left)[k] = v ∧ p left v = true ∧ ∀ j (hj : j < k), p left ((listN left)[j]'(by omega)) = false := by
 unfold fsF at h
 rw [List.find?_eq_some_iff_getElem] at h
 obtain ⟨h1, k, hk, h2, h3⟩ := h
 exact ⟨k, hk, h2, h1, fun j hj => by have := h3 j hj; simpa using this⟩
theorem fsF_none' (h : fsF p left = none) : ∀ j (hj : j < (listN left).length), p left (listN left)[j] = false := by
 intro j hj
 unfold fsF at h
 rw [List.find?_eq_none] at h
 have := h _ (List.getElem_mem hj)
 simpa using this
theorem fsF_least (hv : v < 7) (hb : left.testBit v = true) (hy : p left v = true) (hmin : ∀ u, u < v → left.testBit u = true → p left u = false) : fsF p left = some v := by
 cases h : fsF p left with
 | none =>
   unfold fsF at h
   rw [List.find?_eq_none] at h
   exact absurd hy (h v (mem_listN.2 ⟨hv, hb⟩))
 | some u =>
   have hu := fsF_bit h
   have hyu : p left u = true := by unfold fsF at h; exact List.find?_some h
   rcases Nat.lt_trichotomy u v with h1 | h1 | h1
   ·rw [hmin u h1 hu.2] at hyu; cases hyu
   ·rw [h1]
   ·exfalso
    unfold fsF listN listK at h
    rw [List.find?_eq_some_iff_append] at h
    obtain ⟨_, us, bs, hab, hno⟩ := h
    have hsort : ((List.range 7).filter fun v => left.testBit v).Pairwise (· < ·) := List.Pairwise.filter _ List.pairwise_lt_range
    have hvm : v ∈ (List.range 7).filter fun v => left.testBit v := by simp [hv, hb]
    rw [hab] at hvm hsort
    rw [List.mem_append] at hvm
    rcases hvm with hvm | hvm
    ·have := hno v hvm; rw [hy] at this; cases this
    ·rw [List.mem_cons] at hvm
     rcases hvm with rfl | hvm
     ·omega
     ·have := (List.pairwise_cons.1 (List.pairwise_append.1 hsort).2.1).1 v hvm
      omega
theorem fsF_no (h : ∀ u, u < 7 → left.testBit u = true → p left u = false) : fsF p left = none := by
 unfold fsF
 rw [List.find?_eq_none]
 intro v hv
 have := mem_listN.1 hv
 simp [h v this.1 this.2]
end
def thB (r : Nat → Nat) (left v : Nat) : Bool := r v &&& left == 0 || (r v &&& left) ||| 2 ^ v == left
def thT (r : Nat → Nat) (left : Nat) : Nat → Option Nat
 | 0 => none
 | k + 1 => if (left.testBit k && thB r left k) = true then some k else thT r left k
def optI : Option Nat → Int
 | none => -1
 | some v => (v : Int)
theorem thT_bit {r : Nat → Nat} {left : Nat} : ∀ {k v}, thT r left k = some v → v < k ∧ left.testBit v = true := by
 intro k
 induction k with
 | zero => intro v h; cases h
 | succ k ih =>
   intro v h
   rw [thT] at h
   split at h
   ·rename_i h2
    injection h with h
    subst h
    rw [Bool.and_eq_true] at h2
    exact ⟨by omega, h2.1⟩
   ·have := ih h
    exact ⟨by omega, this.2⟩
theorem thT_no {r : Nat → Nat} {left k : Nat} (h : left.testBit k = false ∨ thB r left k = false) : thT r left (k + 1) = thT r left k := by
 rw [thT]
 rcases h with h | h <;> simp [h]
theorem thT_yes {r : Nat → Nat} {left k : Nat} (h : left.testBit k = true) (h2 : thB r left k = true) : thT r left (k + 1) = some k := by
 rw [thT, h, h2]; rfl
def thG (r : Nat → Nat) (left : Nat) (l : List Nat) : Option Nat := l.foldl (fun a v => if thB r left v = true then some v else a) none
theorem thG_snoc {r : Nat → Nat} {left : Nat} {l : List Nat} {v : Nat} : thG r left (l ++ [v]) = if thB r left v = true then some v else thG r left l := by
 unfold thG; rw [List.foldl_append]; rfl
theorem thG_K {r : Nat → Nat} {left : Nat} : ∀ k, thG r left (listK left k) = thT r left k := by
 intro k
 induction k with
 | zero => rfl
 | succ k ih =>
   cases h : left.testBit k
   ·rw [listK_no h, thT_no (.inl h), ih]
   ·rw [listK_yes h, thG_snoc, ih]
    cases h2 : thB r left k
    ·rw [thT_no (.inr h2)]; rfl
    ·rw [thT_yes h h2]; rfl
theorem thT_more {r : Nat → Nat} {left m : Nat} (hl : left < 2 ^ m) : ∀ k, m ≤ k → thT r left k = thT r left m := by
 intro k hk
 induction hk with
 | refl => rfl
 | step hk ih =>
   rename_i k
   rw [thT_no (.inl _), ih]
   cases h : left.testBit k
   ·rfl
   ·exact absurd (bit_lt hl h) (by simp at hk ⊢; omega)
theorem thB_sub {r : Nat → Nat} {left v : Nat} (hb : left.testBit v = true) (hi : (r v).testBit v = false) : ((r v &&& left) ||| 2 ^ v = left) ↔ (r v &&& left = left - 2 ^ v) := by
 have h1 := xor_bit_sub hb
 rw [← h1]
 constructor
 ·intro h
  apply Nat.eq_of_testBit_eq
  intro i
  have := congrArg (Nat.testBit · i) h
  simp only [Nat.testBit_or, Nat.testBit_and, Nat.testBit_two_pow] at this
  rw [Nat.testBit_xor, Nat.testBit_and, Nat.testBit_two_pow]
  by_cases e : v = i
  ·subst e; simp [hi, hb]
  ·simp [e] at this; simp [e]; exact this
 ·intro h
  apply Nat.eq_of_testBit_eq
  intro i
  have := congrArg (Nat.testBit · i) h
  simp only [Nat.testBit_xor, Nat.testBit_and, Nat.testBit_two_pow] at this
  rw [Nat.testBit_or, Nat.testBit_and, Nat.testBit_two_pow]
  by_cases e : v = i
  ·subst e; simp [hb]
  ·simp [e] at this; simp [e]; exact this
def thF (r : Nat → Nat) (left : Nat) : Option Nat := thT r left 7
def thO (r : Nat → Nat) (m : Nat) : Option (List Nat) := redL (thF r) (2 ^ m - 1)
end Go.Proofs.YticadlkcjhglnaaGreat

/-
-/
namespace Go.Proofs.YticadlkcjhglnaaGreat
open Go.RowKit
def lsQ (w : World) (o : Option (List Nat)) (e : Ending) (w' : World) : Prop :=
 ∃ A' c', e = .returned (.tuple #[.slice A' (o.getD []).length c', .bool o.isSome]) ∧ ON w.heap.size w' A' c' (o.getD []) ∧ Below w.heap.size w w'
theorem lsQ.no {w w' : World} (hb : Below w.heap.size w w') : lsQ w none (.returned (.tuple #[.slice none 0 0, .bool false])) w' := ⟨none, 0, rfl, ⟨Own.nil _ _ _ _ _ _⟩, hb⟩
theorem lsQ.yes {w w' : World} {A : Option Addr} {c : Nat} {l : List Nat} (ho : ON w.heap.size w' A c l) (hb : Below w.heap.size w w') : lsQ w (some l) (.returned (.tuple #[.slice A l.length c, .bool true])) w' := ⟨A, c, rfl, ho, hb⟩
theorem lsQ.up {w w' : World} {o : Option (List Nat)} {e : Ending} {W : World} (h : lsQ W o e w') (hb : Below w.heap.size w W) : lsQ w o e w' := by
 obtain ⟨A, c, h1, h2, h3⟩ := h
 exact ⟨A, c, h1, h2.mono hb.size, hb.trans (h3.mono hb.size)⟩
def lsK (p : Nat → Bool) (n : Nat) : Option Nat := (List.range n).find? p
def lsV : Option Nat → Value
 | none => .tuple #[.int .i64 0, .bool false]
 | some k => .tuple #[.int .i64 (k : Int), .bool true]
theorem lsV_none : lsV none = .tuple #[.int .i64 0, .bool false] := rfl
theorem lsV_some (k : Nat) : lsV (some k) = .tuple #[.int .i64 (k : Int), .bool true] := rfl
theorem lsK_yes {p : Nat → Bool} {n k : Nat} (hk : k < n) (hp : p k = true) (hmin : ∀ j, j < k → p j = false) : lsK p n = some k := by
 unfold lsK
 rw [List.find?_range_eq_some]
 exact ⟨hp, by simp [hk], fun j hj => by simp [hmin j hj]⟩
theorem lsK_no {p : Nat → Bool} {n : Nat} (h : ∀ j, j < n → p j = false) : lsK p n = none := by
 unfold lsK
 rw [List.find?_eq_none]
 intro j hj
 simp [h j (List.mem_range.1 hj)]
theorem wpList_copyN (W : World) {ops : Array Oper} {rest : List Oper} {o : Oper} {a : Act} {Q : Exit → Act → World → Prop} (hgd : o.guard = none) (s z : Operand)
 (ho : o.op = .call { callee := .builtin .append, args := #[s, z], argTypes := #[24, 24] })
 (Al : Option Addr) (cl : Nat) (l : List Nat) (h : LN W Al cl l) (hl : l.length ≤ 1073741824) (H : Nat) (hH : W.heap.size = H) (hs : a.eval s = .slice (some ⟨H, 0, none⟩) 0 0) (hz : a.eval z = .slice Al l.length cl)
 (hK : ∀ A' c' w', Own w' W.heap.size w'.heap.size 3 1 A' l.length c' (ni l) → Below W.heap.size W w' → wpList Tryz.prog ops Q rest (a.put o.dst (.slice A' l.length c')) w') :
 wpList Tryz.prog ops Q (o :: rest) a (W.alloc (Obj.cells #[] 3)) := by
 subst hH
 have HO : Own (W.alloc (Obj.cells #[] 3)) W.heap.size (W.heap.size + 1) 3 1 (some ⟨W.heap.size, 0, none⟩) 0 0 (ni []) :=
  .inr ⟨W.heap.size, #[], rfl, Nat.le_refl _, Nat.lt_succ_self _, heap_alloc_new W _, Nat.le_refl _, by unfold maxLen; omega, rfl, fun j hj => absurd hj (by omega)⟩
 have HB : Below W.heap.size W (W.alloc (Obj.cells #[] 3)) := (Below.refl _ _).alloc (Nat.le_refl _) _
 refine wpList_appendI _ hgd s z ho hs HO hz (h.rd.keep HB (Nat.le_refl _)) HB.size (by omega) hl fun A' c' w' h1 h2 => ?_
 have h3 : Own w' W.heap.size w'.heap.size 3 1 A' l.length c' (ni l) := by
  have := h1
  rw [Nat.zero_add] at this
  exact this.congr fun j hj => by unfold thenI ni; simp
 have := hK A' c' w' h3 (HB.trans h2)
 rw [Nat.zero_add]
 exact this
section
variable {A : Option Addr} {m c : Nat} {r : Nat → Nat} {fn : FuncId} {caps : Array Value} {p : Nat → Bool}
set_option maxHeartbeats 1000000 in
theorem least_g (hef : Ent fn) (w : World) (h : GV w A m c r)
 (HF : ∀ (s : Nat) (z : World), s < 2 ^ m → Below w.heap.size w z → Calls Tryz.prog fn (#[.agg #[.int .i64 m, .slice A m c], .int .i64 s] ++ caps) z (fun e z' => e = .returned (.bool (p s)) ∧ Below z.heap.size z z')) :
 Calls Tryz.prog 194 #[.agg #[.int .i64 m, .slice A m c], .func (.func fn) #[] caps] w fun e w' => e = .returned (lsV (lsK p (2 ^ m))) ∧ Below w.heap.size w w' := by
 have hn7 := h.vg.n7
 unfold Ent at hef
 have h128 := two_pow_le hn7
 have hpos := Nat.two_pow_pos m
 have s1 : wrap64 (((2 ^ m - 1 : Nat) : Int) + 1) = ((2 ^ m : Nat) : Int) := by
  rw [Go.IntWalk.wrap64_in _ (by omega)]; omega
 obtain ⟨W, hW⟩ : ∃ W : World, W = (w.alloc (Obj.cells #[Value.int IntKind.i64 m, Value.slice A m c] 26)) := ⟨_, rfl⟩
 have HB : Hid (From w W) := by rw [hW]; exact From.alloc _ _
 have HG : Hid (GBox W w.heap.size A m c r) := by rw [hW]; exact h.box
 have HW := Lib.hid hW
 clear hW h
 have e0 := HG.out.c0
 have e1 := HG.out.c1
 have HF := Lib.hid HF
 have HS := Lib.hid s1
 go_enter Tryz.func194, Tryz.ntmps194
 go_wp2_with fail
 rw [← HW.out]
 refine (IsGraph_v HG.out.gv).mono ?_
 rintro e w1 ⟨rfl, hb1⟩
 clear HW
 clear e0 e1
 replace HB := Lib.hid (HB.out.keep hb1)
 replace HG := Lib.hid (HG.out.keep hb1)
 clear hb1
 have e0 := HG.out.c0
 have e1 := HG.out.c1
 go_wp2_with fail
 refine (all_v HG.out.gv).mono ?_
 rintro e w2 ⟨rfl, hb2⟩
 clear e0 e1
 replace HB := Lib.hid (HB.out.keep hb2)
 replace HG := Lib.hid (HG.out.keep hb2)
 clear hb2
 have e0 := HG.out.c0
 have e1 := HG.out.c1
 go_wp2
 go_loopw [13] (fun i wr => ∃ k : Nat, k ≤ 2 ^ m ∧ i = .int .i64 k ∧ Hid (∀ u, u < k → p u = false) ∧ Hid (From w2 wr)) (fun i _ => 2 ^ m - (intOf i).toNat)
 case atStart => exact ⟨0, Nat.zero_le _, rfl, (fun u hu => absurd hu (by omega)), From.refl _⟩
 case round =>
  obtain ⟨k, hk, rfl, hall, HR⟩ := hrel
  clear e0 e1
  replace HB := Lib.hid (HB.out.keep HR.out.below)
  replace HG := Lib.hid (HG.out.keep HR.out.below)
  have e0 := HG.out.c0
  have e1 := HG.out.c1
  by_cases hlt : k < 2 ^ m
  ·have i1 : (k : Int) < ((2 ^ m : Nat) : Int) := by omega
   have KF := Lib.hid (HF.out k _ hlt HB.out.below)
   go_wp2_with fail
   refine (KF.out).mono ?_
   rintro e w3 ⟨rfl, hb3⟩
   clear e0 e1
   replace HB := Lib.hid (HB.out.keep hb3)
   replace HG := Lib.hid (HG.out.keep hb3)
   replace HR := Lib.hid (HR.out.keep hb3)
   clear hb3
   have e0 := HG.out.c0
   have e1 := HG.out.c1
   cases hp : p k
   ·have Hn : Hid (∀ u, u < k + 1 → p u = false) := fun u hu => by
     by_cases huk : u < k
     ·exact hall.out u huk
     ·obtain rfl : u = k := by omega
      exact hp
    clear hp KF
    go_wp2
    go_roundw
    case rel => exact ⟨k + 1, by omega, by go_num, Hn, HR⟩
    case measure => simp [intOf]; omega
   ·have Hn : Hid (lsK p (2 ^ m) = some k) := lsK_yes hlt hp hall.out
    clear hp KF
    go_wp2
    go_ret2
    exact ⟨by rw [Hn.out]; rfl, HB.out.below⟩
  ·have hkm : k = 2 ^ m := by omega
   have Hn : Hid (lsK p (2 ^ m) = none) := lsK_no fun u hu => hall.out u (by omega)
   have i1 : ((2 ^ m : Nat) : Int) ≤ (k : Int) := by omega
   clear hkm
   go_wp2
   go_ret2
   exact ⟨by rw [Hn.out]; rfl, HB.out.below⟩
end
set_option maxHeartbeats 1000000 in
theorem least_no {sz : Int} {A : Option Addr} {m c : Nat} {x : Nat → Int} {w : World} {f : Value} (h : GA w A m c x) (hm : m ≤ 1048576) (hok : okB sz m x = false) :
 Calls Tryz.prog 194 #[.agg #[.int .i64 sz, .slice A m c], f] w fun e w' => e = .returned (lsV none) ∧ Below w.heap.size w w' := by
 obtain ⟨W, hW⟩ : ∃ W : World, W = (w.alloc (Obj.cells #[Value.int IntKind.i64 sz, Value.slice A m c] 26)) := ⟨_, rfl⟩
 have HB : Hid (From w W) := by rw [hW]; exact From.alloc _ _
 have HK := Lib.hid (h.keep HB.out.below)
 have HC : Hid (GC W w.heap.size sz A m c) := by rw [hW]; exact GC.new _ _ _ _ _
 have HW := Lib.hid hW
 have Ho := Lib.hid hok
 clear hW h hok
 go_enter Tryz.func194, Tryz.ntmps194
 have e0 := HC.out.c0
 have e1 := HC.out.c1
 go_wp2_with fail
 rw [← HW.out]
 clear HW
 refine (IsGraph_any sz A m c x W W.heap.size HK.out.rd (Nat.le_refl _) hm).mono ?_
 rintro e w1 ⟨rfl, hb1⟩
 rw [Ho.out]
 clear e0 e1
 replace HB := Lib.hid (HB.out.keep hb1)
 replace HK := Lib.hid (HK.out.keep hb1)
 replace HC := Lib.hid (HC.out.keep hb1)
 clear hb1
 have e0 := HC.out.c0
 have e1 := HC.out.c1
 go_wp2
 go_ret2
 exact ⟨rfl, HB.out.below⟩
end Go.Proofs.YticadlkcjhglnaaGreat
