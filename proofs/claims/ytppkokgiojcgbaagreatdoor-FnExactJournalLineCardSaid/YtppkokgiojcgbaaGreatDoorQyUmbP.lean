/-
  Several texts in one.
-/
import Derived.Test.YtppkokgiojcgbaaGreatDoorQySet2I
import Derived.Test.YtppkokgiojcgbaaGreatDoorQyJoinI
import Derived.Test.YtppkokgiojcgbaaGreatDoorQySetG
import Derived.Test.YtppkokgiojcgbaaGreatDoorQyColI
import Derived.Test.YtppkokgiojcgbaaGreatDoorQyColP
import Derived.Test.YtppkokgiojcgbaaGreatDoorQyListS
import Derived.Test.YtppkokgiojcgbaaGreatDoorQyGB
import Derived.Test.YtppkokgiojcgbaaGreatDoorQyGC
import Derived.Test.YtppkokgiojcgbaaGreatDoorQyFmS
import Derived.Test.YtppkokgiojcgbaaGreatDoorQyShlI
/-
  Contracts: what a search for a list leaves; the program's search for the least set.
-/
namespace Go.Proofs.YtppkokgiojcgbaaGreatDoor
open Go.RowKit

/-- A list and whether there is one. -/
def lsQ (w : World) (o : Option (List Nat)) (e : Ending) (w' : World) : Prop :=
  ∃ A' c', e = .returned (.tuple #[.slice A' (o.getD []).length c', .bool o.isSome]) ∧ ON w.heap.size w' A' c' (o.getD []) ∧ Below w.heap.size w w'
theorem lsQ.no {w w' : World} (hb : Below w.heap.size w w') : lsQ w none (.returned (.tuple #[.slice none 0 0, .bool false])) w' := ⟨none, 0, rfl, ⟨Own.nil _ _ _ _ _ _⟩, hb⟩
theorem lsQ.yes {w w' : World} {A : Option Addr} {c : Nat} {l : List Nat} (ho : ON w.heap.size w' A c l) (hb : Below w.heap.size w w') : lsQ w (some l) (.returned (.tuple #[.slice A l.length c, .bool true])) w' := ⟨A, c, rfl, ho, hb⟩
theorem lsQ.up {w w' : World} {o : Option (List Nat)} {e : Ending} {W : World} (h : lsQ W o e w') (hb : Below w.heap.size w W) : lsQ w o e w' := by
  obtain ⟨A, c, h1, h2, h3⟩ := h
  exact ⟨A, c, h1, h2.mono hb.size, hb.trans (h3.mono hb.size)⟩
/-- The least number below a bound for which something holds. -/
def lsK (p : Nat → Bool) (n : Nat) : Option Nat := (List.range n).find? p
def lsV : Option Nat → Value
  | none => .tuple #[.int .i64 0, .bool false]
  | some k => .tuple #[.int .i64 (k : Int), .bool true]
theorem lsV_none : lsV none = .tuple #[.int .i64 0, .bool false] := rfl
theorem lsV_some (k : Nat) : lsV (some k) = .tuple #[.int .i64 (k : Int), .bool true] := rfl
theorem lsK_yes {p : Nat → Bool} {n k : Nat} (hk : k < n) (hp : p k = true) (hmin : ∀ j, j < k → p j = false) : lsK p n = some k := by
  unfold lsK
  rw [List.find?_range_eq_some]
  exact ⟨hp, by simp [hk], fun j hj => by simp [hmin j hj]⟩
theorem lsK_no {p : Nat → Bool} {n : Nat} (h : ∀ j, j < n → p j = false) : lsK p n = none := by
  unfold lsK
  rw [List.find?_eq_none]
  intro j hj
  simp [h j (List.mem_range.1 hj)]

/-- append of a list onto a new empty one. -/
theorem wpList_copyN (W : World) {ops : Array Oper} {rest : List Oper} {o : Oper} {a : Act} {Q : Exit → Act → World → Prop} (hgd : o.guard = none) (s z : Operand)
    (ho : o.op = .call { callee := .builtin .append, args := #[s, z], argTypes := #[22, 22] })
    (Al : Option Addr) (cl : Nat) (l : List Nat) (h : LN W Al cl l) (hl : l.length ≤ 1073741824) (H : Nat) (hH : W.heap.size = H) (hs : a.eval s = .slice (some ⟨H, 0, none⟩) 0 0) (hz : a.eval z = .slice Al l.length cl)
    (hK : ∀ A' c' w', Own w' W.heap.size w'.heap.size 3 1 A' l.length c' (ni l) → Below W.heap.size W w' → wpList Tryz.prog ops Q rest (a.put o.dst (.slice A' l.length c')) w') :
    wpList Tryz.prog ops Q (o :: rest) a (W.alloc (Obj.cells #[] 3)) := by
  subst hH
  have HO : Own (W.alloc (Obj.cells #[] 3)) W.heap.size (W.heap.size + 1) 3 1 (some ⟨W.heap.size, 0, none⟩) 0 0 (ni []) :=
    .inr ⟨W.heap.size, #[], rfl, Nat.le_refl _, Nat.lt_succ_self _, heap_alloc_new W _, Nat.le_refl _, by unfold maxLen; omega, rfl, fun j hj => absurd hj (by omega)⟩
  have HB : Below W.heap.size W (W.alloc (Obj.cells #[] 3)) := (Below.refl _ _).alloc (Nat.le_refl _) _
  refine wpList_appendI _ hgd s z ho hs HO hz (h.rd.keep HB (Nat.le_refl _)) HB.size (by omega) hl fun A' c' w' h1 h2 => ?_
  have h3 : Own w' W.heap.size w'.heap.size 3 1 A' l.length c' (ni l) := by
    have := h1
    rw [Nat.zero_add] at this
    exact this.congr fun j hj => by unfold thenI ni; simp
  have := hK A' c' w' h3 (HB.trans h2)
  rw [Nat.zero_add]
  exact this
section
variable {A : Option Addr} {m c : Nat} {r : Nat → Nat} {fn : FuncId} {caps : Array Value} {p : Nat → Bool}
set_option maxHeartbeats 1000000 in
theorem least_g (hef : Ent fn) (w : World) (h : GV w A m c r)
    (HF : ∀ (s : Nat) (z : World), s < 2 ^ m → Below w.heap.size w z → Calls Tryz.prog fn (#[.agg #[.int .i64 m, .slice A m c], .int .i64 s] ++ caps) z (fun e z' => e = .returned (.bool (p s)) ∧ Below z.heap.size z z')) :
    Calls Tryz.prog 231 #[.agg #[.int .i64 m, .slice A m c], .func (.func fn) #[] caps] w fun e w' => e = .returned (lsV (lsK p (2 ^ m))) ∧ Below w.heap.size w w' := by
  have hn7 := h.vg.n7
  unfold Ent at hef
  have h128 := two_pow_le hn7
  have hpos := Nat.two_pow_pos m
  have s1 : wrap64 (((2 ^ m - 1 : Nat) : Int) + 1) = ((2 ^ m : Nat) : Int) := by
    rw [Go.IntWalk.wrap64_in _ (by omega)]; omega
  obtain ⟨W, hW⟩ : ∃ W : World, W = (w.alloc (Obj.cells #[Value.int IntKind.i64 m, Value.slice A m c] 29)) := ⟨_, rfl⟩
  have HB : Hid (From w W) := by rw [hW]; exact From.alloc _ _
  have HG : Hid (GBox W w.heap.size A m c r) := by rw [hW]; exact h.box
  have HW := Lib.hid hW
  clear hW h
  have e0 := HG.out.c0
  have e1 := HG.out.c1
  have HF := Lib.hid HF
  have HS := Lib.hid s1
  go_enter Tryz.func231, Tryz.ntmps231
  go_wp2_with fail
  rw [← HW.out]
  refine (IsGraph_v HG.out.gv).mono ?_
  rintro e w1 ⟨rfl, hb1⟩
  clear HW
  clear e0 e1
  replace HB := Lib.hid (HB.out.keep hb1)
  replace HG := Lib.hid (HG.out.keep hb1)
  clear hb1
  have e0 := HG.out.c0
  have e1 := HG.out.c1
  go_wp2_with fail
  refine (all_v HG.out.gv).mono ?_
  rintro e w2 ⟨rfl, hb2⟩
  clear e0 e1
  replace HB := Lib.hid (HB.out.keep hb2)
  replace HG := Lib.hid (HG.out.keep hb2)
  clear hb2
  have e0 := HG.out.c0
  have e1 := HG.out.c1
  go_wp2
  go_loopw [13] (fun i wr => ∃ k : Nat, k ≤ 2 ^ m ∧ i = .int .i64 k ∧ Hid (∀ u, u < k → p u = false) ∧ Hid (From w2 wr)) (fun i _ => 2 ^ m - (intOf i).toNat)
  case atStart => exact ⟨0, Nat.zero_le _, rfl, (fun u hu => absurd hu (by omega)), From.refl _⟩
  case round =>
    obtain ⟨k, hk, rfl, hall, HR⟩ := hrel
    clear e0 e1
    replace HB := Lib.hid (HB.out.keep HR.out.below)
    replace HG := Lib.hid (HG.out.keep HR.out.below)
    have e0 := HG.out.c0
    have e1 := HG.out.c1
    by_cases hlt : k < 2 ^ m
    · have i1 : (k : Int) < ((2 ^ m : Nat) : Int) := by omega
      have KF := Lib.hid (HF.out k _ hlt HB.out.below)
      go_wp2_with fail
      refine (KF.out).mono ?_
      rintro e w3 ⟨rfl, hb3⟩
      clear e0 e1
      replace HB := Lib.hid (HB.out.keep hb3)
      replace HG := Lib.hid (HG.out.keep hb3)
      replace HR := Lib.hid (HR.out.keep hb3)
      clear hb3
      have e0 := HG.out.c0
      have e1 := HG.out.c1
      cases hp : p k
      · have Hn : Hid (∀ u, u < k + 1 → p u = false) := fun u hu => by
          by_cases huk : u < k
          · exact hall.out u huk
          · obtain rfl : u = k := by omega
            exact hp
        clear hp KF
        go_wp2
        go_roundw
        case rel => exact ⟨k + 1, by omega, by go_num, Hn, HR⟩
        case measure => simp [intOf]; omega
      · have Hn : Hid (lsK p (2 ^ m) = some k) := lsK_yes hlt hp hall.out
        clear hp KF
        go_wp2
        go_ret2
        exact ⟨by rw [Hn.out]; rfl, HB.out.below⟩
    · have hkm : k = 2 ^ m := by omega
      have Hn : Hid (lsK p (2 ^ m) = none) := lsK_no fun u hu => hall.out u (by omega)
      have i1 : ((2 ^ m : Nat) : Int) ≤ (k : Int) := by omega
      clear hkm
      go_wp2
      go_ret2
      exact ⟨by rw [Hn.out]; rfl, HB.out.below⟩
end
set_option maxHeartbeats 1000000 in
theorem least_no {sz : Int} {A : Option Addr} {m c : Nat} {x : Nat → Int} {w : World} {f : Value} (h : GA w A m c x) (hm : m ≤ 1048576) (hok : okB sz m x = false) :
    Calls Tryz.prog 231 #[.agg #[.int .i64 sz, .slice A m c], f] w fun e w' => e = .returned (lsV none) ∧ Below w.heap.size w w' := by
  obtain ⟨W, hW⟩ : ∃ W : World, W = (w.alloc (Obj.cells #[Value.int IntKind.i64 sz, Value.slice A m c] 29)) := ⟨_, rfl⟩
  have HB : Hid (From w W) := by rw [hW]; exact From.alloc _ _
  have HK := Lib.hid (h.keep HB.out.below)
  have HC : Hid (GC W w.heap.size sz A m c) := by rw [hW]; exact GC.new _ _ _ _ _
  have HW := Lib.hid hW
  have Ho := Lib.hid hok
  clear hW h hok
  go_enter Tryz.func231, Tryz.ntmps231
  have e0 := HC.out.c0
  have e1 := HC.out.c1
  go_wp2_with fail
  rw [← HW.out]
  clear HW
  refine (IsGraph_any sz A m c x W W.heap.size HK.out.rd (Nat.le_refl _) hm).mono ?_
  rintro e w1 ⟨rfl, hb1⟩
  rw [Ho.out]
  clear e0 e1
  replace HB := Lib.hid (HB.out.keep hb1)
  replace HK := Lib.hid (HK.out.keep hb1)
  replace HC := Lib.hid (HC.out.keep hb1)
  clear hb1
  have e0 := HC.out.c0
  have e1 := HC.out.c1
  go_wp2
  go_ret2
  exact ⟨rfl, HB.out.below⟩
end Go.Proofs.YtppkokgiojcgbaaGreatDoor

/-
  Contracts: the first order for which a number is least, whatever the number is.
-/
namespace Go.Proofs.YtppkokgiojcgbaaGreatDoor
open Go.RowKit

theorem always_n (A : Option Addr) (n c : Nat) (w : World) : Calls Tryz.prog 229 #[.slice A n c] w fun e w' => e = .returned (.bool true) ∧ Below w.heap.size w w' := by
  go_enter Tryz.func229, Tryz.ntmps229
  go_wp2
  go_ret
  exact ⟨rfl, Below.refl _ _⟩

section
variable {m c H : Nat} {A : Option Addr} {r : Nat → Nat} {fn : FuncId} {caps : Array Value} {p : List Nat → Int} {w0 : World}
end
end Go.Proofs.YtppkokgiojcgbaaGreatDoor

/-
  Contracts: the neighbours of a vertex that stand behind it in an order: both programs'.
-/
namespace Go.Proofs.YtppkokgiojcgbaaGreatDoor
open Go.RowKit

/-- An order has every vertex. -/
theorem VZ.all {m : Nat} {l : List Int} (h : VZ m l) (hl : l.length = m) {v : Int} (h0 : 0 ≤ v) (h1 : v < m) : v ∈ l := by
  refine Classical.byContradiction fun hn => ?_
  have : VZ m (v :: l) := ⟨List.nodup_cons.2 ⟨hn, h.1⟩, fun u hu => by
    rw [List.mem_cons] at hu
    rcases hu with rfl | hu
    · exact ⟨h0, h1⟩
    · exact h.2 u hu⟩
  have := this.len
  rw [List.length_cons] at this
  omega
theorem VZ.drop {m : Nat} {l : List Int} (h : VZ m l) (k : Nat) : VZ m (l.drop k) := ⟨h.1.sublist (List.drop_sublist _ _), fun v hv => h.2 v (List.mem_of_mem_drop hv)⟩
theorem LI.drop {w : World} {b o n c k : Nat} {l : List Int} (h : LI w (some ⟨b, o, none⟩) n c l) (hk : k < n) : LI w (some ⟨b, o + k, none⟩) (n - k) (c - k) (l.drop k) :=
  ⟨by rw [List.length_drop, ← h.len], by have := h.rd.1; omega, fun hn => by
    obtain ⟨b', o', e, hb, hc⟩ := h.rd.2 (by omega)
    simp only [Option.some.injEq, Addr.mk.injEq, and_true] at e
    obtain ⟨rfl, rfl⟩ := e
    refine ⟨b, o + k, rfl, hb, fun j hj => ?_⟩
    rw [Nat.add_assoc, hc (k + j) (by omega)]
    simp [List.getD]⟩

end Go.Proofs.YtppkokgiojcgbaaGreatDoor

/-
  Plain: the filling of a graph in an order.
-/
namespace Go.Proofs.YtppkokgiojcgbaaGreatDoor
open Go.RowKit

theorem listN_getD {s j : Nat} (h : j < (listN s).length) : (listN s).getD j 0 = (listN s)[j] := by simp [List.getD, h]
theorem listN_lt {s m j : Nat} (hs : s < 2 ^ m) (hj : j < (listN s).length) : (listN s).getD j 0 < m := by
  rw [listN_getD hj]
  exact bit_lt hs (listN_at hj).2
end Go.Proofs.YtppkokgiojcgbaaGreatDoor

/-
  Contracts: the filling of a graph in an order, of the reference.
-/
namespace Go.Proofs.YtppkokgiojcgbaaGreatDoor
open Go.RowKit

section
variable {w w' : World} {A : Option Addr} {c lo m : Nat} {r : Nat → Nat}
theorem ON.set {q : Nat} {AL : Option Addr} {cL : Nat} {L : List Nat} (h : ON (q + 1) w AL cL L) (x y : Value) : ON (q + 1) ((w.setCell ⟨q, 0, none⟩ x).setCell ⟨q, 1, none⟩ y) AL cL L :=
  ⟨(h.own.keep (fr2 w q x y) (.inr (Nat.le_refl _))).mono (Nat.le_refl _) (fr2 w q x y).size⟩
end
end Go.Proofs.YtppkokgiojcgbaaGreatDoor

/-
  Plain: orders in which all between two neighbors are neighbors of both.
-/
namespace Go.Proofs.YtppkokgiojcgbaaGreatDoor
open Go.RowKit

/-- What lies at j between the places i and k. -/
def Ub (r : Nat → Nat) (l : List Nat) (i k j : Nat) : Prop := (r (l.getD i 0)).testBit (l.getD k 0) = true → (r (l.getD i 0)).testBit (l.getD j 0) = true ∧ (r (l.getD k 0)).testBit (l.getD j 0) = true
def Um (r : Nat → Nat) (l : List Nat) : Prop := ∀ i k j, i < j → j < k → k < l.length → Ub r l i k j
noncomputable def umB (r : Nat → Nat) (l : List Nat) : Bool := @decide (Um r l) (Classical.propDecidable _)
section
variable {r : Nat → Nat} {l : List Nat}
theorem um_yes (h : Um r l) : umB r l = true := @decide_eq_true _ (Classical.propDecidable _) h
theorem um_no (h : ¬ Um r l) : umB r l = false := @decide_eq_false _ (Classical.propDecidable _) h
/-- Up to the first place, the second, the third. -/
def Um1 (r : Nat → Nat) (l : List Nat) (i : Nat) : Prop := ∀ i', i' < i → ∀ k j, i' < j → j < k → k < l.length → Ub r l i' k j
def Um2 (r : Nat → Nat) (l : List Nat) (i k : Nat) : Prop := ∀ k', k' < k → ∀ j, i < j → j < k' → Ub r l i k' j
def Um3 (r : Nat → Nat) (l : List Nat) (i k j : Nat) : Prop := ∀ j', i < j' → j' < j → Ub r l i k j'
theorem Um1.zero : Um1 r l 0 := fun i' h => absurd h (by omega)
theorem Um2.zero {i : Nat} : Um2 r l i (i + 2) := fun k' h j h1 h2 => absurd h1 (by omega)
theorem Um3.zero {i k : Nat} : Um3 r l i k (i + 1) := fun j' h1 h2 => absurd h1 (by omega)
theorem Um3.step {i k j : Nat} (h : Um3 r l i k j) (h2 : Ub r l i k j) : Um3 r l i k (j + 1) := fun j' h3 h4 => by
  by_cases e : j' < j
  · exact h j' h3 e
  · obtain rfl : j' = j := by omega
    exact h2
theorem Um2.step {i k : Nat} (h : Um2 r l i k) (h2 : Um3 r l i k k) : Um2 r l i (k + 1) := fun k' h3 j h4 h5 => by
  by_cases e : k' < k
  · exact h k' e j h4 h5
  · obtain rfl : k' = k := by omega
    exact h2 j h4 h5
theorem Um2.skip {i k : Nat} (h : Um2 r l i k) (h2 : (r (l.getD i 0)).testBit (l.getD k 0) = false) : Um2 r l i (k + 1) := h.step fun j _ _ h3 => by rw [h2] at h3; cases h3
theorem Um1.step {i k : Nat} (h : Um1 r l i) (h2 : Um2 r l i k) (hk : l.length ≤ k) : Um1 r l (i + 1) := fun i' h3 k' j h4 h5 h6 => by
  by_cases e : i' < i
  · exact h i' e k' j h4 h5 h6
  · obtain rfl : i' = i := by omega
    exact h2 k' (by omega) j h4 h5
theorem Um1.all {i : Nat} (h : Um1 r l i) (hi : l.length ≤ i) : Um r l := fun i' k j h1 h2 h3 => h i' (by omega) k j h1 h2 h3
theorem um_bad {i k j : Nat} (h1 : i < j) (h2 : j < k) (h3 : k < l.length) (h : ¬ Ub r l i k j) : umB r l = false := um_no fun hu => h (hu i k j h1 h2 h3)
end
/-- The vertices of an order as natural numbers. -/
def nats (l : List Int) : List Nat := l.map Int.toNat
theorem LI.ln {w : World} {A : Option Addr} {n c : Nat} {l : List Int} {m : Nat} (h : LI w A n c l) (hV : VZ m l) : LN w A c (nats l) := by
  have hl : (nats l).length = n := by rw [h.len]; unfold nats; simp
  refine ⟨?_⟩
  rw [hl]
  refine h.rd.congr fun k hk => ?_
  have hk2 : k < l.length := by rw [← h.len]; exact hk
  have := (hV.2 _ (getD_mem hk2)).1
  unfold nats
  simp only [List.getD, List.getElem?_map, List.getElem?_eq_getElem hk2, Option.map_some, Option.getD_some] at this ⊢
  omega
theorem getD_lt {m : Nat} {l : List Nat} (h : ∀ v ∈ l, v < m) {j : Nat} (hj : j < l.length) : l.getD j 0 < m := by
  have : l.getD j 0 = l[j] := by simp [List.getD, hj]
  rw [this]; exact h _ (List.getElem_mem hj)
end Go.Proofs.YtppkokgiojcgbaaGreatDoor
