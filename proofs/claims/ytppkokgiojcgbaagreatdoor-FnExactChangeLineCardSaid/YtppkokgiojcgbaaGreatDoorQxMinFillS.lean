/-
  Several texts in one.
-/
import Derived.Test.YtppkokgiojcgbaaGreatDoorQxDelS
import Derived.Test.YtppkokgiojcgbaaGreatDoorQxSet2I
import Derived.Test.YtppkokgiojcgbaaGreatDoorQxGB
import Derived.Lib.AppendZeros
import Derived.Test.YtppkokgiojcgbaaGreatDoorQxPthI
import Derived.Test.YtppkokgiojcgbaaGreatDoorQxGC
import Derived.Test.YtppkokgiojcgbaaGreatDoorQxJoinS
/-
-/
namespace Go.Proofs.YtppkokgiojcgbaaGreatDoor
open Go.RowKit
theorem lsV_eq (o : Option Nat) : lsV o = .tuple #[.int .i64 ((o.getD 0 : Nat) : Int), .bool o.isSome] := by cases o <;> rfl
section
variable (s1 : Int) (A1 : Option Addr) (m1 c1 : Nat) (x1 : Nat → Int) (t2 : ByteArray) (w : World) (B : Nat)
theorem FewestDeletions_sL (h1 : Rd w B A1 m1 c1 x1) (hB : B ≤ w.heap.size) (hm1 : m1 ≤ 1048576) (_ : t2.size ≤ 1048576) :
 Calls Tryz.prog 46 #[.agg #[.int .i64 s1, .slice A1 m1 c1], .string t2] w fun e w' => e = .returned (.tuple #[.int .i64 (((dlX s1 m1 x1 t2.toList).getD 0 : Nat) : Int), .bool (dlX s1 m1 x1 t2.toList).isSome]) ∧ Below w.heap.size w w' := by
 have := FewestDeletions_s s1 A1 m1 c1 x1 t2 w ⟨h1.keep (Below.refl _ _) hB⟩ hm1
 rwa [lsV_eq] at this
theorem FewestDeletions_iL (h1 : Rd w B A1 m1 c1 x1) (hB : B ≤ w.heap.size) (hm1 : m1 ≤ 1048576) (_ : t2.size ≤ 1048576) :
 Calls Tryz.prog 52 #[.agg #[.int .i64 s1, .slice A1 m1 c1], .string t2] w fun e w' => e = .returned (.tuple #[.int .i64 (((dlX s1 m1 x1 t2.toList).getD 0 : Nat) : Int), .bool (dlX s1 m1 x1 t2.toList).isSome]) ∧ Below w.heap.size w w' := by
 have := FewestDeletions_i s1 A1 m1 c1 x1 t2 w ⟨h1.keep (Below.refl _ _) hB⟩ hm1
 rwa [lsV_eq] at this
theorem LargestInside_sL (h1 : Rd w B A1 m1 c1 x1) (hB : B ≤ w.heap.size) (hm1 : m1 ≤ 1048576) (_ : t2.size ≤ 1048576) :
 Calls Tryz.prog 50 #[.agg #[.int .i64 s1, .slice A1 m1 c1], .string t2] w fun e w' => e = .returned (.int .i64 (laI m1 (dlX s1 m1 x1 t2.toList))) ∧ Below w.heap.size w w' :=
 LargestInside_s s1 A1 m1 c1 x1 t2 w ⟨h1.keep (Below.refl _ _) hB⟩ hm1
theorem LargestInside_iL (h1 : Rd w B A1 m1 c1 x1) (hB : B ≤ w.heap.size) (hm1 : m1 ≤ 1048576) (_ : t2.size ≤ 1048576) :
 Calls Tryz.prog 56 #[.agg #[.int .i64 s1, .slice A1 m1 c1], .string t2] w fun e w' => e = .returned (.int .i64 (laI m1 (dlX s1 m1 x1 t2.toList))) ∧ Below w.heap.size w w' :=
 LargestInside_i s1 A1 m1 c1 x1 t2 w ⟨h1.keep (Below.refl _ _) hB⟩ hm1
end
end Go.Proofs.YtppkokgiojcgbaaGreatDoor

/-
-/
namespace Go.Proofs.YtppkokgiojcgbaaGreatDoor
open Go.RowKit
theorem zeroCells_size (n : Nat) : (Builtin.zeroCells #[Value.slice none 0 0] n).size = n := by
 simp [Builtin.zeroCells]
set_option maxHeartbeats 1000000 in
theorem Grow_i (n : Nat) (w : World) (hn : n ≤ 2097152) :
 Calls Tryz.prog 214 #[.slice none 0 0, .int .i64 n] w fun e w' => ∃ A' c', e = .returned (.slice A' 0 c') ∧ (∀ x, Own w' w.heap.size w'.heap.size 22 1 A' 0 c' x) ∧ Below w.heap.size w w' := by
 by_cases h0 : n = 0
 ·subst h0
  go_enter Tryz.func214, Tryz.ntmps214
  go_wp2
  go_ret
  exact ⟨none, 0, rfl, fun x => Own.nil _ _ _ _ _ _, Below.refl _ _⟩
 ·obtain ⟨i, hi', hzz⟩ := Option.map_eq_some_iff.1 info_ints
  simp only [Prod.mk.injEq] at hzz
  obtain ⟨hz, hsize, hbytes⟩ := hzz
  have hp : 0 < n := by omega
  have i1 : (0 : Int) < (n : Int) := by omega
  have hr := fun (ty : TypeId) => Lib.run_append_nil_zeros (P := Tryz.prog) w 72 3 ty 22 i (.slice none 0 0) .i64 .i64 Tryz.underlying72 Tryz.underlying3 hi' hz n hp (by omega) (by omega) (by rw [hbytes]; omega)
  have HR := Lib.hid hr
  have hge := grownCap_ge w n 0 22
  have hle := grownCap_le_maxLen w n 0 22 (by unfold maxLen; omega)
  obtain ⟨cap, hcap⟩ : ∃ cap, cap = grownCap w n 0 22 := ⟨_, rfl⟩
  rw [← hcap] at hge hle hr
  have Hr := Lib.hid hr
  have Hle := Lib.hid hle
  have Hge := Lib.hid hge
  clear hr h0 hz hsize hbytes hi' HR hcap hle hge
  go_enter Tryz.func214, Tryz.ntmps214
  go_wp2_with (first | (at_builtin; (refine Lib.wpList_append_run _ rfl _ _ 72 3 rfl _ _ rfl rfl _ _ (Hr.out _) ?_)))
  go_ret
  refine ⟨_, _, rfl, fun x => .inr ⟨w.heap.size, _, rfl, Nat.le_refl _, by simp, heap_alloc_new w.drew _, Nat.zero_le _, Hle.out, ?_, fun j hj => absurd hj (by omega)⟩, ((Below.refl _ _).drew).alloc (Nat.le_refl _) _⟩
  have := Hge.out
  rw [Array.size_append, zeroCells_size, zeroCells_size]
  omega
structure LV (w : World) (A : Option Addr) (n c : Nat) (x : Nat → Value) : Prop where
 rd : RdV w w.heap.size A n c x
theorem LV.keep {w w' : World} {A : Option Addr} {n c : Nat} {x : Nat → Value} (h : LV w A n c x) (hb : Below w.heap.size w w') : LV w' A n c x := ⟨h.rd.keep hb hb.size⟩
set_option maxRecDepth 100000 in
set_option maxHeartbeats 1600000 in
theorem Concat_i (q : Nat) (A1 A2 : Option Addr) (n1 n2 c1 c2 : Nat) (y1 y2 : Nat → Value) (w : World) (q0 : w.cell? ⟨q, 0, none⟩ = some (.slice A1 n1 c1)) (q1 : w.cell? ⟨q, 1, none⟩ = some (.slice A2 n2 c2)) (h1 : LV w A1 n1 c1 y1) (h2 : LV w A2 n2 c2 y2) (o1 : ∀ k, (y1 k).oneCell' = true) (o2 : ∀ k, (y2 k).oneCell' = true) (hn1 : n1 ≤ 1048576) (hn2 : n2 ≤ 1048576) :
 Calls Tryz.prog 166 #[.slice (some ⟨q, 0, none⟩) 2 2] w fun e w' => ∃ A' c', e = .returned (.slice A' (n1 + n2) c') ∧ Own w' w.heap.size w'.heap.size 22 1 A' (n1 + n2) c' (thenV n1 y1 y2) ∧ Below w.heap.size w w' := by
 have H1 := Lib.hid h1
 have H2 := Lib.hid h2
 have O1 := Lib.hid o1
 have O2 := Lib.hid o2
 have HQ0 : Hid (CL w q 0 (.slice A1 n1 c1)) := ⟨q0⟩
 have HQ1 : Hid (CL w q 1 (.slice A2 n2 c2)) := ⟨q1⟩
 clear h1 h2 o1 o2
 go_enter Tryz.func166, Tryz.ntmps166
 go_wp2
 go_loop [3, 11] (fun s i => ∃ k : Nat, k ≤ 2 ∧ i = .int .i64 k ∧ ∃ t : Nat, s = .int .i64 t ∧ Hid (t = if k = 0 then 0 else if k = 1 then n1 else n1 + n2) ∧ t ≤ 2097152) (fun _ i => 2 - (intOf i).toNat)
 case atStart => exact ⟨0, by omega, rfl, 0, rfl, by simp [Hid], by omega⟩
 case round =>
  obtain ⟨k, hk, rfl, t, rfl, ht, htl⟩ := hrel
  by_cases hlt : k < 2
  ·have : k = 0 ∨ k = 1 := by omega
   rcases this with rfl | rfl
   ·have e0 : t = 0 := ht.out
    subst e0
    go_wp2
    go_round
    case rel => exact ⟨1, by omega, by go_num, n1, by go_num, rfl, by omega⟩
    case measure => simp [intOf]
   ·have e0 : t = n1 := ht.out
    subst e0
    have e1 : ¬ (t : Int) + n2 < 0 := by omega
    go_wp2
    go_round
    case rel => exact ⟨2, by omega, by go_num, t + n2, by go_num, rfl, by omega⟩
    case measure => simp [intOf]
  ·obtain rfl : k = 2 := by omega
   have e0 : t = n1 + n2 := ht.out
   subst e0
   clear q0 q1
   go_wp2_with fail
   refine (Grow_i (n1 + n2) w (by omega)).mono ?_
   rintro e w1 ⟨A, c, rfl, hO, hb1⟩
   have HO := Lib.hid (hO (thenV n1 y1 y2))
   have HB : Hid (From w w1) := ⟨hb1⟩
   clear hO hb1
   go_wp2
   go_loopw [6, 27] (fun s i wr => ∃ (k t : Nat) (A' : Option Addr) (c' : Nat), k ≤ 2 ∧ i = .int .i64 k ∧ s = .slice A' t c' ∧ Hid (t = if k = 0 then 0 else if k = 1 then n1 else n1 + n2) ∧ Hid (Own wr w.heap.size wr.heap.size 22 1 A' t c' (thenV n1 y1 y2)) ∧ Hid (From w wr)) (fun _ i _ => 2 - (intOf i).toNat)
   case atStart => exact ⟨0, 0, A, c, by omega, rfl, rfl, rfl, HO, HB⟩
   case round =>
    obtain ⟨k, t, A', c', hk, rfl, rfl, ht, HOr, HR⟩ := hrel
    have zr := HR.out.below.size
    by_cases hlt : k < 2
    ·have : k = 0 ∨ k = 1 := by omega
     have q0 := (HQ0.out.keep HR.out.below).c
     have q1 := (HQ1.out.keep HR.out.below).c
     have HL1 := Lib.hid (H1.out.keep HR.out.below)
     have HL2 := Lib.hid (H2.out.keep HR.out.below)
     rcases this with rfl | rfl
     ·have e0 : t = 0 := ht.out
      subst e0
      go_wp2_with (first | (at_builtin; (refine wpList_appendV wr rfl _ _ rfl rfl HOr.out rfl HL1.out.rd O1.out zr (by omega) (by omega) ?_; intro A3 c3 w3 hO3 hb3)))
      have HO3 : Hid (Own w3 w.heap.size w3.heap.size 22 1 A3 (0 + n1) c3 (thenV n1 y1 y2)) := hO3.congr (fun j hj => by unfold thenV; rw [if_neg (by omega), if_pos (by omega)]; rfl)
      have HB3 : Hid (From w w3) := ⟨HR.out.below.trans hb3⟩
      clear hO3 hb3 HOr HR
      go_roundw
      case rel => exact ⟨1, n1, A3, c3, by omega, by go_num, rfl, rfl, by have := HO3; rw [Nat.zero_add] at this; exact this, HB3⟩
      case measure => simp [intOf]
     ·have e0 : t = n1 := ht.out
      subst e0
      go_wp2_with (first | (at_builtin; (refine wpList_appendV wr rfl _ _ rfl rfl HOr.out rfl HL2.out.rd O2.out zr (by omega) (by omega) ?_; intro A3 c3 w3 hO3 hb3)))
      have HO3 : Hid (Own w3 w.heap.size w3.heap.size 22 1 A3 (t + n2) c3 (thenV t y1 y2)) := hO3.congr (fun j hj => by unfold thenV; by_cases h : j < t <;> simp [h])
      have HB3 : Hid (From w w3) := ⟨HR.out.below.trans hb3⟩
      clear hO3 hb3 HOr HR
      go_roundw
      case rel => exact ⟨2, t + n2, A3, c3, by omega, by go_num, rfl, rfl, HO3, HB3⟩
      case measure => simp [intOf]
    ·obtain rfl : k = 2 := by omega
     have e0 : t = n1 + n2 := ht.out
     subst e0
     go_wp2
     go_ret
     exact ⟨A', c', rfl, HOr.out, HR.out.below⟩
structure LD (w : World) (A : Option Addr) (c : Nat) (D : List Dsc) : Prop where
 rd : RdD w w.heap.size A c D
theorem LD.keep {w w' : World} {A : Option Addr} {c : Nat} {D : List Dsc} (h : LD w A c D) (hb : Below w.heap.size w w') : LD w' A c D := ⟨h.rd.keep hb hb.size⟩
theorem dvs_one (D : List Dsc) (k : Nat) : (dvs D k).oneCell' = true := rfl
theorem getD_erase (D : List Dsc) (i j : Nat) (d : Dsc) : (D.eraseIdx i).getD j d = if j < i then D.getD j d else D.getD (j + 1) d := by
 simp only [List.getD, List.getElem?_eraseIdx]
 split <;> rfl
theorem lists_erase (D : List Dsc) (i : Nat) : lists (D.eraseIdx i) = (lists D).eraseIdx i := by
 unfold lists
 apply List.ext_getElem?
 intro j
 simp only [List.getElem?_map, List.getElem?_eraseIdx]
 split <;> rfl
theorem LD.pre {w : World} {A : Option Addr} {c i : Nat} {D : List Dsc} (h : LD w A c D) (hi : i ≤ D.length) : LV w A i c (dvs D) :=
 ⟨by have := h.rd.1.1; omega, fun hn => by
   obtain ⟨b, o, e, hb, hc⟩ := h.rd.1.2 (by omega)
   exact ⟨b, o, e, hb, fun k hk => hc k (by omega)⟩⟩
theorem LD.post {w : World} {b o c i : Nat} {D : List Dsc} (h : LD w (some ⟨b, o, none⟩) c D) (hi : i < D.length) (hc : i + 1 < c) : LV w (some ⟨b, o + (i + 1), none⟩) (D.length - (i + 1)) (c - (i + 1)) (fun j => dvs D (i + 1 + j)) :=
 ⟨by have := h.rd.1.1; omega, fun hn => by
   obtain ⟨b', o', e, hb, hc⟩ := h.rd.1.2 (by omega)
   simp only [Option.some.injEq, Addr.mk.injEq, and_true] at e
   obtain ⟨rfl, rfl⟩ := e
   exact ⟨b, o + (i + 1), rfl, hb, fun k hk => by rw [Nat.add_assoc]; exact hc (i + 1 + k) (by omega)⟩⟩
theorem LD.erase {w' : World} {A A' : Option Addr} {c c' i lo : Nat} {D : List Dsc} (h : LD w' A c D) (hi : i < D.length) (hO : Own w' lo w'.heap.size 22 1 A' (i + (D.length - (i + 1))) c' (thenV i (dvs D) (fun j => dvs D (i + 1 + j)))) : LD w' A' c' (D.eraseIdx i) := by
 have hl : (D.eraseIdx i).length = i + (D.length - (i + 1)) := by rw [List.length_eraseIdx_of_lt hi]; omega
 refine ⟨?_, fun d hd => h.rd.2 d (List.mem_of_mem_eraseIdx hd)⟩
 rw [hl]
 refine (hO.congr (fun j hj => ?_)).rdV
 unfold thenV dvs
 rw [getD_erase]
 by_cases hj2 : j < i
 ·rw [if_pos hj2, if_pos hj2]
 ·rw [if_neg hj2, if_neg hj2]
  show dv (D.getD (i + 1 + (j - i)) _) = _
  rw [show i + 1 + (j - i) = j + 1 by omega]
end Go.Proofs.YtppkokgiojcgbaaGreatDoor

/-
-/
namespace Go.Proofs.YtppkokgiojcgbaaGreatDoor
open Go.RowKit
noncomputable def fiB (sz : Int) (m : Nat) (x : Nat → Int) (L : List (List Int)) : Bool := chB (aaZ sz m x L) (aaN sz m x L) (aaX sz m x L)
theorem fiB_no {sz : Int} {m : Nat} {x : Nat → Int} {L : List (List Int)} (h : aaB sz m x L = false) : fiB sz m x L = false := by
 have h2 : aaZ sz m x L = 0 := by unfold aaZ; rw [h]; rfl
 unfold fiB
 exact chB_no (by rw [h2]; exact okB_far (.inl (by omega)))
set_option maxHeartbeats 1000000 in
theorem fills_i (s1 : Int) (A1 : Option Addr) (m1 c1 : Nat) (x1 : Nat → Int) (A2 : Option Addr) (c2 : Nat) (D : List Dsc) (w : World) (h1 : Rd w w.heap.size A1 m1 c1 x1) (h2 : LD w A2 c2 D) (hm1 : m1 ≤ 1048576) (hd : D.length ≤ 1048576) (ht : tot D ≤ 1048576) :
 Calls Tryz.prog 111 #[.agg #[.int .i64 s1, .slice A1 m1 c1], .slice A2 D.length c2] w fun e w' => e = .returned (.bool (fiB s1 m1 x1 (lists D))) ∧ Below w.heap.size w w' := by
 obtain ⟨W, hW⟩ : ∃ W : World, W = (w.alloc (Obj.cells #[Value.int IntKind.i64 s1, Value.slice A1 m1 c1] 29)) := ⟨_, rfl⟩
 have HB : Hid (From w W) := by rw [hW]; exact From.alloc _ _
 have HK : Hid (Rd W W.heap.size A1 m1 c1 x1) := h1.keep HB.out.below HB.out.below.size
 have HD := Lib.hid (h2.keep HB.out.below)
 have HW := Lib.hid hW
 clear hW h1 h2
 go_enter Tryz.func111, Tryz.ntmps111
 go_wp2_with fail
 rw [← HW.out]
 clear HW
 refine (AddAll_i s1 A1 m1 c1 x1 A2 c2 D W W.heap.size HK.out HD.out.rd (Nat.le_refl _) hm1 hd ht _ rfl).mono ?_
 rintro e w1 ⟨A', c', rfl, hO, hb1⟩
 have HB1 := Lib.hid (HB.out.keep hb1)
 have HO := Lib.hid hO
 have hN : aaN s1 m1 x1 (lists D) ≤ m1 := aaN_le
 clear hO hb1 HB HK HD
 cases hb : aaB s1 m1 x1 (lists D)
 ·have hno : Hid (fiB s1 m1 x1 (lists D) = false) := fiB_no hb
  clear hb
  go_wp2
  go_ret
  exact ⟨ret_bool hno.out.symm, (HB1.out.alloc_ _).below⟩
 ·obtain ⟨W2, hW2⟩ : ∃ W2 : World, W2 = w1.alloc (Obj.cells #[.int .i64 (aaZ s1 m1 x1 (lists D)), .slice A' (aaN s1 m1 x1 (lists D)) c'] 29) := ⟨_, rfl⟩
  have HB2 : Hid (From w W2) := by rw [hW2]; exact HB1.out.alloc_ _
  have HR2 : Hid (Rd W2 W2.heap.size A' (aaN s1 m1 x1 (lists D)) c' (aaX s1 m1 x1 (lists D))) := by
   rw [hW2]
   exact HO.out.rd.keep ((Below.refl _ _).alloc (Nat.le_refl _) _) (by simp)
  have HW2 := Lib.hid hW2
  clear hW2 hb
  go_wp2_with fail
  rw [← HW2.out]
  clear HW2
  refine (IsChordal_ix _ A' _ c' _ W2 W2.heap.size HR2.out (Nat.le_refl _) (by omega)).mono ?_
  rintro e w3 ⟨rfl, hb3⟩
  have HB3 := Lib.hid (HB2.out.keep hb3)
  clear hb3
  go_wp2
  go_ret
  exact ⟨rfl, HB3.out.below⟩
end Go.Proofs.YtppkokgiojcgbaaGreatDoor

/-
-/
namespace Go.Proofs.YtppkokgiojcgbaaGreatDoor
open Go.RowKit
theorem GC.grown {w w' : World} {q m c : Nat} {sz : Int} {A : Option Addr} {b : Option Nat} (h : GC w q sz A m c) (hg : w.grownBy w' b) (hne : b ≠ some q) : GC w' q sz A m c := by
 have e : w'.heap[q]? = w.heap[q]? := hg.block q h.lt (fun e => hne e.symm)
 exact ⟨(World.cell?_of_block (a := ⟨q, 0, none⟩) e).trans h.c0, (World.cell?_of_block (a := ⟨q, 1, none⟩) e).trans h.c1, (World.frozen?_of_block (a := ⟨q, 0, none⟩) e).trans h.f0, (World.frozen?_of_block (a := ⟨q, 1, none⟩) e).trans h.f1⟩
theorem step_appendW (w : World) {ops : Array Oper} {o : Oper} {a : Act} {K : Act → World → Prop} {Q : Exit → Act → World → Prop} {E : Prop}
 {lo hi B n c m c2 : Nat} {A A2 : Option Addr} {x y : Nat → Value} (hgd : o.guard = none) (s z : Operand)
 (ho : o.op = .call { callee := .builtin .append, args := #[s, z], argTypes := #[72, 72] })
 (hs : a.eval s = .slice A n c) (h : Own w lo hi 22 1 A n c x) (hz : a.eval z = .slice A2 m c2) (hr : RdV w B A2 m c2 y) (hy : ∀ k, (y k).oneCell' = true) (hlo : lo ≤ w.heap.size) (hn : n ≤ 1073741824) (hm : m ≤ 1073741824) (N : Nat) (hNN : n + m = N)
 (hK : ∀ A' c' w', Own w' lo w'.heap.size 22 1 A' N c' (thenV n x y) → Below lo w w' → w.grownBy w' (Value.slice A n c).ownBlock → ((Value.slice A' N c').ownBlock = (Value.slice A n c).ownBlock ∨ (Value.slice A' N c').ownBlock = some w.heap.size) → K (a.put o.dst (.slice A' N c')) w') :
 if Region.wanted o (yielded ops a.tmps) = true then Oper.wp Tryz.prog o a w K Q else E := by
 subst hNN
 have hw : Region.wanted o (yielded ops a.tmps) = true := by simp [Region.wanted, hgd]
 rw [if_pos hw]
 obtain ⟨A', c', w', hrun, h2, h3, h4, h5⟩ := run_appendV w o.type h hr hy hlo hn hm
 unfold Oper.wp execOp
 simp only [ho, resolve, invoke, builtin, Sem.run_bind, Sem.run_pure, Result.andThen_ok, List.map_toArray, List.map_cons, List.map_nil, hs, hz, hrun]
 exact hK _ _ _ h2 h3 h5 h4
theorem own_empty (w : World) (lo hi : Nat) (h1 : lo ≤ w.heap.size) (h2 : w.heap.size < hi) (x : Nat → Value) : Own (w.alloc (Obj.cells #[] 22)) lo hi 22 1 (some ⟨w.heap.size, 0, none⟩) 0 0 x :=
 .inr ⟨w.heap.size, #[], rfl, h1, h2, heap_alloc_new w _, Nat.le_refl _, by unfold maxLen; omega, rfl, fun j hj => absurd hj (by omega)⟩
end Go.Proofs.YtppkokgiojcgbaaGreatDoor
