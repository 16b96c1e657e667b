/-
  Several texts in one.
-/
import Derived.Test.YtppkokgiojcgbaaGreatDoorQxOrlI
import Derived.Test.YtppkokgiojcgbaaGreatDoorQxLater
import Derived.Test.YtppkokgiojcgbaaGreatDoorQxSimP
import Derived.Test.YtppkokgiojcgbaaGreatDoorQxJoinI
import Derived.Test.YtppkokgiojcgbaaGreatDoorQxFmU
/-
-/
namespace Go.Proofs.YtppkokgiojcgbaaGreatDoor
open Go.RowKit
theorem red_elim {r : Nat → Nat} : ∀ (S : Nat), (redL (firstS r) S).isSome = elimB r S := by
 intro S
 induction S using Nat.strongRecOn with
 | ind S ih =>
   by_cases h0 : S = 0
   ·subst h0; rw [redL_zero, elimB_zero]; rfl
   ·cases hf : firstS r S with
    | none => rw [redL_none h0 hf, elimB_none h0 hf]; rfl
    | some v =>
      have hb := (firstS_bit hf).2
      rw [elimB_some hf, ← ih _ (xor_bit_lt hb), redL_some hb hf, Option.isSome_map]
theorem orG_chB {sz : Int} {m : Nat} {x : Nat → Int} : (orG firstS sz m x).isSome = chB sz m x := by
 unfold orG chB
 cases h : okB sz m x
 ·rfl
 ·rw [if_pos rfl, red_elim]; rfl
theorem EliminationOf_ix (sz : Int) (A : Option Addr) (m c : Nat) (x : Nat → Int) (w : World) (B : Nat) (h : Rd w B A m c x) (hB : B ≤ w.heap.size) (hm : m ≤ 1048576) :
 Calls Tryz.prog 182 #[.agg #[.int .i64 sz, .slice A m c]] w fun e w' => ∃ A' n' c', e = .returned (.tuple #[.slice A' n' c', .bool (chB sz m x)]) ∧ Below w.heap.size w w' :=
 (EliminationOf_il sz A m c x w B h hB hm).mono fun e w' ⟨A', c', he, _, hb⟩ => ⟨A', _, c', by rw [← orG_chB]; exact he, hb⟩
set_option maxHeartbeats 1000000 in
theorem IsChordal_ix (sz : Int) (A : Option Addr) (m c : Nat) (x : Nat → Int) (w : World) (B : Nat) (h : Rd w B A m c x) (hB : B ≤ w.heap.size) (hm : m ≤ 1048576) :
 Calls Tryz.prog 128 #[.agg #[.int .i64 sz, .slice A m c]] w fun e w' => e = .returned (.bool (chB sz m x)) ∧ Below w.heap.size w w' := by
 obtain ⟨W, hW⟩ : ∃ W : World, W = (w.alloc (Obj.cells #[Value.int IntKind.i64 sz, Value.slice A m c] 29)) := ⟨_, rfl⟩
 have HB : Hid (Below w.heap.size w W) := by rw [hW]; exact ((Below.refl _ _).alloc (Nat.le_refl _) _)
 have a0 : w.heap.size < W.heap.size := by rw [hW]; simp
 have HK := Lib.hid (h.keep (HB.out.mono hB) (Nat.le_refl _))
 have HW := Lib.hid hW
 clear hW h
 go_enter Tryz.func128, Tryz.ntmps128
 go_wp2_with fail
 rw [← HW.out]
 clear HW
 refine (EliminationOf_ix sz A m c x W B HK.out (by omega) hm).mono ?_
 rintro e w1 ⟨A', n', c', rfl, hb1⟩
 have HB1 : Hid (Below w.heap.size w w1) := HB.out.trans (hb1.mono (by omega))
 clear hb1 HK HB
 go_wp2
 go_ret
 exact ⟨rfl, HB1.out⟩
end Go.Proofs.YtppkokgiojcgbaaGreatDoor

/-
-/
namespace Go.Proofs.YtppkokgiojcgbaaGreatDoor
open Go.RowKit
def slO (r : Nat → Nat) (m : Nat) : Option Nat := lsK (splB r m) (2 ^ m)
noncomputable def slB (sz : Int) (m : Nat) (x : Nat → Int) : Bool := okB sz m x && (slO (rw_ x) m).isSome
theorem slB_no {sz : Int} {m : Nat} {x : Nat → Int} (h : okB sz m x = false) : slB sz m x = false := by unfold slB; rw [h]; rfl
theorem slB_yes {sz : Int} {m : Nat} {x : Nat → Int} (h : okB sz m x = true) : slB sz m x = (slO (rw_ x) m).isSome := by unfold slB; rw [h]; rfl
section
variable {A : Option Addr} {m c : Nat} {r : Nat → Nat}
set_option maxHeartbeats 1000000 in
theorem SplitOf_v {w : World} (h : GV w A m c r) :
 Calls Tryz.prog 186 #[.agg #[.int .i64 m, .slice A m c]] w fun e w' => e = .returned (lsV (slO r m)) ∧ Below w.heap.size w w' := by
 obtain ⟨W, hW⟩ : ∃ W : World, W = (w.alloc (Obj.cells #[Value.int IntKind.i64 m, Value.slice A m c] 29)) := ⟨_, rfl⟩
 have HB : Hid (From w W) := by rw [hW]; exact From.alloc _ _
 have HG : Hid (GBox W w.heap.size A m c r) := by rw [hW]; exact h.box
 have HW := Lib.hid hW
 clear hW h
 have e0 := HG.out.c0
 have e1 := HG.out.c1
 go_enter Tryz.func186, Tryz.ntmps186
 go_wp2_with fail
 rw [← HW.out]
 refine (least_g (p := splB r m) (caps := #[]) (ent_of Tryz.func232 (by kernel_rfl) rfl) W HG.out.gv (fun s z hs hb => IsSplitPartition_v (HG.out.gv.keep hb) hs)).mono ?_
 rintro e w1 ⟨rfl, hb1⟩
 clear HW
 clear e0 e1
 replace HB := Lib.hid (HB.out.keep hb1)
 replace HG := Lib.hid (HG.out.keep hb1)
 clear hb1
 have e0 := HG.out.c0
 have e1 := HG.out.c1
 have HS : Hid (slO r m = lsK (splB r m) (2 ^ m)) := rfl
 rw [← HS.out]
 cases hso : slO r m with
 | none =>
   have Hn := Lib.hid hso
   clear hso
   rw [lsV_none]
   go_wp2
   go_ret2
   exact ⟨by rw [Hn.out]; rfl, HB.out.below⟩
 | some k =>
   have Hn := Lib.hid hso
   clear hso
   rw [lsV_some]
   go_wp2
   go_ret2
   exact ⟨by rw [Hn.out]; rfl, HB.out.below⟩
end
section
variable (sz : Int) (A : Option Addr) (m c : Nat) (x : Nat → Int) (w : World)
set_option maxHeartbeats 1000000 in
theorem SplitOf_no (h : GA w A m c x) (hm : m ≤ 1048576) (hok : okB sz m x = false) :
 Calls Tryz.prog 186 #[.agg #[.int .i64 sz, .slice A m c]] w fun e w' => e = .returned (lsV none) ∧ Below w.heap.size w w' := by
 obtain ⟨W, hW⟩ : ∃ W : World, W = (w.alloc (Obj.cells #[Value.int IntKind.i64 sz, Value.slice A m c] 29)) := ⟨_, rfl⟩
 have HB : Hid (From w W) := by rw [hW]; exact From.alloc _ _
 have HK := Lib.hid (h.keep HB.out.below)
 have HC : Hid (GC W w.heap.size sz A m c) := by rw [hW]; exact GC.new _ _ _ _ _
 have HW := Lib.hid hW
 have KF := Lib.hid (least_no (f := .func (.func 232) #[] #[]) HK.out hm hok)
 clear hW h hok
 go_enter Tryz.func186, Tryz.ntmps186
 have e0 := HC.out.c0
 have e1 := HC.out.c1
 go_wp2_with fail
 rw [← HW.out]
 refine (KF.out).mono ?_
 rintro e w1 ⟨rfl, hb1⟩
 clear HW
 clear e0 e1
 replace HB := Lib.hid (HB.out.keep hb1)
 replace HK := Lib.hid (HK.out.keep hb1)
 replace HC := Lib.hid (HC.out.keep hb1)
 clear hb1
 have e0 := HC.out.c0
 have e1 := HC.out.c1
 clear KF
 rw [lsV_none]
 go_wp2
 go_ret2
 exact ⟨rfl, HB.out.below⟩
set_option maxRecDepth 100000 in
set_option maxHeartbeats 1600000 in
theorem IsSplit_i (h : GA w A m c x) (hm : m ≤ 1048576) :
 Calls Tryz.prog 132 #[.agg #[.int .i64 sz, .slice A m c]] w fun e w' => e = .returned (.bool (slB sz m x)) ∧ Below w.heap.size w w' := by
 obtain ⟨W, hW⟩ : ∃ W : World, W = (w.alloc (Obj.cells #[Value.int IntKind.i64 sz, Value.slice A m c] 29)) := ⟨_, rfl⟩
 have HB : Hid (From w W) := by rw [hW]; exact From.alloc _ _
 have HK := Lib.hid (h.keep HB.out.below)
 have HC : Hid (GC W w.heap.size sz A m c) := by rw [hW]; exact GC.new _ _ _ _ _
 have HW := Lib.hid hW
 clear hW h
 go_enter Tryz.func132, Tryz.ntmps132
 cases ho : okB sz m x
 ·have Hn : Hid (slB sz m x = false) := slB_no ho
  have KF := Lib.hid (SplitOf_no sz A m c x W HK.out hm ho)
  clear ho
  have e0 := HC.out.c0
  have e1 := HC.out.c1
  go_wp2_with fail
  rw [← HW.out]
  refine (KF.out).mono ?_
  rintro e w1 ⟨rfl, hb1⟩
  clear HW
  clear e0 e1
  replace HB := Lib.hid (HB.out.keep hb1)
  replace HK := Lib.hid (HK.out.keep hb1)
  replace HC := Lib.hid (HC.out.keep hb1)
  clear hb1
  have e0 := HC.out.c0
  have e1 := HC.out.c1
  clear KF
  rw [lsV_none]
  go_wp2
  go_ret
  exact ⟨ret_bool Hn.out.symm, HB.out.below⟩
 obtain ⟨_, es, _, _⟩ := okB_ok' ho
 subst es
 have Hn : Hid (slB (m : Int) m x = (slO (rw_ x) m).isSome) := slB_yes ho
 have HG : Hid (GBox W w.heap.size A m c (rw_ x)) := ⟨HK.out.gv ho, HC.out.c0, HC.out.c1, HC.out.lt⟩
 have KF := Lib.hid (SplitOf_v HG.out.gv)
 obtain ⟨o, ho2⟩ : ∃ o, o = slO (rw_ x) m := ⟨_, rfl⟩
 rw [← ho2] at Hn KF
 clear ho ho2 HC HK
 cases o
 ·skip
  have e0 := HG.out.c0
  have e1 := HG.out.c1
  go_wp2_with fail
  rw [← HW.out]
  refine (KF.out).mono ?_
  rintro e w2 ⟨rfl, hb2⟩
  clear HW
  clear e0 e1
  replace HB := Lib.hid (HB.out.keep hb2)
  replace HG := Lib.hid (HG.out.keep hb2)
  clear hb2
  have e0 := HG.out.c0
  have e1 := HG.out.c1
  clear KF
  rw [lsV_none]
  go_wp2
  go_ret
  exact ⟨ret_bool Hn.out.symm, HB.out.below⟩
 ·skip
  have e0 := HG.out.c0
  have e1 := HG.out.c1
  go_wp2_with fail
  rw [← HW.out]
  refine (KF.out).mono ?_
  rintro e w3 ⟨rfl, hb3⟩
  clear HW
  clear e0 e1
  replace HB := Lib.hid (HB.out.keep hb3)
  replace HG := Lib.hid (HG.out.keep hb3)
  clear hb3
  have e0 := HG.out.c0
  have e1 := HG.out.c1
  clear KF
  rw [lsV_some]
  go_wp2
  go_ret
  exact ⟨ret_bool Hn.out.symm, HB.out.below⟩
end
end Go.Proofs.YtppkokgiojcgbaaGreatDoor

/-
-/
namespace Go.Proofs.YtppkokgiojcgbaaGreatDoor
open Go.RowKit
noncomputable def ptB (r : Nat → Nat) (m : Nat) (l : List Nat) : Bool := ipB (m : Int) m (fun v => (r v : Int)) (l.map fun v : Nat => (v : Int))
theorem nodup_cast {l : List Nat} (h : (l.map fun v : Nat => (v : Int)).Nodup) : l.Nodup := by
 induction l with
 | nil => exact List.nodup_nil
 | cons a l ih =>
   rw [List.map_cons, List.nodup_cons] at h
   rw [List.nodup_cons]
   exact ⟨fun ha => h.1 (List.mem_map_of_mem ha), ih h.2⟩
theorem ptB_dup {r : Nat → Nat} {m : Nat} {l : List Nat} (h : ¬ l.Nodup) : ptB r m l = false := by
 unfold ptB ipB
 rw [ajB_bad (by unfold vrB; rw [vzB_no (fun hv => h (nodup_cast hv.1)), Bool.and_false]), Bool.and_false]
noncomputable def ptO (r : Nat → Nat) (m n : Nat) : Option (List Nat) := if n ≤ m then seaG m (ptB r m) (fun _ => true) n [] else none
theorem ptO_yes {r : Nat → Nat} {m n : Nat} (h : n ≤ m) : ptO r m n = seaG m (ptB r m) (fun _ => true) n [] := by unfold ptO; rw [if_pos h]
theorem ptO_no {r : Nat → Nat} {m n : Nat} (h : ¬ n ≤ m) : ptO r m n = none := by unfold ptO; rw [if_neg h]
noncomputable def cgB (sz : Int) (m : Nat) (x : Nat → Int) : Bool := okB sz m x && !(ptO (rw_ x) m 4).isSome
theorem cgB_no {sz : Int} {m : Nat} {x : Nat → Int} (h : okB sz m x = false) : cgB sz m x = false := by unfold cgB; rw [h]; rfl
theorem cgB_yes {sz : Int} {m : Nat} {x : Nat → Int} (h : okB sz m x = true) : cgB sz m x = !(ptO (rw_ x) m 4).isSome := by unfold cgB; rw [h]; rfl
section
variable {A : Option Addr} {m c : Nat} {r : Nat → Nat}
theorem IsInducedPath_v {w : World} (h : GV w A m c r) {Al : Option Addr} {cl : Nat} {l : List Nat} (hl : LN w Al cl l) (hlen : l.length ≤ 7) :
 Calls Tryz.prog 269 #[.agg #[.int .i64 m, .slice A m c], .slice Al l.length cl] w fun e w' => e = .returned (.bool (ptB r m l)) ∧ Below w.heap.size w w' :=
 IsInducedPath_i m A m c _ Al l.length cl _ w h.ga hl.li (by have := h.vg.n7; omega) (by omega)
set_option maxRecDepth 100000 in
set_option maxHeartbeats 1600000 in
theorem PthF {q : Nat} {Al : Option Addr} {cl : Nat} {l : List Nat} {w : World} (h : GBox w q A m c r) (hl : LN w Al cl l) (hlen : l.length ≤ 7) :
 Calls Tryz.prog 268 #[.slice Al l.length cl, .pointer (some ⟨q, 0, none⟩)] w fun e w' => e = .returned (.bool (ptB r m l)) ∧ Below w.heap.size w w' := by
 have KP := Lib.hid (IsInducedPath_v h.gv hl hlen)
 have e0 := h.c0
 have e1 := h.c1
 have HF : Hid (From w w) := From.refl w
 clear h hl
 go_enter Tryz.func268, Tryz.ntmps268
 go_wp2_with fail
 refine KP.out.mono ?_
 rintro e w1 ⟨rfl, hb1⟩
 replace HF := Lib.hid (HF.out.keep hb1)
 clear hb1
 go_wp2
 go_ret
 exact ⟨rfl, HF.out.below⟩
set_option maxRecDepth 100000 in
set_option maxHeartbeats 1600000 in
theorem FindInducedPath_v {w : World} (h : GV w A m c r) {n : Nat} (hn : 1 ≤ n) (hn7 : n ≤ 7) : Calls Tryz.prog 230 #[.agg #[.int .i64 m, .slice A m c], .int .i64 n] w (lsQ w (ptO r m n)) := by
 have hm1 := h.vg.n1
 have hm7 := h.vg.n7
 obtain ⟨W, hW⟩ : ∃ W : World, W = (w.alloc (Obj.cells #[Value.int IntKind.i64 m, Value.slice A m c] 29)) := ⟨_, rfl⟩
 have HB : Hid (From w W) := by rw [hW]; exact From.alloc _ _
 have HG : Hid (GBox W w.heap.size A m c r) := by rw [hW]; exact h.box
 have HW := Lib.hid hW
 clear hW h
 have e0 := HG.out.c0
 have e1 := HG.out.c1
 have HG0 := HG
 by_cases hnm : n ≤ m
 ·have HO : Hid (ptO r m n = seaG m (ptB r m) (fun _ => true) n []) := ptO_yes hnm
  have KF := Lib.hid (firstList_g (m := m) (n := n) (A := A) (c := c) (r := r) (fm := 268) (cm := #[.pointer (some ⟨w.heap.size, 0, none⟩)]) (fh := 229) (ch := #[]) (may := ptB r m) (hol := fun _ => true) (lo := W.heap.size) (hi := W.heap.size) (J := fun _ z => GBox z w.heap.size A m c r)
   (ent_of Tryz.func268 (by kernel_rfl) rfl) (ent_of Tryz.func229 (by kernel_rfl) rfl) W HG0.out.gv hn (Nat.le_refl _) (fun _ z z' hz hb => hz.keep hb) HG0.out
   (fun _ l A' c' z hz hr _ hv hn => PthF hz ⟨hr⟩ (by have := nodup_len hn hv; omega))
   (fun _ l A' c' z hz _ _ _ _ => (always_n A' l.length c' z).mono fun e w' ⟨h1, h2⟩ => ⟨h1, hz.keep h2, Fr.of_below h2⟩))
  obtain ⟨o, ho⟩ : ∃ o, o = ptO r m n := ⟨_, rfl⟩
  rw [← ho] at HO ⊢
  rw [← HO.out] at KF
  clear ho HO
  have i1 : (1 : Int) ≤ (n : Int) := by omega
  have i2 : (n : Int) ≤ (m : Int) := by omega
  go_enter Tryz.func230, Tryz.ntmps230
  have e0 := HG.out.c0
  have e1 := HG.out.c1
  go_wp2_with (go_at_call 85; refine (within_yes _ _ _ _ i1 i2).mono ?_; rintro e w' ⟨rfl, rfl⟩)
  rw [← HW.out]
  clear HW
  refine KF.out.mono ?_
  rintro e w1 ⟨hf, hp⟩
  have HB1 : Hid (Below w.heap.size w w1) := HB.out.below.trans (hf.below HB.out.below.size HB.out.below.size)
  have HZ : Hid (w.heap.size ≤ W.heap.size) := HB.out.below.size
  clear hf KF HG e0 e1
  cases o with
  | none =>
    obtain ⟨rfl, _⟩ := hp
    go_wp2
    go_ret2
    exact lsQ.no HB1.out
  | some l =>
    obtain ⟨g, c', rfl, hO⟩ := hp
    have HL : Hid (ON w.heap.size w1 (some ⟨g, 0, none⟩) c' l) := ⟨hO.mono HZ.out (Nat.le_refl _)⟩
    clear hO
    go_wp2
    go_ret2
    exact lsQ.yes HL.out HB1.out
 ·have HO : Hid (ptO r m n = none) := ptO_no hnm
  have i2 : (m : Int) < (n : Int) := by omega
  go_enter Tryz.func230, Tryz.ntmps230
  go_wp2_with (go_at_call 85; refine (within_no _ _ _ _ (.inr i2)).mono ?_; rintro e w' ⟨rfl, rfl⟩)
  rw [← HW.out]
  go_ret2
  rw [HO.out]
  exact lsQ.no HB.out.below
set_option maxHeartbeats 1000000 in
theorem FindPathOfFour_v {w : World} (h : GV w A m c r) : Calls Tryz.prog 185 #[.agg #[.int .i64 m, .slice A m c]] w (lsQ w (ptO r m 4)) := by
 obtain ⟨W, hW⟩ : ∃ W : World, W = (w.alloc (Obj.cells #[Value.int IntKind.i64 m, Value.slice A m c] 29)) := ⟨_, rfl⟩
 have HB : Hid (From w W) := by rw [hW]; exact From.alloc _ _
 have HG : Hid (GBox W w.heap.size A m c r) := by rw [hW]; exact h.box
 have HW := Lib.hid hW
 clear hW h
 have e0 := HG.out.c0
 have e1 := HG.out.c1
 have KF := Lib.hid (FindInducedPath_v HG.out.gv (n := 4) (by omega) (by omega))
 have HZ : Hid (w.heap.size ≤ W.heap.size) := HB.out.below.size
 go_enter Tryz.func185, Tryz.ntmps185
 go_wp2_with fail
 rw [← HW.out]
 refine (KF.out).mono ?_
 rintro e w1 ⟨A', c', rfl, ho, hb1⟩
 clear HW
 replace HB := Lib.hid (HB.out.keep hb1)
 clear hb1
 have HO := Lib.hid ho
 clear ho
 go_wp2
 go_ret2
 exact ⟨_, _, rfl, HO.out.mono HZ.out, HB.out.below⟩
end
section
variable (sz : Int) (A : Option Addr) (m c : Nat) (x : Nat → Int) (w : World)
set_option maxRecDepth 100000 in
set_option maxHeartbeats 1600000 in
theorem FindInducedPath_no (n : Nat) (h : GA w A m c x) (hm : m ≤ 1048576) (hok : okB sz m x = false) :
 Calls Tryz.prog 230 #[.agg #[.int .i64 sz, .slice A m c], .int .i64 n] w (lsQ w none) := by
 obtain ⟨W, hW⟩ : ∃ W : World, W = (w.alloc (Obj.cells #[Value.int IntKind.i64 sz, Value.slice A m c] 29)) := ⟨_, rfl⟩
 have HB : Hid (From w W) := by rw [hW]; exact From.alloc _ _
 have HK := Lib.hid (h.keep HB.out.below)
 have HC : Hid (GC W w.heap.size sz A m c) := by rw [hW]; exact GC.new _ _ _ _ _
 have HW := Lib.hid hW
 have KF := Lib.hid (firstList_noG (n := (n : Int)) (fm := 268) (cm := #[.pointer (some ⟨w.heap.size, 0, none⟩)]) (fh := 229) (ch := #[]) HK.out hm hok)
 clear hW h hok
 by_cases hin : 1 ≤ (n : Int) ∧ (n : Int) ≤ sz
 ·obtain ⟨i1, i2⟩ := hin
  go_enter Tryz.func230, Tryz.ntmps230
  have e0 := HC.out.c0
  have e1 := HC.out.c1
  go_wp2_with (go_at_call 85; refine (within_yes _ _ _ _ i1 i2).mono ?_; rintro e w' ⟨rfl, rfl⟩)
  rw [← HW.out]
  clear HW
  refine KF.out.mono ?_
  rintro e w1 ⟨rfl, hb1⟩
  clear e0 e1
  replace HB := Lib.hid (HB.out.keep hb1)
  replace HK := Lib.hid (HK.out.keep hb1)
  replace HC := Lib.hid (HC.out.keep hb1)
  clear hb1 KF
  have e0 := HC.out.c0
  have e1 := HC.out.c1
  go_wp2
  go_ret2
  exact lsQ.no HB.out.below
 ·have hin2 : (n : Int) < 1 ∨ sz < (n : Int) := by omega
  clear hin
  go_enter Tryz.func230, Tryz.ntmps230
  have e0 := HC.out.c0
  have e1 := HC.out.c1
  go_wp2_with (go_at_call 85; refine (within_no _ _ _ _ hin2).mono ?_; rintro e w' ⟨rfl, rfl⟩)
  rw [← HW.out]
  go_ret2
  exact lsQ.no HB.out.below
set_option maxHeartbeats 1000000 in
theorem FindPathOfFour_no (h : GA w A m c x) (hm : m ≤ 1048576) (hok : okB sz m x = false) :
 Calls Tryz.prog 185 #[.agg #[.int .i64 sz, .slice A m c]] w (lsQ w none) := by
 obtain ⟨W, hW⟩ : ∃ W : World, W = (w.alloc (Obj.cells #[Value.int IntKind.i64 sz, Value.slice A m c] 29)) := ⟨_, rfl⟩
 have HB : Hid (From w W) := by rw [hW]; exact From.alloc _ _
 have HK := Lib.hid (h.keep HB.out.below)
 have HC : Hid (GC W w.heap.size sz A m c) := by rw [hW]; exact GC.new _ _ _ _ _
 have HW := Lib.hid hW
 have KF := Lib.hid (FindInducedPath_no sz A m c x W 4 HK.out hm hok)
 clear hW h hok
 have HZ : Hid (w.heap.size ≤ W.heap.size) := HB.out.below.size
 go_enter Tryz.func185, Tryz.ntmps185
 have e0 := HC.out.c0
 have e1 := HC.out.c1
 go_wp2_with fail
 rw [← HW.out]
 refine (KF.out).mono ?_
 rintro e w1 ⟨A', c', rfl, ho, hb1⟩
 clear HW
 clear e0 e1
 replace HB := Lib.hid (HB.out.keep hb1)
 replace HK := Lib.hid (HK.out.keep hb1)
 replace HC := Lib.hid (HC.out.keep hb1)
 clear hb1
 have e0 := HC.out.c0
 have e1 := HC.out.c1
 have HO := Lib.hid ho
 clear ho
 go_wp2
 go_ret2
 exact ⟨_, _, rfl, HO.out.mono HZ.out, HB.out.below⟩
set_option maxRecDepth 100000 in
set_option maxHeartbeats 1600000 in
theorem IsCograph_i (h : GA w A m c x) (hm : m ≤ 1048576) :
 Calls Tryz.prog 131 #[.agg #[.int .i64 sz, .slice A m c]] w fun e w' => e = .returned (.bool (cgB sz m x)) ∧ Below w.heap.size w w' := by
 obtain ⟨W, hW⟩ : ∃ W : World, W = (w.alloc (Obj.cells #[Value.int IntKind.i64 sz, Value.slice A m c] 29)) := ⟨_, rfl⟩
 have HB : Hid (From w W) := by rw [hW]; exact From.alloc _ _
 have HK := Lib.hid (h.keep HB.out.below)
 have HC : Hid (GC W w.heap.size sz A m c) := by rw [hW]; exact GC.new _ _ _ _ _
 have HW := Lib.hid hW
 clear hW h
 go_enter Tryz.func131, Tryz.ntmps131
 cases ho : okB sz m x
 ·have Hn : Hid (cgB sz m x = false) := cgB_no ho
  have KF := Lib.hid (FindPathOfFour_no sz A m c x W HK.out hm ho)
  have Ho := Lib.hid ho
  clear ho
  have e0 := HC.out.c0
  have e1 := HC.out.c1
  go_wp2_with fail
  rw [← HW.out]
  refine (KF.out).mono ?_
  rintro e w1 ⟨A', c', rfl, _, hb1⟩
  clear HW
  clear e0 e1
  replace HB := Lib.hid (HB.out.keep hb1)
  replace HK := Lib.hid (HK.out.keep hb1)
  replace HC := Lib.hid (HC.out.keep hb1)
  clear hb1
  have e0 := HC.out.c0
  have e1 := HC.out.c1
  clear KF
  go_wp2_with fail
  refine (IsGraph_any sz A m c x w1 w1.heap.size HK.out.rd (Nat.le_refl _) hm).mono ?_
  rintro e w2 ⟨rfl, hb2⟩
  rw [Ho.out]
  clear e0 e1
  replace HB := Lib.hid (HB.out.keep hb2)
  replace HK := Lib.hid (HK.out.keep hb2)
  replace HC := Lib.hid (HC.out.keep hb2)
  clear hb2
  have e0 := HC.out.c0
  have e1 := HC.out.c1
  go_wp2
  go_ret
  exact ⟨ret_bool Hn.out.symm, HB.out.below⟩
 obtain ⟨_, es, _, _⟩ := okB_ok' ho
 subst es
 have Hn : Hid (cgB (m : Int) m x = !(ptO (rw_ x) m 4).isSome) := cgB_yes ho
 have HG : Hid (GBox W w.heap.size A m c (rw_ x)) := ⟨HK.out.gv ho, HC.out.c0, HC.out.c1, HC.out.lt⟩
 have KF := Lib.hid (FindPathOfFour_v HG.out.gv)
 obtain ⟨o, ho2⟩ : ∃ o, o = ptO (rw_ x) m 4 := ⟨_, rfl⟩
 rw [← ho2] at Hn KF
 clear ho ho2 HC HK
 cases o
 ·skip
  have e0 := HG.out.c0
  have e1 := HG.out.c1
  go_wp2_with fail
  rw [← HW.out]
  refine (KF.out).mono ?_
  rintro e w2 ⟨A', c', rfl, _, hb2⟩
  clear HW
  clear e0 e1
  replace HB := Lib.hid (HB.out.keep hb2)
  replace HG := Lib.hid (HG.out.keep hb2)
  clear hb2
  have e0 := HG.out.c0
  have e1 := HG.out.c1
  clear KF
  go_wp2_with fail
  refine (IsGraph_v HG.out.gv).mono ?_
  rintro e w3 ⟨rfl, hb3⟩
  clear e0 e1
  replace HB := Lib.hid (HB.out.keep hb3)
  replace HG := Lib.hid (HG.out.keep hb3)
  clear hb3
  have e0 := HG.out.c0
  have e1 := HG.out.c1
  go_wp2
  go_ret
  exact ⟨ret_bool Hn.out.symm, HB.out.below⟩
 ·skip
  have e0 := HG.out.c0
  have e1 := HG.out.c1
  go_wp2_with fail
  rw [← HW.out]
  refine (KF.out).mono ?_
  rintro e w4 ⟨A', c', rfl, _, hb4⟩
  clear HW
  clear e0 e1
  replace HB := Lib.hid (HB.out.keep hb4)
  replace HG := Lib.hid (HG.out.keep hb4)
  clear hb4
  have e0 := HG.out.c0
  have e1 := HG.out.c1
  clear KF
  go_wp2_with fail
  refine (IsGraph_v HG.out.gv).mono ?_
  rintro e w5 ⟨rfl, hb5⟩
  clear e0 e1
  replace HB := Lib.hid (HB.out.keep hb5)
  replace HG := Lib.hid (HG.out.keep hb5)
  clear hb5
  have e0 := HG.out.c0
  have e1 := HG.out.c1
  go_wp2
  go_ret
  exact ⟨ret_bool Hn.out.symm, HB.out.below⟩
end
end Go.Proofs.YtppkokgiojcgbaaGreatDoor
