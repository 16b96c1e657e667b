/-
  Several texts in one.
-/
import Derived.Test.YtfabbohijhjpcaaGreatDoorRcGB
import Derived.Test.YtfabbohijhjpcaaGreatDoorRows
import Derived.Test.YtfabbohijhjpcaaGreatDoorRcGA
import Derived.Deep.RegionHeld3
import Derived.Deep.QuietTactic
import Derived.BigQuiet
import Derived.ProofKit
import Derived.OpenShut
import Derived.ShutString
import Derived.Lib.SmallJoins
import Derived.Carry
import Derived.Deep.Slices
import Derived.Deep.Fields
import Derived.ChangeSame
import Derived.Test.YtfabbohijhjpcaaGreatDoorRcFillP
import Derived.Test.YtfabbohijhjpcaaGreatDoorRcGC
import Derived.Test.YtfabbohijhjpcaaGreatDoorRcListZ
import Derived.Test.YtfabbohijhjpcaaGreatDoorRcBarP
/-
-/
/-
 Contracts of the law's helpers on slices of edits.
-/
namespace Go.Proofs.YtfabbohijhjpcaaGreatDoor
open Go.RowKit
end Go.Proofs.YtfabbohijhjpcaaGreatDoor
/-
 Contracts of the law's helpers on slices of at most nine strings.
-/
namespace Go.Proofs.YtfabbohijhjpcaaGreatDoor
open Go.RowKit
theorem info_string : (Tryz.prog.info? 9).map (fun i => (i.zero, i.size, i.bytes)) = some (some (.string ⟨#[]⟩), 1, 16) := by kernel_rfl
theorem conv1 (W : World) (d : Int) : (convert 22 9 (.slice (some ⟨W.heap.size, 0, none⟩) 1 1)).run Tryz.prog (W.alloc (Obj.cells #[Value.int .u8 d] 5)) = .ok (.string ⟨#[UInt8.ofNat d.toNat]⟩) (W.alloc (Obj.cells #[Value.int .u8 d] 5)) := by
 have h := run_convert_bytes_arg (P := Tryz.prog) (W.alloc (Obj.cells #[Value.int .u8 d] 5)) 22 5 Tryz.underlying22 Tryz.underlying5 W.heap.size 0 1 1 [d] rfl (fun i hi => by
  obtain rfl : i = 0 := by omega
  simp [go_sem]) 9 Tryz.underlying9
 rw [h]
 rfl
def strs (x : Nat → ByteArray) : Nat → Value := fun j => .string (x j)
end Go.Proofs.YtfabbohijhjpcaaGreatDoor
/-
 How the laws' arguments read: slices of integers, graphs, integers, strings.
-/
namespace Go.Proofs.YtfabbohijhjpcaaGreatDoor
open Go.ChangeShapes Go.WideShapes Go.ChangeAt Go.RowKit
theorem own : ownKnob Tryz.prog.godebug = none := by kernel_rfl
theorem laidOut : laidOutB Tryz.prog = true := by kernel_rfl
section
variable {H : Type} {enc : TypeId × Value → H} {w : World} {base : Nat} {spare : Nat → Bool} {held : Bool}
theorem rd_of_cells {a : Addr} {n c : Nat} {x : Nat → Int} (hl : n ≤ c) (hc : ∀ i, i < n → w.cell? (a.add i) = some (.int .i64 (x i))) : Rd w w.heap.size (some a) n c x := by
 refine ⟨hl, fun hn => ?_⟩
 obtain ⟨b, o, s⟩ := a
 have h0 := hc 0 hn
 have hs : s = none := by simpa [Addr.add] using World.cell?_spot h0
 subst hs
 have hadd : ∀ k, (⟨b, o, none⟩ : Addr).add k = ⟨b, o + k, none⟩ := fun k => by unfold Addr.add; split <;> simp_all
 refine ⟨b, o, rfl, ?_, fun k hk => by rw [← hadd]; exact hc k hk⟩
 have := World.block_lt_of_cell? w _ h0
 rw [hadd] at this
 exact this
theorem open_intS {fuel : Nat} {v : Value} {y : DataW H × List MemPlace} (h : DataW.trod enc Tryz.prog w base spare held fuel 24 [v] = some y) :
 ∃ A n c x, v = .slice A n c ∧ Rd w w.heap.size A n c x ∧ n ≤ maxLen := by
 rcases open_ints Tryz.underlying24 Tryz.underlying3 (by kernel_rfl) h with ⟨hcs, _⟩ | ⟨a, l, c, zs, hcs, _, hl, hm, hz, _, hcell, _⟩
 ·simp only [List.cons.injEq, and_true] at hcs
  exact ⟨none, 0, 0, fun _ => 0, hcs, Rd.nil _ _ _ _ _, Nat.zero_le _⟩
 ·simp only [List.cons.injEq, and_true] at hcs
  refine ⟨some a, l, c, fun i => zs.getD i 0, hcs, rd_of_cells hl (fun i hi => hcell i ?_), Nat.le_trans hl hm⟩
  rw [hz]; split <;> omega
set_option maxRecDepth 100000 in
theorem open_graph {r : Reach} {b0 : Nat} {v : Value} {d : DataW H} {p : List MemPlace} (hv : Value.okWide Tryz.prog w r b0 52 v)
 (h : DataW.Trod enc Tryz.prog w base spare held 52 v d p) :
 ∃ sz A n c x, v = .agg #[.int .i64 sz, .slice A n c] ∧ Rd w w.heap.size A n c x ∧ n ≤ maxLen := by
 obtain ⟨v0, v1, y0, y1, m, rfl, _, _, h0, h1⟩ := Go.Joins.open_agg2 Tryz.underlying52 (by kernel_rfl) (by kernel_rfl) hv h
 obtain ⟨sz, e0, _, _⟩ := DataW.trod_int Tryz.underlying3 h0
 simp only [List.cons.injEq, and_true] at e0
 subst e0
 obtain ⟨A, n, c, x, rfl, hr, hn⟩ := open_intS h1
 exact ⟨sz, A, n, c, x, rfl, hr, hn⟩
theorem places_lt {t : TypeId} {v : Value} {d : DataW H} {p : List MemPlace} (h : DataW.Trod enc Tryz.prog w base spare held t v d p) : ∀ x ∈ p, x.block < w.heap.size := by
 obtain ⟨m, hm⟩ := h
 exact DataW.trod_lt m _ _ _ hm
end
end Go.Proofs.YtfabbohijhjpcaaGreatDoor
/-
 How further arguments read (slices of edits); small laws that the generated walks use.
-/
namespace Go.Proofs.YtfabbohijhjpcaaGreatDoor
open Go.ChangeShapes Go.WideShapes Go.ChangeAt Go.RowKit Go.Deep
theorem bd {w w' : World} (h : Below w.drew.heap.size w.drew w') : Below w.heap.size w w' := ⟨h.os, h.tape, h.output, h.size, h.block⟩
section
variable {H : Type} {enc : TypeId × Value → H} {w : World} {base : Nat} {spare : Nat → Bool} {held : Bool}
end
end Go.Proofs.YtfabbohijhjpcaaGreatDoor
/-
 Contract of the law's helper that asks whether a graph holds its marks.
-/
namespace Go.Proofs.YtfabbohijhjpcaaGreatDoor
open Go.RowKit
end Go.Proofs.YtfabbohijhjpcaaGreatDoor
/-
 How arguments read: slices of slices of integers; integers; strings.
-/
namespace Go.Proofs.YtfabbohijhjpcaaGreatDoor
open Go.ChangeShapes Go.WideShapes Go.ChangeAt Go.RowKit Go.Deep
section
variable {H : Type} {enc : TypeId × Value → H} {w : World} {base : Nat} {spare : Nat → Bool} {held : Bool}
end
end Go.Proofs.YtfabbohijhjpcaaGreatDoor

/-
-/
namespace Go.Proofs.YtfabbohijhjpcaaGreatDoor
open Go.RowKit
section
variable {w w' : World} {A : Option Addr} {c lo m : Nat} {r : Nat → Nat}
theorem ON.set {q : Nat} {AL : Option Addr} {cL : Nat} {L : List Nat} (h : ON (q + 1) w AL cL L) (x y : Value) : ON (q + 1) ((w.setCell ⟨q, 0, none⟩ x).setCell ⟨q, 1, none⟩ y) AL cL L :=
 ⟨(h.own.keep (fr2 w q x y) (.inr (Nat.le_refl _))).mono (Nat.le_refl _) (fr2 w q x y).size⟩
end
end Go.Proofs.YtfabbohijhjpcaaGreatDoor

/-
-/
namespace Go.Proofs.YtfabbohijhjpcaaGreatDoor
open Go.RowKit
section
variable {r : Nat → Nat} {l : List Nat}
end
def nats (l : List Int) : List Nat := l.map Int.toNat
theorem LI.ln {w : World} {A : Option Addr} {n c : Nat} {l : List Int} {m : Nat} (h : LI w A n c l) (hV : VZ m l) : LN w A c (nats l) := by
 have hl : (nats l).length = n := by rw [h.len]; unfold nats; simp
 refine ⟨?_⟩
 rw [hl]
 refine h.rd.congr fun k hk => ?_
 have hk2 : k < l.length := by rw [← h.len]; exact hk
 have := (hV.2 _ (getD_mem hk2)).1
 unfold nats
 simp only [List.getD, List.getElem?_map, List.getElem?_eq_getElem hk2, Option.map_some, Option.getD_some] at this ⊢
 omega
end Go.Proofs.YtfabbohijhjpcaaGreatDoor

/-
-/
namespace Go.Proofs.YtfabbohijhjpcaaGreatDoor
open Go.RowKit
theorem LN.cell {w : World} {b o c j : Nat} {l : List Nat} (h : LN w (some ⟨b, o, none⟩) c l) (hj : j < l.length) : w.cell? ⟨b, o + j, none⟩ = some (.int .i64 (l.getD j 0 : Nat)) := by
 rw [h.at hj]; simp [List.getD, hj]
end Go.Proofs.YtfabbohijhjpcaaGreatDoor

/-
-/
namespace Go.Proofs.YtfabbohijhjpcaaGreatDoor
open Go.RowKit
section
variable {A : Option Addr} {m c : Nat} {r : Nat → Nat}
end
set_option maxRecDepth 100000 in
set_option maxHeartbeats 1600000 in
theorem firstList_noG {sz : Int} {A : Option Addr} {m c : Nat} {x : Nat → Int} {w : World} {n : Int} {fm fh : FuncId} {cm ch : Array Value} (h : GA w A m c x) (hm : m ≤ 1048576) (hok : okB sz m x = false) :
 Calls Tryz.prog 203 #[.agg #[.int .i64 sz, .slice A m c], .int .i64 n, .func (.func fm) #[] cm, .func (.func fh) #[] ch] w fun e w' => e = .returned (.tuple #[.slice none 0 0, .bool false]) ∧ Below w.heap.size w w' := by
 obtain ⟨W4, hW4⟩ : ∃ W : World, W = ((((w.alloc (Obj.cells #[Value.int IntKind.i64 sz, Value.slice A m c] 26)).alloc (Obj.cells #[Value.int IntKind.i64 n] 3)).alloc (Obj.cells #[.func (.func fm) #[] cm] 152)).alloc (Obj.cells #[.func (.func fh) #[] ch] 152)) := ⟨_, rfl⟩
 have HF4 : Hid (From w W4) := by rw [hW4]; exact (((From.alloc _ _).alloc_ _).alloc_ _).alloc_ _
 have hz4 : w.heap.size + 1 + 1 + 1 + 1 = W4.heap.size := by rw [hW4]; simp
 have a0 : W4.cell? ⟨w.heap.size, 0, none⟩ = some (.int .i64 sz) := by rw [hW4]; simp [go_sem]
 have a1 : W4.cell? ⟨w.heap.size, 1, none⟩ = some (.slice A m c) := by rw [hW4]; simp [go_sem]
 obtain ⟨W, hW⟩ : ∃ W : World, W = W4.alloc (Obj.cells #[.func (.func 282) #[] #[.pointer (some ⟨w.heap.size + 1, 0, none⟩), .pointer (some ⟨w.heap.size + 1 + 1 + 1, 0, none⟩), .pointer (some ⟨w.heap.size, 0, none⟩), .pointer (some ⟨w.heap.size + 1 + 1, 0, none⟩), .pointer (some ⟨W4.heap.size, 0, none⟩)]] 86) := ⟨_, rfl⟩
 have hbW : Below W4.heap.size W4 W := by rw [hW]; exact (Below.refl _ _).alloc (Nat.le_refl _) _
 have HB : Hid (From w W) := HF4.out.keep hbW
 have c1 : w.heap.size < W4.heap.size := by omega
 have e0 := up hbW a0 (by omega)
 have e1 := up hbW a1 (by omega)
 have HK := Lib.hid (h.keep HB.out.below)
 have HW := Lib.hid hW
 have HW4 := Lib.hid hW4
 have HZ4 := Lib.hid hz4
 have Ho := Lib.hid hok
 clear hW hW4 h hz4 hbW hok HF4
 go_enter Tryz.func203, Tryz.ntmps203
 go_upto_region 2 with (fail)
 rw [← HW4.out, HZ4.out]
 clear HW4
 go_wp2_with fail
 rw [← HW.out]
 clear HW
 refine (IsGraph_any sz A m c x W W.heap.size HK.out.rd (Nat.le_refl _) hm).mono ?_
 rintro e w1 ⟨rfl, hb1⟩
 rw [Ho.out]
 replace HB := Lib.hid (HB.out.keep hb1)
 clear hb1 e0 e1 a0 a1
 go_wp2
 go_ret2
 exact ⟨rfl, HB.out.below⟩
section
variable (sz : Int) (A : Option Addr) (m c : Nat) (x : Nat → Int) (w : World)
end
end Go.Proofs.YtfabbohijhjpcaaGreatDoor

/-
-/
namespace Go.Proofs.YtfabbohijhjpcaaGreatDoor
open Go.RowKit
noncomputable def ptB (r : Nat → Nat) (m : Nat) (l : List Nat) : Bool := ipB (m : Int) m (fun v => (r v : Int)) (l.map fun v : Nat => (v : Int))
theorem nodup_cast {l : List Nat} (h : (l.map fun v : Nat => (v : Int)).Nodup) : l.Nodup := by
 induction l with
 | nil => exact List.nodup_nil
 | cons a l ih =>
   rw [List.map_cons, List.nodup_cons] at h
   rw [List.nodup_cons]
   exact ⟨fun ha => h.1 (List.mem_map_of_mem ha), ih h.2⟩
theorem ptB_dup {r : Nat → Nat} {m : Nat} {l : List Nat} (h : ¬ l.Nodup) : ptB r m l = false := by
 unfold ptB ipB
 rw [ajB_bad (by unfold vrB; rw [vzB_no (fun hv => h (nodup_cast hv.1)), Bool.and_false]), Bool.and_false]
noncomputable def ptO (r : Nat → Nat) (m n : Nat) : Option (List Nat) := if n ≤ m then seaG m (ptB r m) (fun _ => true) n [] else none
theorem ptO_yes {r : Nat → Nat} {m n : Nat} (h : n ≤ m) : ptO r m n = seaG m (ptB r m) (fun _ => true) n [] := by unfold ptO; rw [if_pos h]
theorem ptO_no {r : Nat → Nat} {m n : Nat} (h : ¬ n ≤ m) : ptO r m n = none := by unfold ptO; rw [if_neg h]
section
variable {A : Option Addr} {m c : Nat} {r : Nat → Nat}
theorem IsInducedPath_v {w : World} (h : GV w A m c r) {Al : Option Addr} {cl : Nat} {l : List Nat} (hl : LN w Al cl l) (hlen : l.length ≤ 7) :
 Calls Tryz.prog 202 #[.agg #[.int .i64 m, .slice A m c], .slice Al l.length cl] w fun e w' => e = .returned (.bool (ptB r m l)) ∧ Below w.heap.size w w' :=
 IsInducedPath_i m A m c _ Al l.length cl _ w h.ga hl.li (by have := h.vg.n7; omega) (by omega)
set_option maxRecDepth 100000 in
set_option maxHeartbeats 1600000 in
theorem PthF {q : Nat} {Al : Option Addr} {cl : Nat} {l : List Nat} {w : World} (h : GBox w q A m c r) (hl : LN w Al cl l) (hlen : l.length ≤ 7) :
 Calls Tryz.prog 288 #[.slice Al l.length cl, .pointer (some ⟨q, 0, none⟩)] w fun e w' => e = .returned (.bool (ptB r m l)) ∧ Below w.heap.size w w' := by
 have KP := Lib.hid (IsInducedPath_v h.gv hl hlen)
 have e0 := h.c0
 have e1 := h.c1
 have HF : Hid (From w w) := From.refl w
 clear h hl
 go_enter Tryz.func288, Tryz.ntmps288
 go_wp2_with fail
 refine KP.out.mono ?_
 rintro e w1 ⟨rfl, hb1⟩
 replace HF := Lib.hid (HF.out.keep hb1)
 clear hb1
 go_wp2
 go_ret
 exact ⟨rfl, HF.out.below⟩
set_option maxRecDepth 100000 in
set_option maxHeartbeats 1600000 in
theorem FindInducedPath_v {w : World} (h : GV w A m c r) {n : Nat} (hn : 1 ≤ n) (hn7 : n ≤ 7) : Calls Tryz.prog 208 #[.agg #[.int .i64 m, .slice A m c], .int .i64 n] w (lsQ w (ptO r m n)) := by
 have hm1 := h.vg.n1
 have hm7 := h.vg.n7
 obtain ⟨W, hW⟩ : ∃ W : World, W = (w.alloc (Obj.cells #[Value.int IntKind.i64 m, Value.slice A m c] 26)) := ⟨_, rfl⟩
 have HB : Hid (From w W) := by rw [hW]; exact From.alloc _ _
 have HG : Hid (GBox W w.heap.size A m c r) := by rw [hW]; exact h.box
 have HW := Lib.hid hW
 clear hW h
 have e0 := HG.out.c0
 have e1 := HG.out.c1
 have HG0 := HG
 by_cases hnm : n ≤ m
 ·have HO : Hid (ptO r m n = seaG m (ptB r m) (fun _ => true) n []) := ptO_yes hnm
  have KF := Lib.hid (firstList_g (m := m) (n := n) (A := A) (c := c) (r := r) (fm := 288) (cm := #[.pointer (some ⟨w.heap.size, 0, none⟩)]) (fh := 210) (ch := #[]) (may := ptB r m) (hol := fun _ => true) (lo := W.heap.size) (hi := W.heap.size) (J := fun _ z => GBox z w.heap.size A m c r)
   (ent_of Tryz.func288 (by kernel_rfl) rfl) (ent_of Tryz.func210 (by kernel_rfl) rfl) W HG0.out.gv hn (Nat.le_refl _) (fun _ z z' hz hb => hz.keep hb) HG0.out
   (fun _ l A' c' z hz hr _ hv hn => PthF hz ⟨hr⟩ (by have := nodup_len hn hv; omega))
   (fun _ l A' c' z hz _ _ _ _ => (always_n A' l.length c' z).mono fun e w' ⟨h1, h2⟩ => ⟨h1, hz.keep h2, Fr.of_below h2⟩))
  obtain ⟨o, ho⟩ : ∃ o, o = ptO r m n := ⟨_, rfl⟩
  rw [← ho] at HO ⊢
  rw [← HO.out] at KF
  clear ho HO
  have i1 : (1 : Int) ≤ (n : Int) := by omega
  have i2 : (n : Int) ≤ (m : Int) := by omega
  go_enter Tryz.func208, Tryz.ntmps208
  have e0 := HG.out.c0
  have e1 := HG.out.c1
  go_wp2_with (go_at_call 60; refine (within_yes _ _ _ _ i1 i2).mono ?_; rintro e w' ⟨rfl, rfl⟩)
  rw [← HW.out]
  clear HW
  refine KF.out.mono ?_
  rintro e w1 ⟨hf, hp⟩
  have HB1 : Hid (Below w.heap.size w w1) := HB.out.below.trans (hf.below HB.out.below.size HB.out.below.size)
  have HZ : Hid (w.heap.size ≤ W.heap.size) := HB.out.below.size
  clear hf KF HG e0 e1
  cases o with
  | none =>
    obtain ⟨rfl, _⟩ := hp
    go_wp2
    go_ret2
    exact lsQ.no HB1.out
  | some l =>
    obtain ⟨g, c', rfl, hO⟩ := hp
    have HL : Hid (ON w.heap.size w1 (some ⟨g, 0, none⟩) c' l) := ⟨hO.mono HZ.out (Nat.le_refl _)⟩
    clear hO
    go_wp2
    go_ret2
    exact lsQ.yes HL.out HB1.out
 ·have HO : Hid (ptO r m n = none) := ptO_no hnm
  have i2 : (m : Int) < (n : Int) := by omega
  go_enter Tryz.func208, Tryz.ntmps208
  go_wp2_with (go_at_call 60; refine (within_no _ _ _ _ (.inr i2)).mono ?_; rintro e w' ⟨rfl, rfl⟩)
  rw [← HW.out]
  go_ret2
  rw [HO.out]
  exact lsQ.no HB.out.below
set_option maxHeartbeats 1000000 in
theorem FindPathOfFour_v {w : World} (h : GV w A m c r) : Calls Tryz.prog 138 #[.agg #[.int .i64 m, .slice A m c]] w (lsQ w (ptO r m 4)) := by
 obtain ⟨W, hW⟩ : ∃ W : World, W = (w.alloc (Obj.cells #[Value.int IntKind.i64 m, Value.slice A m c] 26)) := ⟨_, rfl⟩
 have HB : Hid (From w W) := by rw [hW]; exact From.alloc _ _
 have HG : Hid (GBox W w.heap.size A m c r) := by rw [hW]; exact h.box
 have HW := Lib.hid hW
 clear hW h
 have e0 := HG.out.c0
 have e1 := HG.out.c1
 have KF := Lib.hid (FindInducedPath_v HG.out.gv (n := 4) (by omega) (by omega))
 have HZ : Hid (w.heap.size ≤ W.heap.size) := HB.out.below.size
 go_enter Tryz.func138, Tryz.ntmps138
 go_wp2_with fail
 rw [← HW.out]
 refine (KF.out).mono ?_
 rintro e w1 ⟨A', c', rfl, ho, hb1⟩
 clear HW
 replace HB := Lib.hid (HB.out.keep hb1)
 clear hb1
 have HO := Lib.hid ho
 clear ho
 go_wp2
 go_ret2
 exact ⟨_, _, rfl, HO.out.mono HZ.out, HB.out.below⟩
end
section
variable (sz : Int) (A : Option Addr) (m c : Nat) (x : Nat → Int) (w : World)
set_option maxRecDepth 100000 in
set_option maxHeartbeats 1600000 in
theorem FindInducedPath_no (n : Nat) (h : GA w A m c x) (hm : m ≤ 1048576) (hok : okB sz m x = false) :
 Calls Tryz.prog 208 #[.agg #[.int .i64 sz, .slice A m c], .int .i64 n] w (lsQ w none) := by
 obtain ⟨W, hW⟩ : ∃ W : World, W = (w.alloc (Obj.cells #[Value.int IntKind.i64 sz, Value.slice A m c] 26)) := ⟨_, rfl⟩
 have HB : Hid (From w W) := by rw [hW]; exact From.alloc _ _
 have HK := Lib.hid (h.keep HB.out.below)
 have HC : Hid (GC W w.heap.size sz A m c) := by rw [hW]; exact GC.new _ _ _ _ _
 have HW := Lib.hid hW
 have KF := Lib.hid (firstList_noG (n := (n : Int)) (fm := 288) (cm := #[.pointer (some ⟨w.heap.size, 0, none⟩)]) (fh := 210) (ch := #[]) HK.out hm hok)
 clear hW h hok
 by_cases hin : 1 ≤ (n : Int) ∧ (n : Int) ≤ sz
 ·obtain ⟨i1, i2⟩ := hin
  go_enter Tryz.func208, Tryz.ntmps208
  have e0 := HC.out.c0
  have e1 := HC.out.c1
  go_wp2_with (go_at_call 60; refine (within_yes _ _ _ _ i1 i2).mono ?_; rintro e w' ⟨rfl, rfl⟩)
  rw [← HW.out]
  clear HW
  refine KF.out.mono ?_
  rintro e w1 ⟨rfl, hb1⟩
  clear e0 e1
  replace HB := Lib.hid (HB.out.keep hb1)
  replace HK := Lib.hid (HK.out.keep hb1)
  replace HC := Lib.hid (HC.out.keep hb1)
  clear hb1 KF
  have e0 := HC.out.c0
  have e1 := HC.out.c1
  go_wp2
  go_ret2
  exact lsQ.no HB.out.below
 ·have hin2 : (n : Int) < 1 ∨ sz < (n : Int) := by omega
  clear hin
  go_enter Tryz.func208, Tryz.ntmps208
  have e0 := HC.out.c0
  have e1 := HC.out.c1
  go_wp2_with (go_at_call 60; refine (within_no _ _ _ _ hin2).mono ?_; rintro e w' ⟨rfl, rfl⟩)
  rw [← HW.out]
  go_ret2
  exact lsQ.no HB.out.below
set_option maxHeartbeats 1000000 in
theorem FindPathOfFour_no (h : GA w A m c x) (hm : m ≤ 1048576) (hok : okB sz m x = false) :
 Calls Tryz.prog 138 #[.agg #[.int .i64 sz, .slice A m c]] w (lsQ w none) := by
 obtain ⟨W, hW⟩ : ∃ W : World, W = (w.alloc (Obj.cells #[Value.int IntKind.i64 sz, Value.slice A m c] 26)) := ⟨_, rfl⟩
 have HB : Hid (From w W) := by rw [hW]; exact From.alloc _ _
 have HK := Lib.hid (h.keep HB.out.below)
 have HC : Hid (GC W w.heap.size sz A m c) := by rw [hW]; exact GC.new _ _ _ _ _
 have HW := Lib.hid hW
 have KF := Lib.hid (FindInducedPath_no sz A m c x W 4 HK.out hm hok)
 clear hW h hok
 have HZ : Hid (w.heap.size ≤ W.heap.size) := HB.out.below.size
 go_enter Tryz.func138, Tryz.ntmps138
 have e0 := HC.out.c0
 have e1 := HC.out.c1
 go_wp2_with fail
 rw [← HW.out]
 refine (KF.out).mono ?_
 rintro e w1 ⟨A', c', rfl, ho, hb1⟩
 clear HW
 clear e0 e1
 replace HB := Lib.hid (HB.out.keep hb1)
 replace HK := Lib.hid (HK.out.keep hb1)
 replace HC := Lib.hid (HC.out.keep hb1)
 clear hb1
 have e0 := HC.out.c0
 have e1 := HC.out.c1
 have HO := Lib.hid ho
 clear ho
 go_wp2
 go_ret2
 exact ⟨_, _, rfl, HO.out.mono HZ.out, HB.out.below⟩
end
end Go.Proofs.YtfabbohijhjpcaaGreatDoor
