/-
  Several texts in one.
-/
import Derived.Test.YtdpkbfiggbcclaaGreatQkLater
import Derived.Test.YtdpkbfiggbcclaaGreatQkGB
import Derived.Test.YtdpkbfiggbcclaaGreatRows
import Derived.Test.YtdpkbfiggbcclaaGreatQkGA
import Derived.Deep.RegionHeld3
import Derived.Deep.QuietTactic
import Derived.BigQuiet
import Derived.ProofKit
import Derived.OpenShut
import Derived.ShutString
import Derived.Lib.SmallJoins
import Derived.Carry
import Derived.Deep.Slices
import Derived.Deep.Fields
import Derived.ChangeSame
import Derived.Test.YtdpkbfiggbcclaaGreatQkGC
import Derived.Test.YtdpkbfiggbcclaaGreatQkSet2I
/-
-/
namespace Go.Proofs.YtdpkbfiggbcclaaGreat
open Go.RowKit
theorem listN_getD {s j : Nat} (h : j < (listN s).length) : (listN s).getD j 0 = (listN s)[j] := by simp [List.getD, h]
theorem listN_lt {s m j : Nat} (hs : s < 2 ^ m) (hj : j < (listN s).length) : (listN s).getD j 0 < m := by
 rw [listN_getD hj]
 exact bit_lt hs (listN_at hj).2
theorem ltN_lt {m : Nat} {r : Nat → Nat} {l : List Int} {v : Int} (vg : VG m r) (h0 : 0 ≤ v) (h1 : v < m) : ltN r l v < 2 ^ m := Nat.lt_of_le_of_lt Nat.and_le_left (vg.lt _ (by omega))
theorem orB_yes {m : Nat} {x : Nat → Int} {l : List Int} (h : okB (m : Int) m x = true) (hV : VZ m l) (hl : l.length = m) : orB (m : Int) m x l = true := by
 unfold orB vrB
 rw [h, vzB_iff.2 hV, decide_eq_true hl]; rfl
end Go.Proofs.YtdpkbfiggbcclaaGreat

/-
-/
/-
 Contracts of the law's helpers on slices of edits.
-/
namespace Go.Proofs.YtdpkbfiggbcclaaGreat
open Go.RowKit
end Go.Proofs.YtdpkbfiggbcclaaGreat
/-
 Contracts of the law's helpers on slices of at most nine strings.
-/
namespace Go.Proofs.YtdpkbfiggbcclaaGreat
open Go.RowKit
end Go.Proofs.YtdpkbfiggbcclaaGreat
/-
 How the laws' arguments read: slices of integers, graphs, integers, strings.
-/
namespace Go.Proofs.YtdpkbfiggbcclaaGreat
open Go.ChangeShapes Go.WideShapes Go.ChangeAt Go.RowKit
theorem own : ownKnob Tryz.prog.godebug = none := by kernel_rfl
theorem laidOut : laidOutB Tryz.prog = true := by kernel_rfl
section
variable {H : Type} {enc : TypeId × Value → H} {w : World} {base : Nat} {spare : Nat → Bool} {held : Bool}
theorem rd_of_cells {a : Addr} {n c : Nat} {x : Nat → Int} (hl : n ≤ c) (hc : ∀ i, i < n → w.cell? (a.add i) = some (.int .i64 (x i))) : Rd w w.heap.size (some a) n c x := by
 refine ⟨hl, fun hn => ?_⟩
 obtain ⟨b, o, s⟩ := a
 have h0 := hc 0 hn
 have hs : s = none := by simpa [Addr.add] using World.cell?_spot h0
 subst hs
 have hadd : ∀ k, (⟨b, o, none⟩ : Addr).add k = ⟨b, o + k, none⟩ := fun k => by unfold Addr.add; split <;> simp_all
 refine ⟨b, o, rfl, ?_, fun k hk => by rw [← hadd]; exact hc k hk⟩
 have := World.block_lt_of_cell? w _ h0
 rw [hadd] at this
 exact this
theorem open_intS {fuel : Nat} {v : Value} {y : DataW H × List MemPlace} (h : DataW.trod enc Tryz.prog w base spare held fuel 22 [v] = some y) :
 ∃ A n c x, v = .slice A n c ∧ Rd w w.heap.size A n c x ∧ n ≤ maxLen := by
 rcases open_ints Tryz.underlying22 Tryz.underlying3 (by kernel_rfl) h with ⟨hcs, _⟩ | ⟨a, l, c, zs, hcs, _, hl, hm, hz, _, hcell, _⟩
 ·simp only [List.cons.injEq, and_true] at hcs
  exact ⟨none, 0, 0, fun _ => 0, hcs, Rd.nil _ _ _ _ _, Nat.zero_le _⟩
 ·simp only [List.cons.injEq, and_true] at hcs
  refine ⟨some a, l, c, fun i => zs.getD i 0, hcs, rd_of_cells hl (fun i hi => hcell i ?_), Nat.le_trans hl hm⟩
  rw [hz]; split <;> omega
theorem places_lt {t : TypeId} {v : Value} {d : DataW H} {p : List MemPlace} (h : DataW.Trod enc Tryz.prog w base spare held t v d p) : ∀ x ∈ p, x.block < w.heap.size := by
 obtain ⟨m, hm⟩ := h
 exact DataW.trod_lt m _ _ _ hm
end
end Go.Proofs.YtdpkbfiggbcclaaGreat
/-
 How further arguments read (slices of edits); small laws that the generated walks use.
-/
namespace Go.Proofs.YtdpkbfiggbcclaaGreat
open Go.ChangeShapes Go.WideShapes Go.ChangeAt Go.RowKit Go.Deep
theorem bd {w w' : World} (h : Below w.drew.heap.size w.drew w') : Below w.heap.size w w' := ⟨h.os, h.tape, h.output, h.size, h.block⟩
theorem upFr {lo hi b o : Nat} {W w1 : World} {v : Value} (hf : Fr lo hi W w1) (e : W.cell? ⟨b, o, none⟩ = some v) (h : b < W.heap.size) (h2 : b < lo ∨ hi ≤ b) : w1.cell? ⟨b, o, none⟩ = some v := (hf.cell (p := ⟨b, o, none⟩) h h2).trans e
section
variable {H : Type} {enc : TypeId × Value → H} {w : World} {base : Nat} {spare : Nat → Bool} {held : Bool}
end
end Go.Proofs.YtdpkbfiggbcclaaGreat
/-
 Contract of the law's helper that asks whether a graph holds its marks.
-/
namespace Go.Proofs.YtdpkbfiggbcclaaGreat
open Go.RowKit
end Go.Proofs.YtdpkbfiggbcclaaGreat
/-
 How arguments read: slices of slices of integers; integers; strings.
-/
namespace Go.Proofs.YtdpkbfiggbcclaaGreat
open Go.ChangeShapes Go.WideShapes Go.ChangeAt Go.RowKit Go.Deep
section
variable {H : Type} {enc : TypeId × Value → H} {w : World} {base : Nat} {spare : Nat → Bool} {held : Bool}
end
end Go.Proofs.YtdpkbfiggbcclaaGreat

/-
-/
namespace Go.Proofs.YtdpkbfiggbcclaaGreat
open Go.RowKit
section
variable {w w' : World} {A : Option Addr} {c lo m : Nat} {r : Nat → Nat}
theorem ON.set {q : Nat} {AL : Option Addr} {cL : Nat} {L : List Nat} (h : ON (q + 1) w AL cL L) (x y : Value) : ON (q + 1) ((w.setCell ⟨q, 0, none⟩ x).setCell ⟨q, 1, none⟩ y) AL cL L :=
 ⟨(h.own.keep (fr2 w q x y) (.inr (Nat.le_refl _))).mono (Nat.le_refl _) (fr2 w q x y).size⟩
end
theorem LaterNeighbours_sv {A : Option Addr} {m c : Nat} {r : Nat → Nat} {Al : Option Addr} {n cl : Nat} {l : List Int} {w : World} (h : GV w A m c r) (hl : LI w Al n cl l) (hV : VZ m l) (hlen : l.length = m) {v : Int} (hv : v ∈ l) :
 Calls Tryz.prog 336 #[.agg #[.int .i64 m, .slice A m c], .slice Al n cl, .int .i64 v] w fun e w' => e = .returned (.int .i64 (ltN r l v : Nat)) ∧ Below w.heap.size w w' := by
 have := LaterNeighbours_s (m : Int) A m c (fun v => (r v : Int)) Al n cl l v w ⟨h.rd⟩ hl (by have := h.vg.n7; omega) (by have := h.vg.n7; rw [hl.len]; omega)
 rwa [ltZ_yes (orB_yes h.ok hV hlen) (hV.2 _ hv), rw_cast] at this
theorem LaterNeighbours_iv {A : Option Addr} {m c : Nat} {r : Nat → Nat} {Al : Option Addr} {n cl : Nat} {l : List Int} {w : World} (h : GV w A m c r) (hl : LI w Al n cl l) (hV : VZ m l) (hlen : l.length = m) {v : Int} (hv : v ∈ l) :
 Calls Tryz.prog 299 #[.agg #[.int .i64 m, .slice A m c], .slice Al n cl, .int .i64 v] w fun e w' => e = .returned (.int .i64 (ltN r l v : Nat)) ∧ Below w.heap.size w w' := by
 have := LaterNeighbours_i (m : Int) A m c (fun v => (r v : Int)) Al n cl l v w ⟨h.rd⟩ hl (by have := h.vg.n7; omega) (by have := h.vg.n7; rw [hl.len]; omega)
 rwa [ltZ_yes (orB_yes h.ok hV hlen) (hV.2 _ hv), rw_cast] at this
end Go.Proofs.YtdpkbfiggbcclaaGreat

/-
-/
namespace Go.Proofs.YtdpkbfiggbcclaaGreat
open Go.RowKit
noncomputable def elB (sz : Int) (m : Nat) (x : Nat → Int) (l : List Int) : Bool := orB sz m x l && l.all fun v => cliq (rw_ x) (ltN (rw_ x) l v)
theorem elB_no {sz : Int} {m : Nat} {x : Nat → Int} {l : List Int} (h : orB sz m x l = false) : elB sz m x l = false := by unfold elB; rw [h]; rfl
theorem elB_yes {sz : Int} {m : Nat} {x : Nat → Int} {l : List Int} (h : orB sz m x l = true) : elB sz m x l = l.all fun v => cliq (rw_ x) (ltN (rw_ x) l v) := by unfold elB; rw [h]; rfl
theorem any_not {p : Int → Bool} {l : List Int} : l.all p = !l.any fun v => !p v := by
 induction l with
 | nil => rfl
 | cons a l ih => rw [List.all_cons, List.any_cons, ih, Bool.not_or, Bool.not_not]
set_option maxRecDepth 100000 in
set_option maxHeartbeats 1600000 in
theorem ElimF {A : Option Addr} {m c q : Nat} {r : Nat → Nat} {Al : Option Addr} {n cl : Nat} {l : List Int} {w : World} (h : GBox w q A m c r) (hl : LI w Al n cl l) (e2 : w.cell? ⟨q + 1, 0, none⟩ = some (.slice Al n cl)) (hV : VZ m l) (hlen : l.length = m) {v : Int} (hv : v ∈ l) :
 Calls Tryz.prog 345 #[.int .i64 v, .pointer (some ⟨q, 0, none⟩), .pointer (some ⟨q + 1, 0, none⟩)] w fun e w' => e = .returned (.bool (!cliq r (ltN r l v))) ∧ Below w.heap.size w w' := by
 have HG := Lib.hid h
 have HL := Lib.hid hl
 have HV := Lib.hid hV
 have HN := Lib.hid hlen
 have HM := Lib.hid hv
 have hvz := hV.2 v hv
 have hlt : ltN r l v < 2 ^ m := ltN_lt h.gv.vg hvz.1 hvz.2
 have e0 := h.c0
 have e1 := h.c1
 have HF : Hid (From w w) := From.refl w
 have KL : Hid (∀ z : World, Below w.heap.size w z → Calls Tryz.prog 299 #[.agg #[.int .i64 m, .slice A m c], .slice Al n cl, .int .i64 v] z fun e w' => e = .returned (.int .i64 (ltN r l v : Nat)) ∧ Below z.heap.size z w') := fun z hz => LaterNeighbours_iv (HG.out.gv.keep hz) (HL.out.keep hz) HV.out HN.out HM.out
 obtain ⟨t, ht⟩ : ∃ t, t = ltN r l v := ⟨_, rfl⟩
 rw [← ht] at KL hlt ⊢
 clear h hl hV hlen hv ht hvz
 go_enter Tryz.func345, Tryz.ntmps345
 have HSC : Hid (∀ z : World, Below w.heap.size w z → (Below w.heap.size w z ∧ z.cell? ⟨q, 0, none⟩ = some (.int .i64 m) ∧ z.cell? ⟨q, 1, none⟩ = some (.slice A m c) ∧ z.cell? ⟨q + 1, 0, none⟩ = some (.slice Al n cl))) := fun z hz => ⟨hz, up_ hz e0, up_ hz e1, up_ hz e2⟩
 have HZ0 : Hid (Below w.heap.size w w.drew) := (Below.refl _ _).drew
 have HS1 := Lib.hid (HSC.out _ HZ0.out)
 have KR1 : Hid (∀ z : World, Below w.heap.size w z → _) := fun z hz => KL.out _ hz
 have KR2 : Hid (∀ z : World, Below w.heap.size w z → _) := fun z hz => isClique_v (HG.out.gv.keep hz) hlt
 go_wp2
 go_region_held3 (fun z => Below w.heap.size w z ∧ z.cell? ⟨q, 0, none⟩ = some (.int .i64 m) ∧ z.cell? ⟨q, 1, none⟩ = some (.slice A m c) ∧ z.cell? ⟨q + 1, 0, none⟩ = some (.slice Al n cl))
  (first | exact HS1.out | assumption | exact HSC.out _ hz2 | exact HSC.out _ hz1 | fail)
  (first | (go_at_call 299; ((with_reducible refine (KR1.out _ HZ0.out).mono ?_); rintro e w1 ⟨rfl, hb1⟩; have hz1 := bl_trans HZ0.out hb1)) | (go_at_call 264; ((with_reducible refine (KR2.out _ hz1).mono ?_); rintro e w2 ⟨rfl, hb2⟩; have hz2 := bl_trans hz1 hb2)))
 replace HF := Lib.hid (HF.out.keep hz2)
 clear hb1 hz1 hb2 hz2 HSC HZ0 HS1 KR1 KR2
 go_wp2
 go_ret
 exact ⟨rfl, HF.out.below⟩
set_option maxRecDepth 100000 in
set_option maxHeartbeats 1600000 in
theorem IsElimination_i (sz : Int) (A : Option Addr) (m c : Nat) (x : Nat → Int) (Al : Option Addr) (n cl : Nat) (l : List Int) (w : World) (h : GA w A m c x) (hl : LI w Al n cl l) (hm : m ≤ 1048576) (hn : n ≤ 1048576) :
 Calls Tryz.prog 250 #[.agg #[.int .i64 sz, .slice A m c], .slice Al n cl] w fun e w' => e = .returned (.bool (elB sz m x l)) ∧ Below w.heap.size w w' := by
 obtain ⟨W, hW⟩ : ∃ W : World, W = ((w.alloc (Obj.cells #[Value.int IntKind.i64 sz, Value.slice A m c] 28)).alloc (Obj.cells #[Value.slice Al n cl] 22)) := ⟨_, rfl⟩
 have HB : Hid (From w W) := by rw [hW]; exact (From.alloc _ _).alloc_ _
 have HK := Lib.hid (h.keep HB.out.below)
 have HL := Lib.hid (hl.keep HB.out.below)
 have HC : Hid (GC W w.heap.size sz A m c) := by rw [hW]; exact (GC.new _ _ _ _ _).keep ((Below.refl _ _).alloc (Nat.le_refl _) _)
 have HO : Hid (CL W (w.heap.size + 1) 0 (.slice Al n cl)) := by rw [hW]; constructor; simp [go_sem]
 have HW := Lib.hid hW
 clear hW h hl
 go_enter Tryz.func250, Tryz.ntmps250
 have e0 := HC.out.c0
 have e1 := HC.out.c1
 have e2 := HO.out.c
 go_wp2_with fail
 rw [← HW.out]
 refine (IsOrder_z sz A m c x Al n cl l W HK.out HL.out hm hn).mono ?_
 rintro e w1 ⟨rfl, hb1⟩
 clear HW
 clear e0 e1 e2
 replace HB := Lib.hid (HB.out.keep hb1)
 replace HK := Lib.hid (HK.out.keep hb1)
 replace HL := Lib.hid (HL.out.keep hb1)
 replace HC := Lib.hid (HC.out.keep hb1)
 replace HO := Lib.hid (HO.out.keep hb1)
 clear hb1
 have e0 := HC.out.c0
 have e1 := HC.out.c1
 have e2 := HO.out.c
 cases ho : orB sz m x l
 ·have Hn : Hid (elB sz m x l = false) := elB_no ho
  clear ho
  go_wp2
  go_ret
  exact ⟨ret_bool Hn.out.symm, HB.out.below⟩
 obtain ⟨hok, hV, hlen⟩ := orB_parts ho
 obtain ⟨_, es, vg0, _⟩ := okB_ok' hok
 subst es
 have HG : Hid (GV w1 A m c (rw_ x)) := HK.out.gv hok
 have HV := Lib.hid hV
 have HN := Lib.hid hlen
 have Hy : Hid (elB (m : Int) m x l = !l.any fun v => !cliq (rw_ x) (ltN (rw_ x) l v)) := by show _ = _; rw [elB_yes ho, any_not]
 have HQ := HC
 have HO1 := HO
 have HL1 := HL
 have KC := Lib.hid (ContainsFunc_g (p := fun v => !cliq (rw_ x) (ltN (rw_ x) l v)) (caps := #[.pointer (some ⟨w.heap.size, 0, none⟩), .pointer (some ⟨w.heap.size + 1, 0, none⟩)]) (ent_of Tryz.func345 (by kernel_rfl) rfl) w1 HL.out hn (fun v z hv hz => ElimF ⟨HG.out.keep hz, (HQ.out.keep hz).c0, (HQ.out.keep hz).c1, (HQ.out.keep hz).lt⟩ (HL1.out.keep hz) (HO1.out.keep hz).c HV.out HN.out hv))
 obtain ⟨b, hb⟩ : ∃ b, b = l.any fun v => !cliq (rw_ x) (ltN (rw_ x) l v) := ⟨_, rfl⟩
 rw [← hb] at KC Hy
 clear ho hok hV hlen vg0 hb
 go_wp2_with fail
 refine (KC.out).mono ?_
 rintro e w2 ⟨rfl, hb2⟩
 clear e0 e1 e2
 replace HB := Lib.hid (HB.out.keep hb2)
 replace HK := Lib.hid (HK.out.keep hb2)
 replace HL := Lib.hid (HL.out.keep hb2)
 replace HC := Lib.hid (HC.out.keep hb2)
 replace HO := Lib.hid (HO.out.keep hb2)
 clear hb2
 have e0 := HC.out.c0
 have e1 := HC.out.c1
 have e2 := HO.out.c
 go_wp2
 go_ret
 exact ⟨ret_bool Hy.out.symm, HB.out.below⟩
end Go.Proofs.YtdpkbfiggbcclaaGreat
