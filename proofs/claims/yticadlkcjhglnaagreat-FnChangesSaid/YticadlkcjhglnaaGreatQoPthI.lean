/-
  Several texts in one.
-/
import Derived.Test.YticadlkcjhglnaaGreatQoLater
import Derived.Test.YticadlkcjhglnaaGreatQoBestOrd
import Derived.Test.YticadlkcjhglnaaGreatQoSimI
import Derived.Test.YticadlkcjhglnaaGreatQoSetG
/-
-/
namespace Go.Proofs.YticadlkcjhglnaaGreat
open Go.RowKit
set_option maxHeartbeats 1600000
noncomputable def umO (r : Nat → Nat) (m : Nat) : Option (List Nat) := seaG m (umB r) (fun _ => true) m []
noncomputable def ppB (sz : Int) (m : Nat) (x : Nat → Int) : Bool := okB sz m x && (umO (rw_ x) m).isSome
theorem ppB_no {sz : Int} {m : Nat} {x : Nat → Int} (h : okB sz m x = false) : ppB sz m x = false := by unfold ppB; rw [h]; rfl
theorem ppB_yes {sz : Int} {m : Nat} {x : Nat → Int} (h : okB sz m x = true) : ppB sz m x = (umO (rw_ x) m).isSome := by unfold ppB; rw [h]; rfl
set_option maxRecDepth 100000 in
theorem UmoF {A : Option Addr} {m c q : Nat} {r : Nat → Nat} {Al : Option Addr} {cl : Nat} {l : List Nat} {w : World} (h : GBox w q A m c r) (hl : LN w Al cl l) (hlt : ∀ v ∈ l, v < m) (hlen : l.length ≤ 7) :
 Calls Tryz.prog 191 #[.slice Al l.length cl, .pointer (some ⟨q, 0, none⟩)] w fun e w' => e = .returned (.bool (umB r l)) ∧ Below w.heap.size w w' := by
 have HG := hh_ h;have HL := hh_ hl;have Hlt := hh_ hlt;have e0 := h.c0;have e1 := h.c1;have HF : Hid (From w w) := From.refl w;clear h hl hlt;go_enter Tryz.func191, Tryz.ntmps191;go_wp2_with fail
 refine (isUmbrella_v HG.gv HL.out Hlt.out hlen).mono ?_;rintro e w1 ⟨rfl, hb1⟩;replace HF := hh_ (HF.keep hb1);clear hb1;go_wp2;go_ret;exact ⟨rfl, HF.below⟩
section
variable {A : Option Addr} {m c : Nat} {r : Nat → Nat}
set_option maxRecDepth 100000 in
theorem UmbrellaOf_v {w : World} (h : GV w A m c r) : Calls Tryz.prog 175 #[.agg #[.int .i64 m, .slice A m c]] w (lsQ w (umO r m)) := by
 have hm1 := h.vg.n1;have hm7 := h.vg.n7;obtain ⟨W, hW, HB, HG⟩ := gbW h;have HW := hh_ hW;clear hW h;obtain ⟨e0, e1⟩ := gx_ HG;have HG0 := HG;have KF := hh_ (firstList_g (m := m) (n := m) (A := A) (c := c) (r := r) (fm := 191) (cm := #[.pointer (some ⟨w.heap.size, 0, none⟩)]) (fh := 133) (ch := #[]) (may := umB r) (hol := fun _ => true) (lo := W.heap.size) (hi := W.heap.size) (J := fun _ z => GBox z w.heap.size A m c r)
  (ent_of Tryz.func191 (by kernel_rfl) rfl) (ent_of Tryz.func133 (by kernel_rfl) rfl) W HG0.gv hm1 nr_ (fun _ z z' hz hb => hz.keep hb) HG0.out
  (fun _ l A' c' z hz hr _ hv hn => UmoF hz ⟨hr⟩ hv (by have := nodup_len hn hv; omega))
  (fun _ l A' c' z hz _ _ _ _ => (always_n A' l.length c' z).mono fun e w' ⟨h1, h2⟩ => ⟨h1, hz.keep h2, Fr.of_below h2⟩))
 have HO : Hid (umO r m = seaG m (umB r) (fun _ => true) m []) := rfl;obtain ⟨o, ho⟩ : ∃ o, o = umO r m := ⟨_, rfl⟩;rw [← ho] at HO ⊢;rw [← HO.out] at KF;clear ho HO;go_enter Tryz.func175, Tryz.ntmps175;obtain ⟨e0, e1⟩ := gx_ HG;go_wp2_with fail
 rw [← HW.out];clear HW;refine KF.mono ?_;rintro e w1 ⟨hf, hp⟩;have HB1 : Hid (Below w.heap.size w w1) := HB.below.trans (hf.below HB.below.size HB.below.size);have HZ : Hid (w.heap.size ≤ W.heap.size) := HB.below.size;clear hf KF HG e0 e1;cases o with
 | none =>
   obtain ⟨rfl, _⟩ := hp;go_wp2;go_ret2;exact lsQ.no HB1.out
 | some l =>
   obtain ⟨g, c', rfl, hO⟩ := hp;have HL : Hid (ON w.heap.size w1 (some ⟨g, 0, none⟩) c' l) := ⟨hO.mono HZ.out nr_⟩;clear hO;go_wp2;go_ret2;exact lsQ.yes HL.out HB1.out
end
set_option maxRecDepth 100000 in
theorem firstList_noG {sz : Int} {A : Option Addr} {m c : Nat} {x : Nat → Int} {w : World} {n : Int} {fm fh : FuncId} {cm ch : Array Value} (h : GA w A m c x) (hm : m ≤ 1048576) (hok : okB sz m x = false) :
 Calls Tryz.prog 132 #[.agg #[.int .i64 sz, .slice A m c], .int .i64 n, .func (.func fm) #[] cm, .func (.func fh) #[] ch] w fun e w' => e = .returned (.tuple #[.slice none 0 0, .bool false]) ∧ Below w.heap.size w w' := by
 obtain ⟨W4, hW4⟩ : ∃ W, W = ((((w.alloc (Obj.cells #[.int .i64 sz, .slice A m c] 26)).alloc (Obj.cells #[.int .i64 n] 3)).alloc (Obj.cells #[.func (.func fm) #[] cm] 110)).alloc (Obj.cells #[.func (.func fh) #[] ch] 110)) := ⟨_, rfl⟩;have HF4 : Hid (From w W4) := by rw [hW4]; exact (((From.alloc _ _).alloc_ _).alloc_ _).alloc_ _
 have hz4 : w.heap.size + 1 + 1 + 1 + 1 = W4.heap.size := by rw [hW4]; simp
 have a0 : W4.cell? ⟨w.heap.size, 0, none⟩ = some (.int .i64 sz) := by rw [hW4]; simp [go_sem]
 have a1 : W4.cell? ⟨w.heap.size, 1, none⟩ = some (.slice A m c) := by rw [hW4]; simp [go_sem]
 obtain ⟨W, hW⟩ : ∃ W, W = W4.alloc (Obj.cells #[.func (.func 173) #[] #[.pointer (some ⟨w.heap.size + 1, 0, none⟩), .pointer (some ⟨w.heap.size + 1 + 1 + 1, 0, none⟩), .pointer (some ⟨w.heap.size, 0, none⟩), .pointer (some ⟨w.heap.size + 1 + 1, 0, none⟩), .pointer (some ⟨W4.heap.size, 0, none⟩)]] 74) := ⟨_, rfl⟩;have hbW : Below W4.heap.size W4 W := by rw [hW]; exact br_.alloc nr_ _
 have HB : Hid (From w W) := HF4.keep hbW;have c1 : w.heap.size < W4.heap.size := by omega
 have e0 := up hbW a0 (by omega);have e1 := up hbW a1 (by omega);have HK := hh_ (h.keep HB.below);have HW := hh_ hW;have HW4 := hh_ hW4;have HZ4 := hh_ hz4;have Ho := hh_ hok;clear hW hW4 h hz4 hbW hok HF4;go_enter Tryz.func132, Tryz.ntmps132;go_upto_region 2 with (fail)
 rw [← HW4.out, HZ4.out];clear HW4;go_wp2_with fail
 rw [← HW.out];clear HW;refine (IsGraph_any sz A m c x W W.heap.size HK.rd nr_ hm).mono ?_;rintro e w1 ⟨rfl, hb1⟩;rw [Ho.out];replace HB := hh_ (HB.keep hb1);clear hb1 e0 e1 a0 a1;go_wp2;go_ret2;exact ⟨rfl, HB.below⟩
section
variable (sz : Int) (A : Option Addr) (m c : Nat) (x : Nat → Int) (w : World)
set_option maxRecDepth 100000 in
theorem UmbrellaOf_no (h : GA w A m c x) (hm : m ≤ 1048576) (hok : okB sz m x = false) :
 Calls Tryz.prog 175 #[.agg #[.int .i64 sz, .slice A m c]] w (lsQ w none) := by
 obtain ⟨W, hW, HB, HK, HC⟩ := gaW sz h;have HW := hh_ hW;have KF := hh_ (firstList_noG (n := sz) (fm := 191) (cm := #[.pointer (some ⟨w.heap.size, 0, none⟩)]) (fh := 133) (ch := #[]) HK hm hok);clear hW h hok;go_enter Tryz.func175, Tryz.ntmps175;obtain ⟨e0, e1⟩ := gc_ HC;go_wp2_with fail
 rw [← HW.out];clear HW;refine KF.mono ?_;rintro e w1 ⟨rfl, hb1⟩;clear e0 e1;replace HB := hh_ (HB.keep hb1);replace HK := hh_ (HK.keep hb1);replace HC := hh_ (HC.keep hb1);clear hb1 KF;obtain ⟨e0, e1⟩ := gc_ HC;go_wp2;go_ret2;exact lsQ.no HB.below
set_option maxRecDepth 100000 in
theorem IsProper_i (h : GA w A m c x) (hm : m ≤ 1048576) :
 Calls Tryz.prog 138 #[.agg #[.int .i64 sz, .slice A m c]] w fun e w' => e = .returned (.bool (ppB sz m x)) ∧ Below w.heap.size w w' := by
 obtain ⟨W, hW, HB, HK, HC⟩ := gaW sz h;have HW := hh_ hW;clear hW h;go_enter Tryz.func138, Tryz.ntmps138;cases ho : okB sz m x
 ·have Hn : Hid (ppB sz m x = false) := ppB_no ho;have KF := hh_ (UmbrellaOf_no sz A m c x W HK hm ho);clear ho;obtain ⟨e0, e1⟩ := gc_ HC;go_wp2_with fail
  rw [← HW.out];refine (KF.out).mono ?_;rintro e w1 ⟨A', c', rfl, _, hb1⟩;clear HW;clear e0 e1;obtain ⟨HB, HK, HC, e0, e1⟩ := kC_ HB HK HC hb1;clear hb1;clear KF;go_wp2;go_ret;exact ⟨ret_bool Hn.symm, HB.below⟩
 obtain ⟨_, es, _, _⟩ := okB_ok' ho;subst es;have Hn : Hid (ppB (m : Int) m x = (umO (rw_ x) m).isSome) := ppB_yes ho;have HG : Hid (GBox W w.heap.size A m c (rw_ x)) := ⟨HK.gv ho, HC.c0, HC.c1, HC.lt⟩;have KF := hh_ (UmbrellaOf_v HG.gv);obtain ⟨o, ho2⟩ : ∃ o, o = umO (rw_ x) m := ⟨_, rfl⟩;rw [← ho2] at Hn KF;clear ho ho2 HC HK;cases o
 ·skip;obtain ⟨e0, e1⟩ := gx_ HG;go_wp2_with fail
  rw [← HW.out];refine (KF.out).mono ?_;rintro e w2 ⟨A', c', rfl, _, hb2⟩;clear HW;clear e0 e1;obtain ⟨HB, HG, e0, e1⟩ := kG_ HB HG hb2;clear hb2;clear KF;go_wp2;go_ret;exact ⟨ret_bool Hn.symm, HB.below⟩
 ·skip;obtain ⟨e0, e1⟩ := gx_ HG;go_wp2_with fail
  rw [← HW.out];refine (KF.out).mono ?_;rintro e w3 ⟨A', c', rfl, _, hb3⟩;clear HW;clear e0 e1;obtain ⟨HB, HG, e0, e1⟩ := kG_ HB HG hb3;clear hb3;clear KF;go_wp2;go_ret;exact ⟨ret_bool Hn.symm, HB.below⟩
end
set_option maxHeartbeats 1600000
def slO (r : Nat → Nat) (m : Nat) : Option Nat := lsK (splB r m) (2 ^ m)
noncomputable def slB (sz : Int) (m : Nat) (x : Nat → Int) : Bool := okB sz m x && (slO (rw_ x) m).isSome
theorem slB_no {sz : Int} {m : Nat} {x : Nat → Int} (h : okB sz m x = false) : slB sz m x = false := by unfold slB; rw [h]; rfl
theorem slB_yes {sz : Int} {m : Nat} {x : Nat → Int} (h : okB sz m x = true) : slB sz m x = (slO (rw_ x) m).isSome := by unfold slB; rw [h]; rfl
section
variable {A : Option Addr} {m c : Nat} {r : Nat → Nat}
theorem SplitOf_v {w : World} (h : GV w A m c r) :
 Calls Tryz.prog 177 #[.agg #[.int .i64 m, .slice A m c]] w fun e w' => e = .returned (lsV (slO r m)) ∧ Below w.heap.size w w' := by
 obtain ⟨W, hW, HB, HG⟩ := gbW h;have HW := hh_ hW;clear hW h;obtain ⟨e0, e1⟩ := gx_ HG;go_enter Tryz.func177, Tryz.ntmps177;go_wp2_with fail
 rw [← HW.out];refine (least_g (p := splB r m) (caps := #[]) (ent_of Tryz.func195 (by kernel_rfl) rfl) W HG.gv (fun s z hs hb => IsSplitPartition_v (HG.gv.keep hb) hs)).mono ?_;rintro e w1 ⟨rfl, hb1⟩;clear HW;clear e0 e1;obtain ⟨HB, HG, e0, e1⟩ := kG_ HB HG hb1;clear hb1;have HS : Hid (slO r m = lsK (splB r m) (2 ^ m)) := rfl;rw [← HS.out];cases hso : slO r m with
 | none =>
   have Hn := hh_ hso;clear hso;rw [lsV_none];go_wp2;go_ret2;exact ⟨by rw [Hn.out]; rfl, HB.below⟩
 | some k =>
   have Hn := hh_ hso;clear hso;rw [lsV_some];go_wp2;go_ret2;exact ⟨by rw [Hn.out]; rfl, HB.below⟩
end
section
variable (sz : Int) (A : Option Addr) (m c : Nat) (x : Nat → Int) (w : World)
theorem SplitOf_no (h : GA w A m c x) (hm : m ≤ 1048576) (hok : okB sz m x = false) :
 Calls Tryz.prog 177 #[.agg #[.int .i64 sz, .slice A m c]] w fun e w' => e = .returned (lsV none) ∧ Below w.heap.size w w' := by
 obtain ⟨W, hW, HB, HK, HC⟩ := gaW sz h;have HW := hh_ hW;have KF := hh_ (least_no (f := .func (.func 195) #[] #[]) HK hm hok);clear hW h hok;go_enter Tryz.func177, Tryz.ntmps177;obtain ⟨e0, e1⟩ := gc_ HC;go_wp2_with fail
 rw [← HW.out];refine (KF.out).mono ?_;rintro e w1 ⟨rfl, hb1⟩;clear HW;clear e0 e1;obtain ⟨HB, HK, HC, e0, e1⟩ := kC_ HB HK HC hb1;clear hb1;clear KF;rw [lsV_none];go_wp2;go_ret2;exact ⟨rfl, HB.below⟩
set_option maxRecDepth 100000 in
theorem IsSplit_i (h : GA w A m c x) (hm : m ≤ 1048576) :
 Calls Tryz.prog 140 #[.agg #[.int .i64 sz, .slice A m c]] w fun e w' => e = .returned (.bool (slB sz m x)) ∧ Below w.heap.size w w' := by
 obtain ⟨W, hW, HB, HK, HC⟩ := gaW sz h;have HW := hh_ hW;clear hW h;go_enter Tryz.func140, Tryz.ntmps140;cases ho : okB sz m x
 ·have Hn : Hid (slB sz m x = false) := slB_no ho;have KF := hh_ (SplitOf_no sz A m c x W HK hm ho);clear ho;obtain ⟨e0, e1⟩ := gc_ HC;go_wp2_with fail
  rw [← HW.out];refine (KF.out).mono ?_;rintro e w1 ⟨rfl, hb1⟩;clear HW;clear e0 e1;obtain ⟨HB, HK, HC, e0, e1⟩ := kC_ HB HK HC hb1;clear hb1;clear KF;rw [lsV_none];go_wp2;go_ret;exact ⟨ret_bool Hn.symm, HB.below⟩
 obtain ⟨_, es, _, _⟩ := okB_ok' ho;subst es;have Hn : Hid (slB (m : Int) m x = (slO (rw_ x) m).isSome) := slB_yes ho;have HG : Hid (GBox W w.heap.size A m c (rw_ x)) := ⟨HK.gv ho, HC.c0, HC.c1, HC.lt⟩;have KF := hh_ (SplitOf_v HG.gv);obtain ⟨o, ho2⟩ : ∃ o, o = slO (rw_ x) m := ⟨_, rfl⟩;rw [← ho2] at Hn KF;clear ho ho2 HC HK;cases o
 ·skip;obtain ⟨e0, e1⟩ := gx_ HG;go_wp2_with fail
  rw [← HW.out];refine (KF.out).mono ?_;rintro e w2 ⟨rfl, hb2⟩;clear HW;clear e0 e1;obtain ⟨HB, HG, e0, e1⟩ := kG_ HB HG hb2;clear hb2;clear KF;rw [lsV_none];go_wp2;go_ret;exact ⟨ret_bool Hn.symm, HB.below⟩
 ·skip;obtain ⟨e0, e1⟩ := gx_ HG;go_wp2_with fail
  rw [← HW.out];refine (KF.out).mono ?_;rintro e w3 ⟨rfl, hb3⟩;clear HW;clear e0 e1;obtain ⟨HB, HG, e0, e1⟩ := kG_ HB HG hb3;clear hb3;clear KF;rw [lsV_some];go_wp2;go_ret;exact ⟨ret_bool Hn.symm, HB.below⟩
end
set_option maxHeartbeats 1600000
noncomputable def ptB (r : Nat → Nat) (m : Nat) (l : List Nat) : Bool := ipB (m : Int) m (fun v => (r v : Int)) (l.map fun v : Nat => (v : Int))
theorem nodup_cast {l : List Nat} (h : (l.map fun v : Nat => (v : Int)).Nodup) : l.Nodup := by
 induction l with
 | nil => exact List.nodup_nil
 | cons a l ih =>
   rw [List.map_cons, List.nodup_cons] at h;rw [List.nodup_cons];exact ⟨fun ha => h.1 (List.mem_map_of_mem ha), ih h.2⟩
theorem ptB_dup {r : Nat → Nat} {m : Nat} {l : List Nat} (h : ¬ l.Nodup) : ptB r m l = false := by
 unfold ptB ipB;rw [ajB_bad (by unfold vrB; rw [vzB_no (fun hv => h (nodup_cast hv.1)), Bool.and_false]), Bool.and_false]
noncomputable def ptO (r : Nat → Nat) (m n : Nat) : Option (List Nat) := if n ≤ m then seaG m (ptB r m) (fun _ => true) n [] else none
theorem ptO_yes {r : Nat → Nat} {m n : Nat} (h : n ≤ m) : ptO r m n = seaG m (ptB r m) (fun _ => true) n [] := by unfold ptO; rw [if_pos h]
theorem ptO_no {r : Nat → Nat} {m n : Nat} (h : ¬ n ≤ m) : ptO r m n = none := by unfold ptO; rw [if_neg h]
noncomputable def cgB (sz : Int) (m : Nat) (x : Nat → Int) : Bool := okB sz m x && !(ptO (rw_ x) m 4).isSome
theorem cgB_no {sz : Int} {m : Nat} {x : Nat → Int} (h : okB sz m x = false) : cgB sz m x = false := by unfold cgB; rw [h]; rfl
theorem cgB_yes {sz : Int} {m : Nat} {x : Nat → Int} (h : okB sz m x = true) : cgB sz m x = !(ptO (rw_ x) m 4).isSome := by unfold cgB; rw [h]; rfl
section
variable {A : Option Addr} {m c : Nat} {r : Nat → Nat}
theorem IsInducedPath_v {w : World} (h : GV w A m c r) {Al : Option Addr} {cl : Nat} {l : List Nat} (hl : LN w Al cl l) (hlen : l.length ≤ 7) :
 Calls Tryz.prog 212 #[.agg #[.int .i64 m, .slice A m c], .slice Al l.length cl] w fun e w' => e = .returned (.bool (ptB r m l)) ∧ Below w.heap.size w w' :=
 IsInducedPath_i m A m c _ Al l.length cl _ w h.ga hl.li (by have := h.vg.n7; omega) (by omega)
set_option maxRecDepth 100000 in
theorem PthF {q : Nat} {Al : Option Addr} {cl : Nat} {l : List Nat} {w : World} (h : GBox w q A m c r) (hl : LN w Al cl l) (hlen : l.length ≤ 7) :
 Calls Tryz.prog 211 #[.slice Al l.length cl, .pointer (some ⟨q, 0, none⟩)] w fun e w' => e = .returned (.bool (ptB r m l)) ∧ Below w.heap.size w w' := by
 have KP := hh_ (IsInducedPath_v h.gv hl hlen);have e0 := h.c0;have e1 := h.c1;have HF : Hid (From w w) := From.refl w;clear h hl;go_enter Tryz.func211, Tryz.ntmps211;go_wp2_with fail
 refine KP.mono ?_;rintro e w1 ⟨rfl, hb1⟩;replace HF := hh_ (HF.keep hb1);clear hb1;go_wp2;go_ret;exact ⟨rfl, HF.below⟩
set_option maxRecDepth 100000 in
theorem FindInducedPath_v {w : World} (h : GV w A m c r) {n : Nat} (hn : 1 ≤ n) (hn7 : n ≤ 7) : Calls Tryz.prog 193 #[.agg #[.int .i64 m, .slice A m c], .int .i64 n] w (lsQ w (ptO r m n)) := by
 have hm1 := h.vg.n1;have hm7 := h.vg.n7;obtain ⟨W, hW, HB, HG⟩ := gbW h;have HW := hh_ hW;clear hW h;obtain ⟨e0, e1⟩ := gx_ HG;have HG0 := HG;by_cases hnm : n ≤ m
 ·have HO : Hid (ptO r m n = seaG m (ptB r m) (fun _ => true) n []) := ptO_yes hnm;have KF := hh_ (firstList_g (m := m) (n := n) (A := A) (c := c) (r := r) (fm := 211) (cm := #[.pointer (some ⟨w.heap.size, 0, none⟩)]) (fh := 133) (ch := #[]) (may := ptB r m) (hol := fun _ => true) (lo := W.heap.size) (hi := W.heap.size) (J := fun _ z => GBox z w.heap.size A m c r)
   (ent_of Tryz.func211 (by kernel_rfl) rfl) (ent_of Tryz.func133 (by kernel_rfl) rfl) W HG0.gv hn nr_ (fun _ z z' hz hb => hz.keep hb) HG0.out
   (fun _ l A' c' z hz hr _ hv hn => PthF hz ⟨hr⟩ (by have := nodup_len hn hv; omega))
   (fun _ l A' c' z hz _ _ _ _ => (always_n A' l.length c' z).mono fun e w' ⟨h1, h2⟩ => ⟨h1, hz.keep h2, Fr.of_below h2⟩))
  obtain ⟨o, ho⟩ : ∃ o, o = ptO r m n := ⟨_, rfl⟩;rw [← ho] at HO ⊢;rw [← HO.out] at KF;clear ho HO;have i1 : (1 : Int) ≤ n := by omega
  have i2 : (n : Int) ≤ m := by omega
  go_enter Tryz.func193, Tryz.ntmps193;obtain ⟨e0, e1⟩ := gx_ HG;go_wp2_with (go_at_call 128; refine (within_yes _ _ _ _ i1 i2).mono ?_; rintro e w' ⟨rfl, rfl⟩)
  rw [← HW.out];clear HW;refine KF.mono ?_;rintro e w1 ⟨hf, hp⟩;have HB1 : Hid (Below w.heap.size w w1) := HB.below.trans (hf.below HB.below.size HB.below.size);have HZ : Hid (w.heap.size ≤ W.heap.size) := HB.below.size;clear hf KF HG e0 e1;cases o with
  | none =>
    obtain ⟨rfl, _⟩ := hp;go_wp2;go_ret2;exact lsQ.no HB1.out
  | some l =>
    obtain ⟨g, c', rfl, hO⟩ := hp;have HL : Hid (ON w.heap.size w1 (some ⟨g, 0, none⟩) c' l) := ⟨hO.mono HZ.out nr_⟩;clear hO;go_wp2;go_ret2;exact lsQ.yes HL.out HB1.out
 ·have HO : Hid (ptO r m n = none) := ptO_no hnm;have i2 : (m : Int) < n := by omega
  go_enter Tryz.func193, Tryz.ntmps193;go_wp2_with (go_at_call 128; refine (within_no _ _ _ _ (.inr i2)).mono ?_; rintro e w' ⟨rfl, rfl⟩)
  rw [← HW.out];go_ret2;rw [HO.out];exact lsQ.no HB.below
theorem FindPathOfFour_v {w : World} (h : GV w A m c r) : Calls Tryz.prog 176 #[.agg #[.int .i64 m, .slice A m c]] w (lsQ w (ptO r m 4)) := by
 obtain ⟨W, hW, HB, HG⟩ := gbW h;have HW := hh_ hW;clear hW h;obtain ⟨e0, e1⟩ := gx_ HG;have KF := hh_ (FindInducedPath_v HG.gv (n := 4) (by omega) (by omega));have HZ : Hid (w.heap.size ≤ W.heap.size) := HB.below.size;go_enter Tryz.func176, Tryz.ntmps176;go_wp2_with fail
 rw [← HW.out];refine (KF.out).mono ?_;rintro e w1 ⟨A', c', rfl, ho, hb1⟩;clear HW;replace HB := hh_ (HB.keep hb1);clear hb1;have HO := hh_ ho;clear ho;go_wp2;go_ret2;exact ⟨_, _, rfl, HO.mono HZ.out, HB.below⟩
end
section
variable (sz : Int) (A : Option Addr) (m c : Nat) (x : Nat → Int) (w : World)
set_option maxRecDepth 100000 in
theorem FindInducedPath_no (n : Nat) (h : GA w A m c x) (hm : m ≤ 1048576) (hok : okB sz m x = false) :
 Calls Tryz.prog 193 #[.agg #[.int .i64 sz, .slice A m c], .int .i64 n] w (lsQ w none) := by
 obtain ⟨W, hW, HB, HK, HC⟩ := gaW sz h;have HW := hh_ hW;have KF := hh_ (firstList_noG (n := (n : Int)) (fm := 211) (cm := #[.pointer (some ⟨w.heap.size, 0, none⟩)]) (fh := 133) (ch := #[]) HK hm hok);clear hW h hok;by_cases hin : 1 ≤ (n : Int) ∧ (n : Int) ≤ sz
 ·obtain ⟨i1, i2⟩ := hin;go_enter Tryz.func193, Tryz.ntmps193;obtain ⟨e0, e1⟩ := gc_ HC;go_wp2_with (go_at_call 128; refine (within_yes _ _ _ _ i1 i2).mono ?_; rintro e w' ⟨rfl, rfl⟩)
  rw [← HW.out];clear HW;refine KF.mono ?_;rintro e w1 ⟨rfl, hb1⟩;clear e0 e1;replace HB := hh_ (HB.keep hb1);replace HK := hh_ (HK.keep hb1);replace HC := hh_ (HC.keep hb1);clear hb1 KF;obtain ⟨e0, e1⟩ := gc_ HC;go_wp2;go_ret2;exact lsQ.no HB.below
 ·have hin2 : (n : Int) < 1 ∨ sz < (n : Int) := by omega
  clear hin;go_enter Tryz.func193, Tryz.ntmps193;obtain ⟨e0, e1⟩ := gc_ HC;go_wp2_with (go_at_call 128; refine (within_no _ _ _ _ hin2).mono ?_; rintro e w' ⟨rfl, rfl⟩)
  rw [← HW.out];go_ret2;exact lsQ.no HB.below
theorem FindPathOfFour_no (h : GA w A m c x) (hm : m ≤ 1048576) (hok : okB sz m x = false) :
 Calls Tryz.prog 176 #[.agg #[.int .i64 sz, .slice A m c]] w (lsQ w none) := by
 obtain ⟨W, hW, HB, HK, HC⟩ := gaW sz h;have HW := hh_ hW;have KF := hh_ (FindInducedPath_no sz A m c x W 4 HK hm hok);clear hW h hok;have HZ : Hid (w.heap.size ≤ W.heap.size) := HB.below.size;go_enter Tryz.func176, Tryz.ntmps176;obtain ⟨e0, e1⟩ := gc_ HC;go_wp2_with fail
 rw [← HW.out];refine (KF.out).mono ?_;rintro e w1 ⟨A', c', rfl, ho, hb1⟩;clear HW;clear e0 e1;obtain ⟨HB, HK, HC, e0, e1⟩ := kC_ HB HK HC hb1;clear hb1;have HO := hh_ ho;clear ho;go_wp2;go_ret2;exact ⟨_, _, rfl, HO.mono HZ.out, HB.below⟩
set_option maxRecDepth 100000 in
theorem IsCograph_i (h : GA w A m c x) (hm : m ≤ 1048576) :
 Calls Tryz.prog 139 #[.agg #[.int .i64 sz, .slice A m c]] w fun e w' => e = .returned (.bool (cgB sz m x)) ∧ Below w.heap.size w w' := by
 obtain ⟨W, hW, HB, HK, HC⟩ := gaW sz h;have HW := hh_ hW;clear hW h;go_enter Tryz.func139, Tryz.ntmps139;cases ho : okB sz m x
 ·have Hn : Hid (cgB sz m x = false) := cgB_no ho;have KF := hh_ (FindPathOfFour_no sz A m c x W HK hm ho);have Ho := hh_ ho;clear ho;obtain ⟨e0, e1⟩ := gc_ HC;go_wp2_with fail
  rw [← HW.out];refine (KF.out).mono ?_;rintro e w1 ⟨A', c', rfl, _, hb1⟩;clear HW;clear e0 e1;obtain ⟨HB, HK, HC, e0, e1⟩ := kC_ HB HK HC hb1;clear hb1;clear KF;go_wp2_with fail
  refine (IsGraph_any sz A m c x w1 w1.heap.size HK.rd nr_ hm).mono ?_;rintro e w2 ⟨rfl, hb2⟩;rw [Ho.out];clear e0 e1;obtain ⟨HB, HK, HC, e0, e1⟩ := kC_ HB HK HC hb2;clear hb2;go_wp2;go_ret;exact ⟨ret_bool Hn.symm, HB.below⟩
 obtain ⟨_, es, _, _⟩ := okB_ok' ho;subst es;have Hn : Hid (cgB (m : Int) m x = !(ptO (rw_ x) m 4).isSome) := cgB_yes ho;have HG : Hid (GBox W w.heap.size A m c (rw_ x)) := ⟨HK.gv ho, HC.c0, HC.c1, HC.lt⟩;have KF := hh_ (FindPathOfFour_v HG.gv);obtain ⟨o, ho2⟩ : ∃ o, o = ptO (rw_ x) m 4 := ⟨_, rfl⟩;rw [← ho2] at Hn KF;clear ho ho2 HC HK;cases o
 ·skip;obtain ⟨e0, e1⟩ := gx_ HG;go_wp2_with fail
  rw [← HW.out];refine (KF.out).mono ?_;rintro e w2 ⟨A', c', rfl, _, hb2⟩;clear HW;clear e0 e1;obtain ⟨HB, HG, e0, e1⟩ := kG_ HB HG hb2;clear hb2;clear KF;go_wp2_with fail
  refine (IsGraph_v HG.gv).mono ?_;rintro e w3 ⟨rfl, hb3⟩;clear e0 e1;obtain ⟨HB, HG, e0, e1⟩ := kG_ HB HG hb3;clear hb3;go_wp2;go_ret;exact ⟨ret_bool Hn.symm, HB.below⟩
 ·skip;obtain ⟨e0, e1⟩ := gx_ HG;go_wp2_with fail
  rw [← HW.out];refine (KF.out).mono ?_;rintro e w4 ⟨A', c', rfl, _, hb4⟩;clear HW;clear e0 e1;obtain ⟨HB, HG, e0, e1⟩ := kG_ HB HG hb4;clear hb4;clear KF;go_wp2_with fail
  refine (IsGraph_v HG.gv).mono ?_;rintro e w5 ⟨rfl, hb5⟩;clear e0 e1;obtain ⟨HB, HG, e0, e1⟩ := kG_ HB HG hb5;clear hb5;go_wp2;go_ret;exact ⟨ret_bool Hn.symm, HB.below⟩
end
end Go.Proofs.YticadlkcjhglnaaGreat
