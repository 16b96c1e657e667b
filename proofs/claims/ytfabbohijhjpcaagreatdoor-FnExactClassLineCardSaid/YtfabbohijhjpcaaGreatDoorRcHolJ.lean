/-
-/
import Derived.Test.YtfabbohijhjpcaaGreatDoorRcHolI
namespace Go.Proofs.YtfabbohijhjpcaaGreatDoor
open Go.RowKit
def cellN (w : World) (p : Value) : Nat :=
 match p with
 | .pointer (some a) => (match w.cell? a with | some (.int _ n) => n.toNat | _ => 0)
 | _ => 0
section
variable {A : Option Addr} {m c : Nat} {r : Nat → Nat}
theorem HolQ {w : World} {q p n : Nat} (h : GBox w q A m c r) (hp : w.cell? ⟨p, 0, none⟩ = some (.int .i64 n)) (hpl : p < w.heap.size) (hn : 1 ≤ n) :
 Calls Tryz.prog 203 #[.agg #[.int .i64 m, .slice A m c], .int .i64 n, .func (.func 201) #[] #[.pointer (some ⟨p, 0, none⟩), .pointer (some ⟨q, 0, none⟩)], .func (.func 204) #[] #[.pointer (some ⟨q, 0, none⟩)]] w
  (firQ (fun _ z => GBox z q A m c r ∧ z.cell? ⟨p, 0, none⟩ = some (.int .i64 n) ∧ p < z.heap.size) w.heap.size w.heap.size w (hoF r m n) (visG m (mayI r m n) n [])) := by
 have hm7 := h.gv.vg.n7
 rw [← hoF_i]
 exact firstList_g (m := m) (n := n) (A := A) (c := c) (r := r) (fm := 201) (cm := #[.pointer (some ⟨p, 0, none⟩), .pointer (some ⟨q, 0, none⟩)]) (fh := 204) (ch := #[.pointer (some ⟨q, 0, none⟩)]) (may := mayI r m n) (hol := hoR r m) (lo := w.heap.size) (hi := w.heap.size) (J := fun _ z => GBox z q A m c r ∧ z.cell? ⟨p, 0, none⟩ = some (.int .i64 n) ∧ p < z.heap.size)
  (ent_of Tryz.func201 (by kernel_rfl) rfl) (ent_of Tryz.func204 (by kernel_rfl) rfl) w h.gv hn (Nat.le_refl _) (fun _ z z' hz hb => ⟨hz.1.keep hb, up hb hz.2.1 hz.2.2, Nat.lt_of_lt_of_le hz.2.2 hb.size⟩) ⟨h, hp, hpl⟩
  (fun _ l A' c' z hz hr _ hv hn => HolM hz.1 hz.2.1 ⟨hr⟩ (by have := nodup_len hn hv; omega))
  (fun _ l A' c' z hz hr _ hv hn => (HolH hz.1 ⟨hr⟩ (by have := nodup_len hn hv; omega)).mono fun e w' ⟨h1, h2⟩ => ⟨h1, ⟨hz.1.keep h2, up h2 hz.2.1 hz.2.2, Nat.lt_of_lt_of_le hz.2.2 h2.size⟩, Fr.of_below h2⟩)
set_option maxRecDepth 100000 in
set_option maxHeartbeats 3200000 in
theorem FindHole_v {w : World} (h : GV w A m c r) : Calls Tryz.prog 135 #[.agg #[.int .i64 m, .slice A m c]] w (lsQ w (holeO r m)) := by
 have hm7 := h.vg.n7
 have hmin : min (m : Int) 7 = (m : Int) := by omega
 obtain ⟨W, hW⟩ : ∃ W : World, W = (w.alloc (Obj.cells #[Value.int IntKind.i64 m, Value.slice A m c] 26)) := ⟨_, rfl⟩
 have HB : Hid (From w W) := by rw [hW]; exact From.alloc _ _
 have HG : Hid (GBox W w.heap.size A m c r) := by rw [hW]; exact h.box
 have HW := Lib.hid hW
 clear hW h
 have e0 := HG.out.c0
 have e1 := HG.out.c1
 have HZW : Hid (W.heap.size = w.heap.size + 1) := by show _ = _; rw [HW.out]; simp
 have HR0 : Hid (From W (W.alloc (Obj.cells #[.int .i64 4] 3))) := From.alloc _ _
 have hc0 : (W.alloc (Obj.cells #[.int .i64 4] 3)).cell? ⟨W.heap.size, 0, none⟩ = some (.int .i64 (4 : Nat)) := by simp [go_sem]
 have hf0 : (W.alloc (Obj.cells #[.int .i64 4] 3)).frozen? ⟨W.heap.size, 0, none⟩ = false := by simp [go_sem]
 have hl0 : W.heap.size < (W.alloc (Obj.cells #[.int .i64 4] 3)).heap.size := by simp
 rw [HZW.out] at hc0 hf0 hl0
 go_enter Tryz.func135, Tryz.ntmps135
 go_wp2_with fail
 rw [← HW.out]
 clear HW
 go_wp2
 go_loopw [4] (fun p wr => ∃ n X : Nat, p = .pointer (some ⟨X, 0, none⟩) ∧ wr.cell? ⟨X, 0, none⟩ = some (.int .i64 n) ∧ wr.frozen? ⟨X, 0, none⟩ = false ∧ X < wr.heap.size ∧ 4 ≤ n ∧ n ≤ 9 ∧ Hid ((n - 4) % 1 = 0) ∧ Hid (∀ u, u < n → latO 4 1 (hoF r m) u = none) ∧ Hid (From W wr)) (fun p wr => 20 - cellN wr p)
 case atStart => exact ⟨4, w.heap.size + 1, rfl, hc0, hf0, hl0, by omega, by omega, rfl, (fun u hu => latO_low hu), HR0⟩
 case round =>
  clear HR0 e0 e1 hc0 hf0 hl0
  obtain ⟨n, X, rfl, hc, hf, hX, hn4, hn9, Hst, hall, HR⟩ := hrel
  have HB1 := Lib.hid (HB.out.up HR.out)
  have HG1 := Lib.hid (HG.out.keep HR.out.below)
  have e0 := HG1.out.c0
  have e1 := HG1.out.c1
  by_cases hnm : n ≤ m
  ·have i1 : (n : Int) ≤ (m : Int) := by omega
   have KF := Lib.hid (HolQ HG1.out hc hX (by omega))
   have Hat : Hid (latO 4 1 (hoF r m) n = hoF r m n) := latO_at hn4 Hst.out
   obtain ⟨so, hso⟩ : ∃ so, so = hoF r m n := ⟨_, rfl⟩
   rw [← hso] at KF Hat
   clear hso
   go_wp2_with fail
   refine KF.out.mono ?_
   rintro e w1 ⟨hfr, hp⟩
   have hb1 : Below wr.heap.size wr w1 := hfr.below (Nat.le_refl _) (Nat.le_refl _)
   have HR1 := Lib.hid (HR.out.keep hb1)
   have HB2 := Lib.hid (HB1.out.keep hb1)
   have hc1 := up hb1 hc hX
   have hf1 := upf hb1 hf hX
   have hz1 := hb1.size
   have Hc := Lib.hid hc
   have HZ : Hid (w.heap.size ≤ wr.heap.size) := HB1.out.below.size
   clear hfr KF HG1 e0 e1 hb1 hc hf HR HB1
   cases so with
   | none =>
     obtain ⟨rfl, _⟩ := hp
     have Hn : Hid (∀ u, u < n + 1 → latO 4 1 (hoF r m) u = none) := fun u hu => by
      by_cases huv : u < n
      ·exact hall.out u huv
      ·by_cases hun : u = n
       ·subst hun; exact Hat.out
       ·exact latO_off (by have := Hst.out; omega)
     have Hst2 : Hid ((n + 1 - 4) % 1 = 0) := by show _ = _; have := Hst.out; omega
     go_wp2
     have hcn : (w1.alloc (Obj.cells #[.int .i64 ((n : Int) + 1)] 3)).cell? ⟨w1.heap.size, 0, none⟩ = some (.int .i64 ((n + 1 : Nat) : Int)) := by simp [go_sem]
     have hfn : (w1.alloc (Obj.cells #[.int .i64 ((n : Int) + 1)] 3)).frozen? ⟨w1.heap.size, 0, none⟩ = false := by simp [go_sem]
     go_roundw
     case rel => exact ⟨n + 1, w1.heap.size, rfl, hcn, hfn, by simp, by omega, by omega, Hst2, Hn, HR1.out.alloc_ _⟩
     case measure => simp [cellN, hcn, Hc.out]; omega
   | some l =>
     obtain ⟨g, c', rfl, hO⟩ := hp
     have HL : Hid (ON w.heap.size w1 (some ⟨g, 0, none⟩) c' l) := ⟨hO.mono HZ.out (Nat.le_refl _)⟩
     have Hs : Hid (holeO r m = some l) := ltO_some hnm Hat.out hall.out
     clear hO
     go_wp2
     go_ret2
     rw [Hs.out]
     exact lsQ.yes HL.out HB2.out.below
  ·have Hs : Hid (holeO r m = none) := ltO_none fun u hu => hall.out u (by omega)
   have i1 : (m : Int) < (n : Int) := by omega
   go_wp2
   go_ret2
   rw [Hs.out]
   exact lsQ.no HB1.out.below
set_option maxRecDepth 100000 in
set_option maxHeartbeats 1600000 in
theorem OhoM {q p n : Nat} {Al : Option Addr} {cl : Nat} {l : List Nat} {w : World} (h : GBox w q A m c r) (hp : w.cell? ⟨p, 0, none⟩ = some (.int .i64 n)) (hl : LN w Al cl l) (hlen : l.length ≤ 7) :
 Calls Tryz.prog 294 #[.slice Al l.length cl, .pointer (some ⟨p, 0, none⟩), .pointer (some ⟨q, 0, none⟩)] w fun e w' => e = .returned (.bool (mayI r m n l)) ∧ Below w.heap.size w w' := by
 have KP := Lib.hid (IsInducedPath_v h.gv hl hlen)
 have e0 := h.c0
 have e1 := h.c1
 have HF : Hid (From w w) := From.refl w
 clear h hl
 by_cases hn : l.length = n
 ·have Hv : Hid (mayI r m n l = true) := by unfold mayI; rw [decide_eq_true hn]; rfl
  have heq : ((l.length : Int) == (n : Int)) = true := by simp; omega
  have heq2 : (l.length = n) = True := by simp [hn]
  clear hn
  go_enter Tryz.func294, Tryz.ntmps294
  go_wp2
  go_ret
  exact ⟨by rw [Hv.out]; rfl, HF.out.below⟩
 ·have Hv : Hid (mayI r m n l = ptB r m l) := by unfold mayI; rw [decide_eq_false hn]; rfl
  have heq : ((l.length : Int) == (n : Int)) = false := by simp; omega
  have heq2 : (l.length = n) = False := by simp [hn]
  clear hn
  go_enter Tryz.func294, Tryz.ntmps294
  go_wp2_with fail
  refine KP.out.mono ?_
  rintro e w1 ⟨rfl, hb1⟩
  replace HF := Lib.hid (HF.out.keep hb1)
  clear hb1
  go_wp2
  go_ret
  exact ⟨by rw [Hv.out]; rfl, HF.out.below⟩
set_option maxRecDepth 100000 in
set_option maxHeartbeats 1600000 in
theorem OhoH {q : Nat} {Al : Option Addr} {cl : Nat} {l : List Nat} {w : World} (h : GBox w q A m c r) (hl : LN w Al cl l) (hlen : l.length ≤ 7) :
 Calls Tryz.prog 295 #[.slice Al l.length cl, .pointer (some ⟨q, 0, none⟩)] w fun e w' => e = .returned (.bool (hoR r m l)) ∧ Below w.heap.size w w' := by
 have KP := Lib.hid (IsHole_v h.gv hl hlen)
 have e0 := h.c0
 have e1 := h.c1
 have HF : Hid (From w w) := From.refl w
 clear h hl
 go_enter Tryz.func295, Tryz.ntmps295
 go_wp2_with fail
 refine KP.out.mono ?_
 rintro e w1 ⟨rfl, hb1⟩
 replace HF := Lib.hid (HF.out.keep hb1)
 clear hb1
 go_wp2
 go_ret
 exact ⟨rfl, HF.out.below⟩
theorem OhoQ {w : World} {q p n : Nat} (h : GBox w q A m c r) (hp : w.cell? ⟨p, 0, none⟩ = some (.int .i64 n)) (hpl : p < w.heap.size) (hn : 1 ≤ n) :
 Calls Tryz.prog 203 #[.agg #[.int .i64 m, .slice A m c], .int .i64 n, .func (.func 294) #[] #[.pointer (some ⟨p, 0, none⟩), .pointer (some ⟨q, 0, none⟩)], .func (.func 295) #[] #[.pointer (some ⟨q, 0, none⟩)]] w
  (firQ (fun _ z => GBox z q A m c r ∧ z.cell? ⟨p, 0, none⟩ = some (.int .i64 n) ∧ p < z.heap.size) w.heap.size w.heap.size w (hoF r m n) (visG m (mayI r m n) n [])) := by
 have hm7 := h.gv.vg.n7
 rw [← hoF_i]
 exact firstList_g (m := m) (n := n) (A := A) (c := c) (r := r) (fm := 294) (cm := #[.pointer (some ⟨p, 0, none⟩), .pointer (some ⟨q, 0, none⟩)]) (fh := 295) (ch := #[.pointer (some ⟨q, 0, none⟩)]) (may := mayI r m n) (hol := hoR r m) (lo := w.heap.size) (hi := w.heap.size) (J := fun _ z => GBox z q A m c r ∧ z.cell? ⟨p, 0, none⟩ = some (.int .i64 n) ∧ p < z.heap.size)
  (ent_of Tryz.func294 (by kernel_rfl) rfl) (ent_of Tryz.func295 (by kernel_rfl) rfl) w h.gv hn (Nat.le_refl _) (fun _ z z' hz hb => ⟨hz.1.keep hb, up hb hz.2.1 hz.2.2, Nat.lt_of_lt_of_le hz.2.2 hb.size⟩) ⟨h, hp, hpl⟩
  (fun _ l A' c' z hz hr _ hv hn => OhoM hz.1 hz.2.1 ⟨hr⟩ (by have := nodup_len hn hv; omega))
  (fun _ l A' c' z hz hr _ hv hn => (OhoH hz.1 ⟨hr⟩ (by have := nodup_len hn hv; omega)).mono fun e w' ⟨h1, h2⟩ => ⟨h1, ⟨hz.1.keep h2, up h2 hz.2.1 hz.2.2, Nat.lt_of_lt_of_le hz.2.2 h2.size⟩, Fr.of_below h2⟩)
set_option maxRecDepth 100000 in
set_option maxHeartbeats 3200000 in
theorem FindOddHole_v {w : World} (h : GV w A m c r) : Calls Tryz.prog 216 #[.agg #[.int .i64 m, .slice A m c]] w (lsQ w (oddhO r m)) := by
 have hm7 := h.vg.n7
 have hmin : min (m : Int) 7 = (m : Int) := by omega
 obtain ⟨W, hW⟩ : ∃ W : World, W = (w.alloc (Obj.cells #[Value.int IntKind.i64 m, Value.slice A m c] 26)) := ⟨_, rfl⟩
 have HB : Hid (From w W) := by rw [hW]; exact From.alloc _ _
 have HG : Hid (GBox W w.heap.size A m c r) := by rw [hW]; exact h.box
 have HW := Lib.hid hW
 clear hW h
 have e0 := HG.out.c0
 have e1 := HG.out.c1
 have HZW : Hid (W.heap.size = w.heap.size + 1) := by show _ = _; rw [HW.out]; simp
 have HR0 : Hid (From W (W.alloc (Obj.cells #[.int .i64 5] 3))) := From.alloc _ _
 have hc0 : (W.alloc (Obj.cells #[.int .i64 5] 3)).cell? ⟨W.heap.size, 0, none⟩ = some (.int .i64 (5 : Nat)) := by simp [go_sem]
 have hf0 : (W.alloc (Obj.cells #[.int .i64 5] 3)).frozen? ⟨W.heap.size, 0, none⟩ = false := by simp [go_sem]
 have hl0 : W.heap.size < (W.alloc (Obj.cells #[.int .i64 5] 3)).heap.size := by simp
 rw [HZW.out] at hc0 hf0 hl0
 go_enter Tryz.func216, Tryz.ntmps216
 go_wp2_with fail
 rw [← HW.out]
 clear HW
 go_wp2
 go_loopw [4] (fun p wr => ∃ n X : Nat, p = .pointer (some ⟨X, 0, none⟩) ∧ wr.cell? ⟨X, 0, none⟩ = some (.int .i64 n) ∧ wr.frozen? ⟨X, 0, none⟩ = false ∧ X < wr.heap.size ∧ 5 ≤ n ∧ n ≤ 9 ∧ Hid ((n - 5) % 2 = 0) ∧ Hid (∀ u, u < n → latO 5 2 (hoF r m) u = none) ∧ Hid (From W wr)) (fun p wr => 20 - cellN wr p)
 case atStart => exact ⟨5, w.heap.size + 1, rfl, hc0, hf0, hl0, by omega, by omega, rfl, (fun u hu => latO_low hu), HR0⟩
 case round =>
  clear HR0 e0 e1 hc0 hf0 hl0
  obtain ⟨n, X, rfl, hc, hf, hX, hn4, hn9, Hst, hall, HR⟩ := hrel
  have HB1 := Lib.hid (HB.out.up HR.out)
  have HG1 := Lib.hid (HG.out.keep HR.out.below)
  have e0 := HG1.out.c0
  have e1 := HG1.out.c1
  by_cases hnm : n ≤ m
  ·have i1 : (n : Int) ≤ (m : Int) := by omega
   have KF := Lib.hid (OhoQ HG1.out hc hX (by omega))
   have Hat : Hid (latO 5 2 (hoF r m) n = hoF r m n) := latO_at hn4 Hst.out
   obtain ⟨so, hso⟩ : ∃ so, so = hoF r m n := ⟨_, rfl⟩
   rw [← hso] at KF Hat
   clear hso
   go_wp2_with fail
   refine KF.out.mono ?_
   rintro e w1 ⟨hfr, hp⟩
   have hb1 : Below wr.heap.size wr w1 := hfr.below (Nat.le_refl _) (Nat.le_refl _)
   have HR1 := Lib.hid (HR.out.keep hb1)
   have HB2 := Lib.hid (HB1.out.keep hb1)
   have hc1 := up hb1 hc hX
   have hf1 := upf hb1 hf hX
   have hz1 := hb1.size
   have Hc := Lib.hid hc
   have HZ : Hid (w.heap.size ≤ wr.heap.size) := HB1.out.below.size
   clear hfr KF HG1 e0 e1 hb1 hc hf HR HB1
   cases so with
   | none =>
     obtain ⟨rfl, _⟩ := hp
     have Hn : Hid (∀ u, u < n + 2 → latO 5 2 (hoF r m) u = none) := fun u hu => by
      by_cases huv : u < n
      ·exact hall.out u huv
      ·by_cases hun : u = n
       ·subst hun; exact Hat.out
       ·exact latO_off (by have := Hst.out; omega)
     have Hst2 : Hid ((n + 2 - 5) % 2 = 0) := by show _ = _; have := Hst.out; omega
     go_wp2
     have hcn : (w1.alloc (Obj.cells #[.int .i64 ((n : Int) + 2)] 3)).cell? ⟨w1.heap.size, 0, none⟩ = some (.int .i64 ((n + 2 : Nat) : Int)) := by simp [go_sem]
     have hfn : (w1.alloc (Obj.cells #[.int .i64 ((n : Int) + 2)] 3)).frozen? ⟨w1.heap.size, 0, none⟩ = false := by simp [go_sem]
     go_roundw
     case rel => exact ⟨n + 2, w1.heap.size, rfl, hcn, hfn, by simp, by omega, by omega, Hst2, Hn, HR1.out.alloc_ _⟩
     case measure => simp [cellN, hcn, Hc.out]; omega
   | some l =>
     obtain ⟨g, c', rfl, hO⟩ := hp
     have HL : Hid (ON w.heap.size w1 (some ⟨g, 0, none⟩) c' l) := ⟨hO.mono HZ.out (Nat.le_refl _)⟩
     have Hs : Hid (oddhO r m = some l) := ltO_some hnm Hat.out hall.out
     clear hO
     go_wp2
     go_ret2
     rw [Hs.out]
     exact lsQ.yes HL.out HB2.out.below
  ·have Hs : Hid (oddhO r m = none) := ltO_none fun u hu => hall.out u (by omega)
   have i1 : (m : Int) < (n : Int) := by omega
   go_wp2
   go_ret2
   rw [Hs.out]
   exact lsQ.no HB1.out.below
end
set_option maxRecDepth 100000 in
set_option maxHeartbeats 3200000 in
theorem FindHole_no (sz : Int) (A : Option Addr) (m c : Nat) (x : Nat → Int) (w : World) (h : GA w A m c x) (hm : m ≤ 1048576) (hok : okB sz m x = false) :
 Calls Tryz.prog 135 #[.agg #[.int .i64 sz, .slice A m c]] w (lsQ w none) := by
 obtain ⟨W, hW⟩ : ∃ W : World, W = (w.alloc (Obj.cells #[Value.int IntKind.i64 sz, Value.slice A m c] 26)) := ⟨_, rfl⟩
 have HB : Hid (From w W) := by rw [hW]; exact From.alloc _ _
 have HK := Lib.hid (h.keep HB.out.below)
 have HC : Hid (GC W w.heap.size sz A m c) := by rw [hW]; exact GC.new _ _ _ _ _
 have HW := Lib.hid hW
 have Ho := Lib.hid hok
 have HZW : Hid (W.heap.size = w.heap.size + 1) := by show _ = _; rw [hW]; simp
 have HR0 : Hid (From W (W.alloc (Obj.cells #[.int .i64 4] 3))) := From.alloc _ _
 have hc0 : (W.alloc (Obj.cells #[.int .i64 4] 3)).cell? ⟨W.heap.size, 0, none⟩ = some (.int .i64 (4 : Nat)) := by simp [go_sem]
 have hf0 : (W.alloc (Obj.cells #[.int .i64 4] 3)).frozen? ⟨W.heap.size, 0, none⟩ = false := by simp [go_sem]
 have hl0 : W.heap.size < (W.alloc (Obj.cells #[.int .i64 4] 3)).heap.size := by simp
 rw [HZW.out] at hc0 hf0 hl0
 have e0 := HC.out.c0
 have e1 := HC.out.c1
 clear hW h hok
 go_enter Tryz.func135, Tryz.ntmps135
 go_wp2_with fail
 rw [← HW.out]
 clear HW
 go_wp2
 go_loopw [4] (fun p wr => ∃ n X : Nat, p = .pointer (some ⟨X, 0, none⟩) ∧ wr.cell? ⟨X, 0, none⟩ = some (.int .i64 n) ∧ wr.frozen? ⟨X, 0, none⟩ = false ∧ X < wr.heap.size ∧ 4 ≤ n ∧ n ≤ 9 ∧ Hid (From W wr)) (fun p wr => 20 - cellN wr p)
 case atStart => exact ⟨4, w.heap.size + 1, rfl, hc0, hf0, hl0, by omega, by omega, HR0⟩
 case round =>
  clear HR0 e0 e1 hc0 hf0 hl0
  obtain ⟨n, X, rfl, hc, hf, hX, hn4, hn9, HR⟩ := hrel
  have HB1 := Lib.hid (HB.out.up HR.out)
  have HK1 := Lib.hid (HK.out.keep HR.out.below)
  have HC1 := Lib.hid (HC.out.keep HR.out.below)
  have e0 := HC1.out.c0
  have e1 := HC1.out.c1
  by_cases h7 : sz ≤ 7
  ·by_cases hnm : (n : Int) ≤ sz
   ·have i7 : n ≤ 7 := by omega
    have KF := Lib.hid (firstList_noG (n := (n : Int)) (fm := 201) (cm := #[.pointer (some ⟨X, 0, none⟩), .pointer (some ⟨w.heap.size, 0, none⟩)]) (fh := 204) (ch := #[.pointer (some ⟨w.heap.size, 0, none⟩)]) HK1.out hm Ho.out)
    go_wp2_with fail
    refine KF.out.mono ?_
    rintro e w1 ⟨rfl, hb1⟩
    have HR1 := Lib.hid (HR.out.keep hb1)
    have hc1 := up hb1 hc hX
    have Hc := Lib.hid hc
    have hf1 := upf hb1 hf hX
    clear KF HK1 HC1 e0 e1 hb1 hc hf HR HB1
    go_wp2
    have hcn : (w1.alloc (Obj.cells #[.int .i64 ((n : Int) + 1)] 3)).cell? ⟨w1.heap.size, 0, none⟩ = some (.int .i64 ((n + 1 : Nat) : Int)) := by simp [go_sem]
    have hfn : (w1.alloc (Obj.cells #[.int .i64 ((n : Int) + 1)] 3)).frozen? ⟨w1.heap.size, 0, none⟩ = false := by simp [go_sem]
    go_roundw
    case rel => exact ⟨n + 1, w1.heap.size, rfl, hcn, hfn, by simp, by omega, by omega, HR1.out.alloc_ _⟩
    case measure => simp [cellN, hcn, Hc.out]; omega
   ·have i1 : sz < (n : Int) := by omega
    go_wp2
    go_ret2
    exact lsQ.no HB1.out.below
  ·by_cases hnm : (n : Int) ≤ 7
   ·have i7 : n ≤ 7 := by omega
    have KF := Lib.hid (firstList_noG (n := (n : Int)) (fm := 201) (cm := #[.pointer (some ⟨X, 0, none⟩), .pointer (some ⟨w.heap.size, 0, none⟩)]) (fh := 204) (ch := #[.pointer (some ⟨w.heap.size, 0, none⟩)]) HK1.out hm Ho.out)
    go_wp2_with fail
    refine KF.out.mono ?_
    rintro e w1 ⟨rfl, hb1⟩
    have HR1 := Lib.hid (HR.out.keep hb1)
    have hc1 := up hb1 hc hX
    have Hc := Lib.hid hc
    have hf1 := upf hb1 hf hX
    clear KF HK1 HC1 e0 e1 hb1 hc hf HR HB1
    go_wp2
    have hcn : (w1.alloc (Obj.cells #[.int .i64 ((n : Int) + 1)] 3)).cell? ⟨w1.heap.size, 0, none⟩ = some (.int .i64 ((n + 1 : Nat) : Int)) := by simp [go_sem]
    have hfn : (w1.alloc (Obj.cells #[.int .i64 ((n : Int) + 1)] 3)).frozen? ⟨w1.heap.size, 0, none⟩ = false := by simp [go_sem]
    go_roundw
    case rel => exact ⟨n + 1, w1.heap.size, rfl, hcn, hfn, by simp, by omega, by omega, HR1.out.alloc_ _⟩
    case measure => simp [cellN, hcn, Hc.out]; omega
   ·have i1 : 7 < (n : Int) := by omega
    go_wp2
    go_ret2
    exact lsQ.no HB1.out.below
set_option maxRecDepth 100000 in
set_option maxHeartbeats 3200000 in
theorem FindOddHole_no (sz : Int) (A : Option Addr) (m c : Nat) (x : Nat → Int) (w : World) (h : GA w A m c x) (hm : m ≤ 1048576) (hok : okB sz m x = false) :
 Calls Tryz.prog 216 #[.agg #[.int .i64 sz, .slice A m c]] w (lsQ w none) := by
 obtain ⟨W, hW⟩ : ∃ W : World, W = (w.alloc (Obj.cells #[Value.int IntKind.i64 sz, Value.slice A m c] 26)) := ⟨_, rfl⟩
 have HB : Hid (From w W) := by rw [hW]; exact From.alloc _ _
 have HK := Lib.hid (h.keep HB.out.below)
 have HC : Hid (GC W w.heap.size sz A m c) := by rw [hW]; exact GC.new _ _ _ _ _
 have HW := Lib.hid hW
 have Ho := Lib.hid hok
 have HZW : Hid (W.heap.size = w.heap.size + 1) := by show _ = _; rw [hW]; simp
 have HR0 : Hid (From W (W.alloc (Obj.cells #[.int .i64 5] 3))) := From.alloc _ _
 have hc0 : (W.alloc (Obj.cells #[.int .i64 5] 3)).cell? ⟨W.heap.size, 0, none⟩ = some (.int .i64 (5 : Nat)) := by simp [go_sem]
 have hf0 : (W.alloc (Obj.cells #[.int .i64 5] 3)).frozen? ⟨W.heap.size, 0, none⟩ = false := by simp [go_sem]
 have hl0 : W.heap.size < (W.alloc (Obj.cells #[.int .i64 5] 3)).heap.size := by simp
 rw [HZW.out] at hc0 hf0 hl0
 have e0 := HC.out.c0
 have e1 := HC.out.c1
 clear hW h hok
 go_enter Tryz.func216, Tryz.ntmps216
 go_wp2_with fail
 rw [← HW.out]
 clear HW
 go_wp2
 go_loopw [4] (fun p wr => ∃ n X : Nat, p = .pointer (some ⟨X, 0, none⟩) ∧ wr.cell? ⟨X, 0, none⟩ = some (.int .i64 n) ∧ wr.frozen? ⟨X, 0, none⟩ = false ∧ X < wr.heap.size ∧ 5 ≤ n ∧ n ≤ 9 ∧ Hid (From W wr)) (fun p wr => 20 - cellN wr p)
 case atStart => exact ⟨5, w.heap.size + 1, rfl, hc0, hf0, hl0, by omega, by omega, HR0⟩
 case round =>
  clear HR0 e0 e1 hc0 hf0 hl0
  obtain ⟨n, X, rfl, hc, hf, hX, hn4, hn9, HR⟩ := hrel
  have HB1 := Lib.hid (HB.out.up HR.out)
  have HK1 := Lib.hid (HK.out.keep HR.out.below)
  have HC1 := Lib.hid (HC.out.keep HR.out.below)
  have e0 := HC1.out.c0
  have e1 := HC1.out.c1
  by_cases h7 : sz ≤ 7
  ·by_cases hnm : (n : Int) ≤ sz
   ·have i7 : n ≤ 7 := by omega
    have KF := Lib.hid (firstList_noG (n := (n : Int)) (fm := 294) (cm := #[.pointer (some ⟨X, 0, none⟩), .pointer (some ⟨w.heap.size, 0, none⟩)]) (fh := 295) (ch := #[.pointer (some ⟨w.heap.size, 0, none⟩)]) HK1.out hm Ho.out)
    go_wp2_with fail
    refine KF.out.mono ?_
    rintro e w1 ⟨rfl, hb1⟩
    have HR1 := Lib.hid (HR.out.keep hb1)
    have hc1 := up hb1 hc hX
    have Hc := Lib.hid hc
    have hf1 := upf hb1 hf hX
    clear KF HK1 HC1 e0 e1 hb1 hc hf HR HB1
    go_wp2
    have hcn : (w1.alloc (Obj.cells #[.int .i64 ((n : Int) + 2)] 3)).cell? ⟨w1.heap.size, 0, none⟩ = some (.int .i64 ((n + 2 : Nat) : Int)) := by simp [go_sem]
    have hfn : (w1.alloc (Obj.cells #[.int .i64 ((n : Int) + 2)] 3)).frozen? ⟨w1.heap.size, 0, none⟩ = false := by simp [go_sem]
    go_roundw
    case rel => exact ⟨n + 2, w1.heap.size, rfl, hcn, hfn, by simp, by omega, by omega, HR1.out.alloc_ _⟩
    case measure => simp [cellN, hcn, Hc.out]; omega
   ·have i1 : sz < (n : Int) := by omega
    go_wp2
    go_ret2
    exact lsQ.no HB1.out.below
  ·by_cases hnm : (n : Int) ≤ 7
   ·have i7 : n ≤ 7 := by omega
    have KF := Lib.hid (firstList_noG (n := (n : Int)) (fm := 294) (cm := #[.pointer (some ⟨X, 0, none⟩), .pointer (some ⟨w.heap.size, 0, none⟩)]) (fh := 295) (ch := #[.pointer (some ⟨w.heap.size, 0, none⟩)]) HK1.out hm Ho.out)
    go_wp2_with fail
    refine KF.out.mono ?_
    rintro e w1 ⟨rfl, hb1⟩
    have HR1 := Lib.hid (HR.out.keep hb1)
    have hc1 := up hb1 hc hX
    have Hc := Lib.hid hc
    have hf1 := upf hb1 hf hX
    clear KF HK1 HC1 e0 e1 hb1 hc hf HR HB1
    go_wp2
    have hcn : (w1.alloc (Obj.cells #[.int .i64 ((n : Int) + 2)] 3)).cell? ⟨w1.heap.size, 0, none⟩ = some (.int .i64 ((n + 2 : Nat) : Int)) := by simp [go_sem]
    have hfn : (w1.alloc (Obj.cells #[.int .i64 ((n : Int) + 2)] 3)).frozen? ⟨w1.heap.size, 0, none⟩ = false := by simp [go_sem]
    go_roundw
    case rel => exact ⟨n + 2, w1.heap.size, rfl, hcn, hfn, by simp, by omega, by omega, HR1.out.alloc_ _⟩
    case measure => simp [cellN, hcn, Hc.out]; omega
   ·have i1 : 7 < (n : Int) := by omega
    go_wp2
    go_ret2
    exact lsQ.no HB1.out.below
end Go.Proofs.YtfabbohijhjpcaaGreatDoor
