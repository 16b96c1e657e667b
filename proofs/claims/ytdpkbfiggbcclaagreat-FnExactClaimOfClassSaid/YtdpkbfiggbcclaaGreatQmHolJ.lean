/-
-/
import Derived.Test.YtdpkbfiggbcclaaGreatQmHolI
namespace Go.Proofs.YtdpkbfiggbcclaaGreat
open Go.RowKit
set_option maxHeartbeats 3200000
def cellN (w : World) (p : Value) : Nat :=
 match p with
 | .pointer (some a) => (match w.cell? a with | some (.int _ n) => n.toNat | _ => 0)
 | _ => 0
section
variable {A : Option Addr} {m c : Nat} {r : Nat → Nat}
theorem HolQ {w : World} {q p n : Nat} (h : GBox w q A m c r) (hp : w.cell? ⟨p, 0, none⟩ = some (.int .i64 n)) (hpl : p < w.heap.size) (hn : 1 ≤ n) :
 Calls Tryz.prog 215 #[.agg #[.int .i64 m, .slice A m c], .int .i64 n, .func (.func 213) #[] #[.pointer (some ⟨p, 0, none⟩), .pointer (some ⟨q, 0, none⟩)], .func (.func 216) #[] #[.pointer (some ⟨q, 0, none⟩)]] w
  (firQ (fun _ z => GBox z q A m c r ∧ z.cell? ⟨p, 0, none⟩ = some (.int .i64 n) ∧ p < z.heap.size) w.heap.size w.heap.size w (hoF r m n) (visG m (mayI r m n) n [])) := by
 have hm7 := h.gv.vg.n7;rw [← hoF_i];exact firstList_g (m := m) (n := n) (A := A) (c := c) (r := r) (fm := 213) (cm := #[.pointer (some ⟨p, 0, none⟩), .pointer (some ⟨q, 0, none⟩)]) (fh := 216) (ch := #[.pointer (some ⟨q, 0, none⟩)]) (may := mayI r m n) (hol := hoR r m) (lo := w.heap.size) (hi := w.heap.size) (J := fun _ z => GBox z q A m c r ∧ z.cell? ⟨p, 0, none⟩ = some (.int .i64 n) ∧ p < z.heap.size)
  (ent_of Tryz.func213 (by kernel_rfl) rfl) (ent_of Tryz.func216 (by kernel_rfl) rfl) w h.gv hn nr_ (fun _ z z' hz hb => ⟨hz.1.keep hb, up hb hz.2.1 hz.2.2, Nat.lt_of_lt_of_le hz.2.2 hb.size⟩) ⟨h, hp, hpl⟩
  (fun _ l A' c' z hz hr _ hv hn => HolM hz.1 hz.2.1 ⟨hr⟩ (by have := nodup_len hn hv; omega))
  (fun _ l A' c' z hz hr _ hv hn => (HolH hz.1 ⟨hr⟩ (by have := nodup_len hn hv; omega)).mono fun e w' ⟨h1, h2⟩ => ⟨h1, ⟨hz.1.keep h2, up h2 hz.2.1 hz.2.2, Nat.lt_of_lt_of_le hz.2.2 h2.size⟩, Fr.of_below h2⟩)
set_option maxRecDepth 100000 in
theorem FindHole_v {w : World} (h : GV w A m c r) : Calls Tryz.prog 107 #[.agg #[.int .i64 m, .slice A m c]] w (lsQ w (holeO r m)) := by
 have hm7 := h.vg.n7;have hmin : min (m : Int) 7 = (m : Int) := by omega
 obtain ⟨W, hW, HB, HG⟩ := gbW h;have HW := hh_ hW;clear hW h;obtain ⟨e0, e1⟩ := gx_ HG;have HZW : Hid (W.heap.size = w.heap.size + 1) := by show _ = _; rw [HW.out]; simp
 have HR0 : Hid (From W (W.alloc (Obj.cells #[.int .i64 4] 3))) := From.alloc _ _;have hc0 : (W.alloc (Obj.cells #[.int .i64 4] 3)).cell? ⟨W.heap.size, 0, none⟩ = some (.int .i64 (4 : Nat)) := by simp [go_sem]
 have hf0 : (W.alloc (Obj.cells #[.int .i64 4] 3)).frozen? ⟨W.heap.size, 0, none⟩ = false := by simp [go_sem]
 have hl0 : W.heap.size < (W.alloc (Obj.cells #[.int .i64 4] 3)).heap.size := by simp
 rw [HZW.out] at hc0 hf0 hl0;go_enter Tryz.func107, Tryz.ntmps107;go_wp2_with fail
 rw [← HW.out];clear HW;go_wp2;go_loopw [4] (fun p wr => ∃ n X : Nat, p = .pointer (some ⟨X, 0, none⟩) ∧ wr.cell? ⟨X, 0, none⟩ = some (.int .i64 n) ∧ wr.frozen? ⟨X, 0, none⟩ = false ∧ X < wr.heap.size ∧ 4 ≤ n ∧ n ≤ 9 ∧ Hid ((n - 4) % 1 = 0) ∧ Hid (∀ u, u < n → latO 4 1 (hoF r m) u = none) ∧ Hid (From W wr)) (fun p wr => 20 - cellN wr p);case atStart => exact ⟨4, w.heap.size + 1, rfl, hc0, hf0, hl0, by omega, by omega, rfl, (fun u hu => latO_low hu), HR0⟩
 case round =>
  clear HR0 e0 e1 hc0 hf0 hl0;obtain ⟨n, X, rfl, hc, hf, hX, hn4, hn9, Hst, hall, HR⟩ := hrel;have HB1 := hh_ (HB.up HR.out);have HG1 := hh_ (HG.keep HR.below);have e0 := HG1.c0;have e1 := HG1.c1;by_cases hnm : n ≤ m
  ·have i1 : (n : Int) ≤ m := by omega
   have KF := hh_ (HolQ HG1 hc hX (by omega));have Hat : Hid (latO 4 1 (hoF r m) n = hoF r m n) := latO_at hn4 Hst.out;obtain ⟨so, hso⟩ : ∃ so, so = hoF r m n := ⟨_, rfl⟩;rw [← hso] at KF Hat;clear hso;go_wp2_with fail
   refine KF.mono ?_;rintro e w1 ⟨hfr, hp⟩;have hb1 : Below wr.heap.size wr w1 := hfr.below nr_ nr_;have HR1 := hh_ (HR.keep hb1);have HB2 := hh_ (HB1.keep hb1);have hc1 := up hb1 hc hX;have hf1 := upf hb1 hf hX;have hz1 := hb1.size;have Hc := hh_ hc;have HZ : Hid (w.heap.size ≤ wr.heap.size) := HB1.below.size;clear hfr KF HG1 e0 e1 hb1 hc hf HR HB1;cases so with
   | none =>
     obtain ⟨rfl, _⟩ := hp;have Hn : Hid (∀ u, u < n + 1 → latO 4 1 (hoF r m) u = none) := fun u hu => by
      by_cases huv : u < n
      ·exact hall.out u huv
      ·by_cases hun : u = n
       ·subst hun; exact Hat.out
       ·exact latO_off (by have := Hst.out; omega)
     have Hst2 : Hid ((n + 1 - 4) % 1 = 0) := by show _ = _; have := Hst.out; omega
     go_wp2;have hcn : (w1.alloc (Obj.cells #[.int .i64 ((n : Int) + 1)] 3)).cell? ⟨w1.heap.size, 0, none⟩ = some (.int .i64 ((n + 1 : Nat) : Int)) := by simp [go_sem]
     have hfn : (w1.alloc (Obj.cells #[.int .i64 ((n : Int) + 1)] 3)).frozen? ⟨w1.heap.size, 0, none⟩ = false := by simp [go_sem]
     go_roundw;case rel => exact ⟨n + 1, w1.heap.size, rfl, hcn, hfn, by simp, by omega, by omega, Hst2, Hn, HR1.alloc_ _⟩
     case measure => simp [cellN, hcn, Hc.out]; omega
   | some l =>
     obtain ⟨g, c', rfl, hO⟩ := hp;have HL : Hid (ON w.heap.size w1 (some ⟨g, 0, none⟩) c' l) := ⟨hO.mono HZ.out nr_⟩;have Hs : Hid (holeO r m = some l) := ltO_some hnm Hat.out hall.out;clear hO;go_wp2;go_ret2;rw [Hs.out];exact lsQ.yes HL.out HB2.below
  ·have Hs : Hid (holeO r m = none) := ltO_none fun u hu => hall.out u (by omega)
   have i1 : (m : Int) < n := by omega
   go_wp2;go_ret2;rw [Hs.out];exact lsQ.no HB1.below
set_option maxRecDepth 100000 in
theorem OhoM {q p n : Nat} {Al : Option Addr} {cl : Nat} {l : List Nat} {w : World} (h : GBox w q A m c r) (hp : w.cell? ⟨p, 0, none⟩ = some (.int .i64 n)) (hl : LN w Al cl l) (hlen : l.length ≤ 7) :
 Calls Tryz.prog 333 #[.slice Al l.length cl, .pointer (some ⟨p, 0, none⟩), .pointer (some ⟨q, 0, none⟩)] w fun e w' => e = .returned (.bool (mayI r m n l)) ∧ Below w.heap.size w w' := by
 have KP := hh_ (IsInducedPath_v h.gv hl hlen);have e0 := h.c0;have e1 := h.c1;have HF : Hid (From w w) := From.refl w;clear h hl;by_cases hn : l.length = n
 ·have Hv : Hid (mayI r m n l = true) := by unfold mayI; rw [decide_eq_true hn]; rfl
  have heq : ((l.length : Int) == (n : Int)) = true := by simp; omega
  have heq2 : (l.length = n) = True := by simp [hn]
  clear hn;go_enter Tryz.func333, Tryz.ntmps333;go_wp2;go_ret;exact ⟨by rw [Hv.out]; rfl, HF.below⟩
 ·have Hv : Hid (mayI r m n l = ptB r m l) := by unfold mayI; rw [decide_eq_false hn]; rfl
  have heq : ((l.length : Int) == (n : Int)) = false := by simp; omega
  have heq2 : (l.length = n) = False := by simp [hn]
  clear hn;go_enter Tryz.func333, Tryz.ntmps333;go_wp2_with fail
  refine KP.mono ?_;rintro e w1 ⟨rfl, hb1⟩;replace HF := hh_ (HF.keep hb1);clear hb1;go_wp2;go_ret;exact ⟨by rw [Hv.out]; rfl, HF.below⟩
set_option maxRecDepth 100000 in
theorem OhoH {q : Nat} {Al : Option Addr} {cl : Nat} {l : List Nat} {w : World} (h : GBox w q A m c r) (hl : LN w Al cl l) (hlen : l.length ≤ 7) :
 Calls Tryz.prog 334 #[.slice Al l.length cl, .pointer (some ⟨q, 0, none⟩)] w fun e w' => e = .returned (.bool (hoR r m l)) ∧ Below w.heap.size w w' := by
 have KP := hh_ (IsHole_v h.gv hl hlen);have e0 := h.c0;have e1 := h.c1;have HF : Hid (From w w) := From.refl w;clear h hl;go_enter Tryz.func334, Tryz.ntmps334;go_wp2_with fail
 refine KP.mono ?_;rintro e w1 ⟨rfl, hb1⟩;replace HF := hh_ (HF.keep hb1);clear hb1;go_wp2;go_ret;exact ⟨rfl, HF.below⟩
theorem OhoQ {w : World} {q p n : Nat} (h : GBox w q A m c r) (hp : w.cell? ⟨p, 0, none⟩ = some (.int .i64 n)) (hpl : p < w.heap.size) (hn : 1 ≤ n) :
 Calls Tryz.prog 215 #[.agg #[.int .i64 m, .slice A m c], .int .i64 n, .func (.func 333) #[] #[.pointer (some ⟨p, 0, none⟩), .pointer (some ⟨q, 0, none⟩)], .func (.func 334) #[] #[.pointer (some ⟨q, 0, none⟩)]] w
  (firQ (fun _ z => GBox z q A m c r ∧ z.cell? ⟨p, 0, none⟩ = some (.int .i64 n) ∧ p < z.heap.size) w.heap.size w.heap.size w (hoF r m n) (visG m (mayI r m n) n [])) := by
 have hm7 := h.gv.vg.n7;rw [← hoF_i];exact firstList_g (m := m) (n := n) (A := A) (c := c) (r := r) (fm := 333) (cm := #[.pointer (some ⟨p, 0, none⟩), .pointer (some ⟨q, 0, none⟩)]) (fh := 334) (ch := #[.pointer (some ⟨q, 0, none⟩)]) (may := mayI r m n) (hol := hoR r m) (lo := w.heap.size) (hi := w.heap.size) (J := fun _ z => GBox z q A m c r ∧ z.cell? ⟨p, 0, none⟩ = some (.int .i64 n) ∧ p < z.heap.size)
  (ent_of Tryz.func333 (by kernel_rfl) rfl) (ent_of Tryz.func334 (by kernel_rfl) rfl) w h.gv hn nr_ (fun _ z z' hz hb => ⟨hz.1.keep hb, up hb hz.2.1 hz.2.2, Nat.lt_of_lt_of_le hz.2.2 hb.size⟩) ⟨h, hp, hpl⟩
  (fun _ l A' c' z hz hr _ hv hn => OhoM hz.1 hz.2.1 ⟨hr⟩ (by have := nodup_len hn hv; omega))
  (fun _ l A' c' z hz hr _ hv hn => (OhoH hz.1 ⟨hr⟩ (by have := nodup_len hn hv; omega)).mono fun e w' ⟨h1, h2⟩ => ⟨h1, ⟨hz.1.keep h2, up h2 hz.2.1 hz.2.2, Nat.lt_of_lt_of_le hz.2.2 h2.size⟩, Fr.of_below h2⟩)
set_option maxRecDepth 100000 in
theorem FindOddHole_v {w : World} (h : GV w A m c r) : Calls Tryz.prog 228 #[.agg #[.int .i64 m, .slice A m c]] w (lsQ w (oddhO r m)) := by
 have hm7 := h.vg.n7;have hmin : min (m : Int) 7 = (m : Int) := by omega
 obtain ⟨W, hW, HB, HG⟩ := gbW h;have HW := hh_ hW;clear hW h;obtain ⟨e0, e1⟩ := gx_ HG;have HZW : Hid (W.heap.size = w.heap.size + 1) := by show _ = _; rw [HW.out]; simp
 have HR0 : Hid (From W (W.alloc (Obj.cells #[.int .i64 5] 3))) := From.alloc _ _;have hc0 : (W.alloc (Obj.cells #[.int .i64 5] 3)).cell? ⟨W.heap.size, 0, none⟩ = some (.int .i64 (5 : Nat)) := by simp [go_sem]
 have hf0 : (W.alloc (Obj.cells #[.int .i64 5] 3)).frozen? ⟨W.heap.size, 0, none⟩ = false := by simp [go_sem]
 have hl0 : W.heap.size < (W.alloc (Obj.cells #[.int .i64 5] 3)).heap.size := by simp
 rw [HZW.out] at hc0 hf0 hl0;go_enter Tryz.func228, Tryz.ntmps228;go_wp2_with fail
 rw [← HW.out];clear HW;go_wp2;go_loopw [4] (fun p wr => ∃ n X : Nat, p = .pointer (some ⟨X, 0, none⟩) ∧ wr.cell? ⟨X, 0, none⟩ = some (.int .i64 n) ∧ wr.frozen? ⟨X, 0, none⟩ = false ∧ X < wr.heap.size ∧ 5 ≤ n ∧ n ≤ 9 ∧ Hid ((n - 5) % 2 = 0) ∧ Hid (∀ u, u < n → latO 5 2 (hoF r m) u = none) ∧ Hid (From W wr)) (fun p wr => 20 - cellN wr p);case atStart => exact ⟨5, w.heap.size + 1, rfl, hc0, hf0, hl0, by omega, by omega, rfl, (fun u hu => latO_low hu), HR0⟩
 case round =>
  clear HR0 e0 e1 hc0 hf0 hl0;obtain ⟨n, X, rfl, hc, hf, hX, hn4, hn9, Hst, hall, HR⟩ := hrel;have HB1 := hh_ (HB.up HR.out);have HG1 := hh_ (HG.keep HR.below);have e0 := HG1.c0;have e1 := HG1.c1;by_cases hnm : n ≤ m
  ·have i1 : (n : Int) ≤ m := by omega
   have KF := hh_ (OhoQ HG1 hc hX (by omega));have Hat : Hid (latO 5 2 (hoF r m) n = hoF r m n) := latO_at hn4 Hst.out;obtain ⟨so, hso⟩ : ∃ so, so = hoF r m n := ⟨_, rfl⟩;rw [← hso] at KF Hat;clear hso;go_wp2_with fail
   refine KF.mono ?_;rintro e w1 ⟨hfr, hp⟩;have hb1 : Below wr.heap.size wr w1 := hfr.below nr_ nr_;have HR1 := hh_ (HR.keep hb1);have HB2 := hh_ (HB1.keep hb1);have hc1 := up hb1 hc hX;have hf1 := upf hb1 hf hX;have hz1 := hb1.size;have Hc := hh_ hc;have HZ : Hid (w.heap.size ≤ wr.heap.size) := HB1.below.size;clear hfr KF HG1 e0 e1 hb1 hc hf HR HB1;cases so with
   | none =>
     obtain ⟨rfl, _⟩ := hp;have Hn : Hid (∀ u, u < n + 2 → latO 5 2 (hoF r m) u = none) := fun u hu => by
      by_cases huv : u < n
      ·exact hall.out u huv
      ·by_cases hun : u = n
       ·subst hun; exact Hat.out
       ·exact latO_off (by have := Hst.out; omega)
     have Hst2 : Hid ((n + 2 - 5) % 2 = 0) := by show _ = _; have := Hst.out; omega
     go_wp2;have hcn : (w1.alloc (Obj.cells #[.int .i64 ((n : Int) + 2)] 3)).cell? ⟨w1.heap.size, 0, none⟩ = some (.int .i64 ((n + 2 : Nat) : Int)) := by simp [go_sem]
     have hfn : (w1.alloc (Obj.cells #[.int .i64 ((n : Int) + 2)] 3)).frozen? ⟨w1.heap.size, 0, none⟩ = false := by simp [go_sem]
     go_roundw;case rel => exact ⟨n + 2, w1.heap.size, rfl, hcn, hfn, by simp, by omega, by omega, Hst2, Hn, HR1.alloc_ _⟩
     case measure => simp [cellN, hcn, Hc.out]; omega
   | some l =>
     obtain ⟨g, c', rfl, hO⟩ := hp;have HL : Hid (ON w.heap.size w1 (some ⟨g, 0, none⟩) c' l) := ⟨hO.mono HZ.out nr_⟩;have Hs : Hid (oddhO r m = some l) := ltO_some hnm Hat.out hall.out;clear hO;go_wp2;go_ret2;rw [Hs.out];exact lsQ.yes HL.out HB2.below
  ·have Hs : Hid (oddhO r m = none) := ltO_none fun u hu => hall.out u (by omega)
   have i1 : (m : Int) < n := by omega
   go_wp2;go_ret2;rw [Hs.out];exact lsQ.no HB1.below
end
set_option maxRecDepth 100000 in
theorem FindHole_no (sz : Int) (A : Option Addr) (m c : Nat) (x : Nat → Int) (w : World) (h : GA w A m c x) (hm : m ≤ 1048576) (hok : okB sz m x = false) :
 Calls Tryz.prog 107 #[.agg #[.int .i64 sz, .slice A m c]] w (lsQ w none) := by
 obtain ⟨W, hW, HB, HK, HC⟩ := gaW sz h;have HW := hh_ hW;have Ho := hh_ hok;have HZW : Hid (W.heap.size = w.heap.size + 1) := by show _ = _; rw [hW]; simp
 have HR0 : Hid (From W (W.alloc (Obj.cells #[.int .i64 4] 3))) := From.alloc _ _;have hc0 : (W.alloc (Obj.cells #[.int .i64 4] 3)).cell? ⟨W.heap.size, 0, none⟩ = some (.int .i64 (4 : Nat)) := by simp [go_sem]
 have hf0 : (W.alloc (Obj.cells #[.int .i64 4] 3)).frozen? ⟨W.heap.size, 0, none⟩ = false := by simp [go_sem]
 have hl0 : W.heap.size < (W.alloc (Obj.cells #[.int .i64 4] 3)).heap.size := by simp
 rw [HZW.out] at hc0 hf0 hl0;obtain ⟨e0, e1⟩ := gc_ HC;clear hW h hok;go_enter Tryz.func107, Tryz.ntmps107;go_wp2_with fail
 rw [← HW.out];clear HW;go_wp2;go_loopw [4] (fun p wr => ∃ n X : Nat, p = .pointer (some ⟨X, 0, none⟩) ∧ wr.cell? ⟨X, 0, none⟩ = some (.int .i64 n) ∧ wr.frozen? ⟨X, 0, none⟩ = false ∧ X < wr.heap.size ∧ 4 ≤ n ∧ n ≤ 9 ∧ Hid (From W wr)) (fun p wr => 20 - cellN wr p);case atStart => exact ⟨4, w.heap.size + 1, rfl, hc0, hf0, hl0, by omega, by omega, HR0⟩
 case round =>
  clear HR0 e0 e1 hc0 hf0 hl0;obtain ⟨n, X, rfl, hc, hf, hX, hn4, hn9, HR⟩ := hrel;have HB1 := hh_ (HB.up HR.out);have HK1 := hh_ (HK.keep HR.below);have HC1 := hh_ (HC.keep HR.below);have e0 := HC1.c0;have e1 := HC1.c1;by_cases h7 : sz ≤ 7
  ·by_cases hnm : (n : Int) ≤ sz
   ·have i7 : n ≤ 7 := by omega
    have KF := hh_ (firstList_noG (n := (n : Int)) (fm := 213) (cm := #[.pointer (some ⟨X, 0, none⟩), .pointer (some ⟨w.heap.size, 0, none⟩)]) (fh := 216) (ch := #[.pointer (some ⟨w.heap.size, 0, none⟩)]) HK1 hm Ho.out);go_wp2_with fail
    refine KF.mono ?_;rintro e w1 ⟨rfl, hb1⟩;have HR1 := hh_ (HR.keep hb1);have hc1 := up hb1 hc hX;have Hc := hh_ hc;have hf1 := upf hb1 hf hX;clear KF HK1 HC1 e0 e1 hb1 hc hf HR HB1;go_wp2;have hcn : (w1.alloc (Obj.cells #[.int .i64 ((n : Int) + 1)] 3)).cell? ⟨w1.heap.size, 0, none⟩ = some (.int .i64 ((n + 1 : Nat) : Int)) := by simp [go_sem]
    have hfn : (w1.alloc (Obj.cells #[.int .i64 ((n : Int) + 1)] 3)).frozen? ⟨w1.heap.size, 0, none⟩ = false := by simp [go_sem]
    go_roundw;case rel => exact ⟨n + 1, w1.heap.size, rfl, hcn, hfn, by simp, by omega, by omega, HR1.alloc_ _⟩
    case measure => simp [cellN, hcn, Hc.out]; omega
   ·have i1 : sz < (n : Int) := by omega
    go_wp2;go_ret2;exact lsQ.no HB1.below
  ·by_cases hnm : (n : Int) ≤ 7
   ·have i7 : n ≤ 7 := by omega
    have KF := hh_ (firstList_noG (n := (n : Int)) (fm := 213) (cm := #[.pointer (some ⟨X, 0, none⟩), .pointer (some ⟨w.heap.size, 0, none⟩)]) (fh := 216) (ch := #[.pointer (some ⟨w.heap.size, 0, none⟩)]) HK1 hm Ho.out);go_wp2_with fail
    refine KF.mono ?_;rintro e w1 ⟨rfl, hb1⟩;have HR1 := hh_ (HR.keep hb1);have hc1 := up hb1 hc hX;have Hc := hh_ hc;have hf1 := upf hb1 hf hX;clear KF HK1 HC1 e0 e1 hb1 hc hf HR HB1;go_wp2;have hcn : (w1.alloc (Obj.cells #[.int .i64 ((n : Int) + 1)] 3)).cell? ⟨w1.heap.size, 0, none⟩ = some (.int .i64 ((n + 1 : Nat) : Int)) := by simp [go_sem]
    have hfn : (w1.alloc (Obj.cells #[.int .i64 ((n : Int) + 1)] 3)).frozen? ⟨w1.heap.size, 0, none⟩ = false := by simp [go_sem]
    go_roundw;case rel => exact ⟨n + 1, w1.heap.size, rfl, hcn, hfn, by simp, by omega, by omega, HR1.alloc_ _⟩
    case measure => simp [cellN, hcn, Hc.out]; omega
   ·have i1 : 7 < (n : Int) := by omega
    go_wp2;go_ret2;exact lsQ.no HB1.below
set_option maxRecDepth 100000 in
theorem FindOddHole_no (sz : Int) (A : Option Addr) (m c : Nat) (x : Nat → Int) (w : World) (h : GA w A m c x) (hm : m ≤ 1048576) (hok : okB sz m x = false) :
 Calls Tryz.prog 228 #[.agg #[.int .i64 sz, .slice A m c]] w (lsQ w none) := by
 obtain ⟨W, hW, HB, HK, HC⟩ := gaW sz h;have HW := hh_ hW;have Ho := hh_ hok;have HZW : Hid (W.heap.size = w.heap.size + 1) := by show _ = _; rw [hW]; simp
 have HR0 : Hid (From W (W.alloc (Obj.cells #[.int .i64 5] 3))) := From.alloc _ _;have hc0 : (W.alloc (Obj.cells #[.int .i64 5] 3)).cell? ⟨W.heap.size, 0, none⟩ = some (.int .i64 (5 : Nat)) := by simp [go_sem]
 have hf0 : (W.alloc (Obj.cells #[.int .i64 5] 3)).frozen? ⟨W.heap.size, 0, none⟩ = false := by simp [go_sem]
 have hl0 : W.heap.size < (W.alloc (Obj.cells #[.int .i64 5] 3)).heap.size := by simp
 rw [HZW.out] at hc0 hf0 hl0;obtain ⟨e0, e1⟩ := gc_ HC;clear hW h hok;go_enter Tryz.func228, Tryz.ntmps228;go_wp2_with fail
 rw [← HW.out];clear HW;go_wp2;go_loopw [4] (fun p wr => ∃ n X : Nat, p = .pointer (some ⟨X, 0, none⟩) ∧ wr.cell? ⟨X, 0, none⟩ = some (.int .i64 n) ∧ wr.frozen? ⟨X, 0, none⟩ = false ∧ X < wr.heap.size ∧ 5 ≤ n ∧ n ≤ 9 ∧ Hid (From W wr)) (fun p wr => 20 - cellN wr p);case atStart => exact ⟨5, w.heap.size + 1, rfl, hc0, hf0, hl0, by omega, by omega, HR0⟩
 case round =>
  clear HR0 e0 e1 hc0 hf0 hl0;obtain ⟨n, X, rfl, hc, hf, hX, hn4, hn9, HR⟩ := hrel;have HB1 := hh_ (HB.up HR.out);have HK1 := hh_ (HK.keep HR.below);have HC1 := hh_ (HC.keep HR.below);have e0 := HC1.c0;have e1 := HC1.c1;by_cases h7 : sz ≤ 7
  ·by_cases hnm : (n : Int) ≤ sz
   ·have i7 : n ≤ 7 := by omega
    have KF := hh_ (firstList_noG (n := (n : Int)) (fm := 333) (cm := #[.pointer (some ⟨X, 0, none⟩), .pointer (some ⟨w.heap.size, 0, none⟩)]) (fh := 334) (ch := #[.pointer (some ⟨w.heap.size, 0, none⟩)]) HK1 hm Ho.out);go_wp2_with fail
    refine KF.mono ?_;rintro e w1 ⟨rfl, hb1⟩;have HR1 := hh_ (HR.keep hb1);have hc1 := up hb1 hc hX;have Hc := hh_ hc;have hf1 := upf hb1 hf hX;clear KF HK1 HC1 e0 e1 hb1 hc hf HR HB1;go_wp2;have hcn : (w1.alloc (Obj.cells #[.int .i64 ((n : Int) + 2)] 3)).cell? ⟨w1.heap.size, 0, none⟩ = some (.int .i64 ((n + 2 : Nat) : Int)) := by simp [go_sem]
    have hfn : (w1.alloc (Obj.cells #[.int .i64 ((n : Int) + 2)] 3)).frozen? ⟨w1.heap.size, 0, none⟩ = false := by simp [go_sem]
    go_roundw;case rel => exact ⟨n + 2, w1.heap.size, rfl, hcn, hfn, by simp, by omega, by omega, HR1.alloc_ _⟩
    case measure => simp [cellN, hcn, Hc.out]; omega
   ·have i1 : sz < (n : Int) := by omega
    go_wp2;go_ret2;exact lsQ.no HB1.below
  ·by_cases hnm : (n : Int) ≤ 7
   ·have i7 : n ≤ 7 := by omega
    have KF := hh_ (firstList_noG (n := (n : Int)) (fm := 333) (cm := #[.pointer (some ⟨X, 0, none⟩), .pointer (some ⟨w.heap.size, 0, none⟩)]) (fh := 334) (ch := #[.pointer (some ⟨w.heap.size, 0, none⟩)]) HK1 hm Ho.out);go_wp2_with fail
    refine KF.mono ?_;rintro e w1 ⟨rfl, hb1⟩;have HR1 := hh_ (HR.keep hb1);have hc1 := up hb1 hc hX;have Hc := hh_ hc;have hf1 := upf hb1 hf hX;clear KF HK1 HC1 e0 e1 hb1 hc hf HR HB1;go_wp2;have hcn : (w1.alloc (Obj.cells #[.int .i64 ((n : Int) + 2)] 3)).cell? ⟨w1.heap.size, 0, none⟩ = some (.int .i64 ((n + 2 : Nat) : Int)) := by simp [go_sem]
    have hfn : (w1.alloc (Obj.cells #[.int .i64 ((n : Int) + 2)] 3)).frozen? ⟨w1.heap.size, 0, none⟩ = false := by simp [go_sem]
    go_roundw;case rel => exact ⟨n + 2, w1.heap.size, rfl, hcn, hfn, by simp, by omega, by omega, HR1.alloc_ _⟩
    case measure => simp [cellN, hcn, Hc.out]; omega
   ·have i1 : 7 < (n : Int) := by omega
    go_wp2;go_ret2;exact lsQ.no HB1.below
end Go.Proofs.YtdpkbfiggbcclaaGreat
