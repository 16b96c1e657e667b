/-
  Contracts: the first odd cycle (the program's).
-/
import Derived.Test.YtdpkbfiggbcclaaGreatQjHolI
namespace Go.Proofs.YtdpkbfiggbcclaaGreat
open Go.RowKit

set_option maxRecDepth 100000 in
set_option maxHeartbeats 1600000 in
theorem FindOddCycle_c {A : Option Addr} {m c q : Nat} {r : Nat → Nat} {Al : Option Addr} {cl : Nat} {l : List Nat} {w : World} (h : GBox w q A m c r) (hl : LN w Al cl l) (hlen : l.length ≤ 7) :
    Calls Tryz.prog 225 #[.slice Al l.length cl, .pointer (some ⟨q, 0, none⟩)] w fun e w' => e = .returned (.bool (ocR r m l)) ∧ Below w.heap.size w w' := by
  have hm7 := h.gv.vg.n7
  have KP := Lib.hid (IsOddCycle_i m A m c _ Al l.length cl _ w h.gv.ga hl.li (by omega) (by omega))
  have e0 := h.c0
  have e1 := h.c1
  have HF : Hid (From w w) := From.refl w
  clear h hl
  go_enter Tryz.func225, Tryz.ntmps225
  go_wp2_with fail
  refine KP.out.mono ?_
  rintro e w1 ⟨rfl, hb1⟩
  replace HF := Lib.hid (HF.out.keep hb1)
  clear hb1
  go_wp2
  go_ret
  exact ⟨rfl, HF.out.below⟩
set_option maxRecDepth 100000 in
set_option maxHeartbeats 3200000 in
theorem FindOddCycle_v {A : Option Addr} {m c : Nat} {r : Nat → Nat} {w : World} (h : GV w A m c r) : Calls Tryz.prog 113 #[.agg #[.int .i64 m, .slice A m c]] w (lsQ w (oddcO r m)) := by
  have hm7 := h.vg.n7
  obtain ⟨W, hW⟩ : ∃ W : World, W = (w.alloc (Obj.cells #[Value.int IntKind.i64 m, Value.slice A m c] 28)) := ⟨_, rfl⟩
  have HB : Hid (From w W) := by rw [hW]; exact From.alloc _ _
  have HG : Hid (GBox W w.heap.size A m c r) := by rw [hW]; exact h.box
  have HW := Lib.hid hW
  clear hW h
  have e0 := HG.out.c0
  have e1 := HG.out.c1
  have HR0 : Hid (From W W) := From.refl W
  go_enter Tryz.func113, Tryz.ntmps113
  go_wp2_with fail
  rw [← HW.out]
  clear HW
  go_wp2
  go_loopw [4] (fun i wr => ∃ n : Nat, 3 ≤ n ∧ n ≤ 9 ∧ i = .int .i64 n ∧ Hid ((n - 3) % 2 = 0) ∧ Hid (∀ u, u < n → latO 3 2 (ocF r m) u = none) ∧ Hid (From W wr)) (fun i _ => 20 - (intOf i).toNat)
  case atStart => exact ⟨3, by omega, by omega, rfl, rfl, (fun u hu => latO_low hu), HR0⟩
  case round =>
    clear HR0 e0 e1
    obtain ⟨n, hn4, hn9, rfl, Hst, hall, HR⟩ := hrel
    have HB1 := Lib.hid (HB.out.up HR.out)
    have HG1 := Lib.hid (HG.out.keep HR.out.below)
    have e0 := HG1.out.c0
    have e1 := HG1.out.c1
    by_cases hnm : n ≤ m
    · have i1 : (n : Int) ≤ (m : Int) := by omega
      have KF := Lib.hid (firstList_g (m := m) (n := n) (A := A) (c := c) (r := r) (fm := 222) (cm := #[]) (fh := 225) (ch := #[.pointer (some ⟨w.heap.size, 0, none⟩)]) (may := freM) (hol := ocR r m) (lo := wr.heap.size) (hi := wr.heap.size) (J := fun _ z => GBox z w.heap.size A m c r)
        (ent_of Tryz.func222 (by kernel_rfl) rfl) (ent_of Tryz.func225 (by kernel_rfl) rfl) wr HG1.out.gv (by omega) (Nat.le_refl _) (fun _ z z' hz hb => hz.keep hb) HG1.out
        (fun _ l A' c' z hz hr hl hv hn => always_n A' l.length c' z)
        (fun _ l A' c' z hz hr hl hv hn => (FindOddCycle_c hz ⟨hr⟩ (by have := nodup_len hn hv; omega)).mono fun e w' ⟨h1, h2⟩ => ⟨h1, hz.keep h2, Fr.of_below h2⟩))
      have Hat : Hid (latO 3 2 (ocF r m) n = ocF r m n) := latO_at hn4 Hst.out
      have Hfd : Hid (ocF r m n = seaG m freM (ocR r m) n []) := rfl
      rw [← Hfd.out] at KF
      obtain ⟨so, hso⟩ : ∃ so, so = ocF r m n := ⟨_, rfl⟩
      rw [← hso] at KF Hat
      clear hso Hfd
      go_wp2_with fail
      refine KF.out.mono ?_
      rintro e w1 ⟨hfr, hp⟩
      have hb1 : Below wr.heap.size wr w1 := hfr.below (Nat.le_refl _) (Nat.le_refl _)
      have HR1 := Lib.hid (HR.out.keep hb1)
      have HB2 := Lib.hid (HB1.out.keep hb1)
      have HZ : Hid (w.heap.size ≤ wr.heap.size) := HB1.out.below.size
      clear hfr KF HG1 e0 e1 hb1 HR HB1
      cases so with
      | none =>
        obtain ⟨rfl, _⟩ := hp
        have Hn : Hid (∀ u, u < n + 2 → latO 3 2 (ocF r m) u = none) := fun u hu => by
          by_cases huv : u < n
          · exact hall.out u huv
          · by_cases hun : u = n
            · subst hun; exact Hat.out
            · exact latO_off (by have := Hst.out; omega)
        have Hst2 : Hid ((n + 2 - 3) % 2 = 0) := by show _ = _; have := Hst.out; omega
        go_wp2
        go_roundw
        case rel => exact ⟨n + 2, by omega, by omega, by go_num, Hst2, Hn, HR1⟩
        case measure => (simp [intOf] <;> omega)
      | some l =>
        obtain ⟨g, c', rfl, hO⟩ := hp
        have HL : Hid (ON w.heap.size w1 (some ⟨g, 0, none⟩) c' l) := ⟨hO.mono HZ.out (Nat.le_refl _)⟩
        have Hs : Hid (oddcO r m = some l) := ltO_some hnm Hat.out hall.out
        clear hO
        go_wp2
        go_ret2
        rw [Hs.out]
        exact lsQ.yes HL.out HB2.out.below
    · have Hs : Hid (oddcO r m = none) := ltO_none fun u hu => hall.out u (by omega)
      have i1 : (m : Int) < (n : Int) := by omega
      go_wp2
      go_ret2
      rw [Hs.out]
      exact lsQ.no HB1.out.below
set_option maxRecDepth 100000 in
set_option maxHeartbeats 3200000 in
theorem FindOddCycle_no (sz : Int) (A : Option Addr) (m c : Nat) (x : Nat → Int) (w : World) (h : GA w A m c x) (hm : m ≤ 1048576) (hok : okB sz m x = false) :
    Calls Tryz.prog 113 #[.agg #[.int .i64 sz, .slice A m c]] w (lsQ w none) := by
  obtain ⟨W, hW⟩ : ∃ W : World, W = (w.alloc (Obj.cells #[Value.int IntKind.i64 sz, Value.slice A m c] 28)) := ⟨_, rfl⟩
  have HB : Hid (From w W) := by rw [hW]; exact From.alloc _ _
  have HK := Lib.hid (h.keep HB.out.below)
  have HC : Hid (GC W w.heap.size sz A m c) := by rw [hW]; exact GC.new _ _ _ _ _
  have HW := Lib.hid hW
  have Ho := Lib.hid hok
  have HR0 : Hid (From W W) := From.refl W
  have e0 := HC.out.c0
  have e1 := HC.out.c1
  clear hW h hok
  go_enter Tryz.func113, Tryz.ntmps113
  go_wp2_with fail
  rw [← HW.out]
  clear HW
  go_wp2
  go_loopw [4] (fun i wr => ∃ n : Nat, 3 ≤ n ∧ n ≤ 9 ∧ i = .int .i64 n ∧ Hid (From W wr)) (fun i _ => 20 - (intOf i).toNat)
  case atStart => exact ⟨3, by omega, by omega, rfl, HR0⟩
  case round =>
    clear HR0 e0 e1
    obtain ⟨n, hn4, hn9, rfl, HR⟩ := hrel
    have HB1 := Lib.hid (HB.out.up HR.out)
    have HK1 := Lib.hid (HK.out.keep HR.out.below)
    have HC1 := Lib.hid (HC.out.keep HR.out.below)
    have e0 := HC1.out.c0
    have e1 := HC1.out.c1
    by_cases h7 : sz ≤ 7
    · by_cases hnm : (n : Int) ≤ sz
      · have i7 : n ≤ 7 := by omega
        have KF := Lib.hid (firstList_noG (n := (n : Int)) (fm := 222) (cm := #[]) (fh := 225) (ch := #[.pointer (some ⟨w.heap.size, 0, none⟩)]) HK1.out hm Ho.out)
        go_wp2_with fail
        refine KF.out.mono ?_
        rintro e w1 ⟨rfl, hb1⟩
        have HR1 := Lib.hid (HR.out.keep hb1)
        clear KF HK1 HC1 e0 e1 hb1 HR HB1
        go_wp2
        go_roundw
        case rel => exact ⟨n + 2, by omega, by omega, by go_num, HR1⟩
        case measure => (simp [intOf] <;> omega)
      · have i1 : sz < (n : Int) := by omega
        go_wp2
        go_ret2
        exact lsQ.no HB1.out.below
    · by_cases hnm : (n : Int) ≤ 7
      · have i7 : n ≤ 7 := by omega
        have KF := Lib.hid (firstList_noG (n := (n : Int)) (fm := 222) (cm := #[]) (fh := 225) (ch := #[.pointer (some ⟨w.heap.size, 0, none⟩)]) HK1.out hm Ho.out)
        go_wp2_with fail
        refine KF.out.mono ?_
        rintro e w1 ⟨rfl, hb1⟩
        have HR1 := Lib.hid (HR.out.keep hb1)
        clear KF HK1 HC1 e0 e1 hb1 HR HB1
        go_wp2
        go_roundw
        case rel => exact ⟨n + 2, by omega, by omega, by go_num, HR1⟩
        case measure => (simp [intOf] <;> omega)
      · have i1 : 7 < (n : Int) := by omega
        go_wp2
        go_ret2
        exact lsQ.no HB1.out.below
end Go.Proofs.YtdpkbfiggbcclaaGreat
