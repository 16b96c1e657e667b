/-
  Several texts in one.
-/
import Derived.Test.YtdpkbfiggbcclaaGreatQkDifI
import Derived.Test.YtdpkbfiggbcclaaGreatQkBest
import Derived.Test.YtdpkbfiggbcclaaGreatQkSetG
import Derived.Test.YtdpkbfiggbcclaaGreatQkModI
import Derived.Test.YtdpkbfiggbcclaaGreatQkUmbI
import Derived.Test.YtdpkbfiggbcclaaGreatQkJoinI
import Derived.Test.YtdpkbfiggbcclaaGreatQkTake
import Derived.Test.YtdpkbfiggbcclaaGreatQkLater
import Derived.Test.YtdpkbfiggbcclaaGreatQkUmbS
import Derived.Test.YtdpkbfiggbcclaaGreatQkGC
import Derived.Test.YtdpkbfiggbcclaaGreatQkJoinS
import Derived.Test.YtdpkbfiggbcclaaGreatQkDifP
import Derived.Test.YtdpkbfiggbcclaaGreatQkModP
/-
-/
namespace Go.Proofs.YtdpkbfiggbcclaaGreat
open Go.RowKit
theorem l8_v {Al : Option Addr} {cl v : Nat} {l : List Nat} {z : World} (h : LN z Al cl l) (hl : l.length ≤ 6) : Calls Tryz.prog 246 #[.slice Al l.length cl, .int .i64 v] z fun e w' => e = .returned (.bool (decide (v ∈ l))) ∧ Below z.heap.size z w' :=
 (l8Has_s Al l.length cl l v z z.heap.size ⟨rfl, h.rd⟩ (by omega)).mono fun _ _ ⟨h1, h2⟩ => ⟨h1, h2 ▸ Below.refl _ _⟩
end Go.Proofs.YtdpkbfiggbcclaaGreat

/-
-/
namespace Go.Proofs.YtdpkbfiggbcclaaGreat
open Go.RowKit
theorem zl_take (L : List Nat) (k : Nat) : (zl L).take k = zl (L.take k) := by simp [zl, List.map_take]
theorem mem_zl {x : Nat} {M : List Nat} : ((x : Nat) : Int) ∈ zl M ↔ x ∈ M := by
 simp only [zl, List.mem_map]
 exact ⟨fun ⟨a, ha, e⟩ => by rwa [← Int.ofNat.inj e], fun h => ⟨x, h, rfl⟩⟩
theorem fiK_zl {L : List Nat} {k : Nat} : fiK (zl L) k = !decide (L.getD k 0 ∈ L.take k) := by
 unfold fiK
 rw [zl_getD, zl_take]
 simp only [mem_zl]
set_option maxRecDepth 100000 in
set_option maxHeartbeats 3200000 in
theorem l33Colors_n {Al : Option Addr} {cl : Nat} {L : List Nat} {w : World} (h : LN w Al cl L) (hlen : L.length ≤ 7) :
 Calls Tryz.prog 121 #[.slice Al L.length cl] w fun e w' => e = .returned (.int .i64 (dfN (zl L) : Nat)) ∧ Below w.heap.size w w' := by
 have HL := Lib.hid h
 have hcap := h.le
 have HR0 : Hid (From w w) := From.refl w
 clear h
 go_enter Tryz.func121, Tryz.ntmps121
 go_wp2
 go_loopw [3, 4] (fun d i wr => ∃ k : Nat, k ≤ L.length ∧ i = .int .i64 k ∧ d = .int .i64 (dfK (zl L) k : Nat) ∧ Hid (From w wr)) (fun _ i _ => L.length - (intOf i).toNat)
 case atStart => exact ⟨0, Nat.zero_le _, rfl, rfl, HR0⟩
 case round =>
  clear HR0
  obtain ⟨k, hk, rfl, rfl, HR⟩ := hrel
  have hdk := dfK_le (zl L) k
  by_cases hkl : k < L.length
  ·have i1 : (k : Int) < (L.length : Int) := by omega
   have HLr := Lib.hid (HL.out.keep HR.out.below)
   obtain ⟨b, o, rfl⟩ := HLr.out.addr (by omega)
   have p0 := HLr.out.at hkl
   obtain ⟨y, hy⟩ : ∃ y, y = L.getD k 0 := ⟨_, rfl⟩
   have hyk : L[k] = y := by rw [hy]; simp [List.getD, hkl]
   rw [hyk] at p0
   obtain ⟨t, ht⟩ : ∃ t, t = decide (y ∈ L.take k) := ⟨_, rfl⟩
   have Hf : Hid (fiK (zl L) k = !t) := by show _ = _; rw [fiK_zl, ht, hy]
   have htl : (L.take k).length = k := by rw [List.length_take]; omega
   have hLk : ∀ {z : World}, LN z (some ⟨b, o, none⟩) cl L → LN z (some ⟨b, o, none⟩) cl (L.take k) := fun {z} hz => ⟨by
    rw [htl]
    refine ⟨by omega, fun h0 => ?_⟩
    refine ⟨b, o, rfl, ?_, fun j hj => ?_⟩
    ·obtain ⟨b', o', e, hb, _⟩ := hz.rd.2 (by omega)
     simp only [Option.some.injEq, Addr.mk.injEq, and_true] at e
     rw [e.1]; exact hb
    ·rw [hz.at (by omega)]
     simp [List.getD, hj, show j < L.length by omega]⟩
   have K8 : Hid (∀ {z : World}, LN z (some ⟨b, o, none⟩) cl L → Calls Tryz.prog 246 #[.slice (some ⟨b, o, none⟩) k cl, .int .i64 y] z fun e w' => e = .returned (.bool t) ∧ Below z.heap.size z w') := fun {z} hz => by
    have := l8_v (v := y) (hLk hz) (by omega)
    rw [htl, ← ht] at this
    exact this
   have HLq := HLr
   have HX : Hid (CL wr b (o + k) (.int .i64 (y : Nat))) := ⟨p0⟩
   have i2 : k ≤ cl := by omega
   clear hy hyk ht htl hLk p0
   cases t
   ·have Hn := Lib.hid (dfK_yes (zs := zl L) (k := k) Hf.out)
    have p0 := HX.out.c
    go_wp2
    have HSC : Hid (∀ z : World, Below wr.heap.size wr z → (Below wr.heap.size wr z ∧ z.cell? ⟨b, o + k, none⟩ = some (.int .i64 (y : Nat)))) := fun z hz => ⟨hz, up_ hz p0⟩
    have HZ0 : Hid (Below wr.heap.size wr wr.drew) := (Below.refl _ _).drew
    have HS1 := Lib.hid (HSC.out _ HZ0.out)
    have KR1 : Hid (∀ z : World, Below wr.heap.size wr z → _) := fun z hz => K8.out (HLq.out.keep hz)
    refine wp_region_held_drew (S := fun z => Below wr.heap.size wr z ∧ z.cell? ⟨b, o + k, none⟩ = some (.int .i64 (y : Nat))) (by kernel_rfl) HS1.out (fun hHeld => ?_)
    refine pcY 0 rfl rfl (by kernel_rfl) (by rfl) (by intro w u; (try dsimp only at u); go_simp <;> with_reducible rfl) ‹_› (fun _ _ _ h => h) ?_; simp only [Act.put, sl0, sl1, sl2]
    iterate 6 (refine ptY rfl rfl (by kernel_rfl) (by rfl) (by intro w u; (try dsimp only at u); go_simp <;> with_reducible rfl) ‹_› (fun _ _ _ h => h) ?_; simp only [Act.put, sl0, sl1, sl2])
    refine wpAnyH_ready (rs := [7]) (by kernel_rfl) (by simp) ?_
    refine AllReadyH.cons rfl (fun K hK => ?_) AllReadyH.nil
    go_simp
    go_at_call 246; refine (KR1.out _ HZ0.out).mono ?_
    rintro e w1 ⟨rfl, hb1⟩
    have hz1 := bl_trans HZ0.out hb1
    refine hK.out _ _ (HSC.out _ hz1) (fun hHeld => ?_)
    clear hK K
    try simp only [Act.put, sl0, sl1, sl2]
    refine ptY rfl rfl (by kernel_rfl) (by rfl) (by intro w u; (try dsimp only at u); go_simp <;> with_reducible rfl) ‹_› (fun _ _ _ h => h) ?_; simp only [Act.put, sl0, sl1, sl2]
    refine wpAnyH_done (by kernel_rfl) ?_ _
    clear p0
    replace HR := Lib.hid (HR.out.keep hz1)
    replace HX := Lib.hid (HX.out.keep hz1)
    clear hb1 hz1 HSC HZ0 HS1 KR1
    have p0 := HX.out.c
    clear HLq K8 HX p0
    go_wp2
    go_roundw
    case rel => exact ⟨k + 1, by omega, by go_num, by rw [Hn.out]; go_num, HR⟩
    case measure => (simp [intOf] <;> omega)
   ·have Hn := Lib.hid (dfK_no (zs := zl L) (k := k) Hf.out)
    have p0 := HX.out.c
    go_wp2
    have HSC : Hid (∀ z : World, Below wr.heap.size wr z → (Below wr.heap.size wr z ∧ z.cell? ⟨b, o + k, none⟩ = some (.int .i64 (y : Nat)))) := fun z hz => ⟨hz, up_ hz p0⟩
    have HZ0 : Hid (Below wr.heap.size wr wr.drew) := (Below.refl _ _).drew
    have HS1 := Lib.hid (HSC.out _ HZ0.out)
    have KR1 : Hid (∀ z : World, Below wr.heap.size wr z → _) := fun z hz => K8.out (HLq.out.keep hz)
    refine wp_region_held_drew (S := fun z => Below wr.heap.size wr z ∧ z.cell? ⟨b, o + k, none⟩ = some (.int .i64 (y : Nat))) (by kernel_rfl) HS1.out (fun hHeld => ?_)
    refine pcY 0 rfl rfl (by kernel_rfl) (by rfl) (by intro w u; (try dsimp only at u); go_simp <;> with_reducible rfl) ‹_› (fun _ _ _ h => h) ?_; simp only [Act.put, sl0, sl1, sl2]
    iterate 6 (refine ptY rfl rfl (by kernel_rfl) (by rfl) (by intro w u; (try dsimp only at u); go_simp <;> with_reducible rfl) ‹_› (fun _ _ _ h => h) ?_; simp only [Act.put, sl0, sl1, sl2])
    refine wpAnyH_ready (rs := [7]) (by kernel_rfl) (by simp) ?_
    refine AllReadyH.cons rfl (fun K hK => ?_) AllReadyH.nil
    go_simp
    go_at_call 246; refine (KR1.out _ HZ0.out).mono ?_
    rintro e w2 ⟨rfl, hb2⟩
    have hz2 := bl_trans HZ0.out hb2
    refine hK.out _ _ (HSC.out _ hz2) (fun hHeld => ?_)
    clear hK K
    try simp only [Act.put, sl0, sl1, sl2]
    refine ptY rfl rfl (by kernel_rfl) (by rfl) (by intro w u; (try dsimp only at u); go_simp <;> with_reducible rfl) ‹_› (fun _ _ _ h => h) ?_; simp only [Act.put, sl0, sl1, sl2]
    refine wpAnyH_done (by kernel_rfl) ?_ _
    clear p0
    replace HR := Lib.hid (HR.out.keep hz2)
    replace HX := Lib.hid (HX.out.keep hz2)
    clear hb2 hz2 HSC HZ0 HS1 KR1
    have p0 := HX.out.c
    clear HLq K8 HX p0
    go_wp2
    go_roundw
    case rel => exact ⟨k + 1, by omega, by go_num, by rw [Hn.out], HR⟩
    case measure => (simp [intOf] <;> omega)
  ·obtain rfl : L.length = k := by omega
   have Hd : Hid (dfK (zl L) L.length = dfN (zl L)) := by show _ = _; unfold dfN; rw [zl_len]
   rw [Hd.out]
   go_wp2
   go_ret
   exact ⟨rfl, HR.out.below⟩
end Go.Proofs.YtdpkbfiggbcclaaGreat

/-
-/
namespace Go.Proofs.YtdpkbfiggbcclaaGreat
open Go.RowKit
set_option maxRecDepth 100000 in
set_option maxHeartbeats 3200000 in
theorem IsModel_s (Al : Option Addr) (n cl : Nat) (L : List Int) (Ar : Option Addr) (k cr : Nat) (R : List Int) (w : World) (hl : LI w Al n cl L) (hr : LI w Ar k cr R) (hnb : n ≤ 1048576) :
 Calls Tryz.prog 382 #[.agg #[.slice Al n cl, .slice Ar k cr]] w fun e w' => e = .returned (.bool (imB L R)) ∧ Below w.heap.size w w' := by
 obtain ⟨W, hW⟩ : ∃ W : World, W = (w.alloc (Obj.cells #[Value.slice Al n cl, Value.slice Ar k cr] 141)) := ⟨_, rfl⟩
 have HB : Hid (From w W) := by rw [hW]; exact From.alloc _ _
 have HL := Lib.hid (hl.keep HB.out.below)
 have HR := Lib.hid (hr.keep HB.out.below)
 have HI : Hid (IB W w.heap.size Al n cl Ar k cr) := by rw [hW]; constructor <;> simp [go_sem]
 have HW := Lib.hid hW
 have HN := Lib.hid hl.len
 have HK := Lib.hid hr.len
 have HR0 : Hid (From W W) := From.refl W
 have hlt := HI.out.lt
 have e0 := HI.out.c0
 have e1 := HI.out.c1
 clear hW hl hr
 go_enter Tryz.func382, Tryz.ntmps382
 go_wp2_with fail
 rw [← HW.out]
 clear HW
 go_wp2
 clear e0 e1
 go_loopw [3] (fun iv wr => ∃ i : Nat, i ≤ n ∧ i ≤ k ∧ iv = .int .i64 i ∧ Hid (Im1 L R i) ∧ Hid (From W wr)) (fun iv _ => n - (intOf iv).toNat)
 case atStart => exact ⟨0, Nat.zero_le _, Nat.zero_le _, rfl, Im1.zero, HR0⟩
 case round =>
  clear HR0
  obtain ⟨i, hi, hik2, rfl, H1, HF⟩ := hrel
  have HBr := Lib.hid (HB.out.up HF.out)
  have HIr := Lib.hid (HI.out.keep HF.out.below)
  have e0 := HIr.out.c0
  have e1 := HIr.out.c1
  by_cases hin : i < n ∧ i < k
  ·obtain ⟨hik, hir⟩ := hin
   have i1 : (i : Int) < (n : Int) := by omega
   have i2 : (i : Int) < (k : Int) := by omega
   have HLr := Lib.hid (HL.out.keep HF.out.below)
   have HRr := Lib.hid (HR.out.keep HF.out.below)
   obtain ⟨bl, ol, rfl⟩ := HLr.out.addr (by omega)
   obtain ⟨br, or_, rfl⟩ := HRr.out.addr (by omega)
   have p0 := HLr.out.at hik
   have p1 := HRr.out.at hir
   have hno := fun h => im_no (L := L) (R := R) (k := i) (by rw [← HN.out]; exact hik) h
   have hst := fun h => H1.out.step (L := L) (R := R) (k := i) h
   obtain ⟨a, ha⟩ : ∃ a : Int, a = L.getD i 0 := ⟨_, rfl⟩
   obtain ⟨b, hb⟩ : ∃ b : Int, b = R.getD i 0 := ⟨_, rfl⟩
   rw [← ha] at p0 hno hst
   rw [← hb] at p1 hno hst
   clear ha hb
   by_cases h0 : 0 ≤ a ∧ a ≤ 99
   rotate_left
   ·have Hn : Hid (imB L R = false) := hno (by omega)
    have K1 : Hid (∀ z : World, Calls Tryz.prog 191 #[.int .i64 a, .int .i64 0, .int .i64 99] z fun e w' => e = .returned (.bool false) ∧ Below z.heap.size z w') := fun z => l1In_b z (decide_eq_false h0)
    clear hno hst h0
    go_wp2
    have HSC : Hid (∀ z : World, Below wr.heap.size wr z → (Below wr.heap.size wr z ∧ z.cell? ⟨w.heap.size, 0, none⟩ = some (.slice (some ⟨bl, ol, none⟩) n cl) ∧ z.cell? ⟨w.heap.size, 1, none⟩ = some (.slice (some ⟨br, or_, none⟩) k cr) ∧ z.cell? ⟨bl, ol + i, none⟩ = some (.int .i64 a) ∧ z.cell? ⟨br, or_ + i, none⟩ = some (.int .i64 b))) := fun z hz => ⟨hz, up_ hz e0, up_ hz e1, up_ hz p0, up_ hz p1⟩
    have HZ0 : Hid (Below wr.heap.size wr wr.drew) := (Below.refl _ _).drew
    have HS1 := Lib.hid (HSC.out _ HZ0.out)
    have KR1 : Hid (∀ z : World, Below wr.heap.size wr z → _) := fun z hz => K1.out z
    refine wp_region_held_drew (S := fun z => Below wr.heap.size wr z ∧ z.cell? ⟨w.heap.size, 0, none⟩ = some (.slice (some ⟨bl, ol, none⟩) n cl) ∧ z.cell? ⟨w.heap.size, 1, none⟩ = some (.slice (some ⟨br, or_, none⟩) k cr) ∧ z.cell? ⟨bl, ol + i, none⟩ = some (.int .i64 a) ∧ z.cell? ⟨br, or_ + i, none⟩ = some (.int .i64 b)) (by kernel_rfl) HS1.out (fun hHeld => ?_)
    refine pcY 0 rfl rfl (by kernel_rfl) (by rfl) (by intro w u; (try dsimp only at u); go_simp <;> with_reducible rfl) ‹_› (fun _ _ _ h => h) ?_; simp only [Act.put, sl0, sl1, sl2]
    iterate 4 (refine ptY rfl rfl (by kernel_rfl) (by rfl) (by intro w u; (try dsimp only at u); go_simp <;> with_reducible rfl) ‹_› (fun _ _ _ h => h) ?_; simp only [Act.put, sl0, sl1, sl2])
    refine wpAnyH_ready (rs := [5]) (by kernel_rfl) (by simp) ?_
    refine AllReadyH.cons rfl (fun K hK => ?_) AllReadyH.nil
    go_simp
    go_at_call 191; refine (KR1.out _ HZ0.out).mono ?_
    rintro e w1 ⟨rfl, hb1⟩
    have hz1 := bl_trans HZ0.out hb1
    refine hK.out _ _ (HSC.out _ hz1) (fun hHeld => ?_)
    clear hK K
    try simp only [Act.put, sl0, sl1, sl2]
    iterate 2 (refine ptY rfl rfl (by kernel_rfl) (by rfl) (by intro w u; (try dsimp only at u); go_simp <;> with_reducible rfl) ‹_› (fun _ _ _ h => h) ?_; simp only [Act.put, sl0, sl1, sl2])
    iterate 12 (refine ptN rfl rfl (by kernel_rfl) (by rfl) ‹_› (fun _ _ _ h => h) ?_; simp only [Act.put, sl0, sl1, sl2])
    refine ptY rfl rfl (by kernel_rfl) (by rfl) (by intro w u; (try dsimp only at u); go_simp <;> with_reducible rfl) ‹_› (fun _ _ _ h => h) ?_; simp only [Act.put, sl0, sl1, sl2]
    refine wpAnyH_done (by kernel_rfl) ?_ _
    replace HBr := Lib.hid (HBr.out.keep hz1)
    replace HF := Lib.hid (HF.out.keep hz1)
    clear hb1 hz1 HSC HZ0 HS1 KR1
    go_wp2
    go_ret
    exact ⟨ret_bool Hn.out.symm, HBr.out.below⟩
   have K1 : Hid (∀ z : World, Calls Tryz.prog 191 #[.int .i64 a, .int .i64 0, .int .i64 99] z fun e w' => e = .returned (.bool true) ∧ Below z.heap.size z w') := fun z => l1In_b z (decide_eq_true h0)
   by_cases h1 : a ≤ b ∧ b ≤ 99
   rotate_left
   ·have Hn : Hid (imB L R = false) := hno (by omega)
    have K2 : Hid (∀ z : World, Calls Tryz.prog 191 #[.int .i64 b, .int .i64 a, .int .i64 99] z fun e w' => e = .returned (.bool false) ∧ Below z.heap.size z w') := fun z => l1In_b z (decide_eq_false h1)
    clear hno hst h0 h1
    go_wp2
    have HSC : Hid (∀ z : World, Below wr.heap.size wr z → (Below wr.heap.size wr z ∧ z.cell? ⟨w.heap.size, 0, none⟩ = some (.slice (some ⟨bl, ol, none⟩) n cl) ∧ z.cell? ⟨w.heap.size, 1, none⟩ = some (.slice (some ⟨br, or_, none⟩) k cr) ∧ z.cell? ⟨bl, ol + i, none⟩ = some (.int .i64 a) ∧ z.cell? ⟨br, or_ + i, none⟩ = some (.int .i64 b))) := fun z hz => ⟨hz, up_ hz e0, up_ hz e1, up_ hz p0, up_ hz p1⟩
    have HZ0 : Hid (Below wr.heap.size wr wr.drew) := (Below.refl _ _).drew
    have HS1 := Lib.hid (HSC.out _ HZ0.out)
    have KR1 : Hid (∀ z : World, Below wr.heap.size wr z → _) := fun z hz => K1.out z
    have KR2 : Hid (∀ z : World, Below wr.heap.size wr z → _) := fun z hz => K2.out z
    refine wp_region_held_drew (S := fun z => Below wr.heap.size wr z ∧ z.cell? ⟨w.heap.size, 0, none⟩ = some (.slice (some ⟨bl, ol, none⟩) n cl) ∧ z.cell? ⟨w.heap.size, 1, none⟩ = some (.slice (some ⟨br, or_, none⟩) k cr) ∧ z.cell? ⟨bl, ol + i, none⟩ = some (.int .i64 a) ∧ z.cell? ⟨br, or_ + i, none⟩ = some (.int .i64 b)) (by kernel_rfl) HS1.out (fun hHeld => ?_)
    refine pcY 0 rfl rfl (by kernel_rfl) (by rfl) (by intro w u; (try dsimp only at u); go_simp <;> with_reducible rfl) ‹_› (fun _ _ _ h => h) ?_; simp only [Act.put, sl0, sl1, sl2]
    iterate 4 (refine ptY rfl rfl (by kernel_rfl) (by rfl) (by intro w u; (try dsimp only at u); go_simp <;> with_reducible rfl) ‹_› (fun _ _ _ h => h) ?_; simp only [Act.put, sl0, sl1, sl2])
    refine wpAnyH_ready (rs := [5]) (by kernel_rfl) (by simp) ?_
    refine AllReadyH.cons rfl (fun K hK => ?_) AllReadyH.nil
    go_simp
    go_at_call 191; refine (KR1.out _ HZ0.out).mono ?_
    rintro e w2 ⟨rfl, hb2⟩
    have hz2 := bl_trans HZ0.out hb2
    refine hK.out _ _ (HSC.out _ hz2) (fun hHeld => ?_)
    clear hK K
    try simp only [Act.put, sl0, sl1, sl2]
    iterate 12 (refine ptY rfl rfl (by kernel_rfl) (by rfl) (by intro w u; (try dsimp only at u); go_simp <;> with_reducible rfl) ‹_› (fun _ _ _ h => h) ?_; simp only [Act.put, sl0, sl1, sl2])
    refine wpAnyH_ready (rs := [18]) (by kernel_rfl) (by simp) ?_
    refine AllReadyH.cons rfl (fun K hK => ?_) AllReadyH.nil
    go_simp
    go_at_call 191; refine (KR2.out _ hz2).mono ?_
    rintro e w3 ⟨rfl, hb3⟩
    have hz3 := bl_trans hz2 hb3
    refine hK.out _ _ (HSC.out _ hz3) (fun hHeld => ?_)
    clear hK K
    try simp only [Act.put, sl0, sl1, sl2]
    iterate 2 (refine ptY rfl rfl (by kernel_rfl) (by rfl) (by intro w u; (try dsimp only at u); go_simp <;> with_reducible rfl) ‹_› (fun _ _ _ h => h) ?_; simp only [Act.put, sl0, sl1, sl2])
    refine wpAnyH_done (by kernel_rfl) ?_ _
    replace HBr := Lib.hid (HBr.out.keep hz3)
    replace HF := Lib.hid (HF.out.keep hz3)
    clear hb2 hz2 hb3 hz3 HSC HZ0 HS1 KR1 KR2
    go_wp2
    go_ret
    exact ⟨ret_bool Hn.out.symm, HBr.out.below⟩
   ·have H1' : Hid (Im1 L R (i + 1)) := hst (by omega)
    have K2 : Hid (∀ z : World, Calls Tryz.prog 191 #[.int .i64 b, .int .i64 a, .int .i64 99] z fun e w' => e = .returned (.bool true) ∧ Below z.heap.size z w') := fun z => l1In_b z (decide_eq_true h1)
    clear hno hst h0 h1
    go_wp2
    have HSC : Hid (∀ z : World, Below wr.heap.size wr z → (Below wr.heap.size wr z ∧ z.cell? ⟨w.heap.size, 0, none⟩ = some (.slice (some ⟨bl, ol, none⟩) n cl) ∧ z.cell? ⟨w.heap.size, 1, none⟩ = some (.slice (some ⟨br, or_, none⟩) k cr) ∧ z.cell? ⟨bl, ol + i, none⟩ = some (.int .i64 a) ∧ z.cell? ⟨br, or_ + i, none⟩ = some (.int .i64 b))) := fun z hz => ⟨hz, up_ hz e0, up_ hz e1, up_ hz p0, up_ hz p1⟩
    have HZ0 : Hid (Below wr.heap.size wr wr.drew) := (Below.refl _ _).drew
    have HS1 := Lib.hid (HSC.out _ HZ0.out)
    have KR1 : Hid (∀ z : World, Below wr.heap.size wr z → _) := fun z hz => K1.out z
    have KR2 : Hid (∀ z : World, Below wr.heap.size wr z → _) := fun z hz => K2.out z
    refine wp_region_held_drew (S := fun z => Below wr.heap.size wr z ∧ z.cell? ⟨w.heap.size, 0, none⟩ = some (.slice (some ⟨bl, ol, none⟩) n cl) ∧ z.cell? ⟨w.heap.size, 1, none⟩ = some (.slice (some ⟨br, or_, none⟩) k cr) ∧ z.cell? ⟨bl, ol + i, none⟩ = some (.int .i64 a) ∧ z.cell? ⟨br, or_ + i, none⟩ = some (.int .i64 b)) (by kernel_rfl) HS1.out (fun hHeld => ?_)
    refine pcY 0 rfl rfl (by kernel_rfl) (by rfl) (by intro w u; (try dsimp only at u); go_simp <;> with_reducible rfl) ‹_› (fun _ _ _ h => h) ?_; simp only [Act.put, sl0, sl1, sl2]
    iterate 4 (refine ptY rfl rfl (by kernel_rfl) (by rfl) (by intro w u; (try dsimp only at u); go_simp <;> with_reducible rfl) ‹_› (fun _ _ _ h => h) ?_; simp only [Act.put, sl0, sl1, sl2])
    refine wpAnyH_ready (rs := [5]) (by kernel_rfl) (by simp) ?_
    refine AllReadyH.cons rfl (fun K hK => ?_) AllReadyH.nil
    go_simp
    go_at_call 191; refine (KR1.out _ HZ0.out).mono ?_
    rintro e w4 ⟨rfl, hb4⟩
    have hz4 := bl_trans HZ0.out hb4
    refine hK.out _ _ (HSC.out _ hz4) (fun hHeld => ?_)
    clear hK K
    try simp only [Act.put, sl0, sl1, sl2]
    iterate 12 (refine ptY rfl rfl (by kernel_rfl) (by rfl) (by intro w u; (try dsimp only at u); go_simp <;> with_reducible rfl) ‹_› (fun _ _ _ h => h) ?_; simp only [Act.put, sl0, sl1, sl2])
    refine wpAnyH_ready (rs := [18]) (by kernel_rfl) (by simp) ?_
    refine AllReadyH.cons rfl (fun K hK => ?_) AllReadyH.nil
    go_simp
    go_at_call 191; refine (KR2.out _ hz4).mono ?_
    rintro e w5 ⟨rfl, hb5⟩
    have hz5 := bl_trans hz4 hb5
    refine hK.out _ _ (HSC.out _ hz5) (fun hHeld => ?_)
    clear hK K
    try simp only [Act.put, sl0, sl1, sl2]
    iterate 2 (refine ptY rfl rfl (by kernel_rfl) (by rfl) (by intro w u; (try dsimp only at u); go_simp <;> with_reducible rfl) ‹_› (fun _ _ _ h => h) ?_; simp only [Act.put, sl0, sl1, sl2])
    refine wpAnyH_done (by kernel_rfl) ?_ _
    replace HBr := Lib.hid (HBr.out.keep hz5)
    replace HF := Lib.hid (HF.out.keep hz5)
    clear hb4 hz4 hb5 hz5 HSC HZ0 HS1 KR1 KR2
    go_wp2
    go_roundw
    case rel => exact ⟨i + 1, by omega, by omega, by go_num, H1', HF⟩
    case measure => (simp [intOf] <;> omega)
  ·by_cases hn : 1 ≤ n ∧ n ≤ 7
   rotate_left
   ·have Hn : Hid (imB L R = false) := im_len (by rw [← HN.out]; exact hn)
    have KW : Hid (decide ((1 : Int) ≤ (n : Int) ∧ (n : Int) ≤ 7) = false) := by show _ = _; exact decide_eq_false (by omega)
    clear hn
    by_cases hil : i < n
    ·have i1 : (i : Int) < (n : Int) := by omega
     have i2 : (k : Int) ≤ (i : Int) := by omega
     clear hin
     go_wp2_with fail
     refine (l1In_b (n := (n : Int)) (lo := 1) (hi := 7) wr KW.out).mono ?_
     rintro e w6 ⟨rfl, hb6⟩
     replace HBr := Lib.hid (HBr.out.keep hb6)
     clear hb6
     go_wp2
     go_ret
     exact ⟨ret_bool Hn.out.symm, HBr.out.below⟩
    ·have i1 : (n : Int) ≤ (i : Int) := by omega
     clear hin
     go_wp2_with fail
     refine (l1In_b (n := (n : Int)) (lo := 1) (hi := 7) wr KW.out).mono ?_
     rintro e w7 ⟨rfl, hb7⟩
     replace HBr := Lib.hid (HBr.out.keep hb7)
     clear hb7
     go_wp2
     go_ret
     exact ⟨ret_bool Hn.out.symm, HBr.out.below⟩
   have KW : Hid (decide ((1 : Int) ≤ (n : Int) ∧ (n : Int) ≤ 7) = true) := by show _ = _; exact decide_eq_true (by omega)
   by_cases hnk : k = n
   rotate_left
   ·have Hn : Hid (imB L R = false) := im_same (by rw [← HN.out, ← HK.out]; exact hnk)
    have d1 : ((k : Int) == (n : Int)) = false := by simp; omega
    have d2 : (k = n) = False := by simp; omega
    by_cases hil : i < n
    ·have i1 : (i : Int) < (n : Int) := by omega
     have i2 : (k : Int) ≤ (i : Int) := by omega
     clear hin hn hnk
     go_wp2_with fail
     refine (l1In_b (n := (n : Int)) (lo := 1) (hi := 7) wr KW.out).mono ?_
     rintro e w8 ⟨rfl, hb8⟩
     clear e0 e1
     replace HBr := Lib.hid (HBr.out.keep hb8)
     replace HIr := Lib.hid (HIr.out.keep hb8)
     clear hb8
     have e0 := HIr.out.c0
     have e1 := HIr.out.c1
     go_wp2
     go_ret
     exact ⟨ret_bool Hn.out.symm, HBr.out.below⟩
    ·have i1 : (n : Int) ≤ (i : Int) := by omega
     clear hin hn hnk
     go_wp2_with fail
     refine (l1In_b (n := (n : Int)) (lo := 1) (hi := 7) wr KW.out).mono ?_
     rintro e w9 ⟨rfl, hb9⟩
     clear e0 e1
     replace HBr := Lib.hid (HBr.out.keep hb9)
     replace HIr := Lib.hid (HIr.out.keep hb9)
     clear hb9
     have e0 := HIr.out.c0
     have e1 := HIr.out.c1
     go_wp2
     go_ret
     exact ⟨ret_bool Hn.out.symm, HBr.out.below⟩
   subst hnk
   have Hy : Hid (imB L R = true) := im_yes (by rw [← HN.out]; exact hn) (by rw [← HN.out, ← HK.out]) (by
    rw [← HN.out]
    have e : i = k := by omega
    rw [← e]; exact H1.out)
   have i1 : (k : Int) ≤ (i : Int) := by omega
   have d1 : ((k : Int) == (k : Int)) = true := by simp
   clear hin hn
   go_wp2_with fail
   refine (l1In_b (n := (k : Int)) (lo := 1) (hi := 7) wr KW.out).mono ?_
   rintro e w10 ⟨rfl, hb10⟩
   clear e0 e1
   replace HBr := Lib.hid (HBr.out.keep hb10)
   replace HIr := Lib.hid (HIr.out.keep hb10)
   clear hb10
   have e0 := HIr.out.c0
   have e1 := HIr.out.c1
   go_wp2
   go_ret
   exact ⟨ret_bool Hy.out.symm, HBr.out.below⟩
end Go.Proofs.YtdpkbfiggbcclaaGreat
