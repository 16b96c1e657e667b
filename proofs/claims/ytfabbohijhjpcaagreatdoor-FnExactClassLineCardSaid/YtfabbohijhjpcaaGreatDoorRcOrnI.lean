/-
-/
import Derived.Test.YtfabbohijhjpcaaGreatDoorRcOrnQ
import Derived.Test.YtfabbohijhjpcaaGreatDoorRcOriJ
import Derived.Test.YtfabbohijhjpcaaGreatDoorRcAntI
import Derived.Test.YtfabbohijhjpcaaGreatDoorRcGB
import Derived.Test.YtfabbohijhjpcaaGreatDoorRcTake
namespace Go.Proofs.YtfabbohijhjpcaaGreatDoor
open Go.RowKit
theorem made_all (n : Nat) (hn : n ≤ 1048576) : ∃ o : Obj, ∀ z : World, (Instr.makeSlice 24 (.int .i64 (n : Int)) (.int .i64 (n : Int))).run Tryz.prog z = .ok (.slice (some ⟨z.heap.size, 0, none⟩) n n) (z.alloc o) ∧ Own (z.alloc o) z.heap.size (z.heap.size + 1) 3 1 (some ⟨z.heap.size, 0, none⟩) n n (fun _ => .int .i64 0) := by
 refine ⟨_, fun z => ⟨run_make_row' (P := Tryz.prog) 24 3 (.int .i64 0) 8 Tryz.underlying24 info_int rfl .i64 .i64 n (by omega) (by omega) z, ?_⟩⟩
 obtain ⟨cc, q1, q2, q3⟩ := World.rowIs_made z (.int .i64 0) n 3
 exact .inr ⟨_, cc, rfl, Nat.le_refl _, Nat.lt_succ_self _, q1, Nat.le_refl _, by unfold maxLen; omega, by omega, fun j hj => by rw [q3 j (by omega)]⟩
def lenV : Value → Nat
 | .slice _ n _ => n
 | _ => 0
theorem fuel_pos {f k : Nat} (h : k < f) : ∃ g, f = g + 1 := ⟨f - 1, by omega⟩
structure StN (n : Nat) : Prop where
 t : True
theorem StN.up {n : Nat} (k : Nat) (_ : StN n) : StN (n + k) := ⟨trivial⟩
theorem QB.set {w : World} {q : Nat} {u v : Value} (h : QB w q v) : QB (w.setCell ⟨q, 0, none⟩ u) q u := by
 have h0 := h.c
 have h1 := h.f
 constructor <;> simp [go_sem, h0, h1]
section
variable {A : Option Addr} {m c : Nat} {r : Nat → Nat} {w : World}
set_option maxRecDepth 100000 in
set_option maxHeartbeats 6400000 in
theorem OrientationOf_v (h : GV w A m c r) :
 Calls Tryz.prog 145 #[.agg #[.int .i64 m, .slice A m c]] w (orQ w m (otO r m)) := by
 have hm7 := h.vg.n7
 have hm1 := h.vg.n1
 have HV := Lib.hid h.vg
 have HGw := Lib.hid h
 obtain ⟨W, hW⟩ : ∃ W : World, W = ((w.alloc (Obj.cells #[Value.int IntKind.i64 m, Value.slice A m c] 26)).alloc (Obj.cells #[Value.slice none 0 0] 115)) := ⟨_, rfl⟩
 have HBw : Hid (From w W) := by rw [hW]; exact (From.alloc _ _).alloc_ _
 have HC : Hid (GC W w.heap.size m A m c) := by rw [hW]; exact (GC.new _ _ _ _ _).keep ((Below.refl _ _).alloc (Nat.le_refl _) _)
 have HZ : Hid (QB W (w.heap.size + 1) (.slice none 0 0)) := by rw [hW]; constructor <;> simp [go_sem]
 have hqz : w.heap.size + 1 < W.heap.size := HZ.out.lt
 have HW := Lib.hid hW
 clear hW h
 go_enter Tryz.func145, Tryz.ntmps145
 go_upto_region 1 with fail
 go_cut [4, 5] from 15 to 103 (fun a b wx => ∃ (q5 q4 gl cl go : Nat), a = .pointer (some ⟨q5, 0, none⟩) ∧ b = .pointer (some ⟨q4, 0, none⟩) ∧ Hid (OSt w wx m go gl cl q4 q5 (w.heap.size + 1) r (fun _ => 0)) ∧ Hid (GC wx w.heap.size m A m c))
 case first =>
  obtain ⟨o, hmo⟩ := made_all m (by omega)
  have hmk : ∀ z : World, (Instr.makeSlice 24 (.int .i64 (m : Int)) (.int .i64 (m : Int))).run Tryz.prog z = .ok (.slice (some ⟨z.heap.size, 0, none⟩) m m) (z.alloc o) := fun z => (hmo z).1
  have HMO : Hid (∀ z : World, RW (z.alloc o) z.heap.size m m (fun _ => 0)) := fun z => ⟨(hmo z).2.congr (fun j _ => rfl), by omega⟩
  have KC : Hid (∀ z : World, From W z → Calls Tryz.prog 37 #[.agg #[.int .i64 m, .slice A m c]] z fun e w' => ∃ (gl cl : Nat), e = .returned (.agg #[.int .i64 m, .slice (some ⟨gl, 0, none⟩) m cl]) ∧ RW w' gl m cl r ∧ z.heap.size ≤ gl ∧ Below z.heap.size z w') := fun z hz => by
   refine (copyGraph_any (m : Int) A m c (fun v => (r v : Int)) z z.heap.size (HGw.out.keep (HBw.out.up hz).below).rd (Nat.le_refl _) (by omega)).mono ?_
   rintro e w' ⟨A6, c6, rfl, ho, hb⟩
   obtain ⟨gl, rfl, hgl, _, hR⟩ := RW.of ho (by omega)
   exact ⟨gl, c6, rfl, hR, Nat.le_trans (Nat.le_add_right _ 2) hgl, hb⟩
  have e0 := HC.out.c0
  have e1 := HC.out.c1
  have HSC : Hid (∀ z : World, Below W.heap.size W z → (Below W.heap.size W z ∧ z.cell? ⟨w.heap.size, 0, none⟩ = some (.int .i64 (m : Int)) ∧ z.cell? ⟨w.heap.size, 1, none⟩ = some (.slice A m c))) := fun z hz => ⟨hz, up_ hz e0, up_ hz e1⟩
  have HZ0 : Hid (Below W.heap.size W W.drew) := (Below.refl _ _).drew
  have HB : Hid (From W W.drew) := (From.refl W).drew
  replace HC : Hid (GC W.drew w.heap.size m A m c) := HC.out.drew
  replace HZ : Hid (QB W.drew (w.heap.size + 1) (.slice none 0 0)) := HZ.out.drew
  clear hmo e0 e1
  go_wp2
  rw [← HW.out]
  refine wp_region_held_drew (S := fun z => Below W.heap.size W z ∧ z.cell? ⟨w.heap.size, 0, none⟩ = some (.int .i64 (m : Int)) ∧ z.cell? ⟨w.heap.size, 1, none⟩ = some (.slice A m c)) (by kernel_rfl) (HSC.out _ HZ0.out) (fun hHeld => ?_)
  refine take_yes (i := 0) (d := 15) (v := ?va0) rfl rfl (by kernel_rfl) (by kernel_rfl) (by kernel_rfl) (fun _ _ _ h => h) (by rfl) ?ya0 (by assumption) ?ra0
  case ya0 => (intro w hSw; (try dsimp only at hSw); go_simp <;> with_reducible rfl)
  simp only [Act.put, sl0, sl1, sl2]
  refine take_yes (i := 2) (d := 17) (v := ?va1) rfl rfl (by kernel_rfl) (by kernel_rfl) (by kernel_rfl) (fun _ _ _ h => h) (by rfl) ?ya1 (by assumption) ?ra1
  case ya1 => (intro w hSw; (try dsimp only at hSw); go_simp <;> with_reducible rfl)
  simp only [Act.put, sl0, sl1, sl2]
  refine take_yes (i := 3) (d := 18) (v := ?va2) rfl rfl (by kernel_rfl) (by kernel_rfl) (by kernel_rfl) (fun _ _ _ h => h) (by rfl) ?ya2 (by assumption) ?ra2
  case ya2 => (intro w hSw; (try dsimp only at hSw); go_simp <;> with_reducible rfl)
  simp only [Act.put, sl0, sl1, sl2]
  refine take_yes (i := 4) (d := 19) (v := ?va3) rfl rfl (by kernel_rfl) (by kernel_rfl) (by kernel_rfl) (fun _ _ _ h => h) (by rfl) ?ya3 (by assumption) ?ra3
  case ya3 => (intro w hSw; (try dsimp only at hSw); go_simp <;> with_reducible rfl)
  simp only [Act.put, sl0, sl1, sl2]
  obtain ⟨z, hz⟩ : ∃ z : World, z = W.drew := ⟨_, rfl⟩
  rw [← hz] at HB HC HZ hHeld ⊢
  clear hz HZ0
  have hSt : StN 0 := ⟨trivial⟩
  repeat' (first
   | (have _h : StN 63 := hSt; refine wpAnyH_done (by kernel_rfl) ?_ _; go_wp2; go_meet; exact ⟨q5, q4, gl, cl, go, rfl, rfl, ⟨HBw.out.up HB.out, Hs.out, Hc.out, Hm.out, Ht.out, HZ.out, (by omega)⟩, HC⟩)
   | (have _h : StN 0 := hSt; clear _h; refine wpAnyH_ready (rs := [1, 5, 7, 8]) (by kernel_rfl) (by simp) ?_)
   | (have _h : StN 1 := hSt; clear _h; refine wpAnyH_ready (rs := [5, 7, 8]) (by kernel_rfl) (by simp) ?_)
   | (have _h : StN 2 := hSt; clear _h; refine wpAnyH_ready (rs := [1, 7, 8]) (by kernel_rfl) (by simp) ?_)
   | (have _h : StN 3 := hSt; clear _h; refine wpAnyH_ready (rs := [7, 8]) (by kernel_rfl) (by simp) ?_)
   | (have _h : StN 4 := hSt; clear _h; refine wpAnyH_ready (rs := [1, 5, 8]) (by kernel_rfl) (by simp) ?_)
   | (have _h : StN 5 := hSt; clear _h; refine wpAnyH_ready (rs := [5, 8]) (by kernel_rfl) (by simp) ?_)
   | (have _h : StN 6 := hSt; clear _h; refine wpAnyH_ready (rs := [1, 8]) (by kernel_rfl) (by simp) ?_)
   | (have _h : StN 7 := hSt; clear _h; refine wpAnyH_ready (rs := [8]) (by kernel_rfl) (by simp) ?_)
   | (have _h : StN 8 := hSt; clear _h; refine wpAnyH_ready (rs := [1, 5, 7]) (by kernel_rfl) (by simp) ?_)
   | (have _h : StN 9 := hSt; clear _h; refine wpAnyH_ready (rs := [5, 7]) (by kernel_rfl) (by simp) ?_)
   | (have _h : StN 10 := hSt; clear _h; refine wpAnyH_ready (rs := [1, 7]) (by kernel_rfl) (by simp) ?_)
   | (have _h : StN 11 := hSt; clear _h; refine wpAnyH_ready (rs := [7]) (by kernel_rfl) (by simp) ?_)
   | (have _h : StN 12 := hSt; clear _h; refine wpAnyH_ready (rs := [1, 5]) (by kernel_rfl) (by simp) ?_)
   | (have _h : StN 13 := hSt; clear _h; refine wpAnyH_ready (rs := [5, 9]) (by kernel_rfl) (by simp) ?_)
   | (have _h : StN 14 := hSt; clear _h; refine wpAnyH_ready (rs := [1]) (by kernel_rfl) (by simp) ?_)
   | (have _h : StN 15 := hSt; clear _h; refine wpAnyH_ready (rs := [9]) (by kernel_rfl) (by simp) ?_)
   | (have _h : StN 29 := hSt; clear _h; refine wpAnyH_ready (rs := [5]) (by kernel_rfl) (by simp) ?_)
   | (have _h : StN 31 := hSt; clear _h; refine wpAnyH_ready (rs := [10]) (by kernel_rfl) (by simp) ?_)
   | (exact AllReadyH.nil)
   | (refine AllReadyH.cons rfl (fun K hK => ?_) ?_)
   | ((try (have n0 := Ha.out.c0; have n1 := Ha.out.c1; have n2 := Ha.out.f0; have n3 := Ha.out.f1)); (try (have n4 := Hb.out.c; have n5 := Hb.out.f)); go_simp; (try clear n0 n1 n2 n3); (try clear n4 n5); first
       | (go_at_call 37; refine (KC.out _ HB.out).mono ?_; rintro e z ⟨gl, cl, rfl, hR, hgl, hb⟩; (try have omc : go < gl := Nat.lt_of_lt_of_le Hm.out.lt hgl); (try have oac : q5 < gl := Nat.lt_of_lt_of_le Ha.out.lt hgl); (try have obc : q4 < gl := Nat.lt_of_lt_of_le Hb.out.lt hgl); (try have osc : q5 < gl := Nat.lt_of_lt_of_le Hs.out.lt hgl); have ow := Nat.le_trans HB.out.below.size hgl; have Hc := Lib.hid hR; (try replace Hm := Lib.hid (Hm.out.keep hb)); (try replace Ha := Lib.hid (Ha.out.keep hb)); (try replace Hs := Lib.hid (Hs.out.keep hb)); (try replace Hb := Lib.hid (Hb.out.keep hb)); replace HB := Lib.hid (HB.out.keep hb); replace HC := Lib.hid (HC.out.keep hb); replace HZ := Lib.hid (HZ.out.keep hb); clear hR hgl hb; replace hSt := hSt.up 1; refine hK.out _ _ (HSC.out _ HB.out.below) (fun hHeld => ?_); clear hK K; (try simp only [Act.put, sl0, sl1, sl2]))
       | (have hb := (Below.refl z.heap.size z).alloc (Nat.le_refl _) (o); have hm := HMO.out z; obtain ⟨go, hg⟩ : ∃ g, g = z.heap.size := ⟨_, rfl⟩; (try have ocm : gl < go := (by rw [hg]; exact Hc.out.lt)); (try have oam : q5 < go := (by rw [hg]; exact Ha.out.lt)); (try have obm : q4 < go := (by rw [hg]; exact Hb.out.lt)); (try have osm : q5 < go := (by rw [hg]; exact Hs.out.lt)); have owm : W.heap.size ≤ go := (by rw [hg]; exact HB.out.below.size); rw [← hg] at hm; obtain ⟨z, hz⟩ : ∃ y : World, y = z.alloc (o) := ⟨_, rfl⟩; rw [← hz, ← hg]; rw [← hz] at hm hb; have Hm := Lib.hid hm; (try replace Hc := Lib.hid (Hc.out.keep hb)); (try replace Ha := Lib.hid (Ha.out.keep hb)); (try replace Hs := Lib.hid (Hs.out.keep hb)); (try replace Hb := Lib.hid (Hb.out.keep hb)); replace HB := Lib.hid (HB.out.keep hb); replace HC := Lib.hid (HC.out.keep hb); replace HZ := Lib.hid (HZ.out.keep hb); clear hm hb hz hg; replace hSt := hSt.up 2; refine hK.out _ _ (HSC.out _ HB.out.below) (fun hHeld => ?_); clear hK K; (try simp only [Act.put, sl0, sl1, sl2]); refine take_yes (i := 6) (d := 21) (v := .agg #[.slice (some ⟨go, 0, none⟩) m m]) rfl rfl (by kernel_rfl) (by kernel_rfl) (by kernel_rfl) (fun _ _ _ h => h) (by rfl) (by intro w hSw; (try dsimp only at hSw); go_simp <;> with_reducible rfl) (by assumption) ?_; simp only [Act.put, sl0, sl1, sl2])
       | (have hb := (Below.refl z.heap.size z).alloc (Nat.le_refl _) (Obj.cells #[Value.int IntKind.i64 0, Value.slice none 0 0] 26); have hm := GC.new z 0 none 0 0; obtain ⟨q5, hg⟩ : ∃ g, g = z.heap.size := ⟨_, rfl⟩; (try have oca : gl < q5 := (by rw [hg]; exact Hc.out.lt)); (try have oma : go < q5 := (by rw [hg]; exact Hm.out.lt)); (try have oba : q4 < q5 := (by rw [hg]; exact Hb.out.lt)); (try have osa : q5 < q5 := (by rw [hg]; exact Hs.out.lt)); have owa : W.heap.size ≤ q5 := (by rw [hg]; exact HB.out.below.size); rw [← hg] at hm; obtain ⟨z, hz⟩ : ∃ y : World, y = z.alloc (Obj.cells #[Value.int IntKind.i64 0, Value.slice none 0 0] 26) := ⟨_, rfl⟩; rw [← hz, ← hg]; rw [← hz] at hm hb; have Ha := Lib.hid hm; (try replace Hc := Lib.hid (Hc.out.keep hb)); (try replace Hm := Lib.hid (Hm.out.keep hb)); (try replace Hs := Lib.hid (Hs.out.keep hb)); (try replace Hb := Lib.hid (Hb.out.keep hb)); replace HB := Lib.hid (HB.out.keep hb); replace HC := Lib.hid (HC.out.keep hb); replace HZ := Lib.hid (HZ.out.keep hb); clear hm hb hz hg; replace hSt := hSt.up 4; refine hK.out _ _ (HSC.out _ HB.out.below) (fun hHeld => ?_); clear hK K; (try simp only [Act.put, sl0, sl1, sl2]))
       | (have hb := (Below.refl z.heap.size z).alloc (Nat.le_refl _) (Obj.cells #[Value.slice none 0 0] 115); have hm := (show QB (z.alloc (Obj.cells #[Value.slice none 0 0] 115)) z.heap.size (.slice none 0 0) from (by constructor <;> simp [go_sem])); obtain ⟨q4, hg⟩ : ∃ g, g = z.heap.size := ⟨_, rfl⟩; (try have ocb : gl < q4 := (by rw [hg]; exact Hc.out.lt)); (try have omb : go < q4 := (by rw [hg]; exact Hm.out.lt)); (try have oab : q5 < q4 := (by rw [hg]; exact Ha.out.lt)); (try have osb : q5 < q4 := (by rw [hg]; exact Hs.out.lt)); have owb : W.heap.size ≤ q4 := (by rw [hg]; exact HB.out.below.size); rw [← hg] at hm; obtain ⟨z, hz⟩ : ∃ y : World, y = z.alloc (Obj.cells #[Value.slice none 0 0] 115) := ⟨_, rfl⟩; rw [← hz, ← hg]; rw [← hz] at hm hb; have Hb := Lib.hid hm; (try replace Hc := Lib.hid (Hc.out.keep hb)); (try replace Hm := Lib.hid (Hm.out.keep hb)); (try replace Ha := Lib.hid (Ha.out.keep hb)); (try replace Hs := Lib.hid (Hs.out.keep hb)); replace HB := Lib.hid (HB.out.keep hb); replace HC := Lib.hid (HC.out.keep hb); replace HZ := Lib.hid (HZ.out.keep hb); clear hm hb hz hg; replace hSt := hSt.up 8; refine hK.out _ _ (HSC.out _ HB.out.below) (fun hHeld => ?_); clear hK K; (try simp only [Act.put, sl0, sl1, sl2]))
       | (have hF := fr2 z q5 (.int .i64 (m : Int)) (.slice (some ⟨gl, 0, none⟩) m cl); have hB := Lib.hid (HB.out.set (q := q5) (by omega) (.int .i64 (m : Int)) (.slice (some ⟨gl, 0, none⟩) m cl)); have hs : GC _ q5 m (some ⟨gl, 0, none⟩) m cl := Ha.out.set; obtain ⟨z, hz⟩ : ∃ y : World, y = ((z.setCell ⟨q5, 0, none⟩ (.int .i64 (m : Int))).setCell ⟨q5, 1, none⟩ (.slice (some ⟨gl, 0, none⟩) m cl)) := ⟨_, rfl⟩; rw [← hz]; rw [← hz] at hF hB hs; have Hs := Lib.hid hs; clear Ha hs; replace HB := hB; clear hB; (try replace Hc := Lib.hid (Hc.out.keepF hF (by omega))); (try replace Hm := Lib.hid (Hm.out.keepF hF (by omega))); (try replace Hb := Lib.hid (Hb.out.keepF hF (by omega))); replace HC := Lib.hid (HC.out.keepF hF (by omega)); replace HZ := Lib.hid (HZ.out.keepF hF (by omega)); clear hF hz; replace hSt := hSt.up 16; refine hK.out _ _ (HSC.out _ HB.out.below) (fun hHeld => ?_); clear hK K; (try simp only [Act.put, sl0, sl1, sl2]))
       | (have hF : Fr q4 (q4 + 1) z (z.setCell ⟨q4, 0, none⟩ (.slice (some ⟨go, 0, none⟩) m m)) := fr_set z; have hB : Hid (From W (z.setCell ⟨q4, 0, none⟩ (.slice (some ⟨go, 0, none⟩) m m))) := ⟨bl_set HB.out.below (by omega)⟩; have hs : QB (z.setCell ⟨q4, 0, none⟩ (.slice (some ⟨go, 0, none⟩) m m)) q4 (.slice (some ⟨go, 0, none⟩) m m) := Hb.out.set; obtain ⟨z, hz⟩ : ∃ y : World, y = z.setCell ⟨q4, 0, none⟩ (.slice (some ⟨go, 0, none⟩) m m) := ⟨_, rfl⟩; rw [← hz]; rw [← hz] at hF hB hs; have Ht := Lib.hid hs; clear Hb hs; replace HB := hB; clear hB; (try replace Hc := Lib.hid (Hc.out.keepF hF (by omega))); (try replace Hm := Lib.hid (Hm.out.keepF hF (by omega))); (try replace Ha := Lib.hid (Ha.out.keepF hF (by omega))); (try replace Hs := Lib.hid (Hs.out.keepF hF (by omega))); replace HC := Lib.hid (HC.out.keepF hF (by omega)); replace HZ := Lib.hid (HZ.out.keepF hF (by omega)); clear hF hz; replace hSt := hSt.up 32; refine hK.out _ _ (HSC.out _ HB.out.below) (fun hHeld => ?_); clear hK K; (try simp only [Act.put, sl0, sl1, sl2]))
       | fail)
   | fail)
 case rest =>
  clear HC HZ HBw HW hqz
  obtain ⟨q5, q4, gl, cl, go, rfl, rfl, HS, HCg⟩ := hcut
  obtain ⟨wx, rfl⟩ : ∃ z : World, z = wc := ⟨_, rfl⟩
  have HBx : Hid (From w wx) := HS.out.B
  obtain ⟨qz, hqz⟩ : ∃ qz, qz = w.heap.size + 1 := ⟨_, rfl⟩
  rw [← hqz] at HS ⊢
  clear hqz
  have e0 := HCg.out.c0
  have e1 := HCg.out.c1
  go_wp2_with fail
  refine (IsGraph_v (HGw.out.keep HBx.out.below)).mono ?_
  rintro e w1 ⟨rfl, hb1⟩
  clear e0 e1
  replace HS := Lib.hid (HS.out.keep hb1)
  replace HCg := Lib.hid (HCg.out.keep hb1)
  clear hb1
  have e0 := HCg.out.c0
  have e1 := HCg.out.c1
  have hz1 : w.heap.size ≤ w1.heap.size := HS.out.B.below.size
  have d0 := HS.out.L.c0
  have d1 := HS.out.L.c1
  clear e0 e1
  go_wp2_with fail
  refine (EdgesOf_v (HS.out.R.gv HV.out)).mono ?_
  rintro e w2 ⟨A5, c5, rfl, ho5, hb2⟩
  have HE5 : Hid (OC w.heap.size w2.heap.size w2 A5 c5 (edN r m)) := ho5.mono hz1
  replace HS := Lib.hid (HS.out.keep hb2)
  clear hb2 ho5 HCg HBx d0 d1 hz1
  go_wp2
  go_loopw [6] (fun e wr => ∃ (f : Nat) (rr tt : Nat → Nat) (A5 : Option Addr) (c5 hi : Nat), e = .slice A5 (edN rr m).length c5 ∧ (edN rr m).length < f ∧ Hid (otF m f rr tt = otO r m) ∧ Hid (VG m rr) ∧ Hid (tIn m r tt) ∧ Hid (∀ i j, (rr i).testBit j = true → (r i).testBit j = true) ∧ Hid (OSt w wr m go gl cl q4 q5 qz rr tt) ∧ Hid (OC w.heap.size hi wr A5 c5 (edN rr m))) (fun e _ => lenV e)
  case atStart => exact ⟨22, r, fun _ => 0, A5, c5, _, rfl, by have := edN_len (r := r) hm7; omega, rfl, HV, (fun v _ u hu => by rw [Nat.zero_testBit] at hu; cases hu), (fun _ _ h => h), HS, HE5⟩
  case round =>
   clear HS HE5
   obtain ⟨f, rr, tt, A5, c5, hi, rfl, hf, HF, HVr, HTI, HSub, HS, HE5⟩ := hrel
   obtain ⟨f, rfl⟩ := fuel_pos hf
   obtain ⟨n, hn⟩ : ∃ n, n = (edN rr m).length := ⟨_, rfl⟩
   have hn21 : n ≤ 21 := by rw [hn]; exact edN_len hm7
   have HN := Lib.hid hn
   rw [← hn] at hf ⊢
   clear hn
   cases he : edN rr m with
   | nil =>
     have h0 : n = 0 := by rw [HN.out, he]; rfl
     subst h0
     have HE : Hid (otO r m = some tt) := by show _ = _; rw [← HF.out]; exact otF_nil he
     clear he
     have z0 := HS.out.Z.c
     have z1 := HS.out.Z.f
     have z2 := HS.out.O.c
     go_wp2
     exact bodyPost_ret (v := .tuple #[.agg #[.slice (some ⟨go, 0, none⟩) m m], .bool true]) (by simp [results, Tryz.results145, go_sem, *]) rfl (by rw [HE.out]; exact HS.out.done)
   | cons p l =>
     have hpm : p ∈ edN rr m := by rw [he]; exact List.mem_cons_self
     obtain ⟨⟨hp12, hp2⟩, hpb⟩ := mem_edN.1 hpm
     have hp1 : p.1 < m := by omega
     have hn0 : 0 < n := by rw [HN.out, he]; simp
     have i1 : (0 : Int) < (n : Int) := by omega
     obtain ⟨k1, k2, k3⟩ := fcO_arcs HVr.out hpm
     have HE0 : Hid ((edN rr m)[0]? = some p) := by show _ = _; rw [he]; rfl
     have HL3 := Lib.hid k3
     have HL2 := Lib.hid k2
     have HHe := Lib.hid he
     have HPM := Lib.hid hpm
     clear k1 k2 k3 he
     obtain ⟨b9, rfl⟩ := HE5.out.addr (by rw [← HN.out]; exact hn0)
     obtain ⟨ga, capa, q0, _, hac⟩ := HE5.out.arc (k := 0) (by rw [← HN.out]; exact hn0)
     have hp0 : (edN rr m)[0]'(by rw [← HN.out]; exact hn0) = p := by
      have := List.getElem?_eq_getElem (l := edN rr m) (i := 0) (by rw [← HN.out]; exact hn0)
      rw [HE0.out] at this
      exact (Option.some.inj this).symm
     rw [hp0] at hac
     have q1 := hac.c0
     have q2 := hac.c1
     have hcap := hac.le
     have j2 : (1 : Int) < (capa : Int) := by omega
     clear hac hp0 HE0 HE5
     have KF : Hid (∀ z : World, GV z (some ⟨gl, 0, none⟩) m cl rr → Calls Tryz.prog 219 #[.agg #[.int .i64 m, .slice (some ⟨gl, 0, none⟩) m cl], .int .i64 (p.1 : Int), .int .i64 (p.2 : Int)] z fun e w' => ∃ (g c' gf cf : Nat), e = .returned (.tuple #[.slice (some ⟨g, 0, none⟩) (fcO rr m p.1 p.2).length c', .slice (some ⟨gf, 0, none⟩) (fcO rr m p.1 p.2).length cf]) ∧ OB (fun _ => True) z.heap.size w' g c' (fcO rr m p.1 p.2) ∧ Below z.heap.size z w') := fun z hz => forced_v hz hp1 hp2 hpb
     obtain ⟨L, hL⟩ : ∃ L, L = fcO rr m p.1 p.2 := ⟨_, rfl⟩
     have hL64 : L.length ≤ 64 := by rw [hL]; exact fcI_len HVr.out hp1 hp2 hpb 64
     rw [← hL] at KF HL3 HL2
     have HL := Lib.hid hL
     obtain ⟨p1, p2⟩ := p
     dsimp only at q1 q2 KF hp1 hp2 hp12 hpb
     clear hL
     go_wp2
     have HSC : Hid (∀ z : World, Below wr.heap.size wr z → (Below wr.heap.size wr z ∧ z.cell? ⟨b9, 0, none⟩ = some (.slice (some ⟨ga, 0, none⟩) 2 capa) ∧ z.cell? ⟨ga, 0, none⟩ = some (.int .i64 (p1 : Nat)) ∧ z.cell? ⟨ga, 1, none⟩ = some (.int .i64 (p2 : Nat)))) := fun z hz => ⟨hz, up_ hz q0, up_ hz q1, up_ hz q2⟩
     have HZ0 : Hid (Below wr.heap.size wr wr.drew) := (Below.refl _ _).drew
     have HS1 := Lib.hid (HSC.out _ HZ0.out)
     refine wp_region_held_drew (S := fun z => Below wr.heap.size wr z ∧ z.cell? ⟨b9, 0, none⟩ = some (.slice (some ⟨ga, 0, none⟩) 2 capa) ∧ z.cell? ⟨ga, 0, none⟩ = some (.int .i64 (p1 : Nat)) ∧ z.cell? ⟨ga, 1, none⟩ = some (.int .i64 (p2 : Nat))) (by kernel_rfl) HS1.out (fun hHeld => ?_)
     refine pcY 0 rfl rfl (by kernel_rfl) (by rfl) (by intro w u; (try dsimp only at u); go_simp <;> with_reducible rfl) ‹_› (fun _ _ _ h => h) ?_; simp only [Act.put, sl0, sl1, sl2]
     iterate 11 (refine ptY rfl rfl (by kernel_rfl) (by rfl) (by intro w u; (try dsimp only at u); go_simp <;> with_reducible rfl) ‹_› (fun _ _ _ h => h) ?_; simp only [Act.put, sl0, sl1, sl2])
     refine wpAnyH_done (by kernel_rfl) ?_ _
     replace HS := Lib.hid (HS.out.keep HZ0.out)
     clear HSC HZ0 HS1
     clear q0 q1 q2
     obtain ⟨wy, hwy⟩ : ∃ z : World, z = wr.drew := ⟨_, rfl⟩
     rw [← hwy] at HS ⊢
     clear hwy
     have e0 := HS.out.L.c0
     have e1 := HS.out.L.c1
     have hS3 := HS.out.blocks
     go_wp2_with fail
     refine (KF.out _ (HS.out.R.gv HVr.out)).mono ?_
     rintro e w7 ⟨g7, c7, gf, cf, rfl, ho7, hb7⟩
     have h7l : wy.heap.size ≤ g7 := ho7.l
     have H7a : Hid (OC wy.heap.size w7.heap.size w7 (some ⟨g7, 0, none⟩) c7 L) := ho7.oc
     have hZ01a := hb7.size
     replace HS := Lib.hid (HS.out.keep hb7)
     clear hb7 ho7 KF e0 e1
     obtain ⟨W8, hW8⟩ : ∃ W8 : World, W8 = (w7.alloc (Obj.cells #[.int .i64 (p2 : Int), .int .i64 (p1 : Int)] 3)) := ⟨_, rfl⟩
     have hb8 : Below w7.heap.size w7 W8 := by rw [hW8]; exact (Below.refl _ _).alloc (Nat.le_refl _) _
     have HA8 : Hid (AC W8 w7.heap.size 2 (p2, p1)) := by rw [hW8]; exact AC.new w7 p2 p1
     have H78 : Hid (OC wy.heap.size w7.heap.size W8 (some ⟨g7, 0, none⟩) c7 L) := H7a.out.keep hb8
     obtain ⟨Z0, hZ0⟩ : ∃ Z, Z = wy.heap.size := ⟨_, rfl⟩
     obtain ⟨Z1, hZ1⟩ : ∃ Z, Z = w7.heap.size := ⟨_, rfl⟩
     have KI := Lib.hid (indexOf_v H78.out HA8.out (by omega))
     rw [← hZ0] at hS3 h7l hZ01a
     rw [← hZ0, ← hZ1] at H78
     rw [← hZ1] at hZ01a KI
     obtain ⟨z, hz⟩ : ∃ z, z = ixL L (p2, p1) := ⟨_, rfl⟩
     have hzd := ixL_neg (L := L) (p := (p2, p1))
     rw [← hz] at KI hzd
     have HW8 := Lib.hid hW8
     have HZ1 := Lib.hid hZ1
     clear hz hZ0 hZ1 hW8 HA8 H7a
     cases hc : L.contains (p2, p1)
     rotate_left
     ·rw [hc] at hzd
      have hz0 : ¬ z < 0 := by simpa using hzd
      have hz2 : 0 ≤ z := by omega
      have HE : Hid (otO r m = none) := by show _ = _; rw [← HF.out]; exact otF_bad HHe.out (by rw [← HL.out]; exact hc)
      clear hc hzd
      go_wp2_with fail
      rw [← HW8.out, ← HZ1.out]
      refine KI.out.mono ?_
      rintro e w9 ⟨rfl, hb9⟩
      replace HS := Lib.hid ((HS.out.keep hb8).keep hb9)
      have z0 := HS.out.Z.c
      have z1 := HS.out.Z.f
      clear KI HW8 hb8 hb9 H78
      go_wp2
      exact bodyPost_ret (v := .tuple #[.agg #[.slice none 0 0], .bool false]) (by simp [results, Tryz.results145, go_sem, *]) rfl (by rw [HE.out]; exact HS.out.stop)
     rw [hc] at hzd
     have hz0 : z < 0 := by simpa using hzd
     have hz2 : ¬ 0 ≤ z := by omega
     have HFn : Hid (otF m f (rmL rr L) (orL tt L) = otO r m) := by show _ = _; rw [← HF.out, HL.out]; exact (otF_go HHe.out (by rw [← HL.out]; exact hc)).symm
     have HArc : Hid (∀ q ∈ L, q.1 < m ∧ q.2 < m ∧ q.1 ≠ q.2) := fun q hq => ⟨(HL3.out q hq).1, (HL3.out q hq).2.1, arc_ne HVr.out (HL3.out q hq).1 (HL3.out q hq).2.2⟩
     clear hc hzd HHe HF
     go_wp2_with fail
     rw [← HW8.out, ← HZ1.out]
     refine KI.out.mono ?_
     rintro e w9 ⟨rfl, hb9⟩
     have hb89 := (HW8.out ▸ hb8 : Below w7.heap.size w7 W8)
     have HZ9 : Hid (Z1 ≤ w9.heap.size) := by have h1 := hb8.size; have h2 := hb9.size; show _ ≤ _; rw [HZ1.out]; omega
     replace HS := Lib.hid ((HS.out.keep hb8).keep hb9)
     have H7 : Hid (OC Z0 Z1 w9 (some ⟨g7, 0, none⟩) c7 L) := H78.out.keep hb9
     clear KI HW8 hb8 hb9 H78 hb89 HZ1
     go_wp2
     go_loopw [59] (fun i wz => ∃ k : Nat, k ≤ L.length ∧ i = .int .i64 k ∧ Z1 ≤ wz.heap.size ∧ Hid (OSt w wz m go gl cl q4 q5 qz rr (orL tt (L.take k))) ∧ Hid (OC Z0 Z1 wz (some ⟨g7, 0, none⟩) c7 L)) (fun i _ => L.length - (intOf i).toNat)
     case atStart => exact ⟨0, Nat.zero_le _, rfl, HZ9.out, HS, H7⟩
     case round =>
      clear HS H7 HZ9
      obtain ⟨k, hk, rfl, hZw, HS, H7⟩ := hrel
      by_cases hkl : k < L.length
      rotate_left
      ·obtain rfl : k = L.length := by omega
       have i2 : (L.length : Int) ≤ (L.length : Int) := Int.le_refl _
       rw [List.take_length] at HS
       have HSc : Hid (OSt w wr m go gl cl q4 q5 qz (rmL rr (L.take 0)) (orL tt L)) := HS.out
       go_wp2
       go_loopw [79] (fun i wz => ∃ k : Nat, k ≤ L.length ∧ i = .int .i64 k ∧ Z1 ≤ wz.heap.size ∧ Hid (OSt w wz m go gl cl q4 q5 qz (rmL rr (L.take k)) (orL tt L)) ∧ Hid (OC Z0 Z1 wz (some ⟨g7, 0, none⟩) c7 L)) (fun i _ => L.length - (intOf i).toNat)
       case atStart => exact ⟨0, Nat.zero_le _, rfl, hZw, HSc, H7⟩
       case round =>
        clear HSc HS H7 hZw
        obtain ⟨k, hk, rfl, hZw, HS, H7⟩ := hrel
        by_cases hkl : k < L.length
        rotate_left
        ·obtain rfl : k = L.length := by omega
         have i3 : (L.length : Int) ≤ (L.length : Int) := Int.le_refl _
         rw [List.take_length] at HS
         obtain ⟨g1, g2⟩ := rmL_vg L rr HVr.out HArc.out
         have hlt : (edN (rmL rr L) m).length < (edN rr m).length := edN_less g2 HPM.out HL2.out
         rw [← HN.out] at hlt
         have G1 := Lib.hid g1
         have G2 := Lib.hid g2
         have e0 := HS.out.L.c0
         have e1 := HS.out.L.c1
         have hwz : w.heap.size ≤ wr.heap.size := HS.out.B.below.size
         clear g1 g2 H7
         go_wp2_with fail
         refine (EdgesOf_v (HS.out.R.gv G1.out)).mono ?_
         rintro e w8 ⟨A8, c8, rfl, ho8, hb8⟩
         have HE8 : Hid (OC w.heap.size w8.heap.size w8 A8 c8 (edN (rmL rr L) m)) := ho8.mono hwz
         replace HS := Lib.hid (HS.out.keep hb8)
         clear ho8 hb8 e0 e1
         go_wp2
         go_roundw
         case rel => exact ⟨f, rmL rr L, orL tt L, A8, c8, _, rfl, by omega, HFn, G1, orL_in _ _ HTI.out (fun q hq => ⟨(HL3.out q hq).2.1, HSub.out _ _ (HL3.out q hq).2.2⟩), (fun i j hb => HSub.out i j (G2.out i j hb).1), HS, HE8⟩
         case measure => (simp [lenV] <;> omega)
        have i3 : (k : Int) < (L.length : Int) := by omega
        obtain ⟨gb, capb, q0, ⟨hgb1, hgb2⟩, hac⟩ := H7.out.arc hkl
        obtain ⟨a, ha⟩ : ∃ a, a = L[k] := ⟨_, rfl⟩
        rw [← ha] at hac
        have haL : a ∈ L := by rw [ha]; exact List.getElem_mem hkl
        obtain ⟨ha1, ha2, ha3⟩ := HArc.out a haL
        have HT2 : Hid (rmL rr (L.take (k + 1)) = rmP (rmL rr (L.take k)) a) := by show _ = _; rw [rmL_take hkl, ha]
        have HVk : Hid (VG m (rmL rr (L.take k))) := (rmL_vg (L.take k) rr HVr.out (fun q hq => HArc.out q (List.mem_of_mem_take hq))).1
        obtain ⟨r1, hr1⟩ : ∃ r1, r1 = rmL rr (L.take k) := ⟨_, rfl⟩
        rw [← hr1] at HT2 HVk HS
        have hx128 : r1 a.1 < 128 := HVk.out.lt128 ha1
        obtain ⟨a1, a2⟩ := a
        dsimp only at ha1 ha2 ha3 hx128
        have q1 := hac.c0
        have q2 := hac.c1
        have hcapb := hac.le
        have HA : Hid (AC wr gb capb (a1, a2)) := hac
        dsimp only at q1 q2
        have j1 : (1 : Int) < (capb : Int) := by omega
        have t0 := HS.out.R.cell ha1
        obtain ⟨x, hx⟩ : ∃ x, x = r1 a1 := ⟨_, rfl⟩
        obtain ⟨t, ht⟩ : ∃ t, t = x.testBit a2 := ⟨_, rfl⟩
        rw [← hx] at t0 hx128
        have KH : Hid (∀ z : World, Calls Tryz.prog 44 #[.int .i64 (x : Int), .int .i64 (a2 : Int)] z fun e w' => e = .returned (.bool t) ∧ Below z.heap.size z w') := fun z => by
         rw [ht]
         exact (has_v z hx128 (by omega)).mono fun e w' ⟨h1, h2⟩ => ⟨h1, by rw [← h2]; exact Below.refl _ _⟩
        have HTt : Hid (rmP r1 (a1, a2) = if t = true then addN r1 a1 a2 else r1) := by show _ = _; unfold rmP; rw [ht, hx]
        have m1 : (a1 : Int) < (m : Int) := by omega
        have e1 := HS.out.L.c1
        have HB' : Hid (Below wr.heap.size wr wr) := Below.refl _ _
        clear ha hr1 hx ht hac
        cases t
        ·skip
         have HSC : Hid (∀ z : World, Below wr.heap.size wr z → (Below wr.heap.size wr z ∧ z.cell? ⟨q5, 1, none⟩ = some (.slice (some ⟨gl, 0, none⟩) m cl) ∧ z.cell? ⟨gb, 0, none⟩ = some (.int .i64 (a1 : Nat)) ∧ z.cell? ⟨gb, 1, none⟩ = some (.int .i64 (a2 : Nat)) ∧ z.cell? ⟨gl, a1, none⟩ = some (.int .i64 (x : Nat)))) := fun z hz => ⟨hz, up_ hz e1, up_ hz q1, up_ hz q2, up_ hz t0⟩
         have HZ0 : Hid (Below wr.heap.size wr wr.drew) := (Below.refl _ _).drew
         have HS1 := Lib.hid (HSC.out _ HZ0.out)
         have KR1 : Hid (∀ z : World, Below wr.heap.size wr z → _) := fun z hz => KH.out z
         go_wp2
         go_region_held3 (fun z => Below wr.heap.size wr z ∧ z.cell? ⟨q5, 1, none⟩ = some (.slice (some ⟨gl, 0, none⟩) m cl) ∧ z.cell? ⟨gb, 0, none⟩ = some (.int .i64 (a1 : Nat)) ∧ z.cell? ⟨gb, 1, none⟩ = some (.int .i64 (a2 : Nat)) ∧ z.cell? ⟨gl, a1, none⟩ = some (.int .i64 (x : Nat)))
          (first | exact HS1.out | assumption | exact HSC.out _ hz2 | fail)
          (first | (go_at_call 44; ((with_reducible refine (KR1.out _ HZ0.out).mono ?_); rintro e w2 ⟨rfl, hb2⟩; have hz2 := bl_trans HZ0.out hb2)))
         replace HS := Lib.hid (HS.out.keep hz2)
         replace H7 := Lib.hid (H7.out.keep hz2)
         replace HA := Lib.hid (HA.out.keep hz2)
         clear hz2 HSC HZ0 HS1 KR1
         obtain ⟨wq, hwq⟩ : ∃ z : World, z = w2 := ⟨_, rfl⟩
         have hZ9 : Z1 ≤ wq.heap.size := by rw [hwq]; exact Nat.le_trans hZw hb2.size
         rw [← hwq] at HS H7 ⊢
         clear hwq hb2
         have HS9 : Hid (OSt w wq m go gl cl q4 q5 qz (rmL rr (L.take (k + 1))) (orL tt L)) := by show OSt _ _ _ _ _ _ _ _ _ _ _; rw [HT2.out, HTt.out]; exact HS.out
         clear KH HS q0 q1 q2 t0 e1 HA
         go_wp2
         go_roundw
         case rel => exact ⟨k + 1, by omega, by go_num, hZ9, HS9, H7⟩
         case measure => (simp [intOf] <;> omega)
        ·skip
         have hbl := HS.out.blocks
         have hdd := HS.out.d
         have hgbw : gb < wr.heap.size := HA.out.lt
         have HSC : Hid (∀ z : World, Below wr.heap.size wr z → (Below wr.heap.size wr z ∧ z.cell? ⟨q5, 1, none⟩ = some (.slice (some ⟨gl, 0, none⟩) m cl) ∧ z.cell? ⟨gb, 0, none⟩ = some (.int .i64 (a1 : Nat)) ∧ z.cell? ⟨gb, 1, none⟩ = some (.int .i64 (a2 : Nat)) ∧ z.cell? ⟨gl, a1, none⟩ = some (.int .i64 (x : Nat)))) := fun z hz => ⟨hz, up_ hz e1, up_ hz q1, up_ hz q2, up_ hz t0⟩
         have HZ0 : Hid (Below wr.heap.size wr wr.drew) := (Below.refl _ _).drew
         have HS1 := Lib.hid (HSC.out _ HZ0.out)
         have KR1 : Hid (∀ z : World, Below wr.heap.size wr z → _) := fun z hz => KH.out z
         go_wp2
         go_region_held3 (fun z => Below wr.heap.size wr z ∧ z.cell? ⟨q5, 1, none⟩ = some (.slice (some ⟨gl, 0, none⟩) m cl) ∧ z.cell? ⟨gb, 0, none⟩ = some (.int .i64 (a1 : Nat)) ∧ z.cell? ⟨gb, 1, none⟩ = some (.int .i64 (a2 : Nat)) ∧ z.cell? ⟨gl, a1, none⟩ = some (.int .i64 (x : Nat)))
          (first | exact HS1.out | assumption | exact HSC.out _ hz3 | fail)
          (first | (go_at_call 44; ((with_reducible refine (KR1.out _ HZ0.out).mono ?_); rintro e w3 ⟨rfl, hb3⟩; have hz3 := bl_trans HZ0.out hb3)))
         replace HS := Lib.hid (HS.out.keep hz3)
         replace H7 := Lib.hid (H7.out.keep hz3)
         replace HA := Lib.hid (HA.out.keep hz3)
         clear hz3 HSC HZ0 HS1 KR1
         obtain ⟨wq, hwq⟩ : ∃ z : World, z = w3 := ⟨_, rfl⟩
         have hZq : Z1 ≤ wq.heap.size := by rw [hwq]; exact Nat.le_trans hZw hb3.size
         have hgbq : gb < wq.heap.size := by rw [hwq]; exact Nat.lt_of_lt_of_le hgbw hb3.size
         rw [← hwq] at HS H7 HA ⊢
         clear hwq hb3 KH q0 q1 q2 t0 e1 hgbw
         have e0 := HS.out.L.c0
         have e1 := HS.out.L.c1
         have q1 := HA.out.c0
         have q2 := HA.out.c1
         dsimp only at q1 q2
         have hbq := HS.out.blocks
         have KD : Hid (Calls Tryz.prog 151 #[.agg #[.int .i64 (m : Int), .slice (some ⟨gl, 0, none⟩) m cl], .int .i64 (a1 : Int), .int .i64 (a2 : Int)] wq.drew fun e w' => e = .returned (.tuple #[]) ∧ RW w' gl m cl (rmP r1 (a1, a2)) ∧ Fr gl (gl + 1) wq w') := by
          refine (flip_any (m : Int) gl m cl r1 a1 a2 wq.drew gl (gl + 1) HS.out.R.drew.own HS.out.R.lt hm7 ha1 ha2 ha3 (fun j hj => HVk.out.lt128 hj)).mono ?_
          rintro e w' ⟨h1, h2, h3⟩
          have hq : rmP r1 (a1, a2) = addN r1 a1 a2 := by rw [HTt.out]; simp
          rw [hq]
          exact ⟨h1, ⟨h2, by omega⟩, (Fr.refl _ _ wq).drew.trans h3⟩
         go_wp2
         refine wp_region_held_drew (S := fun z => z.cell? ⟨q5, 0, none⟩ = some (.int .i64 (m : Int)) ∧ z.cell? ⟨q5, 1, none⟩ = some (.slice (some ⟨gl, 0, none⟩) m cl) ∧ z.cell? ⟨gb, 0, none⟩ = some (.int .i64 (a1 : Nat)) ∧ z.cell? ⟨gb, 1, none⟩ = some (.int .i64 (a2 : Nat))) (by kernel_rfl) ⟨e0, e1, q1, q2⟩ (fun hHeld => ?_)
         refine pcY 0 rfl rfl (by kernel_rfl) (by rfl) (by intro w u; (try dsimp only at u); go_simp <;> with_reducible rfl) ‹_› (fun _ _ _ h => h) ?_; simp only [Act.put, sl0, sl1, sl2]
         iterate 6 (refine ptY rfl rfl (by kernel_rfl) (by rfl) (by intro w u; (try dsimp only at u); go_simp <;> with_reducible rfl) ‹_› (fun _ _ _ h => h) ?_; simp only [Act.put, sl0, sl1, sl2])
         refine wpAnyH_ready (rs := [7]) (by kernel_rfl) (by simp) ?_
         refine AllReadyH.cons rfl (fun K hK => ?_) AllReadyH.nil
         go_simp
         go_at_call 151; refine (KD.out).mono ?_
         rintro e w8 ⟨rfl, hR8, hF8⟩
         refine hK.out _ _ ⟨frC_ hF8 e0 hbq.2.2.2.1 (by omega), frC_ hF8 e1 hbq.2.2.2.1 (by omega), frC_ hF8 q1 hgbq (by omega), frC_ hF8 q2 hgbq (by omega)⟩ (fun hHeld => ?_)
         clear hK K
         try simp only [Act.put, sl0, sl1, sl2]
         refine wpAnyH_done (by kernel_rfl) ?_ _
         have HS9 : Hid (OSt w w8 m go gl cl q4 q5 qz (rmL rr (L.take (k + 1))) (orL tt L)) := by show OSt _ _ _ _ _ _ _ _ _ _ _; rw [HT2.out]; exact HS.out.flip hR8 hF8
         have H79 : Hid (OC Z0 Z1 w8 (some ⟨g7, 0, none⟩) c7 L) := H7.out.keepF hF8 (.inl (by omega))
         have hZ9 : Z1 ≤ w8.heap.size := Nat.le_trans hZq hF8.size
         clear KD HS H7 HA q1 q2 e0 e1 hR8 hF8
         go_wp2
         go_roundw
         case rel => exact ⟨k + 1, by omega, by go_num, hZ9, HS9, H79⟩
         case measure => (simp [intOf] <;> omega)
      have i2 : (k : Int) < (L.length : Int) := by omega
      obtain ⟨gb, capb, q0, ⟨hgb1, hgb2⟩, hac⟩ := H7.out.arc hkl
      obtain ⟨a, ha⟩ : ∃ a, a = L[k] := ⟨_, rfl⟩
      rw [← ha] at hac
      have haL : a ∈ L := by rw [ha]; exact List.getElem_mem hkl
      obtain ⟨ha1, ha2, ha3⟩ := HArc.out a haL
      have HT1 : Hid (orL tt (L.take (k + 1)) = oaP (orL tt (L.take k)) a) := by show _ = _; rw [orL_take hkl, ha]
      have HTk : Hid (tIn m r (orL tt (L.take k))) := orL_in _ _ HTI.out (fun q hq => by have := HL3.out q (List.mem_of_mem_take hq); exact ⟨this.2.1, HSub.out _ _ this.2.2⟩)
      obtain ⟨t1, ht1⟩ : ∃ t1, t1 = orL tt (L.take k) := ⟨_, rfl⟩
      rw [← ht1] at HT1 HTk HS
      have hx128 : t1 a.1 < 128 := by have h1 := HTk.out.lt ha1; have h2 := two_pow_le hm7; omega
      obtain ⟨a1, a2⟩ := a
      dsimp only at ha1 ha2 ha3 hx128
      have q1 := hac.c0
      have q2 := hac.c1
      have hcapb := hac.le
      dsimp only at q1 q2
      have j1 : (1 : Int) < (capb : Int) := by omega
      have o0 := HS.out.O.c
      have t0 := HS.out.T.cell ha1
      have f0 := HS.out.T.froz a1
      have h2v := two_pow_le (n := a2) (by omega)
      obtain ⟨y, hy⟩ : ∃ y, y = 2 ^ a2 := ⟨_, rfl⟩
      have p1w : IntKind.i64.wrap ((2 : Int) ^ a2) = (y : Int) := by rw [pow_shl a2 (by omega), hy]; simp
      obtain ⟨u, hu⟩ : ∃ u, u = t1 a1 ||| y := ⟨_, rfl⟩
      have E2 : bits .or .i64 (t1 a1 : Int) (y : Int) = (u : Int) := by rw [hu]; exact i64_or_nat _ _ (by omega) (by omega)
      have Hst : Hid (∀ j, oaP t1 (a1, a2) j = if j = a1 then u else t1 j) := fun j => by
       unfold oaP
       dsimp only
       by_cases h : j = a1
       ·rw [if_pos h, if_pos h, hu, hy, h]
       ·rw [if_neg h, if_neg h]
      obtain ⟨xx, hxx⟩ : ∃ xx, xx = t1 a1 := ⟨_, rfl⟩
      rw [← hxx] at t0 E2
      have m1 : (a1 : Int) < (m : Int) := by omega
      have hdo := HS.out.d
      have hbo := HS.out.blocks
      have hgbw : gb < wr.heap.size := hac.lt
      have F0 : Fr go (go + 1) wr (wr.drew.setCell ⟨go, a1, none⟩ (.int .i64 (u : Nat))) := (Fr.refl _ _ wr).drew.setCell (p := ⟨go, a1, none⟩) (Nat.le_refl _) (Nat.lt_succ_self _) _
      clear ha ht1 hy hu hxx h2v hx128 hac
      go_wp2
      refine wp_region_held_drew (S := fun z => z.cell? ⟨q4, 0, none⟩ = some (.slice (some ⟨go, 0, none⟩) m m) ∧ z.cell? ⟨gb, 0, none⟩ = some (.int .i64 (a1 : Nat)) ∧ z.cell? ⟨gb, 1, none⟩ = some (.int .i64 (a2 : Nat))) (by kernel_rfl) ⟨o0, q1, q2⟩ (fun hHeld => ?_)
      refine pcY 0 rfl rfl (by kernel_rfl) (by rfl) (by intro w u; (try dsimp only at u); go_simp <;> with_reducible rfl) ‹_› (fun _ _ _ h => h) ?_; simp only [Act.put, sl0, sl1, sl2]
      iterate 5 (refine ptY rfl rfl (by kernel_rfl) (by rfl) (by intro w u; (try dsimp only at u); go_simp <;> with_reducible rfl) ‹_› (fun _ _ _ h => h) ?_; simp only [Act.put, sl0, sl1, sl2])
      refine pcY 7 rfl rfl (by kernel_rfl) (by rfl) (by intro w u; (try dsimp only at u); go_simp <;> with_reducible rfl) ‹_› (fun _ _ _ h => h) ?_; simp only [Act.put, sl0, sl1, sl2]
      iterate 3 (refine ptY rfl rfl (by kernel_rfl) (by rfl) (by intro w u; (try dsimp only at u); go_simp <;> with_reducible rfl) ‹_› (fun _ _ _ h => h) ?_; simp only [Act.put, sl0, sl1, sl2])
      refine wpAnyH_ready (rs := [6]) (by kernel_rfl) (by simp) ?_
      refine AllReadyH.cons rfl (fun K hK => ?_) AllReadyH.nil
      go_simp
      refine hK.out _ _ ⟨o0, q1, q2⟩ (fun hHeld => ?_)
      clear hK K
      try simp only [Act.put, sl0, sl1, sl2]
      refine pcY 11 rfl rfl (by kernel_rfl) (by rfl) (by intro w u; (try dsimp only at u); go_simp <;> with_reducible rfl) ‹_› (fun _ _ _ h => h) ?_; simp only [Act.put, sl0, sl1, sl2]
      refine ptY rfl rfl (by kernel_rfl) (by rfl) (by intro w u; (try dsimp only at u); go_simp <;> with_reducible rfl) ‹_› (fun _ _ _ h => h) ?_; simp only [Act.put, sl0, sl1, sl2]
      refine wpAnyH_ready (rs := [13]) (by kernel_rfl) (by simp) ?_
      refine AllReadyH.cons rfl (fun K hK => ?_) AllReadyH.nil
      go_simp
      refine hK.out _ _ ⟨frC_ F0 o0 (by omega) (by omega), frC_ F0 q1 (by omega) (by omega), frC_ F0 q2 (by omega) (by omega)⟩ (fun hHeld => ?_)
      clear hK K
      try simp only [Act.put, sl0, sl1, sl2]
      refine wpAnyH_done (by kernel_rfl) ?_ _
      obtain ⟨wq, hwq⟩ : ∃ z : World, z = (wr.setCell ⟨go, a1, none⟩ (.int .i64 (u : Nat))).drew := ⟨_, rfl⟩
      have F : Fr go (go + 1) wr wq := by rw [hwq]; exact (fr_set wr).drew
      have HSq : Hid (OSt w wq m go gl cl q4 q5 qz rr (orL tt (L.take (k + 1)))) := by show OSt _ _ _ _ _ _ _ _ _ _ _; rw [HT1.out, hwq]; exact (HS.out.setT Hst.out).drew
      have H7q : Hid (OC Z0 Z1 wq (some ⟨g7, 0, none⟩) c7 L) := H7.out.keepF F (.inl (by omega))
      have hZq : Z1 ≤ wq.heap.size := Nat.le_trans hZw F.size
      rw [← hwq]
      clear hwq F F0 HS H7 q0 q1 q2 o0 t0 f0 E2 p1w Hst hZw hdo hbo hgbw
      go_wp2
      go_roundw
      case rel => exact ⟨k + 1, by omega, by go_num, hZq, HSq, H7q⟩
      case measure => (simp [intOf] <;> omega)
end
end Go.Proofs.YtfabbohijhjpcaaGreatDoor
