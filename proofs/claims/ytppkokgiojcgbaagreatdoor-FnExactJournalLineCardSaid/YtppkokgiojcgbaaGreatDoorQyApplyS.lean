/-
  Contracts: a graph behind a list of edits, of the reference.
-/
import Derived.Test.YtppkokgiojcgbaaGreatDoorQyRemEdgeS
import Derived.Test.YtppkokgiojcgbaaGreatDoorQyApplyI
namespace Go.Proofs.YtppkokgiojcgbaaGreatDoor
open Go.RowKit

set_option maxHeartbeats 1000000 in
theorem l32Apply_s (sz : Int) (A : Option Addr) (m c : Nat) (x : Nat → Int) (a : Bool) (v u : Int) (w : World) (B : Nat) (h : Rd w B A m c x) (hB : B ≤ w.heap.size) (hm : m ≤ 1048576) :
    Calls Tryz.prog 66 #[.agg #[.int .i64 sz, .slice A m c], .agg #[.bool a, .int .i64 v, .int .i64 u]] w fun e w' => ∃ A' c', e = .returned (.tuple #[.agg #[.int .i64 sz, .slice A' m c'], .bool (apB a sz m x v u)]) ∧ Own w' w.heap.size w'.heap.size 3 1 A' m c' (fun j => .int .i64 (apX a sz m x v u j)) ∧ Below w.heap.size w w' := by
  obtain ⟨W, hW⟩ : ∃ W : World, W = (((w.alloc (Obj.cells #[Value.int IntKind.i64 sz, Value.slice A m c] 29)).alloc (Obj.cells #[.bool a, .int .i64 v, .int .i64 u] 59)).alloc (Obj.cells #[Value.int IntKind.i64 0, Value.slice none 0 0] 29)) := ⟨_, rfl⟩
  have HB : Hid (From w W) := by rw [hW]; exact (((From.alloc _ _).alloc_ _).alloc_ _)
  have HZ : Hid (w.heap.size + 3 = W.heap.size) := by rw [hW]; simp [Hid]
  have HC : Hid (GC W (w.heap.size + 2) 0 none 0 0) := by rw [hW]; constructor <;> simp [go_sem]
  have HK := Lib.hid (h.keep (HB.out.below.mono hB) (Nat.le_refl _))
  have HW := Lib.hid hW
  clear hW h
  cases a
  all_goals
    go_enter Tryz.func66, Tryz.ntmps66
    go_wp2_with fail
    rw [← HW.out]
    clear HW
    first
      | (refine (RemoveEdge_s sz A m c x v u W B HK.out (by have := HZ.out; omega) hm).mono ?_
         rintro e w1 ⟨A', c', rfl, hO, hb1⟩
         have e1 : apB false sz m x v u = reB sz m x v u := rfl
         have e2 : apX false sz m x v u = reX sz m x v u := rfl
         rw [← e1]
         rw [← e2] at hO
         clear e1 e2)
      | (refine (AddEdge_s sz A m c x v u W B HK.out (by have := HZ.out; omega) hm).mono ?_
         rintro e w1 ⟨A', c', rfl, hO, hb1⟩
         have e1 : apB true sz m x v u = aeB sz m x v u := rfl
         have e2 : apX true sz m x v u = aeX sz m x v u := rfl
         rw [← e1]
         rw [← e2] at hO
         clear e1 e2)
    have HC1 := Lib.hid (HC.out.keep hb1)
    have HB1 := Lib.hid (HB.out.keep hb1)
    have HO := Lib.hid hO
    have zs := hb1.size
    have k0 := HC1.out.c0
    have k1 := HC1.out.c1
    have k2 := HC1.out.f0
    have k3 := HC1.out.f1
    have k4 := HC1.out.lt
    clear hO hb1 HC HB HK
    go_wp2
    have F := fr2 w1 (w.heap.size + 2) (Value.int .i64 sz) (Value.slice A' m c')
    have O1 := ((HO.out.keep F (.inr (by have := HZ.out; omega))).alloc (Obj.cells #[Value.int IntKind.i64 sz, Value.slice A' m c'] 29))
    have B1 := ((HB1.out.set (q := w.heap.size + 2) (by omega) (Value.int .i64 sz) (Value.slice A' m c')).alloc_ (Obj.cells #[Value.int IntKind.i64 sz, Value.slice A' m c'] 29)).below
    exact bodyPost_ret (v := .tuple #[.agg #[.int .i64 sz, .slice A' m c'], _]) (by simp [results, Tryz.results66, go_sem, *] <;> rfl) rfl ⟨A', c', rfl, O1.mono (by have := HZ.out; omega) (by simp [World.setCell]), B1⟩

set_option maxRecDepth 100000 in
set_option maxHeartbeats 1600000 in
theorem ApplyEdits_s (sz : Int) (A : Option Addr) (m c : Nat) (x : Nat → Int) (Al : Option Addr) (n cl : Nat) (a : Nat → Bool) (v u : Nat → Int) (w : World) (B : Nat) (h : Rd w B A m c x) (hl : RdE w B Al n cl a v u) (hB : B ≤ w.heap.size) (hm : m ≤ 1048576) (hn : n ≤ 1048576) :
    Calls Tryz.prog 19 #[.agg #[.int .i64 sz, .slice A m c], .slice Al n cl] w fun e w' => ∃ A' c', e = .returned (.tuple #[.agg #[.int .i64 (apZ sz m x n a v u), .slice A' (apN sz m x n a v u) c'], .bool (apD sz m x n a v u)]) ∧ Own w' w.heap.size w'.heap.size 3 1 A' (apN sz m x n a v u) c' (fun j => .int .i64 (apY sz m x n a v u j)) ∧ Below w.heap.size w w' := by
  obtain ⟨W, hW⟩ : ∃ W : World, W = ((w.alloc (Obj.cells #[Value.int IntKind.i64 sz, Value.slice A m c] 29)).alloc (Obj.cells #[Value.int IntKind.i64 0, Value.slice none 0 0] 29)) := ⟨_, rfl⟩
  have HB : Hid (From w W) := by rw [hW]; exact ((From.alloc _ _).alloc_ _)
  have HZ : Hid (w.heap.size + 2 = W.heap.size) := by rw [hW]; simp [Hid]
  have HC : Hid (GC W (w.heap.size + 1) 0 none 0 0) := by rw [hW]; constructor <;> simp [go_sem]
  have HG : Hid (GC W w.heap.size sz A m c) := by rw [hW]; constructor <;> simp [go_sem]
  have HK : Hid (Rd W W.heap.size A m c x) := h.keep (HB.out.below.mono hB) (by have := HB.out.below.size; omega)
  have HD : Hid (ED W Al n cl a v u) := ⟨hl.keep (HB.out.below.mono hB) (by have := HB.out.below.size; omega)⟩
  have HW := Lib.hid hW
  have hfin : ∀ (z : World), apR sz m x n a v u = none → From w z → ∃ A' c', Ending.returned (.tuple #[.agg #[.int .i64 0, .slice none 0 0], .bool false]) = .returned (.tuple #[.agg #[.int .i64 (apZ sz m x n a v u), .slice A' (apN sz m x n a v u) c'], .bool (apD sz m x n a v u)]) ∧ Own z w.heap.size z.heap.size 3 1 A' (apN sz m x n a v u) c' (fun j => .int .i64 (apY sz m x n a v u j)) ∧ Below w.heap.size w z := by
    intro z hr hf
    obtain ⟨h1, h2, h3⟩ := ap_none hr
    exact ⟨none, 0, by rw [h1, h2, h3], by rw [h2]; exact Own.nil _ _ _ _ _ _, hf.below⟩
  have HFIN := Lib.hid hfin
  have e0 := HG.out.c0
  have e1 := HG.out.c1
  clear hW h hl hfin
  go_enter Tryz.func19, Tryz.ntmps19
  go_wp2_with fail
  rw [← HW.out]
  clear HW
  refine (IsGraph_sany sz A m c x W W.heap.size HK.out (Nat.le_refl _) hm).mono ?_
  rintro e w1 ⟨rfl, hb1⟩
  clear e0 e1
  have z1 := hb1.size
  replace HB := Lib.hid (HB.out.keep hb1)
  replace HC := Lib.hid (HC.out.keep hb1)
  replace HG := Lib.hid (HG.out.keep hb1)
  replace HD := Lib.hid (HD.out.keep hb1)
  have HK1 : Hid (Rd w1 w1.heap.size A m c x) := HK.out.keep hb1 z1
  have e0 := HG.out.c0
  have e1 := HG.out.c1
  clear hb1 HK
  cases ho : okB sz m x
  · have hr : Hid (apR sz m x n a v u = none) := apR_no ho
    have k0 := HC.out.c0
    have k1 := HC.out.c1
    have k2 := HC.out.f0
    have k3 := HC.out.f1
    clear ho
    go_wp2
    exact bodyPost_ret (v := .tuple #[.agg #[.int .i64 0, .slice none 0 0], .bool false]) (by simp [results, Tryz.results19, go_sem, *]) rfl (HFIN.out _ hr.out (HB.out.set (q := w.heap.size + 1) (by omega) _ _))
  by_cases h12 : 12 < n
  · have hr : Hid (apR sz m x n a v u = none) := apR_long h12
    have i1 : (12 : Int) < (n : Int) := by omega
    have k0 := HC.out.c0
    have k1 := HC.out.c1
    have k2 := HC.out.f0
    have k3 := HC.out.f1
    clear ho
    go_wp2
    exact bodyPost_ret (v := .tuple #[.agg #[.int .i64 0, .slice none 0 0], .bool false]) (by simp [results, Tryz.results19, go_sem, *]) rfl (HFIN.out _ hr.out (HB.out.set (q := w.heap.size + 1) (by omega) _ _))
  have hr : Hid (apR sz m x n a v u = apF sz m a v u 0 n x) := apR_yes ho (by omega)
  have Ho := Lib.hid ho
  have i1 : (n : Int) ≤ 12 := by omega
  clear ho
  go_wp2_with fail
  refine (l2Copy_any sz A m c x w1 w1.heap.size HK1.out (Nat.le_refl _) hm).mono ?_
  rintro e w2 ⟨A', c', rfl, hO, hb2⟩
  clear e0 e1
  have z2 := hb2.size
  replace HB := Lib.hid (HB.out.keep hb2)
  replace HC := Lib.hid (HC.out.keep hb2)
  replace HD := Lib.hid (HD.out.keep hb2)
  have HO : Hid (Own w2 (w.heap.size + 2) w2.heap.size 3 1 A' m c' (fun j => .int .i64 (x j))) := hO.mono (by have := HZ.out; omega) (Nat.le_refl _)
  have zw : w.heap.size + 2 ≤ w2.heap.size := by have := HZ.out; omega
  clear hO hb2 HK1 HG
  go_wp2
  go_loopw [7] (fun i wr => ∃ (k : Nat) (A4 : Option Addr) (c4 : Nat) (y : Nat → Int), k ≤ n ∧ i = .int .i64 k ∧ Hid (GC wr w2.heap.size sz A4 m c4) ∧ Hid (Own wr (w.heap.size + 2) wr.heap.size 3 1 A4 m c4 (fun j => .int .i64 (y j))) ∧ Hid (okB sz m y = true) ∧ Hid (apR sz m x n a v u = apF sz m a v u k (n - k) y) ∧ Hid (From w2 wr)) (fun i _ => n - (intOf i).toNat)
  case atStart => exact ⟨0, A', c', x, Nat.zero_le _, rfl, GC.new _ _ _ _ _, (HO.out.alloc _).mono (Nat.le_refl _) (by simp), Ho, hr, From.alloc _ _⟩
  case round =>
    obtain ⟨k, A4, c4, y, hk, rfl, HQ, HY, Hy, HR, HF⟩ := hrel
    have zr := HF.out.below.size
    have HBr := Lib.hid (HB.out.keep HF.out.below)
    have HCr := Lib.hid (HC.out.keep HF.out.below)
    have q0 := HQ.out.c0
    have q1 := HQ.out.c1
    have zq := HQ.out.lt
    by_cases hlt : k < n
    · have HDr := Lib.hid (HD.out.keep HF.out.below)
      obtain ⟨b, o, rfl⟩ := HDr.out.addr (by omega)
      obtain ⟨p0, p1, p2⟩ := HDr.out.at hlt
      have hap : apF sz m a v u k (n - k) y = if apB (a k) sz m y (v k) (u k) = true then apF sz m a v u (k + 1) (n - (k + 1)) (apX (a k) sz m y (v k) (u k)) else none := by
        obtain ⟨r, hr⟩ : ∃ r, n - k = r + 1 := ⟨n - k - 1, by omega⟩
        have : n - (k + 1) = r := by omega
        rw [hr, this, apF]
      have Hap := Lib.hid hap
      obtain ⟨t, ht⟩ : ∃ t, t = apB (a k) sz m y (v k) (u k) := ⟨_, rfl⟩
      have Ht := Lib.hid ht
      have i2 : (k : Int) < (n : Int) := by omega
      have HRY : Hid (Rd wr wr.heap.size A4 m c4 y) := HY.out.rd
      clear hap ht HDr
      have HSC : Hid (∀ z : World, Below wr.heap.size wr z → (Below wr.heap.size wr z ∧ z.cell? ⟨b, o + k * 3, none⟩ = some (.bool (a k)) ∧ z.cell? ⟨b, o + k * 3 + 1, none⟩ = some (.int .i64 (v k)) ∧ z.cell? ⟨b, o + k * 3 + 2, none⟩ = some (.int .i64 (u k)) ∧ z.cell? ⟨w2.heap.size, 0, none⟩ = some (.int .i64 sz) ∧ z.cell? ⟨w2.heap.size, 1, none⟩ = some (.slice A4 m c4))) := fun z hz => ⟨hz, up_ hz p0, up_ hz p1, up_ hz p2, up_ hz q0, up_ hz q1⟩
      have HZ1 : Hid (Below wr.heap.size wr wr.drew) := (Below.refl _ _).drew
      have HZ2 : Hid (Below wr.heap.size wr ((wr.alloc (Obj.cells #[Value.int IntKind.i64 0, Value.slice none 0 0] 29)).drew)) := ((Below.refl _ _).alloc (Nat.le_refl _) _).drew
      have HN2 : Hid (GC ((wr.alloc (Obj.cells #[Value.int IntKind.i64 0, Value.slice none 0 0] 29)).drew) wr.heap.size 0 none 0 0) := (GC.new _ _ _ _ _).drew
      have KR : Hid (∀ z : World, Below wr.heap.size wr z → _) := fun z hz => l32Apply_s sz A4 m c4 y (a k) (v k) (u k) z z.heap.size (HRY.out.keep hz hz.size) (Nat.le_refl _) hm
      have HS1 := Lib.hid (HSC.out _ HZ1.out)
      have HS2 := Lib.hid (HSC.out _ HZ2.out)
      go_wp2
      go_region_held3 (fun z => Below wr.heap.size wr z ∧ z.cell? ⟨b, o + k * 3, none⟩ = some (.bool (a k)) ∧ z.cell? ⟨b, o + k * 3 + 1, none⟩ = some (.int .i64 (v k)) ∧ z.cell? ⟨b, o + k * 3 + 2, none⟩ = some (.int .i64 (u k)) ∧ z.cell? ⟨w2.heap.size, 0, none⟩ = some (.int .i64 sz) ∧ z.cell? ⟨w2.heap.size, 1, none⟩ = some (.slice A4 m c4))
        (first | exact HS1.out | exact HS2.out | assumption | (refine HSC.out _ ?_; first | assumption | exact bl_trans HZ1.out hb5 | exact bl_trans HZ2.out hb5 | exact bl_alloc (bl_trans HZ1.out hb5) | exact bl_set (bl_trans HZ2.out hb5) (Nat.le_refl _) | exact bl_set (bl_set (bl_trans HZ2.out hb5) (Nat.le_refl _)) (Nat.le_refl _) | exact bl_alloc HZ1.out) | fail)
        (first | (go_at_call 66; ((with_reducible refine (KR.out _ HZ1.out).mono ?_); rintro e w5 ⟨A5, c5, rfl, hO5, hb5⟩)) | (go_at_call 66; ((with_reducible refine (KR.out _ HZ2.out).mono ?_); rintro e w5 ⟨A5, c5, rfl, hO5, hb5⟩; have hn5 := HN2.out.keep hb5; have n0 := hn5.c0; have n1 := hn5.c1; have n2 := hn5.f0; have n3 := hn5.f1)))
      all_goals
        first
          | (obtain ⟨W5, hW5⟩ : ∃ W5 : World, W5 = ((w5.setCell ⟨wr.heap.size, 0, none⟩ (.int .i64 sz)).setCell ⟨wr.heap.size, 1, none⟩ (.slice A5 m c5)) := ⟨_, rfl⟩
             rw [← hW5]
             have HQ5 : Hid (GC W5 wr.heap.size sz A5 m c5) := by rw [hW5]; exact hn5.set
             have HZ5 : Hid (Below wr.heap.size wr W5) := by rw [hW5]; exact bl_set (bl_set (bl_trans HZ2.out hb5) (Nat.le_refl _)) (Nat.le_refl _)
             have HO5 : Hid (Own W5 wr.heap.size W5.heap.size 3 1 A5 m c5 (fun j => .int .i64 (apX (a k) sz m y (v k) (u k) j))) := by
               rw [hW5]
               exact (hO5.keep (fr2 _ wr.heap.size _ _) (.inr (by show wr.heap.size + 1 ≤ (wr.alloc _).heap.size; simp))).mono (Nat.le_of_lt (by show wr.heap.size < (wr.alloc _).heap.size; simp)) (by simp [World.setCell])
             clear hW5 hn5 n0 n1 n2 n3 hO5 hb5)
          | (obtain ⟨W5, hW5⟩ : ∃ W5 : World, W5 = (w5.alloc (Obj.cells #[.int .i64 sz, .slice A5 m c5] 29)) := ⟨_, rfl⟩
             rw [← hW5]
             have HQ5 : Hid (GC W5 w5.heap.size sz A5 m c5) := by rw [hW5]; exact GC.new _ _ _ _ _
             have HZ5 : Hid (Below wr.heap.size wr W5) := by rw [hW5]; exact bl_alloc (bl_trans HZ1.out hb5)
             have HO5 : Hid (Own W5 wr.heap.size W5.heap.size 3 1 A5 m c5 (fun j => .int .i64 (apX (a k) sz m y (v k) (u k) j))) := by rw [hW5]; exact (hO5.alloc _).mono (Nat.le_refl _) (by simp)
             clear hW5 hO5 hb5)
          | fail
      all_goals clear HSC HZ1 HZ2 HN2 KR HS1 HS2
      all_goals
        have HQ6 := Lib.hid (HQ.out.keep HZ5.out)
        have HB6 := Lib.hid (HBr.out.keep HZ5.out)
        have HC6 := Lib.hid (HCr.out.keep HZ5.out)
        have HF6 := Lib.hid (HF.out.keep HZ5.out)
        have z6 := HZ5.out.size
        rw [← Ht.out]
        clear q0 q1 p0 p1 p2 HBr HCr
        have m0 := HQ5.out.c0
        have m1 := HQ5.out.c1
        cases t
        · have hn : Hid (apR sz m x n a v u = none) := by show _ = _; rw [HR.out, Hap.out, ← Ht.out]; rfl
          have k0 := HC6.out.c0
          have k1 := HC6.out.c1
          have k2 := HC6.out.f0
          have k3 := HC6.out.f1
          have k4 := HC6.out.lt
          go_wp2
          exact bodyPost_ret (v := .tuple #[.agg #[.int .i64 0, .slice none 0 0], .bool false]) (by simp [results, Tryz.results19, go_sem, k0, k1]) rfl (HFIN.out _ hn.out (HB6.out.set (q := w.heap.size + 1) (by omega) _ _))
        · have hn : Hid (apR sz m x n a v u = apF sz m a v u (k + 1) (n - (k + 1)) (apX (a k) sz m y (v k) (u k))) := by show _ = _; rw [HR.out, Hap.out, ← Ht.out]; rfl
          have Hy2 : Hid (okB sz m (apX (a k) sz m y (v k) (u k)) = true) := apX_ok Hy.out
          have k0 := HQ6.out.c0
          have k1 := HQ6.out.c1
          have k2 := HQ6.out.f0
          have k3 := HQ6.out.f1
          have k4 := HQ6.out.lt
          clear HC6 HB6
          go_wp2
          go_roundw
          case rel => exact ⟨k + 1, A5, c5, _, by omega, by go_num, HQ6.out.set, (HO5.out.keep (fr2 _ w2.heap.size _ _) (.inr (by omega))).mono (by omega) (by simp [World.setCell]), Hy2, hn, HF6.out.set (Nat.le_refl _) _ _⟩
          case measure => simp [intOf]; omega
    · have hke : n - k = 0 := by omega
      have hs : Hid (apR sz m x n a v u = some y) := by show _ = _; rw [HR.out, hke]; rfl
      have i2 : (n : Int) ≤ (k : Int) := by omega
      have k0 := HCr.out.c0
      have k1 := HCr.out.c1
      have k2 := HCr.out.f0
      have k3 := HCr.out.f1
      clear hke
      go_wp2
      have F := fr2 wr (w.heap.size + 1) (Value.int .i64 sz) (Value.slice A4 m c4)
      have O1 := (HY.out.keep F (.inr (Nat.le_refl _))).mono (lo' := w.heap.size) (by omega) F.size
      obtain ⟨h1, h2, h3, h4⟩ := ap_some hs.out
      exact bodyPost_ret (v := .tuple #[.agg #[.int .i64 sz, .slice A4 m c4], .bool true]) (by simp [results, Tryz.results19, go_sem, k0, k1]) rfl ⟨A4, c4, by rw [h1, h2, h3], by rw [h2, h4]; exact O1, (HBr.out.set (q := w.heap.size + 1) (by omega) _ _).below⟩
end Go.Proofs.YtppkokgiojcgbaaGreatDoor
