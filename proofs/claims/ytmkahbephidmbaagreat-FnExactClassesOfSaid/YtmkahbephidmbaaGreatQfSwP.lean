/-
  Several texts in one: words for memory, plain laws and contracts that the later texts lean on.
-/
import Derived.Test.YtmkahbephidmbaaGreatQfNms
import Derived.Test.YtmkahbephidmbaaGreatQfClaV
import Derived.Test.YtmkahbephidmbaaGreatQfGA
import Derived.Test.YtmkahbephidmbaaGreatQfGB
import Derived.Test.YtmkahbephidmbaaGreatQfOptS
/-
  Contracts: the names of the classes that a graph is in, and which graph of a number of vertices is the first outside. Both sides.
-/
namespace Go.Proofs.YtmkahbephidmbaaGreat
open Go.RowKit

noncomputable def caP (sz : Int) (m : Nat) (x : Nat → Int) (s : ByteArray) : Bool := isB sz m x s.toList
noncomputable def caL (sz : Int) (m : Nat) (x : Nat → Int) : List ByteArray := nmK (caP sz m x) 9
theorem caL_len (sz : Int) (m : Nat) (x : Nat → Int) : (caL sz m x).length ≤ 9 := nmK_len _ _
section
variable (sz : Int) (A : Option Addr) (m c : Nat) (x : Nat → Int) (w : World)
set_option maxRecDepth 100000 in
set_option maxHeartbeats 3200000 in
theorem ClassesOf_i (h : GA w A m c x) (hm : m ≤ 1048576) :
    Calls Tryz.prog 31 #[.agg #[.int .i64 sz, .slice A m c]] w fun e w' => ∃ A' c', e = .returned (.slice A' (caL sz m x).length c') ∧ Own w' w.heap.size w'.heap.size 9 1 A' (caL sz m x).length c' (stL (caL sz m x)) ∧ Below w.heap.size w w' := by
  obtain ⟨W, hW⟩ : ∃ W : World, W = ((w.alloc (Obj.cells #[Value.int IntKind.i64 sz, Value.slice A m c] 30)).alloc (Obj.cells #[] 9)) := ⟨_, rfl⟩
  have HB : Hid (From w W) := by rw [hW]; exact (From.alloc _ _).alloc_ _
  have HK := Lib.hid (h.keep HB.out.below)
  have HC : Hid (GC W w.heap.size sz A m c) := by rw [hW]; exact (GC.new _ _ _ _ _).keep ((Below.refl _ _).alloc (Nat.le_refl _) _)
  have HO : Hid (Own W w.heap.size W.heap.size 9 1 (some ⟨w.heap.size + 1, 0, none⟩) 0 0 (stL [])) := by
    have hn := heap_alloc_new (w.alloc (Obj.cells #[Value.int IntKind.i64 sz, Value.slice A m c] 30)) (Obj.cells #[] 9)
    have he : (w.alloc (Obj.cells #[Value.int IntKind.i64 sz, Value.slice A m c] 30)).heap.size = w.heap.size + 1 := by simp
    have hz : W.heap.size = w.heap.size + 2 := by rw [hW]; simp
    rw [he, ← hW] at hn
    exact .inr ⟨w.heap.size + 1, #[], rfl, by omega, by omega, hn, Nat.le_refl _, by unfold maxLen; omega, rfl, fun j hj => absurd hj (by omega)⟩
  have hzW : W.heap.size = w.heap.size + 2 := by rw [hW]; simp
  have HW := Lib.hid hW
  have HS := Lib.hid hm
  obtain ⟨p, hp⟩ : ∃ p, p = caP sz m x := ⟨_, rfl⟩
  have Hp : Hid (∀ s, isB sz m x s.toList = p s) := fun s => by rw [hp]; rfl
  have Hfin : Hid (caL sz m x = nmK p 9) := by rw [hp]; rfl
  have H0 : Hid (nmK p 0 = []) := rfl
  have hKw := h
  clear hW h hp
  go_enter Tryz.func31, Tryz.ntmps31
  have e0 := HC.out.c0
  have e1 := HC.out.c1
  go_wp2_with fail
  rw [← HW.out]
  clear HW
  refine (ClassNames_iv W).mono ?_
  rintro e w0 ⟨An, cn1, rfl, hon, hb0⟩
  have hwW := HB.out.below.size
  have HO1 : Hid (Own w0 (w.heap.size + 1) (w.heap.size + 1 + 1) 9 1 (some ⟨w.heap.size + 1, 0, none⟩) (nmK p 0).length 0 (stL (nmK p 0))) := by rw [H0.out]; exact (HO.out.keepB hb0 (Nat.le_refl _)).cage1
  have Hl0 : Hid ((nmK p 0).length = 0) := by show _ = _; rw [H0.out]; rfl
  obtain ⟨gn, rfl, hgn1, _, hgn2, _⟩ := hon.at_ (by omega)
  have HN0 := Lib.hid hon.cage1
  clear e0 e1
  replace HB := Lib.hid (HB.out.keep hb0)
  replace HK := Lib.hid (HK.out.keep hb0)
  replace HC := Lib.hid (HC.out.keep hb0)
  clear hb0 hon HO
  have e0 := HC.out.c0
  have e1 := HC.out.c1
  have HB1 := HB
  have HK1 := HK
  have HC1 := HC
  have hz1 := HC.out.lt
  go_wp2
  go_loopw [3, 9] (fun o i wr => ∃ (k : Nat) (A' : Option Addr) (c' g : Nat), k ≤ 9 ∧ i = .int .i64 k ∧ o = .slice A' (nmK p k).length c' ∧ A' = some ⟨g, 0, none⟩ ∧ g ≠ gn ∧ w.heap.size < g ∧ g < wr.heap.size ∧ Hid (Own wr g (g + 1) 9 1 (some ⟨g, 0, none⟩) (nmK p k).length c' (stL (nmK p k))) ∧ Hid (From w wr) ∧ Hid (GA wr A m c x) ∧ Hid (GC wr w.heap.size sz A m c) ∧ Hid (Own wr gn (gn + 1) 9 1 (some ⟨gn, 0, none⟩) 9 cn1 (strs nm))) (fun _ i _ => 9 - (intOf i).toNat)
  case atStart => exact ⟨0, _, 0, w.heap.size + 1, by omega, rfl, by rw [Hl0.out], rfl, by omega, by omega, by omega, HO1, HB1, HK1, HC1, HN0⟩
  case round =>
    clear HO1 Hl0 HB HK HC H0 HB1 HK1 HC1 HN0
    obtain ⟨k, A', c', g, hk, rfl, rfl, rfl, hg1, hg2, hg3, HO, HB, HK, HC, HN⟩ := hrel
    have hml := nmK_len p k
    by_cases hkl : k < 9
    · have i1 : (k : Int) < 9 := by omega
      obtain ⟨g', hg', _, _, _, hcs, _⟩ := HN.out.at_ (by omega)
      simp only [Option.some.injEq, Addr.mk.injEq, and_true] at hg'
      subst hg'
      have q0 : wr.cell? ⟨gn, k, none⟩ = some (.string (nm k)) := hcs k (by omega)
      have Hno : Hid (p (nm k) = false → nmK p (k + 1) = nmK p k) := fun h => nmK_no hkl h
      have Hyes : Hid (p (nm k) = true → nmK p (k + 1) = nmK p k ++ [nm k]) := fun h => nmK_yes hkl h
      have KI : Hid (∀ {z : World}, GA z A m c x → Calls Tryz.prog 22 #[.agg #[.int .i64 sz, .slice A m c], .string (nm k)] z fun e w' => e = .returned (.bool (p (nm k))) ∧ Below z.heap.size z w') := by rw [← Hp.out]; exact fun h => IsIn_i sz A m c x (nm k) _ h HS.out
      obtain ⟨s, hs⟩ : ∃ s, s = nm k := ⟨_, rfl⟩
      rw [← hs] at q0 Hno Hyes KI
      obtain ⟨b, hb⟩ : ∃ b, b = p s := ⟨_, rfl⟩
      rw [← hb] at Hno Hyes KI
      obtain ⟨T, hT⟩ : ∃ T, T = nmK p k := ⟨_, rfl⟩
      rw [← hT] at Hno Hyes HO hml ⊢
      have HOq := HO
      have HNq := HN
      have hgl : gn < wr.heap.size := World.block_lt_of_cell? _ _ q0
      have HCL : Hid (CL wr gn k (.string s)) := ⟨q0⟩
      clear hs hb hT hcs q0
      have HX : Hid (From wr wr) := From.refl _
      have e0 := HC.out.c0
      have e1 := HC.out.c1
      have q0 := HCL.out.c
      go_wp2_with fail
      refine (KI.out HK.out).mono ?_
      rintro e w1 ⟨rfl, hb1⟩
      clear e0 e1 q0
      replace HX := Lib.hid (HX.out.keep hb1)
      replace HB := Lib.hid (HB.out.keep hb1)
      replace HC := Lib.hid (HC.out.keep hb1)
      replace HCL := Lib.hid (HCL.out.keep hb1)
      replace HK := Lib.hid (HK.out.keep hb1)
      clear hb1
      have e0 := HC.out.c0
      have e1 := HC.out.c1
      have q0 := HCL.out.c
      have hx2 := HX.out.below
      have hz2 := hx2.size
      have HO2 : Hid (Own w1 g (g + 1) 9 1 (some ⟨g, 0, none⟩) T.length c' (stL T)) := HOq.out.keepB hx2 hg3
      have HN2 : Hid (Own w1 gn (gn + 1) 9 1 (some ⟨gn, 0, none⟩) 9 cn1 (strs nm)) := HNq.out.keepB hx2 hgl
      clear HO HOq KI HNq HN hx2 q0 e0 e1
      cases b
      · have Hn := Lib.hid (Hno.out rfl)
        go_wp2
        go_roundw
        case rel => exact ⟨k + 1, _, c', g, by omega, by go_num, by rw [Hn.out], rfl, hg1, hg2, by omega, by rw [Hn.out]; exact HO2, HB, HK, HC, HN2⟩
        case measure => (simp [intOf] <;> omega)
      · have Hn := Lib.hid (Hyes.out rfl)
        go_wp2_with (first | (at_builtin; (refine wpList_pushS w1 rfl _ _ rfl g c' T HO2.out (by omega) s rfl 1 w1.heap.size rfl rfl (by omega) ?_; intro g3 c3 w3 hO3 hg4 hg5 hf3)))
        have HO3 : Hid (Own w3 g3 (g3 + 1) 9 1 (some ⟨g3, 0, none⟩) (T ++ [s]).length c3 (stL (T ++ [s]))) := by show Own _ _ _ _ _ _ _ _ _; rw [List.length_append]; exact hO3
        have HB3 : Hid (From w w3) := ⟨HB.out.below.trans (hf3.below (by omega) HB.out.below.size)⟩
        have HK3 : Hid (GA w3 A m c x) := hKw.keep HB3.out.below
        have HC3 : Hid (GC w3 w.heap.size sz A m c) := HC.out.keepF hf3 (.inl hg2)
        have HN3 : Hid (Own w3 gn (gn + 1) 9 1 (some ⟨gn, 0, none⟩) 9 cn1 (strs nm)) := HN2.out.keep hf3 (by omega)
        clear hO3 hf3
        go_roundw
        case rel => exact ⟨k + 1, _, c3, g3, by omega, by go_num, by rw [Hn.out, List.length_append]; rfl, rfl, by omega, by omega, hg5, by rw [Hn.out]; exact HO3, HB3, HK3, HC3, HN3⟩
        case measure => (simp [intOf] <;> omega)
    · have hk9 : k = 9 := by omega
      have i1 : (9 : Int) ≤ (k : Int) := by omega
      have Hk : Hid (nmK p k = caL sz m x) := by rw [Hfin.out, hk9]; exact rfl
      rw [Hk.out] at HO ⊢
      clear hk9 hml
      go_wp2
      go_ret
      exact ⟨_, _, rfl, HO.out.mono (by omega) hg3, HB.out.below⟩
set_option maxRecDepth 100000 in
set_option maxHeartbeats 3200000 in
theorem ClassesOf_s (h : GA w A m c x) (hm : m ≤ 1048576) :
    Calls Tryz.prog 30 #[.agg #[.int .i64 sz, .slice A m c]] w fun e w' => ∃ A' c', e = .returned (.slice A' (caL sz m x).length c') ∧ Own w' w.heap.size w'.heap.size 9 1 A' (caL sz m x).length c' (stL (caL sz m x)) ∧ Below w.heap.size w w' := by
  obtain ⟨W, hW⟩ : ∃ W : World, W = ((w.alloc (Obj.cells #[Value.int IntKind.i64 sz, Value.slice A m c] 30)).alloc (Obj.cells #[] 9)) := ⟨_, rfl⟩
  have HB : Hid (From w W) := by rw [hW]; exact (From.alloc _ _).alloc_ _
  have HK := Lib.hid (h.keep HB.out.below)
  have HC : Hid (GC W w.heap.size sz A m c) := by rw [hW]; exact (GC.new _ _ _ _ _).keep ((Below.refl _ _).alloc (Nat.le_refl _) _)
  have HO : Hid (Own W w.heap.size W.heap.size 9 1 (some ⟨w.heap.size + 1, 0, none⟩) 0 0 (stL [])) := by
    have hn := heap_alloc_new (w.alloc (Obj.cells #[Value.int IntKind.i64 sz, Value.slice A m c] 30)) (Obj.cells #[] 9)
    have he : (w.alloc (Obj.cells #[Value.int IntKind.i64 sz, Value.slice A m c] 30)).heap.size = w.heap.size + 1 := by simp
    have hz : W.heap.size = w.heap.size + 2 := by rw [hW]; simp
    rw [he, ← hW] at hn
    exact .inr ⟨w.heap.size + 1, #[], rfl, by omega, by omega, hn, Nat.le_refl _, by unfold maxLen; omega, rfl, fun j hj => absurd hj (by omega)⟩
  have hzW : W.heap.size = w.heap.size + 2 := by rw [hW]; simp
  have HW := Lib.hid hW
  have HS := Lib.hid hm
  obtain ⟨p, hp⟩ : ∃ p, p = caP sz m x := ⟨_, rfl⟩
  have Hp : Hid (∀ s, isB sz m x s.toList = p s) := fun s => by rw [hp]; rfl
  have Hfin : Hid (caL sz m x = nmK p 9) := by rw [hp]; rfl
  have H0 : Hid (nmK p 0 = []) := rfl
  have hKw := h
  clear hW h hp
  go_enter Tryz.func30, Tryz.ntmps30
  have e0 := HC.out.c0
  have e1 := HC.out.c1
  go_wp2_with fail
  rw [← HW.out]
  clear HW
  refine (ClassNames_sv W).mono ?_
  rintro e w0 ⟨An, cn1, rfl, hon, hb0⟩
  have hwW := HB.out.below.size
  have HO1 : Hid (Own w0 (w.heap.size + 1) (w.heap.size + 1 + 1) 9 1 (some ⟨w.heap.size + 1, 0, none⟩) (nmK p 0).length 0 (stL (nmK p 0))) := by rw [H0.out]; exact (HO.out.keepB hb0 (Nat.le_refl _)).cage1
  have Hl0 : Hid ((nmK p 0).length = 0) := by show _ = _; rw [H0.out]; rfl
  obtain ⟨gn, rfl, hgn1, _, hgn2, _⟩ := hon.at_ (by omega)
  have HN0 := Lib.hid hon.cage1
  clear e0 e1
  replace HB := Lib.hid (HB.out.keep hb0)
  replace HK := Lib.hid (HK.out.keep hb0)
  replace HC := Lib.hid (HC.out.keep hb0)
  clear hb0 hon HO
  have e0 := HC.out.c0
  have e1 := HC.out.c1
  have HB1 := HB
  have HK1 := HK
  have HC1 := HC
  have hz1 := HC.out.lt
  go_wp2
  go_loopw [3, 5] (fun o i wr => ∃ (k : Nat) (A' : Option Addr) (c' g : Nat), k ≤ 9 ∧ i = .int .i64 k ∧ o = .slice A' (nmK p k).length c' ∧ A' = some ⟨g, 0, none⟩ ∧ g ≠ gn ∧ w.heap.size < g ∧ g < wr.heap.size ∧ Hid (Own wr g (g + 1) 9 1 (some ⟨g, 0, none⟩) (nmK p k).length c' (stL (nmK p k))) ∧ Hid (From w wr) ∧ Hid (GA wr A m c x) ∧ Hid (GC wr w.heap.size sz A m c) ∧ Hid (Own wr gn (gn + 1) 9 1 (some ⟨gn, 0, none⟩) 9 cn1 (strs nm))) (fun _ i _ => 9 - (intOf i).toNat)
  case atStart => exact ⟨0, _, 0, w.heap.size + 1, by omega, rfl, by rw [Hl0.out], rfl, by omega, by omega, by omega, HO1, HB1, HK1, HC1, HN0⟩
  case round =>
    clear HO1 Hl0 HB HK HC H0 HB1 HK1 HC1 HN0
    obtain ⟨k, A', c', g, hk, rfl, rfl, rfl, hg1, hg2, hg3, HO, HB, HK, HC, HN⟩ := hrel
    have hml := nmK_len p k
    by_cases hkl : k < 9
    · have i1 : (k : Int) < 9 := by omega
      obtain ⟨g', hg', _, _, _, hcs, _⟩ := HN.out.at_ (by omega)
      simp only [Option.some.injEq, Addr.mk.injEq, and_true] at hg'
      subst hg'
      have q0 : wr.cell? ⟨gn, k, none⟩ = some (.string (nm k)) := hcs k (by omega)
      have Hno : Hid (p (nm k) = false → nmK p (k + 1) = nmK p k) := fun h => nmK_no hkl h
      have Hyes : Hid (p (nm k) = true → nmK p (k + 1) = nmK p k ++ [nm k]) := fun h => nmK_yes hkl h
      have KI : Hid (∀ {z : World}, GA z A m c x → Calls Tryz.prog 20 #[.agg #[.int .i64 sz, .slice A m c], .string (nm k)] z fun e w' => e = .returned (.bool (p (nm k))) ∧ Below z.heap.size z w') := by rw [← Hp.out]; exact fun h => IsIn_s sz A m c x (nm k) _ h HS.out
      obtain ⟨s, hs⟩ : ∃ s, s = nm k := ⟨_, rfl⟩
      rw [← hs] at q0 Hno Hyes KI
      obtain ⟨b, hb⟩ : ∃ b, b = p s := ⟨_, rfl⟩
      rw [← hb] at Hno Hyes KI
      obtain ⟨T, hT⟩ : ∃ T, T = nmK p k := ⟨_, rfl⟩
      rw [← hT] at Hno Hyes HO hml ⊢
      have HOq := HO
      have HNq := HN
      have hgl : gn < wr.heap.size := World.block_lt_of_cell? _ _ q0
      have HCL : Hid (CL wr gn k (.string s)) := ⟨q0⟩
      clear hs hb hT hcs q0
      have HKr := HK
      have HX : Hid (From wr wr) := From.refl _
      have e0 := HC.out.c0
      have e1 := HC.out.c1
      have q0 := HCL.out.c
      have HSC : Hid (∀ z : World, Below wr.heap.size wr z → (Below wr.heap.size wr z ∧ z.cell? ⟨w.heap.size, 0, none⟩ = some (.int .i64 sz) ∧ z.cell? ⟨w.heap.size, 1, none⟩ = some (.slice A m c) ∧ z.cell? ⟨gn, k, none⟩ = some (.string s))) := fun z hz => ⟨hz, up_ hz e0, up_ hz e1, up_ hz q0⟩
      have HZ0 : Hid (Below wr.heap.size wr wr.drew) := (Below.refl _ _).drew
      have HS1 := Lib.hid (HSC.out _ HZ0.out)
      have KR1 : Hid (∀ z : World, Below wr.heap.size wr z → _) := fun z hz => KI.out (HKr.out.keep hz)
      go_wp2
      go_region_held3 (fun z => Below wr.heap.size wr z ∧ z.cell? ⟨w.heap.size, 0, none⟩ = some (.int .i64 sz) ∧ z.cell? ⟨w.heap.size, 1, none⟩ = some (.slice A m c) ∧ z.cell? ⟨gn, k, none⟩ = some (.string s))
        (first | exact HS1.out | assumption | exact HSC.out _ hz1 | fail)
        (first | (go_at_call 20; ((with_reducible refine (KR1.out _ HZ0.out).mono ?_); rintro e w1 ⟨rfl, hb1⟩; have hz1 := bl_trans HZ0.out hb1)))
      clear e0 e1 q0
      replace HX := Lib.hid (HX.out.keep hz1)
      replace HB := Lib.hid (HB.out.keep hz1)
      replace HC := Lib.hid (HC.out.keep hz1)
      replace HCL := Lib.hid (HCL.out.keep hz1)
      replace HK := Lib.hid (HK.out.keep hz1)
      clear hb1 hz1 HSC HZ0 HS1 KR1
      have e0 := HC.out.c0
      have e1 := HC.out.c1
      have q0 := HCL.out.c
      have hx2 := HX.out.below
      have hz2 := hx2.size
      have HO2 : Hid (Own w1 g (g + 1) 9 1 (some ⟨g, 0, none⟩) T.length c' (stL T)) := HOq.out.keepB hx2 hg3
      have HN2 : Hid (Own w1 gn (gn + 1) 9 1 (some ⟨gn, 0, none⟩) 9 cn1 (strs nm)) := HNq.out.keepB hx2 hgl
      clear HO HOq KI HNq HN hx2 q0 e0 e1
      cases b
      · have Hn := Lib.hid (Hno.out rfl)
        go_wp2
        go_roundw
        case rel => exact ⟨k + 1, _, c', g, by omega, by go_num, by rw [Hn.out], rfl, hg1, hg2, by omega, by rw [Hn.out]; exact HO2, HB, HK, HC, HN2⟩
        case measure => (simp [intOf] <;> omega)
      · have Hn := Lib.hid (Hyes.out rfl)
        go_wp2_with (first | (at_builtin; (refine wpList_pushS w1 rfl _ _ rfl g c' T HO2.out (by omega) s rfl 1 w1.heap.size rfl rfl (by omega) ?_; intro g3 c3 w3 hO3 hg4 hg5 hf3)))
        have HO3 : Hid (Own w3 g3 (g3 + 1) 9 1 (some ⟨g3, 0, none⟩) (T ++ [s]).length c3 (stL (T ++ [s]))) := by show Own _ _ _ _ _ _ _ _ _; rw [List.length_append]; exact hO3
        have HB3 : Hid (From w w3) := ⟨HB.out.below.trans (hf3.below (by omega) HB.out.below.size)⟩
        have HK3 : Hid (GA w3 A m c x) := hKw.keep HB3.out.below
        have HC3 : Hid (GC w3 w.heap.size sz A m c) := HC.out.keepF hf3 (.inl hg2)
        have HN3 : Hid (Own w3 gn (gn + 1) 9 1 (some ⟨gn, 0, none⟩) 9 cn1 (strs nm)) := HN2.out.keep hf3 (by omega)
        clear hO3 hf3
        go_roundw
        case rel => exact ⟨k + 1, _, c3, g3, by omega, by go_num, by rw [Hn.out, List.length_append]; rfl, rfl, by omega, by omega, hg5, by rw [Hn.out]; exact HO3, HB3, HK3, HC3, HN3⟩
        case measure => (simp [intOf] <;> omega)
    · have hk9 : k = 9 := by omega
      have i1 : (9 : Int) ≤ (k : Int) := by omega
      have Hk : Hid (nmK p k = caL sz m x) := by rw [Hfin.out, hk9]; exact rfl
      rw [Hk.out] at HO ⊢
      clear hk9 hml
      go_wp2
      go_ret
      exact ⟨_, _, rfl, HO.out.mono (by omega) hg3, HB.out.below⟩
end
end Go.Proofs.YtmkahbephidmbaaGreat

/-
  The contracts of ClassesOf in the words of the law.
-/
namespace Go.Proofs.YtmkahbephidmbaaGreat
open Go.RowKit

/-- The names, place by place. -/
noncomputable def caF (s1 : Int) (m1 : Nat) (x1 : Nat → Int) (j : Nat) : ByteArray := (caL s1 m1 x1).getD j ⟨#[]⟩
section
variable (s1 : Int) (A1 : Option Addr) (m1 c1 : Nat) (x1 : Nat → Int) (w : World) (B : Nat)
theorem ClassesOf_sL (h1 : Rd w B A1 m1 c1 x1) (hB : B ≤ w.heap.size) (hm1 : m1 ≤ 1048576) :
    Calls Tryz.prog 30 #[.agg #[.int .i64 s1, .slice A1 m1 c1]] w fun e w' => ∃ A' c', e = .returned (.slice A' (caL s1 m1 x1).length c') ∧ Own w' w.heap.size w'.heap.size 9 1 A' (caL s1 m1 x1).length c' (strs (caF s1 m1 x1)) ∧ Below w.heap.size w w' :=
  ClassesOf_s s1 A1 m1 c1 x1 w ⟨h1.keep (Below.refl _ _) hB⟩ hm1
theorem ClassesOf_iL (h1 : Rd w B A1 m1 c1 x1) (hB : B ≤ w.heap.size) (hm1 : m1 ≤ 1048576) :
    Calls Tryz.prog 31 #[.agg #[.int .i64 s1, .slice A1 m1 c1]] w fun e w' => ∃ A' c', e = .returned (.slice A' (caL s1 m1 x1).length c') ∧ Own w' w.heap.size w'.heap.size 9 1 A' (caL s1 m1 x1).length c' (strs (caF s1 m1 x1)) ∧ Below w.heap.size w w' :=
  ClassesOf_i s1 A1 m1 c1 x1 w ⟨h1.keep (Below.refl _ _) hB⟩ hm1
end
end Go.Proofs.YtmkahbephidmbaaGreat

/-
  Plain: a graph with those of some new edges whose bits are set.
-/
namespace Go.Proofs.YtmkahbephidmbaaGreat
open Go.RowKit

def PrE (E : List (Nat × Nat)) : List (List Int) := E.map fun p => [(p.1 : Int), (p.2 : Int)]
/-- The rows with those of the first i edges whose bits are set. -/
def wbR (r : Nat → Nat) (E : List (Nat × Nat)) (b : Nat) : Nat → Nat → Nat
  | 0 => r
  | i + 1 => if b.testBit i = true then addN (wbR r E b i) (E.getD i (0, 0)).1 (E.getD i (0, 0)).2 else wbR r E b i
theorem wbR_yes {r : Nat → Nat} {E : List (Nat × Nat)} {b i : Nat} (h : b.testBit i = true) : wbR r E b (i + 1) = addN (wbR r E b i) (E.getD i (0, 0)).1 (E.getD i (0, 0)).2 := by rw [wbR, if_pos h]
theorem wbR_no {r : Nat → Nat} {E : List (Nat × Nat)} {b i : Nat} (h : b.testBit i = false) : wbR r E b (i + 1) = wbR r E b i := by rw [wbR, if_neg (by rw [h]; simp)]
/-- New edges, each once, the lesser vertex ahead. -/
structure EdN (r : Nat → Nat) (m : Nat) (E : List (Nat × Nat)) : Prop where
  inc : ∀ p ∈ E, p.1 < p.2 ∧ p.2 < m
  new : ∀ p ∈ E, (r p.1).testBit p.2 = false
  nd : E.Nodup
theorem getP_mem {E : List (Nat × Nat)} {i : Nat} (h : i < E.length) : E.getD i (0, 0) ∈ E := by simp [List.getD, h]
theorem getP_ne {E : List (Nat × Nat)} (h : E.Nodup) {i k : Nat} (hik : i < k) (hk : k < E.length) : E.getD i (0, 0) ≠ E.getD k (0, 0) := by
  have hi : i < E.length := by omega
  have e1 : E.getD i (0, 0) = E[i] := by simp [List.getD, hi]
  have e2 : E.getD k (0, 0) = E[k] := by simp [List.getD, hk]
  rw [e1, e2]
  exact (List.pairwise_iff_getElem.1 h) i k hi hk hik
theorem addN_other {q : Nat → Nat} {v u v' u' : Nat} (huv : v < u) (h' : v' < u') (hne : ¬ (v = v' ∧ u = u')) : (addN q v u v').testBit u' = (q v').testBit u' := by
  unfold addN
  by_cases h1 : v' = v
  · rw [if_pos h1, Nat.testBit_xor, Nat.testBit_two_pow, h1]
    have : u ≠ u' := fun e => hne ⟨h1.symm, e⟩
    simp [this]
  · rw [if_neg h1]
    by_cases h2 : v' = u
    · rw [if_pos h2, Nat.testBit_xor, Nat.testBit_two_pow, h2]
      have : v ≠ u' := by omega
      simp [this]
    · rw [if_neg h2]
section
variable {r : Nat → Nat} {m b : Nat} {E : List (Nat × Nat)}
theorem wbR_vg (vg : VG m r) (h : EdN r m E) : ∀ i, i ≤ E.length → VG m (wbR r E b i) := by
  intro i
  induction i with
  | zero => exact fun _ => vg
  | succ i ih =>
    intro hi
    have hv := ih (by omega)
    cases hb : b.testBit i
    · rw [wbR_no hb]; exact hv
    · rw [wbR_yes hb]
      have := h.inc _ (getP_mem (show i < E.length by omega))
      exact hv.add (by omega) this.2 (by omega)
theorem wbR_bit (h : EdN r m E) {k : Nat} (hk : k < E.length) : ∀ i, i ≤ k → (wbR r E b i (E.getD k (0, 0)).1).testBit (E.getD k (0, 0)).2 = false := by
  intro i
  induction i with
  | zero => exact fun _ => h.new _ (getP_mem hk)
  | succ i ih =>
    intro hi
    have hv := ih (by omega)
    cases hb : b.testBit i
    · rw [wbR_no hb]; exact hv
    · rw [wbR_yes hb, addN_other (h.inc _ (getP_mem (show i < E.length by omega))).1 (h.inc _ (getP_mem hk)).1]
      · exact hv
      · rintro ⟨h1, h2⟩
        exact getP_ne h.nd (show i < k by omega) hk (Prod.ext h1 h2)
end
end Go.Proofs.YtmkahbephidmbaaGreat

/-
  Plain: the optional edges of two graphs; the numbers of the graphs between them that are in a class.
-/
namespace Go.Proofs.YtmkahbephidmbaaGreat
open Go.RowKit

theorem wiB_is {s1 s2 : Int} {m1 m2 : Nat} {x1 x2 : Nat → Int} (h : wiB s1 m1 x1 s2 m2 x2 = true) : Wi s1 m1 x1 s2 m2 x2 := @of_decide_eq_true _ (Classical.propDecidable _) h
theorem nodup_pr (n : Nat) : (pr n).Nodup := by
  unfold pr List.Nodup
  rw [List.pairwise_flatMap]
  refine ⟨fun v _ => ?_, List.Pairwise.imp ?_ List.pairwise_lt_range⟩
  · unfold prRow
    rw [List.pairwise_map]
    refine List.Pairwise.imp ?_ List.pairwise_lt_range'
    rintro a b hab ⟨⟩
    omega
  · intro a b hab p hp q hq e
    unfold prRow at hp hq
    rw [List.mem_map] at hp hq
    obtain ⟨_, _, rfl⟩ := hp
    obtain ⟨_, _, rfl⟩ := hq
    injection e with e
    omega
/-- The pairs that are joined in the second graph, not in the first. -/
def swE (r s : Nat → Nat) (m : Nat) : List (Nat × Nat) := ((pr m).filter fun p => (s p.1).testBit p.2).filter fun p => !(r p.1).testBit p.2
theorem swE_new (r s : Nat → Nat) (m : Nat) : EdN r m (swE r s m) := by
  refine ⟨fun p hp => ?_, fun p hp => ?_, ?_⟩
  · unfold swE at hp
    exact mem_pr.1 (List.mem_filter.1 (List.mem_filter.1 hp).1).1
  · unfold swE at hp
    have := (List.mem_filter.1 hp).2
    simpa using this
  · exact List.Pairwise.filter _ (List.Pairwise.filter _ (nodup_pr m))
theorem swE_len {r s : Nat → Nat} {m : Nat} (h : m ≤ 7) : (swE r s m).length ≤ 21 := by
  unfold swE
  exact Nat.le_trans (List.length_filter_le _ _) (Nat.le_trans (List.length_filter_le _ _) (length_pr_le h))
/-- Two graphs, one within the other. -/
theorem sw_within {s1 s2 : Int} {m1 m2 : Nat} {x1 x2 : Nat → Int} (h : wiB s1 m1 x1 s2 m2 x2 = true) :
    okB s1 m1 x1 = true ∧ okB s2 m2 x2 = true ∧ m1 = m2 ∧ s1 = (m1 : Int) ∧ s2 = (m2 : Int) ∧ optL s1 m1 x1 s2 m2 x2 = PrE (swE (rw_ x1) (rw_ x2) m2) := by
  obtain ⟨h1, h2, h3, _⟩ := wiB_is h
  have o1 := okB_yes h1
  have o2 := okB_yes h2
  obtain ⟨_, e1, _, _⟩ := h1
  obtain ⟨_, e2, _, _⟩ := h2
  refine ⟨o1, o2, by omega, e1, e2, ?_⟩
  unfold optL edgesL edAll swE PrE
  rw [if_pos h, if_pos o2, List.filter_map]
  congr 1
section
variable (r : Nat → Nat) (m : Nat) (E : List (Nat × Nat)) (s : List UInt8)
/-- Is the graph with the edges of a number in the class? -/
noncomputable def sdwB (b : Nat) : Bool := isV (wbR r E b E.length) m s
noncomputable def sdwK (k : Nat) : List Nat := (List.range k).filter (sdwB r m E s)
noncomputable def sdwL : List Nat := sdwK r m E s (2 ^ E.length)
end
section
variable {r : Nat → Nat} {m : Nat} {E : List (Nat × Nat)} {s : List UInt8}
theorem sdwK_yes {k : Nat} (h : sdwB r m E s k = true) : sdwK r m E s (k + 1) = sdwK r m E s k ++ [k] := by
  unfold sdwK; rw [List.range_succ, List.filter_append]; simp [h]
theorem sdwK_no {k : Nat} (h : sdwB r m E s k = false) : sdwK r m E s (k + 1) = sdwK r m E s k := by
  unfold sdwK; rw [List.range_succ, List.filter_append]; simp [h]
theorem sdwK_len (k : Nat) : (sdwK r m E s k).length ≤ k := by
  unfold sdwK
  exact Nat.le_trans (List.length_filter_le _ _) (by simp)
end
end Go.Proofs.YtmkahbephidmbaaGreat
