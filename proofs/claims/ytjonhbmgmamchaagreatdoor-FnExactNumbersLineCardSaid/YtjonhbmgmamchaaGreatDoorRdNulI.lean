/-
  Contract: NumbersLine (the program's).
-/
import Derived.Test.YtjonhbmgmamchaaGreatDoorRdNulP
import Derived.Test.YtjonhbmgmamchaaGreatDoorRdWdoI
import Derived.Test.YtjonhbmgmamchaaGreatDoorRdCtwI
import Derived.Test.YtjonhbmgmamchaaGreatDoorRdMatI
import Derived.Test.YtjonhbmgmamchaaGreatDoorRdNumI
import Derived.Test.YtjonhbmgmamchaaGreatDoorRdClqP
import Derived.Test.YtjonhbmgmamchaaGreatDoorRdHamPath
import Derived.Test.YtjonhbmgmamchaaGreatDoorRdHamTop
import Derived.Test.YtjonhbmgmamchaaGreatDoorRdNms
import Derived.Deep.AppendLies
namespace Go.Proofs.YtjonhbmgmamchaaGreatDoor
open Go.RowKit

/-- append of two words, in a drawn region. -/
theorem step_pushW2 (W : World) {ops : Array Oper} {o : Oper} {a : Act} {K : Act → World → Prop} {Q : Exit → Act → World → Prop} {E : Prop} (hgd : o.guard = none) (s y : Operand)
    (ho : o.op = .call { callee := .builtin .append, args := #[s, y], argTypes := #[44, 44] })
    (lo g c : Nat) (L : List ByteArray) (h : WL lo W g c L) (hlo : lo ≤ W.heap.size) (p q : ByteArray) (hs : a.eval s = .slice (some ⟨g, 0, none⟩) L.length c) (cx : Nat) (hy : a.eval y = .slice (some ⟨W.heap.size, 0, none⟩) 2 cx)
    (hn : L.length ≤ 1000000)
    (hK : ∀ g' cap w', WL lo w' g' cap (L ++ [p, q]) → Below lo W w' → K (a.put o.dst (.slice (some ⟨g', 0, none⟩) (L.length + 2) cap)) w') :
    if Region.wanted o (yielded ops a.tmps) = true then Oper.wp Tryz.prog o a (W.alloc (Obj.cells #[.string p, .string q] 9)) K Q else E := by
  obtain ⟨i, hi2, hzz⟩ := Option.map_eq_some_iff.1 info_string
  simp only [Prod.mk.injEq] at hzz
  obtain ⟨hz, hsize, hbytes⟩ := hzz
  have hown := h.own.alloc (Obj.cells #[.string p, .string q] 9)
  have hB := heap_alloc_new W (Obj.cells #[.string p, .string q] 9)
  refine step_append_lies (w := W.alloc (Obj.cells #[.string p, .string q] 9)) hgd s y 44 ho lo 9 i (.string ⟨#[]⟩) 1 16 Tryz.underlying44 hi2 hz hsize hbytes rfl (by omega) (.slice (some ⟨g, 0, none⟩) L.length c) L.length _ hs hown.row ⟨W.heap.size, 0, none⟩ 2 cx [.string p, .string q] hy (by simp) (by have := World.news_of_block hB; simpa using this) (by
    intro u hu
    simp only [List.mem_cons, List.not_mem_nil, or_false] at hu
    rcases hu with rfl | rfl <;> rfl) (by omega) (by unfold maxLen; omega) (by omega) (by simp; omega) (W.alloc (Obj.cells #[.string p, .string q] 9)).heap.size rfl ?_
  intro g' cap w' hr hg _ _
  refine hK g' cap w' ⟨?_⟩ (((Below.refl _ _).alloc hlo _).trans ((Below.refl _ _).grown hg (by simp; omega) (fun k hk => (hown.block k hk).1)))
  rw [List.length_append]
  refine Own.of_row hr (fun j hj => ?_)
  rw [List.getElem?_append]
  simp only [List.length_map, List.length_range, Nat.mul_one]
  by_cases hj2 : j < L.length
  · rw [if_pos hj2]
    simp only [hj2, List.getElem?_map, List.getElem?_range, Option.map_some]
    unfold stL
    simp [List.getD, List.getElem?_append_left hj2]
  · rw [if_neg hj2]
    have h3 : j - L.length < 2 := by simp at hj; omega
    have hc : j - L.length = 0 ∨ j - L.length = 1 := by omega
    unfold stL
    rcases hc with e | e <;> simp [List.getD, List.getElem?_append_right (show L.length ≤ j by omega), e]
/-- A row of cells that is read. -/
structure RwC (w : World) (b n : Nat) (f : Nat → Value) : Prop where
  c : ∀ k, k < n → w.cell? ⟨b, k, none⟩ = some (f k)
  lt : b < w.heap.size
theorem RwC.keep {w w' : World} {b n : Nat} {f : Nat → Value} (h : RwC w b n f) (hb : Below w.heap.size w w') : RwC w' b n f := ⟨fun k hk => up hb (h.c k hk) h.lt, Nat.lt_of_lt_of_le h.lt hb.size⟩
theorem RwC.new (w : World) (cs : Array Value) (t : TypeId) {n : Nat} {f : Nat → Value} (h : ∀ k, k < n → cs[k]? = some (f k)) : RwC (w.alloc (Obj.cells cs t)) w.heap.size n f :=
  ⟨fun k hk => (cell_of_row _ _ k _ _ _ (heap_alloc_new w _)).trans (h k hk), by simp⟩
/-- A list of words that is empty. -/
theorem WL.nil {lo : Nat} (w : World) (h : lo = w.heap.size) : WL lo (w.alloc (Obj.cells #[] 9)) w.heap.size 0 [] :=
  ⟨.inr ⟨w.heap.size, #[], rfl, by omega, by simp, heap_alloc_new w _, Nat.le_refl _, by unfold maxLen; omega, rfl, fun j hj => absurd hj (by simp)⟩⟩
set_option maxRecDepth 100000 in
set_option maxHeartbeats 6400000 in
theorem NumbersLine_i (s : Int) (A : Option Addr) (m c : Nat) (x : Nat → Int) (w : World) (h : Rd w w.heap.size A m c x) (hm : m ≤ 1048576) (ht : Tb w) :
    Calls Tryz.prog 7 #[.agg #[.int .i64 s, .slice A m c]] w fun e w' => e = .returned (.string (nulB s m x)) ∧ Below w.heap.size w w' := by
  have KG := Lib.hid (fun (z : World) (hz : From w z) => IsGraph_any s A m c x z w.heap.size (h.keep hz.below (Nat.le_refl _)) hz.below.size hm)
  obtain ⟨W, hW⟩ : ∃ W : World, W = (w.alloc (Obj.cells #[Value.int IntKind.i64 s, Value.slice A m c] 27)) := ⟨_, rfl⟩
  have HB : Hid (From w W) := by rw [hW]; exact From.alloc _ _
  have HC : Hid (GC W w.heap.size s A m c) := by rw [hW]; exact GC.new _ _ _ _ _
  have HW := Lib.hid hW
  clear hW
  cases ho : okB s m x
  · rw [ho] at KG
    have HE : Hid (nulB s m x = ⟨#[]⟩) := nulB_no ho
    clear ho h
    go_enter Tryz.func7, Tryz.ntmps7
    have e0 := HC.out.c0
    have e1 := HC.out.c1
    go_wp2_with fail
    rw [← HW.out]
    refine (KG.out _ HB.out).mono ?_
    rintro e w1 ⟨rfl, hb1⟩
    clear HW
    clear e0 e1
    replace HB := Lib.hid (HB.out.keep hb1)
    replace HC := Lib.hid (HC.out.keep hb1)
    clear hb1
    have e0 := HC.out.c0
    have e1 := HC.out.c1
    go_wp2
    go_ret
    exact ⟨by rw [HE.out]; rfl, HB.out.below⟩
  obtain ⟨_, es, _, _⟩ := okB_ok' ho
  subst es
  have hGA : GA w A m c x := ⟨h⟩
  have HGA := Lib.hid hGA
  have HGV := Lib.hid (hGA.gv ho)
  have vg := (hGA.gv ho).vg
  have hm7 := vg.n7
  have HT := Lib.hid ht
  have HE : Hid (nulB (m : Int) m x = spJ (nlF m x)) := nulB_yes ho
  rw [ho] at KG
  have HFS : Hid ((spJ (nlF m x)).size ≤ 340) := nlF_size vg
  have HI64 : Hid (∀ k, I64 (nuN (rw_ x) m k)) := fun k => nuN_I64 vg k
  obtain ⟨r, hr⟩ : ∃ r, r = rw_ x := ⟨_, rfl⟩
  rw [← hr] at HGV HI64
  have HKP : Hid (∀ z : World, From w z → Calls Tryz.prog 38 #[.agg #[.int .i64 (m : Int), .slice A m c]] z fun e w' => ∃ A' c', e = .returned (.tuple #[.slice A' (hamL (m : Int) m x false).length c', .bool (hamB (m : Int) m x false)]) ∧ Own w' z.heap.size w'.heap.size 3 1 A' (hamL (m : Int) m x false).length c' (fun j => .int .i64 ((((hamL (m : Int) m x false).getD j 0 : Nat)) : Int)) ∧ Below z.heap.size z w') := fun z hz => HamiltonPath_i (m : Int) A m c x z z.heap.size (HGA.out.keep hz.below).rd (Nat.le_refl _) hm
  have HKC : Hid (∀ z : World, From w z → Calls Tryz.prog 39 #[.agg #[.int .i64 (m : Int), .slice A m c]] z fun e w' => ∃ A' c', e = .returned (.tuple #[.slice A' (hamL (m : Int) m x true).length c', .bool (hamB (m : Int) m x true)]) ∧ Own w' z.heap.size w'.heap.size 3 1 A' (hamL (m : Int) m x true).length c' (fun j => .int .i64 ((((hamL (m : Int) m x true).getD j 0 : Nat)) : Int)) ∧ Below z.heap.size z w') := fun z hz => HamiltonCycle_i (m : Int) A m c x z z.heap.size (HGA.out.keep hz.below).rd (Nat.le_refl _) hm
  have hnf : nlF m x = owW (hamB (m : Int) m x true) cyW (owW (hamB (m : Int) m x false) paW (nlL r m 9)) := by rw [hr]; rfl
  obtain ⟨Z, hZ⟩ : ∃ Z, Z = nlF m x := ⟨_, rfl⟩
  rw [← hZ] at hnf HE HFS
  obtain ⟨bp, hbp⟩ : ∃ b, b = hamB (m : Int) m x false := ⟨_, rfl⟩
  obtain ⟨bc, hbc⟩ : ∃ b, b = hamB (m : Int) m x true := ⟨_, rfl⟩
  obtain ⟨np, hnp⟩ : ∃ n, n = (hamL (m : Int) m x false).length := ⟨_, rfl⟩
  obtain ⟨nc, hnc⟩ : ∃ n, n = (hamL (m : Int) m x true).length := ⟨_, rfl⟩
  have KP : Hid (∀ z : World, From w z → Calls Tryz.prog 38 #[.agg #[.int .i64 (m : Int), .slice A m c]] z fun e w' => ∃ A' c', e = .returned (.tuple #[.slice A' np c', .bool bp]) ∧ Below z.heap.size z w') := fun z hz => by
    rw [hnp, hbp]
    exact (HKP.out z hz).mono fun _ _ ⟨A', c', h1, _, h3⟩ => ⟨A', c', h1, h3⟩
  have KC : Hid (∀ z : World, From w z → Calls Tryz.prog 39 #[.agg #[.int .i64 (m : Int), .slice A m c]] z fun e w' => ∃ A' c', e = .returned (.tuple #[.slice A' nc c', .bool bc]) ∧ Below z.heap.size z w') := fun z hz => by
    rw [hnc, hbc]
    exact (HKC.out z hz).mono fun _ _ ⟨A', c', h1, _, h3⟩ => ⟨A', c', h1, h3⟩
  rw [← hbp, ← hbc] at hnf
  have HNF := Lib.hid hnf
  clear HKP HKC hnf hZ hbp hbc hnp hnc hr
  obtain ⟨v0, hv0⟩ : ∃ v0 : Nat, v0 = cn (lqN r m) := ⟨_, rfl⟩
  obtain ⟨v1, hv1⟩ : ∃ v1 : Nat, v1 = chN r m := ⟨_, rfl⟩
  obtain ⟨v2, hv2⟩ : ∃ v2 : Nat, v2 = cn (liN r m) := ⟨_, rfl⟩
  obtain ⟨v3, hv3⟩ : ∃ v3 : Nat, v3 = (cvL r m).length := ⟨_, rfl⟩
  obtain ⟨v4, hv4⟩ : ∃ v4 : Nat, v4 = (maL (edN r m) 0).length := ⟨_, rfl⟩
  obtain ⟨v5, hv5⟩ : ∃ v5 : Nat, v5 = cn (fdN r m) := ⟨_, rfl⟩
  obtain ⟨v6, hv6⟩ : ∃ v6 : Int, v6 = bwI r m := ⟨_, rfl⟩
  obtain ⟨v7, hv7⟩ : ∃ v7 : Int, v7 = pwI r m := ⟨_, rfl⟩
  obtain ⟨v8, hv8⟩ : ∃ v8 : Int, v8 = trI r m := ⟨_, rfl⟩
  obtain ⟨s2, hs2⟩ : ∃ s2 : Nat, s2 = liN r m := ⟨_, rfl⟩
  obtain ⟨s5, hs5⟩ : ∃ s5 : Nat, s5 = fdN r m := ⟨_, rfl⟩
  have hs2l : s2 < 128 := by rw [hs2]; exact Nat.lt_of_lt_of_le (li_lt r m) (two_pow_le hm7)
  have hs5l : s5 < 128 := by rw [hs5]; exact Nat.lt_of_lt_of_le (fd_lt HGV.out.vg) (two_pow_le hm7)
  have K0 : Hid (∀ z : World, From w z → Calls Tryz.prog 27 #[.agg #[.int .i64 (m : Int), .slice A m c]] z fun e w' => e = .returned (.int .i64 (v0 : Nat)) ∧ Below z.heap.size z w') := fun z hz => by
    rw [hv0]; exact CliqueNumber_v (HGV.out.keep hz.below)
  have K1 : Hid (∀ z : World, From w z → Calls Tryz.prog 28 #[.agg #[.int .i64 (m : Int), .slice A m c]] z fun e w' => e = .returned (.int .i64 (v1 : Nat)) ∧ Below z.heap.size z w') := fun z hz => by
    rw [hv1]; exact ChromaticNumber_v (HGV.out.keep hz.below)
  have K2 : Hid (∀ z : World, From w z → Calls Tryz.prog 30 #[.agg #[.int .i64 (m : Int), .slice A m c]] z fun e w' => e = .returned (.int .i64 (s2 : Nat)) ∧ Below z.heap.size z w') := fun z hz => by
    rw [hs2]; exact LargestIndependent_v (HGV.out.keep hz.below)
  have K3 : Hid (∀ z : World, From w z → Calls Tryz.prog 29 #[.int .i64 (s2 : Nat)] z fun e w' => e = .returned (.int .i64 (v2 : Nat)) ∧ Below z.heap.size z w') := fun z hz => by
    rw [hv2, ← hs2]; exact CountSet_v s2 hs2l z
  have K4 : Hid (∀ z : World, From w z → Calls Tryz.prog 31 #[.agg #[.int .i64 (m : Int), .slice A m c]] z fun e w' => ∃ A' c', e = .returned (.slice A' v3 c') ∧ Below z.heap.size z w') := fun z hz => by
    rw [hv3]; exact (CliqueCoverOf_v (HGV.out.keep hz.below)).mono fun _ _ ⟨A', c', h1, _, h3⟩ => ⟨A', c', h1, h3⟩
  have K5 : Hid (∀ z : World, From w z → Calls Tryz.prog 32 #[.agg #[.int .i64 (m : Int), .slice A m c]] z fun e w' => ∃ A' c', e = .returned (.slice A' v4 c') ∧ Below z.heap.size z w') := fun z hz => by
    rw [hv4]; exact MatchingOf_v (HGV.out.keep hz.below)
  have K6 : Hid (∀ z : World, From w z → Calls Tryz.prog 33 #[.agg #[.int .i64 (m : Int), .slice A m c]] z fun e w' => e = .returned (.int .i64 (s5 : Nat)) ∧ Below z.heap.size z w') := fun z hz => by
    rw [hs5]; exact FewestDominating_v (HGV.out.keep hz.below)
  have K7 : Hid (∀ z : World, From w z → Calls Tryz.prog 29 #[.int .i64 (s5 : Nat)] z fun e w' => e = .returned (.int .i64 (v5 : Nat)) ∧ Below z.heap.size z w') := fun z hz => by
    rw [hv5, ← hs5]; exact CountSet_v s5 hs5l z
  have K8 : Hid (∀ z : World, From w z → Calls Tryz.prog 34 #[.agg #[.int .i64 (m : Int), .slice A m c]] z fun e w' => e = .returned (.int .i64 v6) ∧ Below z.heap.size z w') := fun z hz => by
    rw [hv6]; exact BandwidthOf_v (HGV.out.keep hz.below)
  have K9 : Hid (∀ z : World, From w z → Calls Tryz.prog 35 #[.agg #[.int .i64 (m : Int), .slice A m c]] z fun e w' => e = .returned (.int .i64 v7) ∧ Below z.heap.size z w') := fun z hz => by
    rw [hv7]; exact PathwidthOf_v (HGV.out.keep hz.below)
  have K10 : Hid (∀ z : World, From w z → Calls Tryz.prog 36 #[.agg #[.int .i64 (m : Int), .slice A m c]] z fun e w' => e = .returned (.int .i64 v8) ∧ Below z.heap.size z w') := fun z hz => by
    rw [hv8]; exact TreewidthOf_v (HGV.out.keep hz.below)
  have HNC : Hid (∀ k, k < 9 → (#[.int .i64 (v0 : Nat), .int .i64 (v1 : Nat), .int .i64 (v2 : Nat), .int .i64 (v3 : Nat), .int .i64 (v4 : Nat), .int .i64 (v5 : Nat), .int .i64 v6, .int .i64 v7, .int .i64 v8] : Array Value)[k]? = some (.int .i64 (nuN r m k))) := by
    intro k hk
    have hc : k = 0 ∨ k = 1 ∨ k = 2 ∨ k = 3 ∨ k = 4 ∨ k = 5 ∨ k = 6 ∨ k = 7 ∨ k = 8 := by omega
    rw [hv0, hv1, hv2, hv3, hv4, hv5, hv6, hv7, hv8]
    rcases hc with rfl | rfl | rfl | rfl | rfl | rfl | rfl | rfl | rfl <;> rfl
  have HNW : Hid (∀ k, k < 9 → (#[.string ⟨#[99, 108, 105, 113, 117, 101]⟩, .string ⟨#[99, 111, 108, 111, 114, 115]⟩, .string ⟨#[105, 110, 100, 101, 112, 101, 110, 100, 101, 110, 116]⟩, .string ⟨#[99, 111, 118, 101, 114, 115]⟩, .string ⟨#[109, 97, 116, 99, 104, 105, 110, 103]⟩, .string ⟨#[100, 111, 109, 105, 110, 97, 116, 105, 110, 103]⟩, .string ⟨#[98, 97, 110, 100, 119, 105, 100, 116, 104]⟩, .string ⟨#[112, 97, 116, 104, 119, 105, 100, 116, 104]⟩, .string ⟨#[116, 114, 101, 101, 119, 105, 100, 116, 104]⟩] : Array Value)[k]? = some (.string (nuW k))) := by
    intro k hk
    have hc : k = 0 ∨ k = 1 ∨ k = 2 ∨ k = 3 ∨ k = 4 ∨ k = 5 ∨ k = 6 ∨ k = 7 ∨ k = 8 := by omega
    rcases hc with rfl | rfl | rfl | rfl | rfl | rfl | rfl | rfl | rfl <;> rfl
  clear ho h hGA ht vg hv0 hv1 hv2 hv3 hv4 hv5 hv6 hv7 hv8 hs2 hs5 hs2l hs5l
  go_enter Tryz.func7, Tryz.ntmps7
  have e0 := HC.out.c0
  have e1 := HC.out.c1
  go_wp2_with fail
  rw [← HW.out]
  refine (KG.out _ HB.out).mono ?_
  rintro e w2 ⟨rfl, hb2⟩
  clear HW
  clear e0 e1
  replace HB := Lib.hid (HB.out.keep hb2)
  replace HC := Lib.hid (HC.out.keep hb2)
  clear hb2
  have e0 := HC.out.c0
  have e1 := HC.out.c1
  clear KG
  go_wp2
  obtain ⟨W3, hW3⟩ : ∃ W3 : World, W3 = w2.alloc (Obj.cells #[.string ⟨#[99, 108, 105, 113, 117, 101]⟩, .string ⟨#[99, 111, 108, 111, 114, 115]⟩, .string ⟨#[105, 110, 100, 101, 112, 101, 110, 100, 101, 110, 116]⟩, .string ⟨#[99, 111, 118, 101, 114, 115]⟩, .string ⟨#[109, 97, 116, 99, 104, 105, 110, 103]⟩, .string ⟨#[100, 111, 109, 105, 110, 97, 116, 105, 110, 103]⟩, .string ⟨#[98, 97, 110, 100, 119, 105, 100, 116, 104]⟩, .string ⟨#[112, 97, 116, 104, 119, 105, 100, 116, 104]⟩, .string ⟨#[116, 114, 101, 101, 119, 105, 100, 116, 104]⟩] 43) := ⟨_, rfl⟩
  have hb3 : Below w2.heap.size w2 W3 := by rw [hW3]; exact (Below.refl _ _).alloc (Nat.le_refl _) _
  have HN3 : Hid (RwC W3 w2.heap.size 9 (fun k => .string (nuW k))) := by rw [hW3]; exact RwC.new w2 _ _ HNW.out
  have HW3 := Lib.hid hW3
  clear hW3
  go_wp2
  rw [← HW3.out]
  clear HW3 HNW
  clear e0 e1
  replace HB := Lib.hid (HB.out.keep hb3)
  replace HC := Lib.hid (HC.out.keep hb3)
  clear hb3
  have e0 := HC.out.c0
  have e1 := HC.out.c1
  have HB' := HB
  have HSC : Hid (∀ z : World, Below W3.heap.size W3 z → (Below W3.heap.size W3 z ∧ z.cell? ⟨w.heap.size, 0, none⟩ = some (.int .i64 (m : Nat)) ∧ z.cell? ⟨w.heap.size, 1, none⟩ = some (.slice A m c))) := fun z hz => ⟨hz, up_ hz e0, up_ hz e1⟩
  have HZ0 : Hid (Below W3.heap.size W3 W3.drew) := (Below.refl _ _).drew
  have HS1 := Lib.hid (HSC.out _ HZ0.out)
  have KR1 : Hid (∀ z : World, Below W3.heap.size W3 z → _) := fun z hz => K0.out z (HB'.out.keep hz)
  have KR2 : Hid (∀ z : World, Below W3.heap.size W3 z → _) := fun z hz => K1.out z (HB'.out.keep hz)
  have KR3 : Hid (∀ z : World, Below W3.heap.size W3 z → _) := fun z hz => K2.out z (HB'.out.keep hz)
  have KR4 : Hid (∀ z : World, Below W3.heap.size W3 z → _) := fun z hz => K3.out z (HB'.out.keep hz)
  have KR5 : Hid (∀ z : World, Below W3.heap.size W3 z → _) := fun z hz => K4.out z (HB'.out.keep hz)
  have KR6 : Hid (∀ z : World, Below W3.heap.size W3 z → _) := fun z hz => K5.out z (HB'.out.keep hz)
  have KR7 : Hid (∀ z : World, Below W3.heap.size W3 z → _) := fun z hz => K6.out z (HB'.out.keep hz)
  have KR8 : Hid (∀ z : World, Below W3.heap.size W3 z → _) := fun z hz => K7.out z (HB'.out.keep hz)
  have KR9 : Hid (∀ z : World, Below W3.heap.size W3 z → _) := fun z hz => K8.out z (HB'.out.keep hz)
  have KR10 : Hid (∀ z : World, Below W3.heap.size W3 z → _) := fun z hz => K9.out z (HB'.out.keep hz)
  have KR11 : Hid (∀ z : World, Below W3.heap.size W3 z → _) := fun z hz => K10.out z (HB'.out.keep hz)
  go_region_held3 (fun z => Below W3.heap.size W3 z ∧ z.cell? ⟨w.heap.size, 0, none⟩ = some (.int .i64 (m : Nat)) ∧ z.cell? ⟨w.heap.size, 1, none⟩ = some (.slice A m c))
    (first | exact HS1.out | assumption | exact HSC.out _ hz13 | exact HSC.out _ hz12 | exact HSC.out _ hz11 | exact HSC.out _ hz10 | exact HSC.out _ hz9 | exact HSC.out _ hz8 | exact HSC.out _ hz7 | exact HSC.out _ hz6 | exact HSC.out _ hz5 | exact HSC.out _ hz4 | exact HSC.out _ hz3 | exact HSC.out _ (bl_alloc hz13) | fail)
    (first | (go_at_call 27; ((with_reducible refine (KR1.out _ HZ0.out).mono ?_); rintro e w3 ⟨rfl, hb3⟩; have hz3 := bl_trans HZ0.out hb3)) | (go_at_call 28; ((with_reducible refine (KR2.out _ hz3).mono ?_); rintro e w4 ⟨rfl, hb4⟩; have hz4 := bl_trans hz3 hb4)) | (go_at_call 30; ((with_reducible refine (KR3.out _ hz4).mono ?_); rintro e w5 ⟨rfl, hb5⟩; have hz5 := bl_trans hz4 hb5)) | (go_at_call 29; ((with_reducible refine (KR4.out _ hz5).mono ?_); rintro e w6 ⟨rfl, hb6⟩; have hz6 := bl_trans hz5 hb6)) | (go_at_call 31; ((with_reducible refine (KR5.out _ hz6).mono ?_); rintro e w7 ⟨A5, c5, rfl, hb7⟩; have hz7 := bl_trans hz6 hb7)) | (go_at_call 32; ((with_reducible refine (KR6.out _ hz7).mono ?_); rintro e w8 ⟨A6, c6, rfl, hb8⟩; have hz8 := bl_trans hz7 hb8)) | (go_at_call 33; ((with_reducible refine (KR7.out _ hz8).mono ?_); rintro e w9 ⟨rfl, hb9⟩; have hz9 := bl_trans hz8 hb9)) | (go_at_call 29; ((with_reducible refine (KR8.out _ hz9).mono ?_); rintro e w10 ⟨rfl, hb10⟩; have hz10 := bl_trans hz9 hb10)) | (go_at_call 34; ((with_reducible refine (KR9.out _ hz10).mono ?_); rintro e w11 ⟨rfl, hb11⟩; have hz11 := bl_trans hz10 hb11)) | (go_at_call 35; ((with_reducible refine (KR10.out _ hz11).mono ?_); rintro e w12 ⟨rfl, hb12⟩; have hz12 := bl_trans hz11 hb12)) | (go_at_call 36; ((with_reducible refine (KR11.out _ hz12).mono ?_); rintro e w13 ⟨rfl, hb13⟩; have hz13 := bl_trans hz12 hb13)))
  clear e0 e1
  replace HB := Lib.hid (HB.out.keep hz13)
  replace HC := Lib.hid (HC.out.keep hz13)
  replace HN3 := Lib.hid (HN3.out.keep hz13)
  clear hb3 hz3 hb4 hz4 hb5 hz5 hb6 hz6 hb7 hz7 hb8 hz8 hb9 hz9 hb10 hz10 hb11 hz11 hb12 hz12 hb13 hz13 HSC HZ0 HS1 KR1 KR2 KR3 KR4 KR5 KR6 KR7 KR8 KR9 KR10 KR11
  have e0 := HC.out.c0
  have e1 := HC.out.c1
  have hn13 := HN3.out.lt
  clear K0 K1 K2 K3 K4 K5 K6 K7 K8 K9 K10 HB'
  obtain ⟨WN, hWN⟩ : ∃ WN : World, WN = (w13.alloc (Obj.cells #[.int .i64 (v0 : Nat), .int .i64 (v1 : Nat), .int .i64 (v2 : Nat), .int .i64 (v3 : Nat), .int .i64 (v4 : Nat), .int .i64 (v5 : Nat), .int .i64 v6, .int .i64 v7, .int .i64 v8] 3)).alloc (Obj.cells #[] 9) := ⟨_, rfl⟩
  have hbN : Below w13.heap.size w13 WN := by rw [hWN]; exact ((Below.refl _ _).alloc (Nat.le_refl _) _).alloc (by simp) _
  have hzN : w13.heap.size + 1 ≤ WN.heap.size := by rw [hWN]; simp
  have HWL : Hid (WL (w13.heap.size + 1) WN (w13.heap.size + 1) 0 (nlL r m 0)) := by
    rw [hWN]
    have := WL.nil (lo := w13.heap.size + 1) (w13.alloc (Obj.cells #[.int .i64 (v0 : Nat), .int .i64 (v1 : Nat), .int .i64 (v2 : Nat), .int .i64 (v3 : Nat), .int .i64 (v4 : Nat), .int .i64 (v5 : Nat), .int .i64 v6, .int .i64 v7, .int .i64 v8] 3)) (by simp)
    rw [show (w13.alloc (Obj.cells #[.int .i64 (v0 : Nat), .int .i64 (v1 : Nat), .int .i64 (v2 : Nat), .int .i64 (v3 : Nat), .int .i64 (v4 : Nat), .int .i64 (v5 : Nat), .int .i64 v6, .int .i64 v7, .int .i64 v8] 3)).heap.size = w13.heap.size + 1 by simp] at this
    exact this
  have HNN : Hid (RwC WN w13.heap.size 9 (fun k => .int .i64 (nuN r m k))) := by
    rw [hWN]
    exact (RwC.new w13 _ _ HNC.out).keep ((Below.refl _ _).alloc (Nat.le_refl _) _)
  have HNM : Hid (RwC WN w2.heap.size 9 (fun k => .string (nuW k))) := HN3.out.keep hbN
  have hwl0 := HC.out.lt
  clear e0 e1
  have HWN := Lib.hid hWN
  clear hWN HN3 HNC
  replace HB := Lib.hid (HB.out.keep hbN)
  replace HC := Lib.hid (HC.out.keep hbN)
  clear hbN
  have HR0 : Hid (Below (w13.heap.size + 1) WN WN) := Below.refl _ _
  have hwl : w.heap.size < w13.heap.size := hwl0
  go_wp2
  rw [← HWN.out]
  clear HWN
  go_loopw [5, 42] (fun o i wr => ∃ (k g c' : Nat), k ≤ 9 ∧ i = .int .i64 k ∧ o = .slice (some ⟨g, 0, none⟩) (nlL r m k).length c' ∧ Hid (WL (w13.heap.size + 1) wr g c' (nlL r m k)) ∧ Hid (Below (w13.heap.size + 1) WN wr)) (fun _ i _ => 9 - (intOf i).toNat)
  case atStart => exact ⟨0, w13.heap.size + 1, 0, Nat.zero_le _, rfl, rfl, HWL, HR0⟩
  case round =>
    clear HR0 HWL
    obtain ⟨k, g, c', hk, rfl, rfl, HWL, HR⟩ := hrel
    obtain ⟨L, hL⟩ : ∃ L, L = nlL r m k := ⟨_, rfl⟩
    have hLl : L.length = 2 * k := by rw [hL]; exact nlL_len k
    rw [← hL] at HWL ⊢
    have HL := Lib.hid hL
    have hL18 : L.length ≤ 18 := by omega
    have hzr : w13.heap.size + 1 ≤ wr.heap.size := Nat.le_trans hzN HR.out.size
    have HBr : Hid (From w wr) := ⟨HB.out.below.trans (HR.out.mono (by omega))⟩
    clear hL hLl
    by_cases hk9 : k < 9
    · have i1 : (k : Int) < (9 : Int) := by omega
      have q0 : wr.cell? ⟨w13.heap.size, k, none⟩ = some (.int .i64 (nuN r m k)) := up HR.out (HNN.out.c k hk9) (by show w13.heap.size < _; omega)
      have q1 : wr.cell? ⟨w2.heap.size, k, none⟩ = some (.string (nuW k)) := up HR.out (HNM.out.c k hk9) (by show w2.heap.size < _; omega)
      have KF : Hid (∀ z : World, Below wr.heap.size wr z → Calls Tryz.prog 37 #[.int .i64 (nuN r m k)] z fun e w' => e = .returned (.string (itB (nuN r m k))) ∧ Below z.heap.size z w') := fun z hz => FormatInt_ia _ (HI64.out k) z (HT.out.keep (HBr.out.keep hz).below)
      have HX : Hid (nlL r m (k + 1) = L ++ [nuW k, itB (nuN r m k)]) := by show _ = _; rw [HL.out]; rfl
      obtain ⟨nv, hnv⟩ : ∃ nv, nv = nuN r m k := ⟨_, rfl⟩
      obtain ⟨P, hP⟩ : ∃ P, P = nuW k := ⟨_, rfl⟩
      rw [← hnv] at q0 KF HX
      rw [← hP] at q1 HX
      obtain ⟨I, hI⟩ : ∃ I, I = itB nv := ⟨_, rfl⟩
      rw [← hI] at KF HX
      clear hnv hP hI HL
      have HSC : Hid (∀ z : World, Below (w13.heap.size + 1) wr z → (Below (w13.heap.size + 1) wr z ∧ z.cell? ⟨w2.heap.size, k, none⟩ = some (.string P))) := fun z hz => ⟨hz, up hz q1 (by show w2.heap.size < _; omega)⟩
      have HZ0 : Hid (Below wr.heap.size wr wr.drew) := (Below.refl _ _).drew
      go_wp2
      go_region_held3 (fun z => Below (w13.heap.size + 1) wr z ∧ z.cell? ⟨w2.heap.size, k, none⟩ = some (.string P))
        (first | exact HSC.out _ (HZ0.out.mono hzr) | exact HSC.out _ (hz5.mono hzr) | exact HSC.out _ ((bl_alloc hz5).mono hzr) | exact HSC.out _ ((hz5.mono hzr).trans hb7) | fail)
        (first
          | (go_at_call 37; ((with_reducible refine (KF.out _ HZ0.out).mono ?_); rintro e w5 ⟨rfl, hb5⟩; have hz5 := bl_trans HZ0.out hb5; have HW5 := Lib.hid (HWL.out.keep hz5)))
          | ((refine step_pushW2 w5 (by rfl) _ _ (by rfl) (w13.heap.size + 1) g c' L HW5.out (Nat.le_trans hzr hz5.size) P I (by rfl) _ (by rfl) (by omega) ?_); intro g7 c7 w7 hO7 hb7)
          | fail)
      have HR7 : Hid (Below (w13.heap.size + 1) WN w7) := (HR.out.trans (hz5.mono hzr)).trans hb7
      have HW7 : Hid (WL (w13.heap.size + 1) w7 g7 c7 (nlL r m (k + 1))) := by rw [HX.out]; exact hO7
      clear hO7 hb7 hz5 hb5 HW5 HSC HZ0 KF q0 q1 HWL HR HBr
      go_wp2
      go_roundw
      case rel => exact ⟨k + 1, g7, c7, by omega, by go_num, by rw [HX.out, List.length_append]; rfl, HW7, HR7⟩
      case measure => (simp [intOf] <;> omega)
    · obtain rfl : k = 9 := by omega
      have HCr : Hid (GC wr w.heap.size m A m c) := ⟨up HR.out HC.out.c0 (by show w.heap.size < _; omega), up HR.out HC.out.c1 (by show w.heap.size < _; omega), upf HR.out HC.out.f0 (by show w.heap.size < _; omega), upf HR.out HC.out.f1 (by show w.heap.size < _; omega)⟩
      have e0 := HCr.out.c0
      have e1 := HCr.out.c1
      obtain ⟨M0, hM0⟩ : ∃ M, M = nlL r m 9 := ⟨_, rfl⟩
      rw [← hM0] at HL HNF
      clear hM0 HB HC HR
      go_wp2_with fail
      refine (KP.out _ HBr.out).mono ?_
      rintro e v1 ⟨A1, c1, rfl, hbv⟩
      replace HWL := Lib.hid (HWL.out.keep hbv)
      replace HCr := Lib.hid (HCr.out.keep hbv)
      replace HBr := Lib.hid (HBr.out.keep hbv)
      replace hzr := Nat.le_trans hzr hbv.size
      clear hbv KP e0 e1
      have e0 := HCr.out.c0
      have e1 := HCr.out.c1
      have hwz := HCr.out.lt
      obtain ⟨M1, hM1⟩ : ∃ M, M = owW bp paW M0 := ⟨_, rfl⟩
      rw [← hM1] at HNF
      have HM1 := Lib.hid hM1
      clear hM1
      cases bp
      case' false =>
        have HLn : Hid (L = M1) := by show _ = _; rw [HM1.out, owW_no]; exact HL.out
        go_wp2_with fail
        obtain ⟨v, hv⟩ : ∃ v : World, v = v1 := ⟨_, rfl⟩
        rw [← hv] at HWL HCr HBr hzr ⊢
        replace HL := HLn
        have hLy : L.length ≤ 19 := by omega
        clear hwz HM1 HLn hv e0 e1 hL18
      case' true =>
        have HLn : Hid (L ++ [paW] = M1) := by show _ = _; rw [HM1.out, owW_yes, HL.out]
        unfold paW at HLn
        go_wp2_with (first | (at_builtin; (refine wpList_pushW v1 rfl _ _ rfl (w13.heap.size + 1) g c' L HWL.out hzr _ rfl 1 v1.heap.size rfl rfl (by omega) ?_; intro g7 c7 v hO7 hb7; have HC7 : Hid (GC v w.heap.size m A m c) := ⟨up hb7 HCr.out.c0 (by show w.heap.size < _; omega), up hb7 HCr.out.c1 (by show w.heap.size < _; omega), upf hb7 HCr.out.f0 (by show w.heap.size < _; omega), upf hb7 HCr.out.f1 (by show w.heap.size < _; omega)⟩; have d0 := HC7.out.c0; have d1 := HC7.out.c1)))
        have HB7 : Hid (From w v) := ⟨HBr.out.below.trans (hb7.mono (by omega))⟩
        have hzr7 : w13.heap.size + 1 ≤ v.heap.size := Nat.le_trans hzr hb7.size
        have HW7 := Lib.hid hO7
        have hlen : L.length + 1 = (L ++ [(⟨#[112, 97, 116, 104]⟩ : ByteArray)]).length := by rw [List.length_append]; rfl
        have hLz : (L ++ [(⟨#[112, 97, 116, 104]⟩ : ByteArray)]).length ≤ 19 := by rw [List.length_append]; show _ + 1 ≤ _; omega
        rw [hlen]
        clear hO7 hb7 HWL HL hwz HCr HBr hzr e0 e1 d0 d1 HM1 hlen hL18
        obtain ⟨Lx, hLx⟩ : ∃ Lx : List ByteArray, Lx = L ++ [(⟨#[112, 97, 116, 104]⟩ : ByteArray)] := ⟨_, rfl⟩
        rw [← hLx] at HW7 HLn hLz ⊢
        clear hLx
        obtain ⟨L, rfl⟩ : ∃ z, z = Lx := ⟨_, rfl⟩
        obtain ⟨g, rfl⟩ : ∃ z, z = g7 := ⟨_, rfl⟩
        obtain ⟨c', rfl⟩ : ∃ z, z = c7 := ⟨_, rfl⟩
        have HWL := HW7
        have HL := HLn
        have HCr := HC7
        have HBr := HB7
        have hzr := hzr7
        have hLy := hLz
        clear HW7 HLn HC7 HB7 hzr7 hLz
      all_goals
        refine (KC.out _ HBr.out).mono ?_
        rintro e v2 ⟨A2, c2, rfl, hbv⟩
        replace HWL := Lib.hid (HWL.out.keep hbv)
        replace HCr := Lib.hid (HCr.out.keep hbv)
        replace HBr := Lib.hid (HBr.out.keep hbv)
        replace hzr := Nat.le_trans hzr hbv.size
        clear hbv KC
        obtain ⟨M2, hM2⟩ : ∃ M, M = owW bc cyW M1 := ⟨_, rfl⟩
        rw [← hM2] at HNF
        have HM2 := Lib.hid hM2
        clear hM2
        cases bc
        case' false =>
          have HLn : Hid (L = M2) := by show _ = _; rw [HM2.out, owW_no]; exact HL.out
          go_wp2_with fail
          obtain ⟨v, hv⟩ : ∃ v : World, v = v2 := ⟨_, rfl⟩
          rw [← hv] at HWL HBr ⊢
          replace HL := HLn
          have hLw : L.length ≤ 20 := by omega
          clear HM2 HLn hv hLy hzr HCr
        case' true =>
          have HLn : Hid (L ++ [cyW] = M2) := by show _ = _; rw [HM2.out, owW_yes, HL.out]
          unfold cyW at HLn
          go_wp2_with (first | (at_builtin; (refine wpList_pushW v2 rfl _ _ rfl (w13.heap.size + 1) g c' L HWL.out hzr _ rfl 1 v2.heap.size rfl rfl (by omega) ?_; intro g7 c7 v hO7 hb7)))
          have HB7 : Hid (From w v) := ⟨HBr.out.below.trans (hb7.mono (by omega))⟩
          have HW7 := Lib.hid hO7
          have hlen : L.length + 1 = (L ++ [(⟨#[99, 121, 99, 108, 101]⟩ : ByteArray)]).length := by rw [List.length_append]; rfl
          have hLz : (L ++ [(⟨#[99, 121, 99, 108, 101]⟩ : ByteArray)]).length ≤ 20 := by rw [List.length_append]; show _ + 1 ≤ _; omega
          rw [hlen]
          clear hO7 hb7 HWL HL HCr HBr hzr HM2 hlen hLy
          obtain ⟨Lx, hLx⟩ : ∃ Lx : List ByteArray, Lx = L ++ [(⟨#[99, 121, 99, 108, 101]⟩ : ByteArray)] := ⟨_, rfl⟩
          rw [← hLx] at HW7 HLn hLz ⊢
          clear hLx
          obtain ⟨L, rfl⟩ : ∃ z, z = Lx := ⟨_, rfl⟩
          obtain ⟨g, rfl⟩ : ∃ z, z = g7 := ⟨_, rfl⟩
          obtain ⟨c', rfl⟩ : ∃ z, z = c7 := ⟨_, rfl⟩
          have HWL := HW7
          have HL := HLn
          have HBr := HB7
          have hLw := hLz
          clear HW7 HLn HB7 hLz
        all_goals
          have HSz : Hid ((spJ L).size ≤ 340) := by show _ ≤ _; rw [HL.out, ← HNF.out]; exact HFS.out
          have KJ := Lib.hid (HWL.out.join (by omega) (by have := HSz.out; omega))
          refine KJ.out.mono ?_
          rintro e v9 ⟨rfl, hb9⟩
          replace HBr := Lib.hid (HBr.out.keep hb9)
          have HRs : Hid (spJ L = nulB (m : Int) m x) := by show _ = _; rw [HE.out, HNF.out, HL.out]
          clear hb9 KJ
          go_wp2
          go_ret
          exact ⟨by rw [← HRs.out]; rfl, HBr.out.below⟩
end Go.Proofs.YtjonhbmgmamchaaGreatDoor
