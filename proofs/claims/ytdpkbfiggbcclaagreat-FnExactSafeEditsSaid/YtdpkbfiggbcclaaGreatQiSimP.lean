/-
  Several texts in one: words for memory, plain laws and contracts that the later texts lean on.
-/
import Derived.Test.YtdpkbfiggbcclaaGreatQiFillP
import Derived.Test.YtdpkbfiggbcclaaGreatQiUmbI
import Derived.Test.YtdpkbfiggbcclaaGreatQiColI
/-
  Contracts: the first order in which all between two neighbors are neighbors of both; is a graph a proper interval graph? The program's.
-/
namespace Go.Proofs.YtdpkbfiggbcclaaGreat
open Go.RowKit

noncomputable def umO (r : Nat → Nat) (m : Nat) : Option (List Nat) := seaG m (umB r) (fun _ => true) m []
noncomputable def ppB (sz : Int) (m : Nat) (x : Nat → Int) : Bool := okB sz m x && (umO (rw_ x) m).isSome
theorem ppB_no {sz : Int} {m : Nat} {x : Nat → Int} (h : okB sz m x = false) : ppB sz m x = false := by unfold ppB; rw [h]; rfl
theorem ppB_yes {sz : Int} {m : Nat} {x : Nat → Int} (h : okB sz m x = true) : ppB sz m x = (umO (rw_ x) m).isSome := by unfold ppB; rw [h]; rfl
set_option maxRecDepth 100000 in
set_option maxHeartbeats 1600000 in
theorem UmoF {A : Option Addr} {m c q : Nat} {r : Nat → Nat} {Al : Option Addr} {cl : Nat} {l : List Nat} {w : World} (h : GBox w q A m c r) (hl : LN w Al cl l) (hlt : ∀ v ∈ l, v < m) (hlen : l.length ≤ 7) :
    Calls Tryz.prog 356 #[.slice Al l.length cl, .pointer (some ⟨q, 0, none⟩)] w fun e w' => e = .returned (.bool (umB r l)) ∧ Below w.heap.size w w' := by
  have HG := Lib.hid h
  have HL := Lib.hid hl
  have Hlt := Lib.hid hlt
  have e0 := h.c0
  have e1 := h.c1
  have HF : Hid (From w w) := From.refl w
  clear h hl hlt
  go_enter Tryz.func356, Tryz.ntmps356
  go_wp2_with fail
  refine (isUmbrella_v HG.out.gv HL.out Hlt.out hlen).mono ?_
  rintro e w1 ⟨rfl, hb1⟩
  replace HF := Lib.hid (HF.out.keep hb1)
  clear hb1
  go_wp2
  go_ret
  exact ⟨rfl, HF.out.below⟩
section
variable {A : Option Addr} {m c : Nat} {r : Nat → Nat}
set_option maxRecDepth 100000 in
set_option maxHeartbeats 1600000 in
theorem UmbrellaOf_v {w : World} (h : GV w A m c r) : Calls Tryz.prog 279 #[.agg #[.int .i64 m, .slice A m c]] w (lsQ w (umO r m)) := by
  have hm1 := h.vg.n1
  have hm7 := h.vg.n7
  obtain ⟨W, hW⟩ : ∃ W : World, W = (w.alloc (Obj.cells #[Value.int IntKind.i64 m, Value.slice A m c] 28)) := ⟨_, rfl⟩
  have HB : Hid (From w W) := by rw [hW]; exact From.alloc _ _
  have HG : Hid (GBox W w.heap.size A m c r) := by rw [hW]; exact h.box
  have HW := Lib.hid hW
  clear hW h
  have e0 := HG.out.c0
  have e1 := HG.out.c1
  have HG0 := HG
  have KF := Lib.hid (firstList_g (m := m) (n := m) (A := A) (c := c) (r := r) (fm := 356) (cm := #[.pointer (some ⟨w.heap.size, 0, none⟩)]) (fh := 222) (ch := #[]) (may := umB r) (hol := fun _ => true) (lo := W.heap.size) (hi := W.heap.size) (J := fun _ z => GBox z w.heap.size A m c r)
    (ent_of Tryz.func356 (by kernel_rfl) rfl) (ent_of Tryz.func222 (by kernel_rfl) rfl) W HG0.out.gv hm1 (Nat.le_refl _) (fun _ z z' hz hb => hz.keep hb) HG0.out
    (fun _ l A' c' z hz hr _ hv hn => UmoF hz ⟨hr⟩ hv (by have := nodup_len hn hv; omega))
    (fun _ l A' c' z hz _ _ _ _ => (always_n A' l.length c' z).mono fun e w' ⟨h1, h2⟩ => ⟨h1, hz.keep h2, Fr.of_below h2⟩))
  have HO : Hid (umO r m = seaG m (umB r) (fun _ => true) m []) := rfl
  obtain ⟨o, ho⟩ : ∃ o, o = umO r m := ⟨_, rfl⟩
  rw [← ho] at HO ⊢
  rw [← HO.out] at KF
  clear ho HO
  go_enter Tryz.func279, Tryz.ntmps279
  have e0 := HG.out.c0
  have e1 := HG.out.c1
  go_wp2_with fail
  rw [← HW.out]
  clear HW
  refine KF.out.mono ?_
  rintro e w1 ⟨hf, hp⟩
  have HB1 : Hid (Below w.heap.size w w1) := HB.out.below.trans (hf.below HB.out.below.size HB.out.below.size)
  have HZ : Hid (w.heap.size ≤ W.heap.size) := HB.out.below.size
  clear hf KF HG e0 e1
  cases o with
  | none =>
    obtain ⟨rfl, _⟩ := hp
    go_wp2
    go_ret2
    exact lsQ.no HB1.out
  | some l =>
    obtain ⟨g, c', rfl, hO⟩ := hp
    have HL : Hid (ON w.heap.size w1 (some ⟨g, 0, none⟩) c' l) := ⟨hO.mono HZ.out (Nat.le_refl _)⟩
    clear hO
    go_wp2
    go_ret2
    exact lsQ.yes HL.out HB1.out
end
set_option maxRecDepth 100000 in
set_option maxHeartbeats 1600000 in
/-- The program's search in what is no graph. -/
theorem firstList_noG {sz : Int} {A : Option Addr} {m c : Nat} {x : Nat → Int} {w : World} {n : Int} {fm fh : FuncId} {cm ch : Array Value} (h : GA w A m c x) (hm : m ≤ 1048576) (hok : okB sz m x = false) :
    Calls Tryz.prog 215 #[.agg #[.int .i64 sz, .slice A m c], .int .i64 n, .func (.func fm) #[] cm, .func (.func fh) #[] ch] w fun e w' => e = .returned (.tuple #[.slice none 0 0, .bool false]) ∧ Below w.heap.size w w' := by
  obtain ⟨W4, hW4⟩ : ∃ W : World, W = ((((w.alloc (Obj.cells #[Value.int IntKind.i64 sz, Value.slice A m c] 28)).alloc (Obj.cells #[Value.int IntKind.i64 n] 3)).alloc (Obj.cells #[.func (.func fm) #[] cm] 137)).alloc (Obj.cells #[.func (.func fh) #[] ch] 137)) := ⟨_, rfl⟩
  have HF4 : Hid (From w W4) := by rw [hW4]; exact (((From.alloc _ _).alloc_ _).alloc_ _).alloc_ _
  have hz4 : w.heap.size + 1 + 1 + 1 + 1 = W4.heap.size := by rw [hW4]; simp
  have a0 : W4.cell? ⟨w.heap.size, 0, none⟩ = some (.int .i64 sz) := by rw [hW4]; simp [go_sem]
  have a1 : W4.cell? ⟨w.heap.size, 1, none⟩ = some (.slice A m c) := by rw [hW4]; simp [go_sem]
  obtain ⟨W, hW⟩ : ∃ W : World, W = W4.alloc (Obj.cells #[.func (.func 321) #[] #[.pointer (some ⟨w.heap.size + 1, 0, none⟩), .pointer (some ⟨w.heap.size + 1 + 1 + 1, 0, none⟩), .pointer (some ⟨w.heap.size, 0, none⟩), .pointer (some ⟨w.heap.size + 1 + 1, 0, none⟩), .pointer (some ⟨W4.heap.size, 0, none⟩)]] 96) := ⟨_, rfl⟩
  have hbW : Below W4.heap.size W4 W := by rw [hW]; exact (Below.refl _ _).alloc (Nat.le_refl _) _
  have HB : Hid (From w W) := HF4.out.keep hbW
  have c1 : w.heap.size < W4.heap.size := by omega
  have e0 := up hbW a0 (by omega)
  have e1 := up hbW a1 (by omega)
  have HK := Lib.hid (h.keep HB.out.below)
  have HW := Lib.hid hW
  have HW4 := Lib.hid hW4
  have HZ4 := Lib.hid hz4
  have Ho := Lib.hid hok
  clear hW hW4 h hz4 hbW hok HF4
  go_enter Tryz.func215, Tryz.ntmps215
  go_upto_region 2 with (fail)
  rw [← HW4.out, HZ4.out]
  clear HW4
  go_wp2_with fail
  rw [← HW.out]
  clear HW
  refine (IsGraph_any sz A m c x W W.heap.size HK.out.rd (Nat.le_refl _) hm).mono ?_
  rintro e w1 ⟨rfl, hb1⟩
  rw [Ho.out]
  replace HB := Lib.hid (HB.out.keep hb1)
  clear hb1 e0 e1 a0 a1
  go_wp2
  go_ret2
  exact ⟨rfl, HB.out.below⟩
section
variable (sz : Int) (A : Option Addr) (m c : Nat) (x : Nat → Int) (w : World)
set_option maxRecDepth 100000 in
set_option maxHeartbeats 1600000 in
theorem UmbrellaOf_no (h : GA w A m c x) (hm : m ≤ 1048576) (hok : okB sz m x = false) :
    Calls Tryz.prog 279 #[.agg #[.int .i64 sz, .slice A m c]] w (lsQ w none) := by
  obtain ⟨W, hW⟩ : ∃ W : World, W = (w.alloc (Obj.cells #[Value.int IntKind.i64 sz, Value.slice A m c] 28)) := ⟨_, rfl⟩
  have HB : Hid (From w W) := by rw [hW]; exact From.alloc _ _
  have HK := Lib.hid (h.keep HB.out.below)
  have HC : Hid (GC W w.heap.size sz A m c) := by rw [hW]; exact GC.new _ _ _ _ _
  have HW := Lib.hid hW
  have KF := Lib.hid (firstList_noG (n := sz) (fm := 356) (cm := #[.pointer (some ⟨w.heap.size, 0, none⟩)]) (fh := 222) (ch := #[]) HK.out hm hok)
  clear hW h hok
  go_enter Tryz.func279, Tryz.ntmps279
  have e0 := HC.out.c0
  have e1 := HC.out.c1
  go_wp2_with fail
  rw [← HW.out]
  clear HW
  refine KF.out.mono ?_
  rintro e w1 ⟨rfl, hb1⟩
  clear e0 e1
  replace HB := Lib.hid (HB.out.keep hb1)
  replace HK := Lib.hid (HK.out.keep hb1)
  replace HC := Lib.hid (HC.out.keep hb1)
  clear hb1 KF
  have e0 := HC.out.c0
  have e1 := HC.out.c1
  go_wp2
  go_ret2
  exact lsQ.no HB.out.below
set_option maxRecDepth 100000 in
set_option maxHeartbeats 1600000 in
theorem IsProper_i (h : GA w A m c x) (hm : m ≤ 1048576) :
    Calls Tryz.prog 196 #[.agg #[.int .i64 sz, .slice A m c]] w fun e w' => e = .returned (.bool (ppB sz m x)) ∧ Below w.heap.size w w' := by
  obtain ⟨W, hW⟩ : ∃ W : World, W = (w.alloc (Obj.cells #[Value.int IntKind.i64 sz, Value.slice A m c] 28)) := ⟨_, rfl⟩
  have HB : Hid (From w W) := by rw [hW]; exact From.alloc _ _
  have HK := Lib.hid (h.keep HB.out.below)
  have HC : Hid (GC W w.heap.size sz A m c) := by rw [hW]; exact GC.new _ _ _ _ _
  have HW := Lib.hid hW
  clear hW h
  go_enter Tryz.func196, Tryz.ntmps196
  cases ho : okB sz m x
  · have Hn : Hid (ppB sz m x = false) := ppB_no ho
    have KF := Lib.hid (UmbrellaOf_no sz A m c x W HK.out hm ho)
    clear ho
    have e0 := HC.out.c0
    have e1 := HC.out.c1
    go_wp2_with fail
    rw [← HW.out]
    refine (KF.out).mono ?_
    rintro e w1 ⟨A', c', rfl, _, hb1⟩
    clear HW
    clear e0 e1
    replace HB := Lib.hid (HB.out.keep hb1)
    replace HK := Lib.hid (HK.out.keep hb1)
    replace HC := Lib.hid (HC.out.keep hb1)
    clear hb1
    have e0 := HC.out.c0
    have e1 := HC.out.c1
    clear KF
    go_wp2
    go_ret
    exact ⟨ret_bool Hn.out.symm, HB.out.below⟩
  obtain ⟨_, es, _, _⟩ := okB_ok' ho
  subst es
  have Hn : Hid (ppB (m : Int) m x = (umO (rw_ x) m).isSome) := ppB_yes ho
  have HG : Hid (GBox W w.heap.size A m c (rw_ x)) := ⟨HK.out.gv ho, HC.out.c0, HC.out.c1, HC.out.lt⟩
  have KF := Lib.hid (UmbrellaOf_v HG.out.gv)
  obtain ⟨o, ho2⟩ : ∃ o, o = umO (rw_ x) m := ⟨_, rfl⟩
  rw [← ho2] at Hn KF
  clear ho ho2 HC HK
  cases o
  · skip
    have e0 := HG.out.c0
    have e1 := HG.out.c1
    go_wp2_with fail
    rw [← HW.out]
    refine (KF.out).mono ?_
    rintro e w2 ⟨A', c', rfl, _, hb2⟩
    clear HW
    clear e0 e1
    replace HB := Lib.hid (HB.out.keep hb2)
    replace HG := Lib.hid (HG.out.keep hb2)
    clear hb2
    have e0 := HG.out.c0
    have e1 := HG.out.c1
    clear KF
    go_wp2
    go_ret
    exact ⟨ret_bool Hn.out.symm, HB.out.below⟩
  · skip
    have e0 := HG.out.c0
    have e1 := HG.out.c1
    go_wp2_with fail
    rw [← HW.out]
    refine (KF.out).mono ?_
    rintro e w3 ⟨A', c', rfl, _, hb3⟩
    clear HW
    clear e0 e1
    replace HB := Lib.hid (HB.out.keep hb3)
    replace HG := Lib.hid (HG.out.keep hb3)
    clear hb3
    have e0 := HG.out.c0
    have e1 := HG.out.c1
    clear KF
    go_wp2
    go_ret
    exact ⟨ret_bool Hn.out.symm, HB.out.below⟩
end
end Go.Proofs.YtdpkbfiggbcclaaGreat

/-
  Plain: is a vertex simple within a set?
-/
namespace Go.Proofs.YtdpkbfiggbcclaaGreat
open Go.RowKit

def nN (r : Nat → Nat) (s u : Nat) : Nat := (r u ||| 2 ^ u) &&& s
def Cm (a b : Nat) : Prop := a &&& b = a ∨ a &&& b = b
def Sm (r : Nat → Nat) (s : Nat) (T : List Nat) : Prop := ∀ i, i < T.length → ∀ k, k < i → Cm (nN r s (T.getD i 0)) (nN r s (T.getD k 0))
def Sm1 (r : Nat → Nat) (s : Nat) (T : List Nat) (n : Nat) : Prop := ∀ i, i < n → ∀ k, k < i → Cm (nN r s (T.getD i 0)) (nN r s (T.getD k 0))
noncomputable def simB (r : Nat → Nat) (v s : Nat) : Bool := s.testBit v && @decide (Sm r s (listN (nN r s v))) (Classical.propDecidable _)
section
variable {r : Nat → Nat} {s v n i k a b : Nat} {T : List Nat}
theorem sim_out (h : s.testBit v = false) : simB r v s = false := by unfold simB; rw [h]; rfl
theorem sim_yes (h : s.testBit v = true) (h2 : Sm r s (listN (nN r s v))) : simB r v s = true := by unfold simB; rw [h, @decide_eq_true _ (Classical.propDecidable _) h2]; rfl
theorem sim_no (hT : T = listN (nN r s v)) (hi : i < T.length) (hk : k < i) (h : ¬ Cm (nN r s (T.getD i 0)) (nN r s (T.getD k 0))) : simB r v s = false := by
  unfold simB
  rw [@decide_eq_false _ (Classical.propDecidable _) fun hb => h (by subst hT; exact hb i hi k hk), Bool.and_false]
theorem Sm1.zero : Sm1 r s T 0 := fun i h => absurd h (by omega)
theorem Sm1.step (h : Sm1 r s T n) (h2 : ∀ k, k < n → Cm (nN r s (T.getD n 0)) (nN r s (T.getD k 0))) : Sm1 r s T (n + 1) := fun i hi => by
  by_cases e : i < n
  · exact h i e
  · obtain rfl : i = n := by omega
    exact h2
theorem nN_lt (hs : s < 2 ^ n) : nN r s v < 2 ^ n := Nat.and_lt_two_pow _ hs
theorem xor_and (a b : Nat) : (a ^^^ (a &&& b) = 0) ↔ a &&& b = a := by
  constructor
  · intro h
    apply Nat.eq_of_testBit_eq
    intro i
    have := congrArg (fun t => t.testBit i) h
    simp only [Nat.testBit_xor, Nat.testBit_and, Nat.zero_testBit] at this ⊢
    cases ha : a.testBit i <;> cases hb : b.testBit i <;> simp_all
  · intro h; rw [h, Nat.xor_self]
theorem cm_of (h : (a ^^^ (a &&& b) = 0) ∨ (b ^^^ (b &&& a) = 0)) : Cm a b := by
  rw [xor_and, xor_and] at h
  rcases h with h | h
  · exact .inl h
  · exact .inr (by rw [Nat.and_comm]; exact h)
theorem cm_not (h1 : a ^^^ (a &&& b) ≠ 0) (h2 : b ^^^ (b &&& a) ≠ 0) : ¬ Cm a b := by
  rw [Ne, xor_and] at h1 h2
  rintro (h | h)
  · exact h1 h
  · exact h2 (by rw [Nat.and_comm]; exact h)
end
/-- The neighborhoods of the first k. -/
def nK (r : Nat → Nat) (s : Nat) (T : List Nat) (k : Nat) : List Nat := (List.range k).map fun j => nN r s (T.getD j 0)
theorem nK_len {r : Nat → Nat} {s : Nat} {T : List Nat} {k : Nat} : (nK r s T k).length = k := by unfold nK; simp
theorem nK_succ {r : Nat → Nat} {s : Nat} {T : List Nat} {k : Nat} : nK r s T (k + 1) = nK r s T k ++ [nN r s (T.getD k 0)] := by unfold nK; rw [List.range_succ, List.map_append]; rfl
theorem nK_at {r : Nat → Nat} {s : Nat} {T : List Nat} {k j : Nat} (h : j < k) : (nK r s T k).getD j 0 = nN r s (T.getD j 0) := by unfold nK; simp [List.getD, h]
end Go.Proofs.YtdpkbfiggbcclaaGreat
