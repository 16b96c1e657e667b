/-
  Several texts in one: words for memory, plain laws and contracts that the later texts lean on.
-/
import Derived.Test.YtdpkbfiggbcclaaGreatQiV
import Derived.Test.YtdpkbfiggbcclaaGreatQiGA
/-
  Contracts: the least set with most, with fewest vertices for which something holds, whatever it is: the program's searches.
-/
namespace Go.Proofs.YtdpkbfiggbcclaaGreat
open Go.RowKit

theorem CountSet_v (s : Nat) (hs : s < 128) (w : World) :
    Calls Tryz.prog 133 #[.int .i64 s] w fun e w' => e = .returned (.int .i64 (cn s : Int)) ∧ Below w.heap.size w w' := CountSet_i s hs w
theorem CountSet_sv (s : Nat) (hs : s < 128) (w : World) :
    Calls Tryz.prog 122 #[.int .i64 s] w fun e w' => e = .returned (.int .i64 (cn s : Int)) ∧ Below w.heap.size w w' := CountSet_s s hs w

section
variable {A : Option Addr} {m c : Nat} {r : Nat → Nat} {fn : FuncId} {caps : Array Value} {p : Nat → Bool}
set_option maxHeartbeats 1000000 in
theorem largest_g (hef : Ent fn) (w : World) (h : GV w A m c r)
    (HF : ∀ (s : Nat) (z : World), s < 2 ^ m → Below w.heap.size w z → Calls Tryz.prog fn (#[.agg #[.int .i64 m, .slice A m c], .int .i64 s] ++ caps) z (fun e z' => e = .returned (.bool (p s)) ∧ Below z.heap.size z z')) :
    Calls Tryz.prog 416 #[.agg #[.int .i64 m, .slice A m c], .func (.func fn) #[] caps] w fun e w' => e = .returned (.int .i64 (lgK p (2 ^ m) : Nat)) ∧ Below w.heap.size w w' := by
  have hn7 := h.vg.n7
  unfold Ent at hef
  have h128 := two_pow_le hn7
  have hpos := Nat.two_pow_pos m
  obtain ⟨W, hW⟩ : ∃ W : World, W = (w.alloc (Obj.cells #[Value.int IntKind.i64 m, Value.slice A m c] 28)) := ⟨_, rfl⟩
  have HB : Hid (From w W) := by rw [hW]; exact From.alloc _ _
  have HG : Hid (GBox W w.heap.size A m c r) := by rw [hW]; exact h.box
  have HW := Lib.hid hW
  clear hW h
  have e0 := HG.out.c0
  have e1 := HG.out.c1
  have HF := Lib.hid HF
  go_enter Tryz.func416, Tryz.ntmps416
  go_wp2_with fail
  rw [← HW.out]
  refine (IsGraph_v HG.out.gv).mono ?_
  rintro e w1 ⟨rfl, hb1⟩
  clear HW
  clear e0 e1
  replace HB := Lib.hid (HB.out.keep hb1)
  replace HG := Lib.hid (HG.out.keep hb1)
  clear hb1
  have e0 := HG.out.c0
  have e1 := HG.out.c1
  go_wp2
  go_loopw [5, 6] (fun b i wr => ∃ k : Nat, 1 ≤ k ∧ k ≤ 2 ^ m ∧ i = .int .i64 k ∧ b = .int .i64 (lgK p k : Nat) ∧ Hid (From w1 wr)) (fun _ i _ => 2 ^ m - (intOf i).toNat)
  case atStart => exact ⟨1, Nat.le_refl _, hpos, rfl, by rw [lgK_one]; rfl, From.refl _⟩
  case round =>
    obtain ⟨k, hk1, hk, rfl, rfl, HR⟩ := hrel
    clear e0 e1
    replace HB := Lib.hid (HB.out.keep HR.out.below)
    replace HG := Lib.hid (HG.out.keep HR.out.below)
    have e0 := HG.out.c0
    have e1 := HG.out.c1
    have hlk := lgK_lt (p := p) k (by omega)
    go_wp2_with fail
    refine (all_v HG.out.gv).mono ?_
    rintro e w2 ⟨rfl, hb2⟩
    clear e0 e1
    replace HB := Lib.hid (HB.out.keep hb2)
    replace HG := Lib.hid (HG.out.keep hb2)
    replace HR := Lib.hid (HR.out.keep hb2)
    clear hb2
    have e0 := HG.out.c0
    have e1 := HG.out.c1
    by_cases hlt : k < 2 ^ m
    · have i1 : (k : Int) ≤ ((2 ^ m - 1 : Nat) : Int) := by omega
      go_wp2_with fail
      refine (CountSet_v k (by omega) _).mono ?_
      rintro e w3 ⟨rfl, hb3⟩
      clear e0 e1
      replace HB := Lib.hid (HB.out.keep hb3)
      replace HG := Lib.hid (HG.out.keep hb3)
      replace HR := Lib.hid (HR.out.keep hb3)
      clear hb3
      have e0 := HG.out.c0
      have e1 := HG.out.c1
      go_wp2_with fail
      refine (CountSet_v (lgK p k) (by omega) _).mono ?_
      rintro e w4 ⟨rfl, hb4⟩
      clear e0 e1
      replace HB := Lib.hid (HB.out.keep hb4)
      replace HG := Lib.hid (HG.out.keep hb4)
      replace HR := Lib.hid (HR.out.keep hb4)
      clear hb4
      have e0 := HG.out.c0
      have e1 := HG.out.c1
      by_cases hcn : cn (lgK p k) < cn k
      · have KF := Lib.hid (HF.out k _ hlt HB.out.below)
        have i2 : ((cn (lgK p k) : Nat) : Int) < ((cn k : Nat) : Int) := by omega
        go_wp2_with fail
        refine (KF.out).mono ?_
        rintro e w5 ⟨rfl, hb5⟩
        clear e0 e1
        replace HB := Lib.hid (HB.out.keep hb5)
        replace HG := Lib.hid (HG.out.keep hb5)
        replace HR := Lib.hid (HR.out.keep hb5)
        clear hb5
        have e0 := HG.out.c0
        have e1 := HG.out.c1
        cases hp : p k
        · have Hn : Hid (lgK p (k + 1) = lgK p k) := lgK_no (.inr hp)
          clear hp KF
          go_wp2
          go_roundw
          case rel => exact ⟨k + 1, by omega, by omega, by go_num, by rw [Hn.out], HR⟩
          case measure => simp [intOf]; omega
        · have Hn : Hid (lgK p (k + 1) = k) := lgK_yes hcn hp
          clear hp KF
          go_wp2
          go_roundw
          case rel => exact ⟨k + 1, by omega, by omega, by go_num, by rw [Hn.out], HR⟩
          case measure => simp [intOf]; omega
      · have Hn : Hid (lgK p (k + 1) = lgK p k) := lgK_no (.inl hcn)
        have i2 : ((cn k : Nat) : Int) ≤ ((cn (lgK p k) : Nat) : Int) := by omega
        go_wp2
        go_roundw
        case rel => exact ⟨k + 1, by omega, by omega, by go_num, by rw [Hn.out], HR⟩
        case measure => simp [intOf]; omega
    · have hkm : k = 2 ^ m := by omega
      have i1 : ((2 ^ m - 1 : Nat) : Int) < (k : Int) := by omega
      have Hk : Hid (lgK p k = lgK p (2 ^ m)) := by rw [hkm]; exact rfl
      clear hkm
      go_wp2
      go_ret
      exact ⟨ret_int (by rw [Hk.out]), HB.out.below⟩

end
end Go.Proofs.YtdpkbfiggbcclaaGreat

/-
  Plain: sets of vertices of a graph that may not be valid; dominating sets, packings, independent sets.
-/
namespace Go.Proofs.YtdpkbfiggbcclaaGreat

noncomputable def setB (sz : Int) (m : Nat) (x : Nat → Int) (s : Int) : Bool := okB sz m x && decide (0 ≤ s ∧ s < 2 ^ m)
def indB (r : Nat → Nat) (s : Nat) : Bool := nb r s &&& s == 0
theorem pow_cast (m : Nat) : ((2 ^ m : Nat) : Int) = 2 ^ m := by simp
theorem setB_yes {sz : Int} {m : Nat} {x : Nat → Int} {s : Nat} (h : okB sz m x = true) (hs : s < 2 ^ m) : setB sz m x s = true := by
  unfold setB
  have := pow_cast m
  rw [h, decide_eq_true (⟨by omega, by omega⟩ : 0 ≤ (s : Int) ∧ (s : Int) < 2 ^ m)]; rfl
theorem setB_out {sz : Int} {m : Nat} {x : Nat → Int} {s : Int} (h : s < 0 ∨ 2 ^ m ≤ s) : setB sz m x s = false := by
  unfold setB
  rw [decide_eq_false (by omega : ¬(0 ≤ s ∧ s < 2 ^ m)), Bool.and_false]
theorem indB_no {r : Nat → Nat} {s v : Nat} (hv : v < 7) (hb : s.testBit v = true) (h : r v &&& s ≠ 0) : indB r s = false := by
  unfold indB
  obtain ⟨u, hu⟩ := ex_bit h
  rw [Nat.testBit_and, Bool.and_eq_true] at hu
  have : (nb r s &&& s).testBit u = true := by
    rw [Nat.testBit_and, Bool.and_eq_true]
    exact ⟨nb_bit.2 ⟨v, hv, hb, hu.1⟩, hu.2⟩
  cases hz : (nb r s &&& s == 0)
  · rfl
  · have e : nb r s &&& s = 0 := by simpa using hz
    rw [e] at this; simp at this
theorem indB_yes {r : Nat → Nat} {s : Nat} (h : ∀ v, v < 7 → s.testBit v = true → r v &&& s = 0) : indB r s = true := by
  unfold indB
  rw [beq_iff_eq]
  apply Nat.eq_of_testBit_eq
  intro u
  rw [Nat.zero_testBit, Nat.testBit_and]
  cases hu : s.testBit u
  · simp
  · cases hn : (nb r s).testBit u
    · rfl
    · obtain ⟨v, hv, hb, hr⟩ := nb_bit.1 hn
      have := h v hv hb
      have h2 : (r v &&& s).testBit u = true := by rw [Nat.testBit_and, hr, hu]; rfl
      rw [this] at h2; simp at h2
end Go.Proofs.YtdpkbfiggbcclaaGreat

/-
  Plain: vertices that are taken away one by one, each the one that a rule names.
-/
namespace Go.Proofs.YtdpkbfiggbcclaaGreat
open Go.RowKit

/-- The vertices in the order in which they are taken away, none where a rule names no vertex of what is left. -/
def redL (f : Nat → Option Nat) (left : Nat) : Option (List Nat) :=
  if left = 0 then some []
  else match f left with
    | none => none
    | some v => if h : left.testBit v = true then (redL f (left ^^^ 2 ^ v)).map (v :: ·) else none
termination_by left
decreasing_by exact xor_bit_lt h
theorem redL_zero (f : Nat → Option Nat) : redL f 0 = some [] := by unfold redL; rfl
theorem redL_none {f : Nat → Option Nat} {left : Nat} (h0 : left ≠ 0) (h : f left = none) : redL f left = none := by
  unfold redL; rw [if_neg h0, h]
theorem redL_some {f : Nat → Option Nat} {left v : Nat} (hb : left.testBit v = true) (h : f left = some v) : redL f left = (redL f (left ^^^ 2 ^ v)).map (v :: ·) := by
  have h0 : left ≠ 0 := by
    rintro rfl
    simp at hb
  rw [redL, if_neg h0, h]
  simp [hb]
/-- The least vertex of what is left that serves. -/
def fsF (p : Nat → Nat → Bool) (left : Nat) : Option Nat := (listN left).find? (p left)
section
variable {p : Nat → Nat → Bool} {left v k : Nat}
theorem fsF_bit (h : fsF p left = some v) : v < 7 ∧ left.testBit v = true := mem_listN.1 (List.mem_of_find?_eq_some h)
theorem fsF_place (h : fsF p left = some v) : ∃ k, ∃ hk : k < (listN left).length, (listN left)[k] = v ∧ p left v = true ∧ ∀ j (hj : j < k), p left ((listN left)[j]'(by omega)) = false := by
  unfold fsF at h
  rw [List.find?_eq_some_iff_getElem] at h
  obtain ⟨h1, k, hk, h2, h3⟩ := h
  exact ⟨k, hk, h2, h1, fun j hj => by have := h3 j hj; simpa using this⟩
theorem fsF_none' (h : fsF p left = none) : ∀ j (hj : j < (listN left).length), p left (listN left)[j] = false := by
  intro j hj
  unfold fsF at h
  rw [List.find?_eq_none] at h
  have := h _ (List.getElem_mem hj)
  simpa using this
theorem fsF_least (hv : v < 7) (hb : left.testBit v = true) (hy : p left v = true) (hmin : ∀ u, u < v → left.testBit u = true → p left u = false) : fsF p left = some v := by
  cases h : fsF p left with
  | none =>
    unfold fsF at h
    rw [List.find?_eq_none] at h
    exact absurd hy (h v (mem_listN.2 ⟨hv, hb⟩))
  | some u =>
    have hu := fsF_bit h
    have hyu : p left u = true := by unfold fsF at h; exact List.find?_some h
    rcases Nat.lt_trichotomy u v with h1 | h1 | h1
    · rw [hmin u h1 hu.2] at hyu; cases hyu
    · rw [h1]
    · exfalso
      unfold fsF listN listK at h
      rw [List.find?_eq_some_iff_append] at h
      obtain ⟨_, us, bs, hab, hno⟩ := h
      have hsort : ((List.range 7).filter fun v => left.testBit v).Pairwise (· < ·) := List.Pairwise.filter _ List.pairwise_lt_range
      have hvm : v ∈ (List.range 7).filter fun v => left.testBit v := by simp [hv, hb]
      rw [hab] at hvm hsort
      rw [List.mem_append] at hvm
      rcases hvm with hvm | hvm
      · have := hno v hvm; rw [hy] at this; cases this
      · rw [List.mem_cons] at hvm
        rcases hvm with rfl | hvm
        · omega
        · have := (List.pairwise_cons.1 (List.pairwise_append.1 hsort).2.1).1 v hvm
          omega
theorem fsF_no (h : ∀ u, u < 7 → left.testBit u = true → p left u = false) : fsF p left = none := by
  unfold fsF
  rw [List.find?_eq_none]
  intro v hv
  have := mem_listN.1 hv
  simp [h v this.1 this.2]
end
/-- The greatest vertex below k that is joined with none or all of those left. -/
def thB (r : Nat → Nat) (left v : Nat) : Bool := r v &&& left == 0 || (r v &&& left) ||| 2 ^ v == left
def thT (r : Nat → Nat) (left : Nat) : Nat → Option Nat
  | 0 => none
  | k + 1 => if (left.testBit k && thB r left k) = true then some k else thT r left k
def optI : Option Nat → Int
  | none => -1
  | some v => (v : Int)
theorem thT_bit {r : Nat → Nat} {left : Nat} : ∀ {k v}, thT r left k = some v → v < k ∧ left.testBit v = true := by
  intro k
  induction k with
  | zero => intro v h; cases h
  | succ k ih =>
    intro v h
    rw [thT] at h
    split at h
    · rename_i h2
      injection h with h
      subst h
      rw [Bool.and_eq_true] at h2
      exact ⟨by omega, h2.1⟩
    · have := ih h
      exact ⟨by omega, this.2⟩
theorem thT_no {r : Nat → Nat} {left k : Nat} (h : left.testBit k = false ∨ thB r left k = false) : thT r left (k + 1) = thT r left k := by
  rw [thT]
  rcases h with h | h <;> simp [h]
theorem thT_yes {r : Nat → Nat} {left k : Nat} (h : left.testBit k = true) (h2 : thB r left k = true) : thT r left (k + 1) = some k := by
  rw [thT, h, h2]; rfl
/-- What the places of a list of vertices leave: the last one that serves. -/
def thG (r : Nat → Nat) (left : Nat) (l : List Nat) : Option Nat := l.foldl (fun a v => if thB r left v = true then some v else a) none
theorem thG_snoc {r : Nat → Nat} {left : Nat} {l : List Nat} {v : Nat} : thG r left (l ++ [v]) = if thB r left v = true then some v else thG r left l := by
  unfold thG; rw [List.foldl_append]; rfl
theorem thG_K {r : Nat → Nat} {left : Nat} : ∀ k, thG r left (listK left k) = thT r left k := by
  intro k
  induction k with
  | zero => rfl
  | succ k ih =>
    cases h : left.testBit k
    · rw [listK_no h, thT_no (.inl h), ih]
    · rw [listK_yes h, thG_snoc, ih]
      cases h2 : thB r left k
      · rw [thT_no (.inr h2)]; rfl
      · rw [thT_yes h h2]; rfl
theorem thT_more {r : Nat → Nat} {left m : Nat} (hl : left < 2 ^ m) : ∀ k, m ≤ k → thT r left k = thT r left m := by
  intro k hk
  induction hk with
  | refl => rfl
  | step hk ih =>
    rename_i k
    rw [thT_no (.inl _), ih]
    cases h : left.testBit k
    · rfl
    · exact absurd (bit_lt hl h) (by simp at hk ⊢; omega)
/-- In the reference's words. -/
theorem thB_sub {r : Nat → Nat} {left v : Nat} (hb : left.testBit v = true) (hi : (r v).testBit v = false) : ((r v &&& left) ||| 2 ^ v = left) ↔ (r v &&& left = left - 2 ^ v) := by
  have h1 := xor_bit_sub hb
  rw [← h1]
  constructor
  · intro h
    apply Nat.eq_of_testBit_eq
    intro i
    have := congrArg (Nat.testBit · i) h
    simp only [Nat.testBit_or, Nat.testBit_and, Nat.testBit_two_pow] at this
    rw [Nat.testBit_xor, Nat.testBit_and, Nat.testBit_two_pow]
    by_cases e : v = i
    · subst e; simp [hi, hb]
    · simp [e] at this; simp [e]; exact this
  · intro h
    apply Nat.eq_of_testBit_eq
    intro i
    have := congrArg (Nat.testBit · i) h
    simp only [Nat.testBit_xor, Nat.testBit_and, Nat.testBit_two_pow] at this
    rw [Nat.testBit_or, Nat.testBit_and, Nat.testBit_two_pow]
    by_cases e : v = i
    · subst e; simp [hb]
    · simp [e] at this; simp [e]; exact this
def thF (r : Nat → Nat) (left : Nat) : Option Nat := thT r left 7
def thO (r : Nat → Nat) (m : Nat) : Option (List Nat) := redL (thF r) (2 ^ m - 1)
end Go.Proofs.YtdpkbfiggbcclaaGreat

/-
  Contracts: is a number a set of a graph's vertices? is it a clique, independent, dominating, a packing? The program's tests.
-/
namespace Go.Proofs.YtdpkbfiggbcclaaGreat
open Go.RowKit

/-- A graph argument that may not be valid. -/
structure GA (w : World) (A : Option Addr) (m c : Nat) (x : Nat → Int) : Prop where
  rd : Rd w w.heap.size A m c x
theorem GA.keep {w w' : World} {A : Option Addr} {m c : Nat} {x : Nat → Int} (h : GA w A m c x) (hb : Below w.heap.size w w') : GA w' A m c x := ⟨h.rd.keep hb hb.size⟩
theorem GA.gv {w : World} {A : Option Addr} {m c : Nat} {x : Nat → Int} (h : GA w A m c x) (hok : okB m m x = true) : GV w A m c (rw_ x) := GV.of h.rd (Nat.le_refl _) hok
theorem GV.ga {w : World} {A : Option Addr} {m c : Nat} {r : Nat → Nat} (h : GV w A m c r) : GA w A m c (fun v => (r v : Int)) := ⟨h.rd⟩

set_option maxHeartbeats 1000000 in
theorem IsSet_i (sz : Int) (A : Option Addr) (m c : Nat) (x : Nat → Int) (s : Int) (w : World) (h : GA w A m c x) (hm : m ≤ 1048576) :
    Calls Tryz.prog 263 #[.agg #[.int .i64 sz, .slice A m c], .int .i64 s] w fun e w' => e = .returned (.bool (setB sz m x s)) ∧ Below w.heap.size w w' := by
  obtain ⟨W, hW⟩ : ∃ W : World, W = (w.alloc (Obj.cells #[Value.int IntKind.i64 sz, Value.slice A m c] 28)) := ⟨_, rfl⟩
  have HB : Hid (From w W) := by rw [hW]; exact From.alloc _ _
  have HK := Lib.hid (h.keep HB.out.below)
  have HC : Hid (GC W w.heap.size sz A m c) := by rw [hW]; exact GC.new _ _ _ _ _
  have HW := Lib.hid hW
  clear hW h
  go_enter Tryz.func263, Tryz.ntmps263
  have e0 := HC.out.c0
  have e1 := HC.out.c1
  go_wp2_with fail
  rw [← HW.out]
  refine (IsGraph_any sz A m c x W W.heap.size HK.out.rd (Nat.le_refl _) hm).mono ?_
  rintro e w1 ⟨rfl, hb1⟩
  clear HW
  clear e0 e1
  replace HB := Lib.hid (HB.out.keep hb1)
  replace HK := Lib.hid (HK.out.keep hb1)
  replace HC := Lib.hid (HC.out.keep hb1)
  clear hb1
  have e0 := HC.out.c0
  have e1 := HC.out.c1
  cases ho : okB sz m x
  · have hno : Hid (setB sz m x s = false) := by show _ = _; unfold setB; rw [ho]; rfl
    clear ho
    go_wp2
    go_ret
    exact ⟨ret_bool hno.out.symm, HB.out.below⟩
  · obtain ⟨_, es, vg0, _⟩ := okB_ok' ho
    subst es
    have hn7 := vg0.n7
    have hp := two_pow_le hn7
    have hpos := Nat.two_pow_pos m
    have hpc := pow_cast m
    have Ho := Lib.hid ho
    clear ho vg0
    go_wp2_with fail
    refine (all_any m A c _ hn7).mono ?_
    rintro e w2 ⟨rfl, hb2⟩
    clear e0 e1
    replace HB := Lib.hid (HB.out.keep hb2)
    replace HK := Lib.hid (HK.out.keep hb2)
    replace HC := Lib.hid (HC.out.keep hb2)
    clear hb2
    have e0 := HC.out.c0
    have e1 := HC.out.c1
    by_cases hs : 0 ≤ s ∧ s < 2 ^ m
    · have hyes : Hid (setB (m : Int) m x s = true) := by show _ = _; unfold setB; rw [Ho.out, decide_eq_true hs]; rfl
      obtain ⟨s1, s2⟩ := hs
      go_wp2_with (first | (go_at_call 193; refine (within_yes _ _ _ _ s1 (by omega)).mono ?_; rintro e w' ⟨rfl, rfl⟩))
      go_ret
      exact ⟨ret_bool hyes.out.symm, HB.out.below⟩
    · have hno : Hid (setB (m : Int) m x s = false) := setB_out (by omega)
      have hr : Hid (s < 0 ∨ ((2 ^ m - 1 : Nat) : Int) < s) := by show _ ∨ _; omega
      clear hs
      go_wp2_with (first | (go_at_call 193; refine (within_no _ _ _ _ hr.out).mono ?_; rintro e w' ⟨rfl, rfl⟩))
      go_ret
      exact ⟨ret_bool hno.out.symm, HB.out.below⟩

section
variable {A : Option Addr} {m c : Nat} {r : Nat → Nat}
theorem IsSet_v {w : World} (h : GV w A m c r) {s : Nat} (hs : s < 2 ^ m) :
    Calls Tryz.prog 263 #[.agg #[.int .i64 m, .slice A m c], .int .i64 s] w fun e w' => e = .returned (.bool true) ∧ Below w.heap.size w w' := by
  have := IsSet_i m A m c _ s w h.ga (by have := h.vg.n7; omega)
  rwa [setB_yes h.ok hs] at this

set_option maxHeartbeats 1000000 in
theorem IsClique_v {w : World} (h : GV w A m c r) {s : Nat} (hs : s < 2 ^ m) :
    Calls Tryz.prog 131 #[.agg #[.int .i64 m, .slice A m c], .int .i64 s] w fun e w' => e = .returned (.bool (cliq r s)) ∧ Below w.heap.size w w' := by
  obtain ⟨W, hW⟩ : ∃ W : World, W = (w.alloc (Obj.cells #[Value.int IntKind.i64 m, Value.slice A m c] 28)) := ⟨_, rfl⟩
  have HB : Hid (From w W) := by rw [hW]; exact From.alloc _ _
  have HG : Hid (GBox W w.heap.size A m c r) := by rw [hW]; exact h.box
  have HW := Lib.hid hW
  clear hW h
  have e0 := HG.out.c0
  have e1 := HG.out.c1
  go_enter Tryz.func131, Tryz.ntmps131
  go_wp2_with fail
  rw [← HW.out]
  refine (IsSet_v HG.out.gv hs).mono ?_
  rintro e w1 ⟨rfl, hb1⟩
  clear HW
  clear e0 e1
  replace HB := Lib.hid (HB.out.keep hb1)
  replace HG := Lib.hid (HG.out.keep hb1)
  clear hb1
  have e0 := HG.out.c0
  have e1 := HG.out.c1
  go_wp2_with fail
  refine (isClique_v HG.out.gv hs).mono ?_
  rintro e w2 ⟨rfl, hb2⟩
  clear e0 e1
  replace HB := Lib.hid (HB.out.keep hb2)
  replace HG := Lib.hid (HG.out.keep hb2)
  clear hb2
  have e0 := HG.out.c0
  have e1 := HG.out.c1
  go_wp2
  go_ret
  exact ⟨rfl, HB.out.below⟩

set_option maxHeartbeats 1000000 in
theorem IsIndependent_v {w : World} (h : GV w A m c r) {s : Nat} (hs : s < 2 ^ m) :
    Calls Tryz.prog 135 #[.agg #[.int .i64 m, .slice A m c], .int .i64 s] w fun e w' => e = .returned (.bool (indB r s)) ∧ Below w.heap.size w w' := by
  have hp := two_pow_le h.vg.n7
  have hnb : nb r s < 2 ^ m := nb_lt (r := r) h.vg.lt hs 7
  have E := i64_and_nat (nb r s) s (by omega) (by omega)
  have hd : Hid ((((nb r s &&& s : Nat) : Int) == 0) = indB r s) := by
    show _ = _
    unfold indB
    rw [Bool.eq_iff_iff]
    simp
  obtain ⟨W, hW⟩ : ∃ W : World, W = (w.alloc (Obj.cells #[Value.int IntKind.i64 m, Value.slice A m c] 28)) := ⟨_, rfl⟩
  have HB : Hid (From w W) := by rw [hW]; exact From.alloc _ _
  have HG : Hid (GBox W w.heap.size A m c r) := by rw [hW]; exact h.box
  have HW := Lib.hid hW
  clear hW h
  have e0 := HG.out.c0
  have e1 := HG.out.c1
  go_enter Tryz.func135, Tryz.ntmps135
  go_wp2_with fail
  rw [← HW.out]
  refine (IsSet_v HG.out.gv hs).mono ?_
  rintro e w1 ⟨rfl, hb1⟩
  clear HW
  clear e0 e1
  replace HB := Lib.hid (HB.out.keep hb1)
  replace HG := Lib.hid (HG.out.keep hb1)
  clear hb1
  have e0 := HG.out.c0
  have e1 := HG.out.c1
  go_wp2_with fail
  refine (neighbors_v HG.out.gv hs).mono ?_
  rintro e w2 ⟨rfl, hb2⟩
  clear e0 e1
  replace HB := Lib.hid (HB.out.keep hb2)
  replace HG := Lib.hid (HG.out.keep hb2)
  clear hb2
  have e0 := HG.out.c0
  have e1 := HG.out.c1
  go_wp2
  go_ret
  exact ⟨ret_bool (by rw [← hd.out]), HB.out.below⟩

end
end Go.Proofs.YtdpkbfiggbcclaaGreat

/-
  Contracts: is a set independent, dominating, a packing? the least set with fewest, with most vertices: the reference's.
-/
namespace Go.Proofs.YtdpkbfiggbcclaaGreat
open Go.RowKit

section
variable {A : Option Addr} {m c : Nat} {r : Nat → Nat}
set_option maxHeartbeats 1000000 in
theorem IsIndependent_sv {w : World} (h : GV w A m c r) {s : Nat} (hs : s < 2 ^ m) :
    Calls Tryz.prog 124 #[.agg #[.int .i64 m, .slice A m c], .int .i64 s] w fun e w' => e = .returned (.bool (indB r s)) ∧ Below w.heap.size w w' := by
  have hn7 := h.vg.n7
  have hp := two_pow_le hn7
  obtain ⟨b, o, rfl⟩ := h.addr
  have HV := Lib.hid h.vg
  obtain ⟨W, hW⟩ : ∃ W : World, W = (w.alloc (Obj.cells #[Value.int IntKind.i64 m, Value.slice (some ⟨b, o, none⟩) m c] 28)) := ⟨_, rfl⟩
  have HB : Hid (From w W) := by rw [hW]; exact From.alloc _ _
  have HG : Hid (GBox W w.heap.size (some ⟨b, o, none⟩) m c r) := by rw [hW]; exact h.box
  have HW := Lib.hid hW
  clear hW h
  have e0 := HG.out.c0
  have e1 := HG.out.c1
  go_enter Tryz.func124, Tryz.ntmps124
  go_wp2_with fail
  rw [← HW.out]
  refine (IsSet_sv HG.out.gv hs).mono ?_
  rintro e w1 ⟨rfl, hb1⟩
  clear HW
  clear e0 e1
  replace HB := Lib.hid (HB.out.keep hb1)
  replace HG := Lib.hid (HG.out.keep hb1)
  clear hb1
  have e0 := HG.out.c0
  have e1 := HG.out.c1
  go_wp2
  go_loopw [5] (fun i wr => ∃ k : Nat, k ≤ m ∧ i = .int .i64 k ∧ Hid (∀ v, v < k → s.testBit v = true → r v &&& s = 0) ∧ Hid (From w1 wr)) (fun i _ => m - (intOf i).toNat)
  case atStart => exact ⟨0, Nat.zero_le _, rfl, (fun v hv => absurd hv (by omega)), From.refl _⟩
  case round =>
    obtain ⟨k, hk, rfl, hall, HR⟩ := hrel
    clear e0 e1
    replace HB := Lib.hid (HB.out.keep HR.out.below)
    replace HG := Lib.hid (HG.out.keep HR.out.below)
    have e0 := HG.out.c0
    have e1 := HG.out.c1
    by_cases hlt : k < m
    · have q0 := HG.out.gv.row hlt
      have hr := HV.out.lt128 hlt
      have E1 := and_one_i64 (s : Int) k (by omega) (by omega)
      rw [Int.toNat_natCast] at E1
      have E2 := i64_and_nat (r k) s (by omega) (by omega)
      have i1 : (k : Int) < (m : Int) := by omega
      cases ht : s.testBit k
      · rw [ht] at E1
        have Ht := Lib.hid ht
        clear ht E2
        go_wp2
        go_roundw
        case rel =>
          refine ⟨k + 1, by omega, by go_num, fun v hv hb => ?_, HR⟩
          by_cases hvk : v < k
          · exact hall.out v hvk hb
          · obtain rfl : v = k := by omega
            rw [Ht.out] at hb; cases hb
        case measure => simp [intOf]; omega
      · rw [ht] at E1
        by_cases hz : r k &&& s = 0
        · have hne : (bits BinOp.and .i64 (r k : Int) (s : Int) != 0) = false := by rw [E2, hz]; rfl
          have Hz := Lib.hid hz
          clear ht hz E2
          go_wp2
          go_roundw
          case rel =>
            refine ⟨k + 1, by omega, by go_num, fun v hv hb => ?_, HR⟩
            by_cases hvk : v < k
            · exact hall.out v hvk hb
            · obtain rfl : v = k := by omega
              exact Hz.out
          case measure => simp [intOf]; omega
        · have hne : (bits BinOp.and .i64 (r k : Int) (s : Int) != 0) = true := by rw [E2, bne_iff_ne]; omega
          have hno : Hid (indB r s = false) := indB_no (by omega) ht hz
          clear ht hz E2
          go_wp2
          go_ret
          exact ⟨ret_bool hno.out.symm, HB.out.below⟩
    · have hyes : Hid (indB r s = true) := indB_yes fun v hv hb => hall.out v (by have := bit_lt hs hb; omega) hb
      have i1 : (m : Int) ≤ (k : Int) := by omega
      go_wp2
      go_ret
      exact ⟨ret_bool hyes.out.symm, HB.out.below⟩

end
end Go.Proofs.YtdpkbfiggbcclaaGreat
